/- My texts, joined for the claim: TStep TWrong TAllW. -/
import Derived.Test.YtbllehjhmfehbaaGreatZT13
import Derived.Test.YtbllehjhmfehbaaGreatZT1

section
/- (*maker).step: lets the next job go, if there is one. (bel2) -/
namespace Go.Proofs.YtbllehjhmfehbaaGreat
open Go.RowKit Go.Sort Go.Maps
set_option linter.unusedSimpArgs false
namespace Od
section
variable {ns : List Nd} {es : List Ed} {up : List Str} {l : List Pl} {k : Nat}
theorem bad_sick (hk : k < l.length) (h0 : (l.take k).any (sickP ns) = false) (h : sickP ns l[k] = true) : badP ns es up l = some (l[k], sickE ns l[k].1) := by
  unfold badP; rw [find_at hk h0 h]
theorem bad_lack (h1 : l.any (sickP ns) = false) (hk : k < l.length) (h0 : (l.take k).any (lackP es up l) = false) (h : lackP es up l l[k] = true) : badP ns es up l = some (l[k], 19) := by
  unfold badP; rw [find_none_take h1, find_at hk h0 h]
theorem bad_clash (h1 : l.any (sickP ns) = false) (h2 : l.any (lackP es up l) = false) : badP ns es up l = (clashOf l).map (fun p => (p, 18)) := by
  unfold badP; rw [find_none_take h1, find_none_take h2]; cases clashOf l <;> rfl
end
def StepD (w : World) (mb : Nat) (An Ae Au Ah : Option Addr) (cn ce cu ch : Nat) (ns : List Nd) (es : List Ed) (up half : List Str) (u : Str) (t : Int) (gone : List Pl) (bad : Option (Pl × Int)) (r : Int) (w' : World) : Prop :=
  match bad with
  | none => r = 0 ∧ Below w.heap.size w w'
  | some (p, e) => DropD w mb An Ae Au Ah cn ce cu ch ns es up half u t gone p e r w'
def Stepped (w : World) (mb : Nat) (An Ae Au Ah : Option Addr) (cn ce cu ch : Nat) (ns : List Nd) (es : List Ed) (up half : List Str) (u : Str) (t : Int) (gone : List Pl) (bad : Option (Pl × Int)) (en : Ending) (w' : World) : Prop :=
  ∃ r : Int, en = .returned (.int .i64 r) ∧ StepD w mb An Ae Au Ah cn ce cu ch ns es up half u t gone bad r w'
set_option maxRecDepth 100000 in
set_option maxHeartbeats 8000000 in
theorem step_any (mb : Nat) (An Ae Au Ah A : Option Addr) (cn ce cu ch c : Nat) (ns : List Nd) (es : List Ed) (up half : List Str) (u : Str) (t : Int) (v : Value) (gone l : List Pl) (w : World)
    (hF : MkF w mb An Ae Au Ah cn ce cu ch ns es up half u t) (hG : MkG w mb v gone) (hl : gone.length ≤ 1000000) (hr : Rd w w.heap.size 4 A l.length (plsC l)) (hll : l.length ≤ 1000000) :
    Calls Tryz.prog 107 #[.pointer (some ⟨mb, 0, none⟩), .slice A l.length c] w (Stepped w mb An Ae Au Ah cn ce cu ch ns es up half u t gone (badP ns es up l)) := by
  have HF := Lib.hid hF
  have HG := Lib.hid hG
  have Hr := Lib.hid hr
  have hmb := hG.lt
  have hmw := Nat.le_of_lt hG.lt
  have hnl := hF.ln
  have hel := hF.le
  clear hF hG hr
  go_enter Tryz.func107, Tryz.ntmps107
  go_wp2_with fail
  go_loopw [14] (fun i wr => ∃ k : Nat, k ≤ l.length ∧ i = .int .i64 k ∧ Hid ((l.take k).any (sickP ns) = false) ∧ Hid (Below w.heap.size w wr)) (fun i _ => l.length - (intOf i).toNat)
  case atStart => exact ⟨0, Nat.zero_le _, rfl, by simp [Hid], Below.refl _ _⟩
  case round =>
    obtain ⟨k, hk, rfl, HK, HBl⟩ := hrel
    obtain ⟨w3, rfl⟩ : ∃ wo : World, wo = wr := ⟨_, rfl⟩
    replace HF := Lib.hid (HF.out.on HBl.out)
    replace HG := Lib.hid (HG.out.on HBl.out)
    replace Hr := Lib.hid (Hr.out.at HBl.out)
    replace hmb : mb < w3.heap.size := ltAt hmb HBl.out
    by_cases hlt : k < l.length
    · obtain ⟨b2, o2, hA, hB2, x0, x1, x2, x3⟩ := Hr.out.pl hlt
      subst hA
      have hst := any_take_succ (p := sickP ns) hlt
      rw [HK.out, Bool.false_or] at hst
      have HHit := Lib.hid (fun h => bad_sick (es := es) (up := up) hlt HK.out h)
      generalize l[k] = p at x0 x1 x2 x3 hst HHit
      obtain ⟨s, t', n, b⟩ := p
      simp only at x0 x1 x2 x3 HHit
      have HSt := Lib.hid hst
      have i1 : (0 : Int) ≤ (k : Int) := by omega
      have i2 : (k : Int) < (l.length : Int) := by omega
      clear hst
      go_wp2_with fail
      first | (refine wp_named ?_; intro W4 hW) | (refine calls_named ?_; intro W4 hW)
      have B4 : Below w3.heap.size w3 W4 := by rw [hW]; exact (by repeat (first | exact Below.refl _ _ | assumption | refine Below.alloc ?_ (by first | omega | (simp <;> omega)) _ | refine Below.setCell ?_ (by first | omega | (simp <;> omega)) _ | refine Below.drew ?_))
      replace HF := Lib.hid (HF.out.on B4)
      replace HG := Lib.hid (HG.out.on B4)
      replace Hr := Lib.hid (Hr.out.at B4)
      replace hmb : mb < W4.heap.size := ltAt hmb B4
      have n4 : w3.heap.size < W4.heap.size := by rw [hW]; simp <;> omega
      have y0 : W4.cell? ⟨w3.heap.size, 0, none⟩ = some (sv s) := by rw [hW]; go_simp
      have y1 : W4.cell? ⟨w3.heap.size, 1, none⟩ = some (.int .i64 t') := by rw [hW]; go_simp
      have y2 : W4.cell? ⟨w3.heap.size, 2, none⟩ = some (.bool n) := by rw [hW]; go_simp
      have y3 : W4.cell? ⟨w3.heap.size, 3, none⟩ = some (sv b) := by rw [hW]; go_simp
      clear hW
      have HB4 := Lib.hid (lift HBl.out B4)
      clear B4 x0 x1 x2 x3
      refine (lack_any An Ae es.length cn ce mb ns s W4 HF.out.c0 HF.out.c1 HF.out.in.1.rn (by omega)).mono ?_
      rintro e w5 ⟨rfl, hb⟩
      have HB5 := Lib.hid (lift HB4.out hb)
      replace y0 := cellAt y0 hb (by omega)
      replace y1 := cellAt y1 hb (by omega)
      replace y2 := cellAt y2 hb (by omega)
      replace y3 := cellAt y3 hb (by omega)
      replace HF := Lib.hid (HF.out.on hb)
      replace HG := Lib.hid (HG.out.on hb)
      replace Hr := Lib.hid (Hr.out.at hb)
      replace hmb : mb < w5.heap.size := ltAt hmb hb
      replace n4 : w3.heap.size < w5.heap.size := ltAt n4 hb
      clear hb
      have HLe := Lib.hid (show lackE ns s = if stN ns s = 1 then 0 else sickE ns s from rfl)
      generalize lackE ns s = le at *
      go_wp2_with fail
      refine (starts_any s t' n b w5).mono ?_
      rintro e w6 ⟨rfl, hb⟩
      have HB6 := Lib.hid (lift HB5.out hb)
      replace y0 := cellAt y0 hb (by omega)
      replace y1 := cellAt y1 hb (by omega)
      replace y2 := cellAt y2 hb (by omega)
      replace y3 := cellAt y3 hb (by omega)
      replace HF := Lib.hid (HF.out.on hb)
      replace HG := Lib.hid (HG.out.on hb)
      replace Hr := Lib.hid (Hr.out.at hb)
      replace hmb : mb < w6.heap.size := ltAt hmb hb
      replace n4 : w3.heap.size < w6.heap.size := ltAt n4 hb
      clear hb
      have HSk := Lib.hid (show sickP ns (s, t', n, b) = (beginsP (s, t', n, b) && stN ns s != 1) from rfl)
      generalize beginsP (s, t', n, b) = bg at *
      cases bg
      · have HN := Lib.hid (show (l.take (k + 1)).any (sickP ns) = false by rw [HSt.out, HSk.out]; rfl)
        go_wp2_with fail
        go_roundw
        case rel => exact ⟨k + 1, by omega, by go_num, HN.out, HB6.out⟩
        case measure => simp [intOf]; omega
      · by_cases hs1 : stN ns s = 1
        · have HN := Lib.hid (show (l.take (k + 1)).any (sickP ns) = false by rw [HSt.out, HSk.out, hs1]; rfl)
          have hle := HLe.out
          rw [if_pos hs1] at hle
          clear hs1 HLe
          subst hle
          go_wp2_with fail
          go_roundw
          case rel => exact ⟨k + 1, by omega, by go_num, HN.out, HB6.out⟩
          case measure => simp [intOf]; omega
        · have HBad := Lib.hid (HHit.out (by rw [HSk.out]; simp [bne, hs1]))
          have hle := HLe.out
          rw [if_neg hs1] at hle
          have hne : (le != 0) = true := by
            rw [hle]
            unfold sickE
            split
            · rfl
            · split <;> rfl
          have HLe2 := Lib.hid hle
          clear hs1 hle HLe
          go_wp2_with fail
          refine (drop_any mb An Ae Au Ah cn ce cu ch ns es up half u t v gone s t' n b le w6 HF.out HG.out hl).mono ?_
          rintro e w7 ⟨r, rfl, hd⟩
          have HD := Lib.hid hd
          clear hd
          go_wp2_with fail
          go_ret
          have hd := HD.out.back HB6.out hmw
          rw [HLe2.out] at hd
          refine ⟨r, rfl, ?_⟩
          rw [HBad.out]
          exact hd
    · obtain rfl : k = l.length := by omega
      have hf := HK.out
      rw [List.take_length] at hf
      have HSick := Lib.hid hf
      have HB3 := Lib.hid HBl.out
      clear hf HK HBl
      go_wp2_with fail
      go_loopw [35] (fun i wr => ∃ k : Nat, k ≤ l.length ∧ i = .int .i64 k ∧ Hid ((l.take k).any (lackP es up l) = false) ∧ Hid (Below w3.heap.size w3 wr)) (fun i _ => l.length - (intOf i).toNat)
      case atStart => exact ⟨0, Nat.zero_le _, rfl, by simp [Hid], Below.refl _ _⟩
      case round =>
        obtain ⟨k, hk, rfl, HK, HBl⟩ := hrel
        obtain ⟨w4, rfl⟩ : ∃ wo : World, wo = wr := ⟨_, rfl⟩
        replace HF := Lib.hid (HF.out.on HBl.out)
        replace HG := Lib.hid (HG.out.on HBl.out)
        replace Hr := Lib.hid (Hr.out.at HBl.out)
        replace hmb : mb < w4.heap.size := ltAt hmb HBl.out
        by_cases hlt : k < l.length
        · obtain ⟨b2, o2, hA, hB2, x0, x1, x2, x3⟩ := Hr.out.pl hlt
          have hst := any_take_succ (p := lackP es up l) hlt
          rw [HK.out, Bool.false_or] at hst
          have HHit := Lib.hid (fun h => bad_lack (ns := ns) HSick.out hlt HK.out h)
          subst hA
          generalize l[k] = p at x0 x1 x2 x3 hst HHit
          obtain ⟨s, t', n, b⟩ := p
          simp only at x0 x1 x2 x3 HHit
          have HSt := Lib.hid hst
          have i1 : (0 : Int) ≤ (k : Int) := by omega
          have i2 : (k : Int) < (l.length : Int) := by omega
          clear hst
          go_wp2_with fail
          first | (refine wp_named ?_; intro W5 hW) | (refine calls_named ?_; intro W5 hW)
          have B5 : Below w4.heap.size w4 W5 := by rw [hW]; exact (by repeat (first | exact Below.refl _ _ | assumption | refine Below.alloc ?_ (by first | omega | (simp <;> omega)) _ | refine Below.setCell ?_ (by first | omega | (simp <;> omega)) _ | refine Below.drew ?_))
          replace HF := Lib.hid (HF.out.on B5)
          replace HG := Lib.hid (HG.out.on B5)
          replace Hr := Lib.hid (Hr.out.at B5)
          replace hmb : mb < W5.heap.size := ltAt hmb B5
          have n5 : w4.heap.size < W5.heap.size := by rw [hW]; simp <;> omega
          have y0 : W5.cell? ⟨w4.heap.size, 0, none⟩ = some (sv s) := by rw [hW]; go_simp
          have y1 : W5.cell? ⟨w4.heap.size, 1, none⟩ = some (.int .i64 t') := by rw [hW]; go_simp
          have y2 : W5.cell? ⟨w4.heap.size, 2, none⟩ = some (.bool n) := by rw [hW]; go_simp
          have y3 : W5.cell? ⟨w4.heap.size, 3, none⟩ = some (sv b) := by rw [hW]; go_simp
          clear hW
          have HB5 := Lib.hid (lift HBl.out B5)
          clear B5 x0 x1 x2 x3
          refine (starts_any s t' n b W5).mono ?_
          rintro e w6 ⟨rfl, hb⟩
          have HB6 := Lib.hid (lift HB5.out hb)
          replace y0 := cellAt y0 hb (by omega)
          replace y1 := cellAt y1 hb (by omega)
          replace y2 := cellAt y2 hb (by omega)
          replace y3 := cellAt y3 hb (by omega)
          replace HF := Lib.hid (HF.out.on hb)
          replace HG := Lib.hid (HG.out.on hb)
          replace Hr := Lib.hid (Hr.out.at hb)
          replace hmb : mb < w6.heap.size := ltAt hmb hb
          replace n5 : w4.heap.size < w6.heap.size := ltAt n5 hb
          clear hb
          have HSk := Lib.hid (show lackP es up l (s, t', n, b) = (beginsP (s, t', n, b) && missP es up l s) from rfl)
          generalize beginsP (s, t', n, b) = bg at *
          cases bg
          · have HN := Lib.hid (show (l.take (k + 1)).any (lackP es up l) = false by rw [HSt.out, HSk.out]; rfl)
            go_wp2_with fail
            go_roundw
            case rel => exact ⟨k + 1, by omega, by go_num, HN.out, HB6.out⟩
            case measure => simp [intOf]; omega
          · go_wp2_with fail
            refine (missing_any An Ae Au _ ns.length cn ce cu c mb es up l s w6 HF.out.c0 HF.out.c1 HF.out.c2 HF.out.in.1.re (by omega) HF.out.in.2.u Hr.out hll).mono ?_
            rintro e w7 ⟨rfl, hb⟩
            have HB7 := Lib.hid (lift HB6.out hb)
            replace y0 := cellAt y0 hb (by omega)
            replace y1 := cellAt y1 hb (by omega)
            replace y2 := cellAt y2 hb (by omega)
            replace y3 := cellAt y3 hb (by omega)
            replace HF := Lib.hid (HF.out.on hb)
            replace HG := Lib.hid (HG.out.on hb)
            replace Hr := Lib.hid (Hr.out.at hb)
            replace hmb : mb < w7.heap.size := ltAt hmb hb
            replace n5 : w4.heap.size < w7.heap.size := ltAt n5 hb
            clear hb
            cases hm : missP es up l s
            · have HN := Lib.hid (show (l.take (k + 1)).any (lackP es up l) = false by rw [HSt.out, HSk.out, hm]; rfl)
              go_wp2_with fail
              go_roundw
              case rel => exact ⟨k + 1, by omega, by go_num, HN.out, HB7.out⟩
              case measure => simp [intOf]; omega
            · have HBad := Lib.hid (HHit.out (by rw [HSk.out, hm]; rfl))
              go_wp2_with fail
              refine (drop_any mb An Ae Au Ah cn ce cu ch ns es up half u t v gone s t' n b 19 w7 HF.out HG.out hl).mono ?_
              rintro e w8 ⟨r, rfl, hd⟩
              have HD := Lib.hid hd
              clear hd
              go_wp2_with fail
              go_ret
              refine ⟨r, rfl, ?_⟩
              rw [HBad.out]
              exact HD.out.back (lift HB3.out HB7.out) hmw
        · obtain rfl : k = l.length := by omega
          have hf := HK.out
          rw [List.take_length] at hf
          have HLack := Lib.hid hf
          have HB4 := Lib.hid (lift HB3.out HBl.out)
          clear hf
          go_wp2_with fail
          refine (clash_any A c l w4 Hr.out hll).mono ?_
          rintro e w5 ⟨rfl, hb⟩
          have HB5 := Lib.hid (lift HB4.out hb)
          replace HF := Lib.hid (HF.out.on hb)
          replace HG := Lib.hid (HG.out.on hb)
          replace Hr := Lib.hid (Hr.out.at hb)
          replace hmb : mb < w5.heap.size := ltAt hmb hb
          clear hb
          have HBad := Lib.hid (bad_clash HSick.out HLack.out)
          have hz5 := HB5.out.size
          cases hc : clashOf l with
          | none =>
            unfold pullV
            go_wp2_with fail
            go_ret
            refine ⟨0, rfl, ?_⟩
            rw [HBad.out, hc]
            exact ⟨rfl, HB5.out.alloc hz5 _⟩
          | some p =>
            obtain ⟨s, t', n, b⟩ := p
            unfold pullV
            go_wp2_with fail
            first | (refine wp_named ?_; intro W6 hW) | (refine calls_named ?_; intro W6 hW)
            have B6 : Below w5.heap.size w5 W6 := by rw [hW]; exact (by repeat (first | exact Below.refl _ _ | assumption | refine Below.alloc ?_ (by first | omega | (simp <;> omega)) _ | refine Below.setCell ?_ (by first | omega | (simp <;> omega)) _ | refine Below.drew ?_))
            replace HF := Lib.hid (HF.out.on B6)
            replace HG := Lib.hid (HG.out.on B6)
            replace Hr := Lib.hid (Hr.out.at B6)
            replace hmb : mb < W6.heap.size := ltAt hmb B6
            clear hW
            have HB6 := Lib.hid (lift HB5.out B6)
            clear B6
            refine (drop_any mb An Ae Au Ah cn ce cu ch ns es up half u t v gone s t' n b 18 W6 HF.out HG.out hl).mono ?_
            rintro e w8 ⟨r, rfl, hd⟩
            have HD := Lib.hid hd
            clear hd
            go_wp2_with fail
            go_ret
            refine ⟨r, rfl, ?_⟩
            rw [HBad.out, hc]
            exact HD.out.back HB6.out hmw
end Od
end Go.Proofs.YtbllehjhmfehbaaGreat
end

section
/- (*maker).wrong: what is wrong with what is asked for. (bel2) -/
namespace Go.Proofs.YtbllehjhmfehbaaGreat
open Go.RowKit Go.Sort Go.Maps
set_option linter.unusedSimpArgs false
namespace Od
theorem wrong_form {ns : List Nd} {es : List Ed} {up : List Str} {k : Jp} (h : mayG ns es = false) : wrongT ns es up k = 1 := by unfold wrongT; rw [if_pos h]
theorem wrong_kind {ns : List Nd} {es : List Ed} {up : List Str} {k : Jp} (h : mayG ns es = true) (h2 : ¬ (1 ≤ k.2 ∧ k.2 ≤ 4)) : wrongT ns es up k = 3 := by unfold wrongT; rw [if_neg (by rw [h]; simp), if_pos h2]
theorem wrong_none {ns : List Nd} {es : List Ed} {up : List Str} {k : Jp} (h : mayG ns es = true) (h2 : 1 ≤ k.2 ∧ k.2 ≤ 4) (h3 : (nodeOf ns k.1).isSome = false) : wrongT ns es up k = 6 := by unfold wrongT; rw [if_neg (by rw [h]; simp), if_neg (fun x => x h2), if_pos h3]
theorem wrong_idle {ns : List Nd} {es : List Ed} {up : List Str} {k : Jp} (h : mayG ns es = true) (h2 : 1 ≤ k.2 ∧ k.2 ≤ 4) (h3 : (nodeOf ns k.1).isSome = true) : wrongT ns es up k = if (k.2 == 4 && !hasB up k.1) = true then 20 else 0 := by unfold wrongT; rw [if_neg (by rw [h]; simp), if_neg (fun x => x h2), if_neg (by rw [h3]; simp)]
set_option maxRecDepth 100000 in
set_option maxHeartbeats 8000000 in
theorem wrong_any (mb : Nat) (An Ae Au Ah : Option Addr) (cn ce cu ch : Nat) (ns : List Nd) (es : List Ed) (up half : List Str) (u : Str) (t : Int) (w : World)
    (hF : MkF w mb An Ae Au Ah cn ce cu ch ns es up half u t) :
    Calls Tryz.prog 106 #[.pointer (some ⟨mb, 0, none⟩)] w fun e w' => e = .returned (.int .i64 (wrongT ns es up (u, t))) ∧ Below w.heap.size w w' := by
  have HF := Lib.hid hF
  have k0 := hF.c0
  have k1 := hF.c1
  have k2 := hF.c2
  have k4 := hF.c4
  have k5 := hF.c5
  have hmb := hF.lt
  have hnl := hF.ln
  have hel := hF.le
  clear hF
  go_enter Tryz.func106, Tryz.ntmps106
  go_wp2_with fail
  refine wp_region_held_drew (S := fun w' => Below w.heap.size w w') (by kernel_rfl) (Below.drew (Below.refl _ _)) (fun hHeld => ?_)
  refine tY (i := 0) (v := ?_) rfl ?_ hHeld ?_; rotate_left 1; focus (intro w' hSw; have hCell := fun (b o : Nat) (h : b < w.heap.size) => hSw.cell (p := ⟨b, o, none⟩) h; clear hSw; go_simp; try with_reducible rfl)
  (try simp only [Act.put, zn1, zn2, zn3])
  refine tY (i := 1) (v := ?_) rfl ?_ hHeld ?_; rotate_left 1; focus (intro w' hSw; have hCell := fun (b o : Nat) (h : b < w.heap.size) => hSw.cell (p := ⟨b, o, none⟩) h; clear hSw; go_simp; try with_reducible rfl)
  (try simp only [Act.put, zn1, zn2, zn3])
  refine tY (i := 2) (v := ?_) rfl ?_ hHeld ?_; rotate_left 1; focus (intro w' hSw; have hCell := fun (b o : Nat) (h : b < w.heap.size) => hSw.cell (p := ⟨b, o, none⟩) h; clear hSw; go_simp; try with_reducible rfl)
  (try simp only [Act.put, zn1, zn2, zn3])
  refine tY (i := 3) (v := ?_) rfl ?_ hHeld ?_; rotate_left 1; focus (intro w' hSw; have hCell := fun (b o : Nat) (h : b < w.heap.size) => hSw.cell (p := ⟨b, o, none⟩) h; clear hSw; go_simp; try with_reducible rfl)
  (try simp only [Act.put, zn1, zn2, zn3])
  refine tY (i := 4) (v := ?_) rfl ?_ hHeld ?_; rotate_left 1; focus (intro w' hSw; have hCell := fun (b o : Nat) (h : b < w.heap.size) => hSw.cell (p := ⟨b, o, none⟩) h; clear hSw; go_simp; try with_reducible rfl)
  (try simp only [Act.put, zn1, zn2, zn3])
  refine tY (i := 5) (v := ?_) rfl ?_ hHeld ?_; rotate_left 1; focus (intro w' hSw; have hCell := fun (b o : Nat) (h : b < w.heap.size) => hSw.cell (p := ⟨b, o, none⟩) h; clear hSw; go_simp; try with_reducible rfl)
  (try simp only [Act.put, zn1, zn2, zn3])
  refine tY (i := 6) (v := ?_) rfl ?_ hHeld ?_; rotate_left 1; focus (intro w' hSw; have hCell := fun (b o : Nat) (h : b < w.heap.size) => hSw.cell (p := ⟨b, o, none⟩) h; clear hSw; go_simp; try with_reducible rfl)
  (try simp only [Act.put, zn1, zn2, zn3])
  refine tY (i := 7) (v := ?_) rfl ?_ hHeld ?_; rotate_left 1; focus (intro w' hSw; have hCell := fun (b o : Nat) (h : b < w.heap.size) => hSw.cell (p := ⟨b, o, none⟩) h; clear hSw; go_simp; try with_reducible rfl)
  (try simp only [Act.put, zn1, zn2, zn3])
  refine ready_twoT (i := 8) (j := 12) rfl rfl (by kernel_rfl) (fun K hK => ?_) (fun K hK => ?_)
  · go_simp
    refine (Node_any An Ae es.length cn ce ns u _ (HF.out.on hHeld).in.1.rn (by omega)).mono ?_
    rintro e v5 ⟨rfl, hb⟩
    have hb45 := Below.trans hHeld (Below.mono hb hHeld.size)
    have hz5 := hb45.size
    clear hb
    unfold nodeV
    refine hK.out _ _ ?_ (fun hHeld2 => ?_)
    · (try dsimp only); exact hb45
    clear hK K hHeld; have hHeld := hHeld2; clear hHeld2; (try simp only [Act.put, zn1, zn2, zn3])
    refine tY (i := 9) (v := ?_) rfl ?_ hHeld ?_; rotate_left 1; focus (intro w' hSw; have hCell := fun (b o : Nat) (h : b < w.heap.size) => hSw.cell (p := ⟨b, o, none⟩) h; clear hSw; go_simp; try with_reducible rfl)
    (try simp only [Act.put, zn1, zn2, zn3])
    refine tY (i := 10) (v := ?_) rfl ?_ hHeld ?_; rotate_left 1; focus (intro w' hSw; have hCell := fun (b o : Nat) (h : b < w.heap.size) => hSw.cell (p := ⟨b, o, none⟩) h; clear hSw; go_simp; try with_reducible rfl)
    (try simp only [Act.put, zn1, zn2, zn3])
    refine tY (i := 11) (v := ?_) rfl ?_ hHeld ?_; rotate_left 1; focus (intro w' hSw; have hCell := fun (b o : Nat) (h : b < w.heap.size) => hSw.cell (p := ⟨b, o, none⟩) h; clear hSw; go_simp; try with_reducible rfl)
    (try simp only [Act.put, zn1, zn2, zn3])
    refine ready_one (i := 12) rfl (by kernel_rfl) (fun K hK => ?_)
    go_simp
    refine hK.out _ _ ?_ (fun hHeld2 => ?_)
    · (try dsimp only); exact (hb45.alloc hz5 _)
    clear hK K hHeld; have hHeld := hHeld2; clear hHeld2; (try simp only [Act.put, zn1, zn2, zn3])
    refine ready_one (i := 13) rfl (by kernel_rfl) (fun K hK => ?_)
    go_simp
    refine hK.out _ _ ?_ (fun hHeld2 => ?_)
    · (try dsimp only); exact ((by repeat (first | exact Below.refl _ _ | assumption | refine Below.alloc ?_ (by first | omega | (simp <;> omega)) _ | refine Below.setCell ?_ (by first | omega | (simp <;> omega)) _ | refine Below.drew ?_)))
    clear hK K hHeld; have hHeld := hHeld2; clear hHeld2; (try simp only [Act.put, zn1, zn2, zn3])
    refine tY (i := 14) (v := ?_) rfl ?_ hHeld ?_; rotate_left 1; focus (intro w' hSw; have hCell := fun (b o : Nat) (h : b < w.heap.size) => hSw.cell (p := ⟨b, o, none⟩) h; clear hSw; go_simp; try with_reducible rfl)
    (try simp only [Act.put, zn1, zn2, zn3])
    refine wpAnyH_done (by kernel_rfl) ?_ _
    refine exit_namedT ?_
    intro W6 hW6
    have hb6 : Below w.heap.size w W6 := by rw [hW6]; exact hHeld
    clear hW6 hHeld
    have HB6 := Lib.hid hb6
    have HF6 := Lib.hid (HF.out.on hb6)
    have d0 := cellAt k0 hb6 hmb
    have d1 := cellAt k1 hb6 hmb
    have d2 := cellAt k2 hb6 hmb
    have d4 := cellAt k4 hb6 hmb
    have d5 := cellAt k5 hb6 hmb
    have hm6 := ltAt hmb hb6
    clear hb6
    go_wp2_with fail
    refine (MayGB_any An Ae cn ce ns es W6 HF6.out.in.1 (by omega)).mono ?_
    rintro e w7 ⟨rfl, hb⟩
    have HB7 := Lib.hid (lift HB6.out hb)
    have HF7 := Lib.hid (HF6.out.on hb)
    replace d1 := cellAt d1 hb hm6
    replace d2 := cellAt d2 hb hm6
    replace d4 := cellAt d4 hb hm6
    replace d5 := cellAt d5 hb hm6
    have hm7 := ltAt hm6 hb
    clear hb d0
    cases hmay : mayG ns es
    · have HW := Lib.hid (wrong_form (up := up) (k := (u, t)) hmay)
      go_wp2_with fail
      go_ret
      exact ⟨by rw [HW.out]; rfl, HB7.out⟩
    · have HMay := Lib.hid hmay
      clear hmay
      by_cases h1 : t < 1
      · have e1 : decide (t < 1) = true := by simpa using h1
        have HW := Lib.hid (wrong_kind (up := up) (k := (u, t)) HMay.out (fun h => absurd h.1 (by simp only; omega)))
        clear h1
        go_wp2_with fail
        go_ret
        exact ⟨by rw [HW.out]; rfl, HB7.out⟩
      · have e1 : decide (t < 1) = false := by simpa using h1
        by_cases h4 : 4 < t
        · have e4 : decide (4 < t) = true := by simpa using h4
          have HW := Lib.hid (wrong_kind (up := up) (k := (u, t)) HMay.out (fun h => absurd h.2 (by simp only; omega)))
          clear h1 h4
          go_wp2_with fail
          go_ret
          exact ⟨by rw [HW.out]; rfl, HB7.out⟩
        · have e4 : decide (4 < t) = false := by simpa using h4
          have HT := Lib.hid (show 1 ≤ t ∧ t ≤ 4 by omega)
          clear h1 h4
          cases hno : (nodeOf ns u).isSome
          · have HW := Lib.hid (wrong_none (up := up) (k := (u, t)) HMay.out HT.out hno)
            go_wp2_with fail
            go_ret
            exact ⟨by rw [HW.out]; rfl, HB7.out⟩
          · have HW0 := Lib.hid (wrong_idle (up := up) (k := (u, t)) HMay.out HT.out hno)
            cases h44 : (t == 4)
            · have HW := Lib.hid (show wrongT ns es up (u, t) = 0 by rw [HW0.out]; simp only [h44]; rfl)
              try go_wp2_with fail
              refine wp_region_held_drew (S := fun w' => Below w7.heap.size w7 w') (by kernel_rfl) (Below.drew (Below.refl _ _)) (fun hHeld => ?_)
              refine tY (i := 0) (v := ?_) rfl ?_ hHeld ?_; rotate_left 1; focus (intro w' hSw; clear hSw; go_simp; try with_reducible rfl)
              (try simp only [Act.put, zn1, zn2, zn3])
              refine tY (i := 1) (v := ?_) rfl ?_ hHeld ?_; rotate_left 1; focus (intro w' hSw; clear hSw; go_simp; try with_reducible rfl)
              (try simp only [Act.put, zn1, zn2, zn3])
              refine tY (i := 2) (v := ?_) rfl ?_ hHeld ?_; rotate_left 1; focus (intro w' hSw; clear hSw; go_simp; try with_reducible rfl)
              (try simp only [Act.put, zn1, zn2, zn3])
              refine tY (i := 3) (v := ?_) rfl ?_ hHeld ?_; rotate_left 1; focus (intro w' hSw; have hCell := fun (b o : Nat) (h : b < w7.heap.size) => hSw.cell (p := ⟨b, o, none⟩) h; clear hSw; go_simp; try with_reducible rfl)
              (try simp only [Act.put, zn1, zn2, zn3])
              refine tY (i := 4) (v := ?_) rfl ?_ hHeld ?_; rotate_left 1; focus (intro w' hSw; clear hSw; go_simp; try with_reducible rfl)
              (try simp only [Act.put, zn1, zn2, zn3])
              refine tY (i := 5) (v := ?_) rfl ?_ hHeld ?_; rotate_left 1; focus (intro w' hSw; clear hSw; go_simp; try with_reducible rfl)
              (try simp only [Act.put, zn1, zn2, zn3])
              refine tS (i := 6) rfl hHeld ?_; (try simp only [Act.put, zn1, zn2, zn3])
              refine tS (i := 7) rfl hHeld ?_; (try simp only [Act.put, zn1, zn2, zn3])
              refine tS (i := 8) rfl hHeld ?_; (try simp only [Act.put, zn1, zn2, zn3])
              refine tS (i := 9) rfl hHeld ?_; (try simp only [Act.put, zn1, zn2, zn3])
              refine tS (i := 10) rfl hHeld ?_; (try simp only [Act.put, zn1, zn2, zn3])
              refine tS (i := 11) rfl hHeld ?_; (try simp only [Act.put, zn1, zn2, zn3])
              refine tS (i := 12) rfl hHeld ?_; (try simp only [Act.put, zn1, zn2, zn3])
              refine tS (i := 13) rfl hHeld ?_; (try simp only [Act.put, zn1, zn2, zn3])
              refine tS (i := 14) rfl hHeld ?_; (try simp only [Act.put, zn1, zn2, zn3])
              refine tS (i := 15) rfl hHeld ?_; (try simp only [Act.put, zn1, zn2, zn3])
              refine tS (i := 16) rfl hHeld ?_; (try simp only [Act.put, zn1, zn2, zn3])
              refine tY (i := 17) (v := ?_) rfl ?_ hHeld ?_; rotate_left 1; focus (intro w' hSw; clear hSw; go_simp; try with_reducible rfl)
              (try simp only [Act.put, zn1, zn2, zn3])
              refine tY (i := 18) (v := ?_) rfl ?_ hHeld ?_; rotate_left 1; focus (intro w' hSw; clear hSw; go_simp; try with_reducible rfl)
              (try simp only [Act.put, zn1, zn2, zn3])
              refine wpAnyH_done (by kernel_rfl) ?_ _
              go_wp2_with fail
              go_ret
              exact ⟨by rw [HW.out]; rfl, lift HB7.out hHeld⟩
            · skip
              cases hup : hasB up u
              · have HW := Lib.hid (show wrongT ns es up (u, t) = 20 by rw [HW0.out]; simp only [h44, hup]; rfl)
                try go_wp2_with fail
                refine wp_region_held_drew (S := fun w' => Below w7.heap.size w7 w') (by kernel_rfl) (Below.drew (Below.refl _ _)) (fun hHeld => ?_)
                refine tY (i := 0) (v := ?_) rfl ?_ hHeld ?_; rotate_left 1; focus (intro w' hSw; clear hSw; go_simp; try with_reducible rfl)
                (try simp only [Act.put, zn1, zn2, zn3])
                refine tY (i := 1) (v := ?_) rfl ?_ hHeld ?_; rotate_left 1; focus (intro w' hSw; clear hSw; go_simp; try with_reducible rfl)
                (try simp only [Act.put, zn1, zn2, zn3])
                refine tY (i := 2) (v := ?_) rfl ?_ hHeld ?_; rotate_left 1; focus (intro w' hSw; clear hSw; go_simp; try with_reducible rfl)
                (try simp only [Act.put, zn1, zn2, zn3])
                refine tY (i := 3) (v := ?_) rfl ?_ hHeld ?_; rotate_left 1; focus (intro w' hSw; have hCell := fun (b o : Nat) (h : b < w7.heap.size) => hSw.cell (p := ⟨b, o, none⟩) h; clear hSw; go_simp; try with_reducible rfl)
                (try simp only [Act.put, zn1, zn2, zn3])
                refine tY (i := 4) (v := ?_) rfl ?_ hHeld ?_; rotate_left 1; focus (intro w' hSw; clear hSw; go_simp; try with_reducible rfl)
                (try simp only [Act.put, zn1, zn2, zn3])
                refine tY (i := 5) (v := ?_) rfl ?_ hHeld ?_; rotate_left 1; focus (intro w' hSw; clear hSw; go_simp; try with_reducible rfl)
                (try simp only [Act.put, zn1, zn2, zn3])
                refine tY (i := 6) (v := ?_) rfl ?_ hHeld ?_; rotate_left 1; focus (intro w' hSw; clear hSw; go_simp; try with_reducible rfl)
                (try simp only [Act.put, zn1, zn2, zn3])
                refine tY (i := 7) (v := ?_) rfl ?_ hHeld ?_; rotate_left 1; focus (intro w' hSw; clear hSw; go_simp; try with_reducible rfl)
                (try simp only [Act.put, zn1, zn2, zn3])
                refine tY (i := 8) (v := ?_) rfl ?_ hHeld ?_; rotate_left 1; focus (intro w' hSw; clear hSw; go_simp; try with_reducible rfl)
                (try simp only [Act.put, zn1, zn2, zn3])
                refine tY (i := 9) (v := ?_) rfl ?_ hHeld ?_; rotate_left 1; focus (intro w' hSw; clear hSw; go_simp; try with_reducible rfl)
                (try simp only [Act.put, zn1, zn2, zn3])
                refine tY (i := 10) (v := ?_) rfl ?_ hHeld ?_; rotate_left 1; focus (intro w' hSw; have hCell := fun (b o : Nat) (h : b < w7.heap.size) => hSw.cell (p := ⟨b, o, none⟩) h; clear hSw; go_simp; try with_reducible rfl)
                (try simp only [Act.put, zn1, zn2, zn3])
                refine tY (i := 11) (v := ?_) rfl ?_ hHeld ?_; rotate_left 1; focus (intro w' hSw; clear hSw; go_simp; try with_reducible rfl)
                (try simp only [Act.put, zn1, zn2, zn3])
                refine tY (i := 12) (v := ?_) rfl ?_ hHeld ?_; rotate_left 1; focus (intro w' hSw; clear hSw; go_simp; try with_reducible rfl)
                (try simp only [Act.put, zn1, zn2, zn3])
                refine tY (i := 13) (v := ?_) rfl ?_ hHeld ?_; rotate_left 1; focus (intro w' hSw; clear hSw; go_simp; try with_reducible rfl)
                (try simp only [Act.put, zn1, zn2, zn3])
                refine tY (i := 14) (v := ?_) rfl ?_ hHeld ?_; rotate_left 1; focus (intro w' hSw; have hCell := fun (b o : Nat) (h : b < w7.heap.size) => hSw.cell (p := ⟨b, o, none⟩) h; clear hSw; go_simp; try with_reducible rfl)
                (try simp only [Act.put, zn1, zn2, zn3])
                refine ready_one (i := 15) rfl (by kernel_rfl) (fun K hK => ?_)
                go_simp
                refine (containsS_big _ _ _ _ _ (HF7.out.in.2.u.at hHeld).rd HF7.out.lu).mono ?_
                rintro e y1 ⟨rfl, rfl⟩
                rw [hup]
                refine hK.out _ _ ?_ (fun hHeld2 => ?_)
                · (try dsimp only); first | exact Below.trans hHeld (Below.mono hb hHeld.size) | exact hHeld | exact Below.drew hHeld | exact (by repeat (first | exact Below.refl _ _ | assumption | refine Below.alloc ?_ (by first | omega | (simp <;> omega)) _ | refine Below.setCell ?_ (by first | omega | (simp <;> omega)) _ | refine Below.drew ?_))
                clear hK K hHeld; have hHeld := hHeld2; clear hHeld2; (try simp only [Act.put, zn1, zn2, zn3])
                refine tY (i := 16) (v := ?_) rfl ?_ hHeld ?_; rotate_left 1; focus (intro w' hSw; clear hSw; go_simp; try with_reducible rfl)
                (try simp only [Act.put, zn1, zn2, zn3])
                refine tY (i := 17) (v := ?_) rfl ?_ hHeld ?_; rotate_left 1; focus (intro w' hSw; clear hSw; go_simp; try with_reducible rfl)
                (try simp only [Act.put, zn1, zn2, zn3])
                refine tY (i := 18) (v := ?_) rfl ?_ hHeld ?_; rotate_left 1; focus (intro w' hSw; clear hSw; go_simp; try with_reducible rfl)
                (try simp only [Act.put, zn1, zn2, zn3])
                refine wpAnyH_done (by kernel_rfl) ?_ _
                go_wp2_with fail
                go_ret
                exact ⟨by rw [HW.out]; rfl, lift HB7.out hHeld⟩
              · have HW := Lib.hid (show wrongT ns es up (u, t) = 0 by rw [HW0.out]; simp only [h44, hup]; rfl)
                try go_wp2_with fail
                refine wp_region_held_drew (S := fun w' => Below w7.heap.size w7 w') (by kernel_rfl) (Below.drew (Below.refl _ _)) (fun hHeld => ?_)
                refine tY (i := 0) (v := ?_) rfl ?_ hHeld ?_; rotate_left 1; focus (intro w' hSw; clear hSw; go_simp; try with_reducible rfl)
                (try simp only [Act.put, zn1, zn2, zn3])
                refine tY (i := 1) (v := ?_) rfl ?_ hHeld ?_; rotate_left 1; focus (intro w' hSw; clear hSw; go_simp; try with_reducible rfl)
                (try simp only [Act.put, zn1, zn2, zn3])
                refine tY (i := 2) (v := ?_) rfl ?_ hHeld ?_; rotate_left 1; focus (intro w' hSw; clear hSw; go_simp; try with_reducible rfl)
                (try simp only [Act.put, zn1, zn2, zn3])
                refine tY (i := 3) (v := ?_) rfl ?_ hHeld ?_; rotate_left 1; focus (intro w' hSw; have hCell := fun (b o : Nat) (h : b < w7.heap.size) => hSw.cell (p := ⟨b, o, none⟩) h; clear hSw; go_simp; try with_reducible rfl)
                (try simp only [Act.put, zn1, zn2, zn3])
                refine tY (i := 4) (v := ?_) rfl ?_ hHeld ?_; rotate_left 1; focus (intro w' hSw; clear hSw; go_simp; try with_reducible rfl)
                (try simp only [Act.put, zn1, zn2, zn3])
                refine tY (i := 5) (v := ?_) rfl ?_ hHeld ?_; rotate_left 1; focus (intro w' hSw; clear hSw; go_simp; try with_reducible rfl)
                (try simp only [Act.put, zn1, zn2, zn3])
                refine tY (i := 6) (v := ?_) rfl ?_ hHeld ?_; rotate_left 1; focus (intro w' hSw; clear hSw; go_simp; try with_reducible rfl)
                (try simp only [Act.put, zn1, zn2, zn3])
                refine tY (i := 7) (v := ?_) rfl ?_ hHeld ?_; rotate_left 1; focus (intro w' hSw; clear hSw; go_simp; try with_reducible rfl)
                (try simp only [Act.put, zn1, zn2, zn3])
                refine tY (i := 8) (v := ?_) rfl ?_ hHeld ?_; rotate_left 1; focus (intro w' hSw; clear hSw; go_simp; try with_reducible rfl)
                (try simp only [Act.put, zn1, zn2, zn3])
                refine tY (i := 9) (v := ?_) rfl ?_ hHeld ?_; rotate_left 1; focus (intro w' hSw; clear hSw; go_simp; try with_reducible rfl)
                (try simp only [Act.put, zn1, zn2, zn3])
                refine tY (i := 10) (v := ?_) rfl ?_ hHeld ?_; rotate_left 1; focus (intro w' hSw; have hCell := fun (b o : Nat) (h : b < w7.heap.size) => hSw.cell (p := ⟨b, o, none⟩) h; clear hSw; go_simp; try with_reducible rfl)
                (try simp only [Act.put, zn1, zn2, zn3])
                refine tY (i := 11) (v := ?_) rfl ?_ hHeld ?_; rotate_left 1; focus (intro w' hSw; clear hSw; go_simp; try with_reducible rfl)
                (try simp only [Act.put, zn1, zn2, zn3])
                refine tY (i := 12) (v := ?_) rfl ?_ hHeld ?_; rotate_left 1; focus (intro w' hSw; clear hSw; go_simp; try with_reducible rfl)
                (try simp only [Act.put, zn1, zn2, zn3])
                refine tY (i := 13) (v := ?_) rfl ?_ hHeld ?_; rotate_left 1; focus (intro w' hSw; clear hSw; go_simp; try with_reducible rfl)
                (try simp only [Act.put, zn1, zn2, zn3])
                refine tY (i := 14) (v := ?_) rfl ?_ hHeld ?_; rotate_left 1; focus (intro w' hSw; have hCell := fun (b o : Nat) (h : b < w7.heap.size) => hSw.cell (p := ⟨b, o, none⟩) h; clear hSw; go_simp; try with_reducible rfl)
                (try simp only [Act.put, zn1, zn2, zn3])
                refine ready_one (i := 15) rfl (by kernel_rfl) (fun K hK => ?_)
                go_simp
                refine (containsS_big _ _ _ _ _ (HF7.out.in.2.u.at hHeld).rd HF7.out.lu).mono ?_
                rintro e y1 ⟨rfl, rfl⟩
                rw [hup]
                refine hK.out _ _ ?_ (fun hHeld2 => ?_)
                · (try dsimp only); first | exact Below.trans hHeld (Below.mono hb hHeld.size) | exact hHeld | exact Below.drew hHeld | exact (by repeat (first | exact Below.refl _ _ | assumption | refine Below.alloc ?_ (by first | omega | (simp <;> omega)) _ | refine Below.setCell ?_ (by first | omega | (simp <;> omega)) _ | refine Below.drew ?_))
                clear hK K hHeld; have hHeld := hHeld2; clear hHeld2; (try simp only [Act.put, zn1, zn2, zn3])
                refine tY (i := 16) (v := ?_) rfl ?_ hHeld ?_; rotate_left 1; focus (intro w' hSw; clear hSw; go_simp; try with_reducible rfl)
                (try simp only [Act.put, zn1, zn2, zn3])
                refine tY (i := 17) (v := ?_) rfl ?_ hHeld ?_; rotate_left 1; focus (intro w' hSw; clear hSw; go_simp; try with_reducible rfl)
                (try simp only [Act.put, zn1, zn2, zn3])
                refine tY (i := 18) (v := ?_) rfl ?_ hHeld ?_; rotate_left 1; focus (intro w' hSw; clear hSw; go_simp; try with_reducible rfl)
                (try simp only [Act.put, zn1, zn2, zn3])
                refine wpAnyH_done (by kernel_rfl) ?_ _
                go_wp2_with fail
                go_ret
                exact ⟨by rw [HW.out]; rfl, lift HB7.out hHeld⟩
  · go_simp
    refine hK.out _ _ ?_ (fun hHeld2 => ?_)
    · (try dsimp only); exact ((by repeat (first | exact Below.refl _ _ | assumption | refine Below.alloc ?_ (by first | omega | (simp <;> omega)) _ | refine Below.setCell ?_ (by first | omega | (simp <;> omega)) _ | refine Below.drew ?_)))
    clear hK K hHeld; have hHeld := hHeld2; clear hHeld2; (try simp only [Act.put, zn1, zn2, zn3])
    refine ready_one (i := 8) rfl (by kernel_rfl) (fun K hK => ?_)
    go_simp
    refine (Node_any An Ae es.length cn ce ns u _ (HF.out.on hHeld).in.1.rn (by omega)).mono ?_
    rintro e v5 ⟨rfl, hb⟩
    have n0 : w.heap.size < (w.drew.alloc (.cells #[.string ⟨#[]⟩, .int .i64 0, .int .i64 0] 39)).heap.size := by simp
    have c0 := cellAt (o := 0) (v := .string ⟨#[]⟩) (by go_simp) hb n0
    have c1 := cellAt (o := 1) (v := .int .i64 0) (by go_simp) hb n0
    have c2' := cellAt (o := 2) (v := .int .i64 0) (by go_simp) hb n0
    have z0 := froAt (o := 0) (by go_simp) hb n0
    have z1 := froAt (o := 1) (by go_simp) hb n0
    have z2 := froAt (o := 2) (by go_simp) hb n0
    have n1 := ltAt n0 hb
    have hb45 := Below.trans hHeld (Below.mono hb hHeld.size)
    clear hb n0
    unfold nodeV
    refine hK.out _ _ ?_ (fun hHeld2 => ?_)
    · (try dsimp only); exact hb45
    clear hK K hHeld; have hHeld := hHeld2; clear hHeld2; (try simp only [Act.put, zn1, zn2, zn3])
    refine tY (i := 9) (v := ?_) rfl ?_ hHeld ?_; rotate_left 1; focus (intro w' hSw; have hCell := fun (b o : Nat) (h : b < w.heap.size) => hSw.cell (p := ⟨b, o, none⟩) h; clear hSw; go_simp; try with_reducible rfl)
    (try simp only [Act.put, zn1, zn2, zn3])
    refine tY (i := 10) (v := ?_) rfl ?_ hHeld ?_; rotate_left 1; focus (intro w' hSw; have hCell := fun (b o : Nat) (h : b < w.heap.size) => hSw.cell (p := ⟨b, o, none⟩) h; clear hSw; go_simp; try with_reducible rfl)
    (try simp only [Act.put, zn1, zn2, zn3])
    refine tY (i := 11) (v := ?_) rfl ?_ hHeld ?_; rotate_left 1; focus (intro w' hSw; have hCell := fun (b o : Nat) (h : b < w.heap.size) => hSw.cell (p := ⟨b, o, none⟩) h; clear hSw; go_simp; try with_reducible rfl)
    (try simp only [Act.put, zn1, zn2, zn3])
    refine ready_one (i := 13) rfl (by kernel_rfl) (fun K hK => ?_)
    go_simp
    refine hK.out _ _ ?_ (fun hHeld2 => ?_)
    · (try dsimp only); exact ((by repeat (first | exact Below.refl _ _ | assumption | refine Below.alloc ?_ (by first | omega | (simp <;> omega)) _ | refine Below.setCell ?_ (by first | omega | (simp <;> omega)) _ | refine Below.drew ?_)))
    clear hK K hHeld; have hHeld := hHeld2; clear hHeld2; (try simp only [Act.put, zn1, zn2, zn3])
    refine tY (i := 14) (v := ?_) rfl ?_ hHeld ?_; rotate_left 1; focus (intro w' hSw; have hCell := fun (b o : Nat) (h : b < w.heap.size) => hSw.cell (p := ⟨b, o, none⟩) h; clear hSw; go_simp; try with_reducible rfl)
    (try simp only [Act.put, zn1, zn2, zn3])
    refine wpAnyH_done (by kernel_rfl) ?_ _
    refine exit_namedT ?_
    intro W6 hW6
    have hb6 : Below w.heap.size w W6 := by rw [hW6]; exact hHeld
    clear hW6 hHeld
    have HB6 := Lib.hid hb6
    have HF6 := Lib.hid (HF.out.on hb6)
    have d0 := cellAt k0 hb6 hmb
    have d1 := cellAt k1 hb6 hmb
    have d2 := cellAt k2 hb6 hmb
    have d4 := cellAt k4 hb6 hmb
    have d5 := cellAt k5 hb6 hmb
    have hm6 := ltAt hmb hb6
    clear hb6
    go_wp2_with fail
    refine (MayGB_any An Ae cn ce ns es W6 HF6.out.in.1 (by omega)).mono ?_
    rintro e w7 ⟨rfl, hb⟩
    have HB7 := Lib.hid (lift HB6.out hb)
    have HF7 := Lib.hid (HF6.out.on hb)
    replace d1 := cellAt d1 hb hm6
    replace d2 := cellAt d2 hb hm6
    replace d4 := cellAt d4 hb hm6
    replace d5 := cellAt d5 hb hm6
    have hm7 := ltAt hm6 hb
    clear hb d0
    cases hmay : mayG ns es
    · have HW := Lib.hid (wrong_form (up := up) (k := (u, t)) hmay)
      go_wp2_with fail
      go_ret
      exact ⟨by rw [HW.out]; rfl, HB7.out⟩
    · have HMay := Lib.hid hmay
      clear hmay
      by_cases h1 : t < 1
      · have e1 : decide (t < 1) = true := by simpa using h1
        have HW := Lib.hid (wrong_kind (up := up) (k := (u, t)) HMay.out (fun h => absurd h.1 (by simp only; omega)))
        clear h1
        go_wp2_with fail
        go_ret
        exact ⟨by rw [HW.out]; rfl, HB7.out⟩
      · have e1 : decide (t < 1) = false := by simpa using h1
        by_cases h4 : 4 < t
        · have e4 : decide (4 < t) = true := by simpa using h4
          have HW := Lib.hid (wrong_kind (up := up) (k := (u, t)) HMay.out (fun h => absurd h.2 (by simp only; omega)))
          clear h1 h4
          go_wp2_with fail
          go_ret
          exact ⟨by rw [HW.out]; rfl, HB7.out⟩
        · have e4 : decide (4 < t) = false := by simpa using h4
          have HT := Lib.hid (show 1 ≤ t ∧ t ≤ 4 by omega)
          clear h1 h4
          cases hno : (nodeOf ns u).isSome
          · have HW := Lib.hid (wrong_none (up := up) (k := (u, t)) HMay.out HT.out hno)
            go_wp2_with fail
            go_ret
            exact ⟨by rw [HW.out]; rfl, HB7.out⟩
          · have HW0 := Lib.hid (wrong_idle (up := up) (k := (u, t)) HMay.out HT.out hno)
            cases h44 : (t == 4)
            · have HW := Lib.hid (show wrongT ns es up (u, t) = 0 by rw [HW0.out]; simp only [h44]; rfl)
              try go_wp2_with fail
              refine wp_region_held_drew (S := fun w' => Below w7.heap.size w7 w') (by kernel_rfl) (Below.drew (Below.refl _ _)) (fun hHeld => ?_)
              refine tY (i := 0) (v := ?_) rfl ?_ hHeld ?_; rotate_left 1; focus (intro w' hSw; clear hSw; go_simp; try with_reducible rfl)
              (try simp only [Act.put, zn1, zn2, zn3])
              refine tY (i := 1) (v := ?_) rfl ?_ hHeld ?_; rotate_left 1; focus (intro w' hSw; clear hSw; go_simp; try with_reducible rfl)
              (try simp only [Act.put, zn1, zn2, zn3])
              refine tY (i := 2) (v := ?_) rfl ?_ hHeld ?_; rotate_left 1; focus (intro w' hSw; clear hSw; go_simp; try with_reducible rfl)
              (try simp only [Act.put, zn1, zn2, zn3])
              refine tY (i := 3) (v := ?_) rfl ?_ hHeld ?_; rotate_left 1; focus (intro w' hSw; have hCell := fun (b o : Nat) (h : b < w7.heap.size) => hSw.cell (p := ⟨b, o, none⟩) h; clear hSw; go_simp; try with_reducible rfl)
              (try simp only [Act.put, zn1, zn2, zn3])
              refine tY (i := 4) (v := ?_) rfl ?_ hHeld ?_; rotate_left 1; focus (intro w' hSw; clear hSw; go_simp; try with_reducible rfl)
              (try simp only [Act.put, zn1, zn2, zn3])
              refine tY (i := 5) (v := ?_) rfl ?_ hHeld ?_; rotate_left 1; focus (intro w' hSw; clear hSw; go_simp; try with_reducible rfl)
              (try simp only [Act.put, zn1, zn2, zn3])
              refine tS (i := 6) rfl hHeld ?_; (try simp only [Act.put, zn1, zn2, zn3])
              refine tS (i := 7) rfl hHeld ?_; (try simp only [Act.put, zn1, zn2, zn3])
              refine tS (i := 8) rfl hHeld ?_; (try simp only [Act.put, zn1, zn2, zn3])
              refine tS (i := 9) rfl hHeld ?_; (try simp only [Act.put, zn1, zn2, zn3])
              refine tS (i := 10) rfl hHeld ?_; (try simp only [Act.put, zn1, zn2, zn3])
              refine tS (i := 11) rfl hHeld ?_; (try simp only [Act.put, zn1, zn2, zn3])
              refine tS (i := 12) rfl hHeld ?_; (try simp only [Act.put, zn1, zn2, zn3])
              refine tS (i := 13) rfl hHeld ?_; (try simp only [Act.put, zn1, zn2, zn3])
              refine tS (i := 14) rfl hHeld ?_; (try simp only [Act.put, zn1, zn2, zn3])
              refine tS (i := 15) rfl hHeld ?_; (try simp only [Act.put, zn1, zn2, zn3])
              refine tS (i := 16) rfl hHeld ?_; (try simp only [Act.put, zn1, zn2, zn3])
              refine tY (i := 17) (v := ?_) rfl ?_ hHeld ?_; rotate_left 1; focus (intro w' hSw; clear hSw; go_simp; try with_reducible rfl)
              (try simp only [Act.put, zn1, zn2, zn3])
              refine tY (i := 18) (v := ?_) rfl ?_ hHeld ?_; rotate_left 1; focus (intro w' hSw; clear hSw; go_simp; try with_reducible rfl)
              (try simp only [Act.put, zn1, zn2, zn3])
              refine wpAnyH_done (by kernel_rfl) ?_ _
              go_wp2_with fail
              go_ret
              exact ⟨by rw [HW.out]; rfl, lift HB7.out hHeld⟩
            · skip
              cases hup : hasB up u
              · have HW := Lib.hid (show wrongT ns es up (u, t) = 20 by rw [HW0.out]; simp only [h44, hup]; rfl)
                try go_wp2_with fail
                refine wp_region_held_drew (S := fun w' => Below w7.heap.size w7 w') (by kernel_rfl) (Below.drew (Below.refl _ _)) (fun hHeld => ?_)
                refine tY (i := 0) (v := ?_) rfl ?_ hHeld ?_; rotate_left 1; focus (intro w' hSw; clear hSw; go_simp; try with_reducible rfl)
                (try simp only [Act.put, zn1, zn2, zn3])
                refine tY (i := 1) (v := ?_) rfl ?_ hHeld ?_; rotate_left 1; focus (intro w' hSw; clear hSw; go_simp; try with_reducible rfl)
                (try simp only [Act.put, zn1, zn2, zn3])
                refine tY (i := 2) (v := ?_) rfl ?_ hHeld ?_; rotate_left 1; focus (intro w' hSw; clear hSw; go_simp; try with_reducible rfl)
                (try simp only [Act.put, zn1, zn2, zn3])
                refine tY (i := 3) (v := ?_) rfl ?_ hHeld ?_; rotate_left 1; focus (intro w' hSw; have hCell := fun (b o : Nat) (h : b < w7.heap.size) => hSw.cell (p := ⟨b, o, none⟩) h; clear hSw; go_simp; try with_reducible rfl)
                (try simp only [Act.put, zn1, zn2, zn3])
                refine tY (i := 4) (v := ?_) rfl ?_ hHeld ?_; rotate_left 1; focus (intro w' hSw; clear hSw; go_simp; try with_reducible rfl)
                (try simp only [Act.put, zn1, zn2, zn3])
                refine tY (i := 5) (v := ?_) rfl ?_ hHeld ?_; rotate_left 1; focus (intro w' hSw; clear hSw; go_simp; try with_reducible rfl)
                (try simp only [Act.put, zn1, zn2, zn3])
                refine tY (i := 6) (v := ?_) rfl ?_ hHeld ?_; rotate_left 1; focus (intro w' hSw; clear hSw; go_simp; try with_reducible rfl)
                (try simp only [Act.put, zn1, zn2, zn3])
                refine tY (i := 7) (v := ?_) rfl ?_ hHeld ?_; rotate_left 1; focus (intro w' hSw; clear hSw; go_simp; try with_reducible rfl)
                (try simp only [Act.put, zn1, zn2, zn3])
                refine tY (i := 8) (v := ?_) rfl ?_ hHeld ?_; rotate_left 1; focus (intro w' hSw; clear hSw; go_simp; try with_reducible rfl)
                (try simp only [Act.put, zn1, zn2, zn3])
                refine tY (i := 9) (v := ?_) rfl ?_ hHeld ?_; rotate_left 1; focus (intro w' hSw; clear hSw; go_simp; try with_reducible rfl)
                (try simp only [Act.put, zn1, zn2, zn3])
                refine tY (i := 10) (v := ?_) rfl ?_ hHeld ?_; rotate_left 1; focus (intro w' hSw; have hCell := fun (b o : Nat) (h : b < w7.heap.size) => hSw.cell (p := ⟨b, o, none⟩) h; clear hSw; go_simp; try with_reducible rfl)
                (try simp only [Act.put, zn1, zn2, zn3])
                refine tY (i := 11) (v := ?_) rfl ?_ hHeld ?_; rotate_left 1; focus (intro w' hSw; clear hSw; go_simp; try with_reducible rfl)
                (try simp only [Act.put, zn1, zn2, zn3])
                refine tY (i := 12) (v := ?_) rfl ?_ hHeld ?_; rotate_left 1; focus (intro w' hSw; clear hSw; go_simp; try with_reducible rfl)
                (try simp only [Act.put, zn1, zn2, zn3])
                refine tY (i := 13) (v := ?_) rfl ?_ hHeld ?_; rotate_left 1; focus (intro w' hSw; clear hSw; go_simp; try with_reducible rfl)
                (try simp only [Act.put, zn1, zn2, zn3])
                refine tY (i := 14) (v := ?_) rfl ?_ hHeld ?_; rotate_left 1; focus (intro w' hSw; have hCell := fun (b o : Nat) (h : b < w7.heap.size) => hSw.cell (p := ⟨b, o, none⟩) h; clear hSw; go_simp; try with_reducible rfl)
                (try simp only [Act.put, zn1, zn2, zn3])
                refine ready_one (i := 15) rfl (by kernel_rfl) (fun K hK => ?_)
                go_simp
                refine (containsS_big _ _ _ _ _ (HF7.out.in.2.u.at hHeld).rd HF7.out.lu).mono ?_
                rintro e y1 ⟨rfl, rfl⟩
                rw [hup]
                refine hK.out _ _ ?_ (fun hHeld2 => ?_)
                · (try dsimp only); first | exact Below.trans hHeld (Below.mono hb hHeld.size) | exact hHeld | exact Below.drew hHeld | exact (by repeat (first | exact Below.refl _ _ | assumption | refine Below.alloc ?_ (by first | omega | (simp <;> omega)) _ | refine Below.setCell ?_ (by first | omega | (simp <;> omega)) _ | refine Below.drew ?_))
                clear hK K hHeld; have hHeld := hHeld2; clear hHeld2; (try simp only [Act.put, zn1, zn2, zn3])
                refine tY (i := 16) (v := ?_) rfl ?_ hHeld ?_; rotate_left 1; focus (intro w' hSw; clear hSw; go_simp; try with_reducible rfl)
                (try simp only [Act.put, zn1, zn2, zn3])
                refine tY (i := 17) (v := ?_) rfl ?_ hHeld ?_; rotate_left 1; focus (intro w' hSw; clear hSw; go_simp; try with_reducible rfl)
                (try simp only [Act.put, zn1, zn2, zn3])
                refine tY (i := 18) (v := ?_) rfl ?_ hHeld ?_; rotate_left 1; focus (intro w' hSw; clear hSw; go_simp; try with_reducible rfl)
                (try simp only [Act.put, zn1, zn2, zn3])
                refine wpAnyH_done (by kernel_rfl) ?_ _
                go_wp2_with fail
                go_ret
                exact ⟨by rw [HW.out]; rfl, lift HB7.out hHeld⟩
              · have HW := Lib.hid (show wrongT ns es up (u, t) = 0 by rw [HW0.out]; simp only [h44, hup]; rfl)
                try go_wp2_with fail
                refine wp_region_held_drew (S := fun w' => Below w7.heap.size w7 w') (by kernel_rfl) (Below.drew (Below.refl _ _)) (fun hHeld => ?_)
                refine tY (i := 0) (v := ?_) rfl ?_ hHeld ?_; rotate_left 1; focus (intro w' hSw; clear hSw; go_simp; try with_reducible rfl)
                (try simp only [Act.put, zn1, zn2, zn3])
                refine tY (i := 1) (v := ?_) rfl ?_ hHeld ?_; rotate_left 1; focus (intro w' hSw; clear hSw; go_simp; try with_reducible rfl)
                (try simp only [Act.put, zn1, zn2, zn3])
                refine tY (i := 2) (v := ?_) rfl ?_ hHeld ?_; rotate_left 1; focus (intro w' hSw; clear hSw; go_simp; try with_reducible rfl)
                (try simp only [Act.put, zn1, zn2, zn3])
                refine tY (i := 3) (v := ?_) rfl ?_ hHeld ?_; rotate_left 1; focus (intro w' hSw; have hCell := fun (b o : Nat) (h : b < w7.heap.size) => hSw.cell (p := ⟨b, o, none⟩) h; clear hSw; go_simp; try with_reducible rfl)
                (try simp only [Act.put, zn1, zn2, zn3])
                refine tY (i := 4) (v := ?_) rfl ?_ hHeld ?_; rotate_left 1; focus (intro w' hSw; clear hSw; go_simp; try with_reducible rfl)
                (try simp only [Act.put, zn1, zn2, zn3])
                refine tY (i := 5) (v := ?_) rfl ?_ hHeld ?_; rotate_left 1; focus (intro w' hSw; clear hSw; go_simp; try with_reducible rfl)
                (try simp only [Act.put, zn1, zn2, zn3])
                refine tY (i := 6) (v := ?_) rfl ?_ hHeld ?_; rotate_left 1; focus (intro w' hSw; clear hSw; go_simp; try with_reducible rfl)
                (try simp only [Act.put, zn1, zn2, zn3])
                refine tY (i := 7) (v := ?_) rfl ?_ hHeld ?_; rotate_left 1; focus (intro w' hSw; clear hSw; go_simp; try with_reducible rfl)
                (try simp only [Act.put, zn1, zn2, zn3])
                refine tY (i := 8) (v := ?_) rfl ?_ hHeld ?_; rotate_left 1; focus (intro w' hSw; clear hSw; go_simp; try with_reducible rfl)
                (try simp only [Act.put, zn1, zn2, zn3])
                refine tY (i := 9) (v := ?_) rfl ?_ hHeld ?_; rotate_left 1; focus (intro w' hSw; clear hSw; go_simp; try with_reducible rfl)
                (try simp only [Act.put, zn1, zn2, zn3])
                refine tY (i := 10) (v := ?_) rfl ?_ hHeld ?_; rotate_left 1; focus (intro w' hSw; have hCell := fun (b o : Nat) (h : b < w7.heap.size) => hSw.cell (p := ⟨b, o, none⟩) h; clear hSw; go_simp; try with_reducible rfl)
                (try simp only [Act.put, zn1, zn2, zn3])
                refine tY (i := 11) (v := ?_) rfl ?_ hHeld ?_; rotate_left 1; focus (intro w' hSw; clear hSw; go_simp; try with_reducible rfl)
                (try simp only [Act.put, zn1, zn2, zn3])
                refine tY (i := 12) (v := ?_) rfl ?_ hHeld ?_; rotate_left 1; focus (intro w' hSw; clear hSw; go_simp; try with_reducible rfl)
                (try simp only [Act.put, zn1, zn2, zn3])
                refine tY (i := 13) (v := ?_) rfl ?_ hHeld ?_; rotate_left 1; focus (intro w' hSw; clear hSw; go_simp; try with_reducible rfl)
                (try simp only [Act.put, zn1, zn2, zn3])
                refine tY (i := 14) (v := ?_) rfl ?_ hHeld ?_; rotate_left 1; focus (intro w' hSw; have hCell := fun (b o : Nat) (h : b < w7.heap.size) => hSw.cell (p := ⟨b, o, none⟩) h; clear hSw; go_simp; try with_reducible rfl)
                (try simp only [Act.put, zn1, zn2, zn3])
                refine ready_one (i := 15) rfl (by kernel_rfl) (fun K hK => ?_)
                go_simp
                refine (containsS_big _ _ _ _ _ (HF7.out.in.2.u.at hHeld).rd HF7.out.lu).mono ?_
                rintro e y1 ⟨rfl, rfl⟩
                rw [hup]
                refine hK.out _ _ ?_ (fun hHeld2 => ?_)
                · (try dsimp only); first | exact Below.trans hHeld (Below.mono hb hHeld.size) | exact hHeld | exact Below.drew hHeld | exact (by repeat (first | exact Below.refl _ _ | assumption | refine Below.alloc ?_ (by first | omega | (simp <;> omega)) _ | refine Below.setCell ?_ (by first | omega | (simp <;> omega)) _ | refine Below.drew ?_))
                clear hK K hHeld; have hHeld := hHeld2; clear hHeld2; (try simp only [Act.put, zn1, zn2, zn3])
                refine tY (i := 16) (v := ?_) rfl ?_ hHeld ?_; rotate_left 1; focus (intro w' hSw; clear hSw; go_simp; try with_reducible rfl)
                (try simp only [Act.put, zn1, zn2, zn3])
                refine tY (i := 17) (v := ?_) rfl ?_ hHeld ?_; rotate_left 1; focus (intro w' hSw; clear hSw; go_simp; try with_reducible rfl)
                (try simp only [Act.put, zn1, zn2, zn3])
                refine tY (i := 18) (v := ?_) rfl ?_ hHeld ?_; rotate_left 1; focus (intro w' hSw; clear hSw; go_simp; try with_reducible rfl)
                (try simp only [Act.put, zn1, zn2, zn3])
                refine wpAnyH_done (by kernel_rfl) ?_ _
                go_wp2_with fail
                go_ret
                exact ⟨by rw [HW.out]; rfl, lift HB7.out hHeld⟩
end Od
end Go.Proofs.YtbllehjhmfehbaaGreat
end

section
/- (*maker).all: the jobs that are left when none goes any more. (bel2) -/
namespace Go.Proofs.YtbllehjhmfehbaaGreat
open Go.RowKit Go.Sort Go.Maps
set_option linter.unusedSimpArgs false
namespace Od
section
variable {ns : List Nd} {es : List Ed} {up half : List Str} {first : Jp} {gone : List Pl} {n : Nat}
theorem goT_none (h : badP ns es up (pullQ ns es up half first gone) = none) : goT ns es up half first (n + 1) gone = ⟨0, pullQ ns es up half first gone, gone⟩ := by
  show (match badP ns es up (pullQ ns es up half first gone) with | none => _ | some (p, e) => _) = _
  rw [h]
theorem goT_need {p : Pl} {e : Int} (h : badP ns es up (pullQ ns es up half first gone) = some (p, e)) (hn : p.2.2.1 = true) : goT ns es up half first (n + 1) gone = ⟨e, [], []⟩ := by
  show (match badP ns es up (pullQ ns es up half first gone) with | none => _ | some (p, e) => _) = _
  rw [h]; simp only; rw [if_pos hn]
theorem goT_next {p : Pl} {e : Int} (h : badP ns es up (pullQ ns es up half first gone) = some (p, e)) (hn : p.2.2.1 = false) : goT ns es up half first (n + 1) gone = goT ns es up half first n (gone ++ [p]) := by
  show (match badP ns es up (pullQ ns es up half first gone) with | none => _ | some (p, e) => _) = _
  rw [h]; simp only; rw [if_neg (by rw [hn]; simp)]
end
/-- What is left, and what went. -/
def AllT (w : World) (mb : Nat) (T : Tr) (en : Ending) (w' : World) : Prop :=
  ∃ A c, en = .returned (.tuple #[.slice A T.l.length c, .int .i64 T.err]) ∧ w'.ownsRow (mb + 1) 37 4 (.slice A T.l.length c) T.l.length (plsC T.l) ∧ Below mb w w' ∧ (T.err = 0 → ∃ v', MkG w' mb v' T.gone)
set_option maxRecDepth 100000 in
set_option maxHeartbeats 8000000 in
theorem tall_any (mb : Nat) (An Ae Au Ah : Option Addr) (cn ce cu ch : Nat) (ns : List Nd) (es : List Ed) (up half : List Str) (u : Str) (t : Int) (w : World)
    (hF : MkF w mb An Ae Au Ah cn ce cu ch ns es up half u t) (hG : MkG w mb (.slice none 0 0) []) :
    Calls Tryz.prog 64 #[.pointer (some ⟨mb, 0, none⟩)] w (AllT w mb (madeT ns es up half (u, t))) := by
  have HF := Lib.hid hF
  have HG := Lib.hid hG
  have hmb := hF.lt
  have hmw := Nat.le_of_lt hF.lt
  have hnl := hF.ln
  have hel := hF.le
  clear hF hG
  go_enter Tryz.func64, Tryz.ntmps64
  go_wp2_with fail
  refine (wrong_any mb An Ae Au Ah cn ce cu ch ns es up half u t w HF.out).mono ?_
  rintro e w2 ⟨rfl, hb⟩
  have HB2 := Lib.hid hb
  replace HF := Lib.hid (HF.out.on hb)
  replace HG := Lib.hid (HG.out.on hb)
  replace hmb : mb < w2.heap.size := ltAt hmb hb
  clear hb
  have HMd := Lib.hid (show madeT ns es up half (u, t) = if wrongT ns es up (u, t) = 0 then goT ns es up half (u, t) (fuelT es) [] else ⟨wrongT ns es up (u, t), [], []⟩ from rfl)
  generalize madeT ns es up half (u, t) = T at *
  generalize wrongT ns es up (u, t) = we at *
  by_cases hwe : we = 0
  · have HM := Lib.hid (show goT ns es up half (u, t) (fuelT es) [] = T by rw [HMd.out, if_pos hwe])
    subst hwe
    clear HMd
    go_wp2_with fail
    go_loopg [] (fuelT es) (fun g wr => ∃ (gone : List Pl) (v : Value), fuelT es ≤ g + gone.length ∧ Hid (GoneOk es (u, t) gone) ∧ Hid (goT ns es up half (u, t) g gone = T) ∧ Hid (MkF wr mb An Ae Au Ah cn ce cu ch ns es up half u t) ∧ Hid (MkG wr mb v gone) ∧ Hid (Below mb w wr))
    case atStart => exact ⟨[], .slice none 0 0, by simp, GoneOk.nil _ _, HM, HF, HG, HB2.out.mono hmw⟩
    case round =>
      obtain ⟨gone, v, hfu, HOk, HT, HFr, HGr, HBr⟩ := hrel
      obtain ⟨w3, rfl⟩ : ∃ wo : World, wo = wr := ⟨_, rfl⟩
      have hgl := HOk.out.len
      have hgk : ∃ g', gk = g' + 1 := ⟨gk - 1, by unfold fuelT at hfu; omega⟩
      obtain ⟨g', hgk⟩ := hgk
      subst hgk
      have HFu := Lib.hid hfu
      clear hfu
      obtain ⟨Ag, cg, rfl, _⟩ := own_rd HGr.out.row
      have hgon : Rd w3 w3.heap.size 4 Ag gone.length (plsC gone) := own_rd' HGr.out.row
      have HGo := Lib.hid hgon
      have hm3 := HFr.out.lt
      have k0 := HFr.out.c0
      have k1 := HFr.out.c1
      have k2 := HFr.out.c2
      have k3 := HFr.out.c3
      have k4 := HFr.out.c4
      have k5 := HFr.out.c5
      have k6 := HGr.out.c6
      have HGk := Lib.hid (fun p (hp : p ∈ gone) => okJ_cand HFr.out.oke (p.1, p.2.1) (HOk.out.cand p hp))
      clear hgon HF HG
      try go_wp2_with fail
      refine wp_region_held_drew (S := fun w' => Below w3.heap.size w3 w') (by kernel_rfl) (Below.drew (Below.refl _ _)) (fun hHeld => ?_)
      refine tY (i := 0) (v := ?_) rfl ?_ hHeld ?_; rotate_left 1; focus (intro w' hSw; clear hSw; go_simp; try with_reducible rfl)
      (try simp only [Act.put, zn1, zn2, zn3])
      refine tY (i := 1) (v := ?_) rfl ?_ hHeld ?_; rotate_left 1; focus (intro w' hSw; clear hSw; go_simp; try with_reducible rfl)
      (try simp only [Act.put, zn1, zn2, zn3])
      refine tY (i := 2) (v := ?_) rfl ?_ hHeld ?_; rotate_left 1; focus (intro w' hSw; clear hSw; go_simp; try with_reducible rfl)
      (try simp only [Act.put, zn1, zn2, zn3])
      refine tY (i := 3) (v := ?_) rfl ?_ hHeld ?_; rotate_left 1; focus (intro w' hSw; have hCell := fun (b o : Nat) (h : b < w3.heap.size) => hSw.cell (p := ⟨b, o, none⟩) h; clear hSw; go_simp; try with_reducible rfl)
      (try simp only [Act.put, zn1, zn2, zn3])
      refine tY (i := 4) (v := ?_) rfl ?_ hHeld ?_; rotate_left 1; focus (intro w' hSw; clear hSw; go_simp; try with_reducible rfl)
      (try simp only [Act.put, zn1, zn2, zn3])
      refine tY (i := 5) (v := ?_) rfl ?_ hHeld ?_; rotate_left 1; focus (intro w' hSw; clear hSw; go_simp; try with_reducible rfl)
      (try simp only [Act.put, zn1, zn2, zn3])
      refine tY (i := 6) (v := ?_) rfl ?_ hHeld ?_; rotate_left 1; focus (intro w' hSw; clear hSw; go_simp; try with_reducible rfl)
      (try simp only [Act.put, zn1, zn2, zn3])
      refine tY (i := 7) (v := ?_) rfl ?_ hHeld ?_; rotate_left 1; focus (intro w' hSw; have hCell := fun (b o : Nat) (h : b < w3.heap.size) => hSw.cell (p := ⟨b, o, none⟩) h; clear hSw; go_simp; try with_reducible rfl)
      (try simp only [Act.put, zn1, zn2, zn3])
      refine tY (i := 8) (v := ?_) rfl ?_ hHeld ?_; rotate_left 1; focus (intro w' hSw; clear hSw; go_simp; try with_reducible rfl)
      (try simp only [Act.put, zn1, zn2, zn3])
      refine tY (i := 9) (v := ?_) rfl ?_ hHeld ?_; rotate_left 1; focus (intro w' hSw; clear hSw; go_simp; try with_reducible rfl)
      (try simp only [Act.put, zn1, zn2, zn3])
      refine tY (i := 10) (v := ?_) rfl ?_ hHeld ?_; rotate_left 1; focus (intro w' hSw; clear hSw; go_simp; try with_reducible rfl)
      (try simp only [Act.put, zn1, zn2, zn3])
      refine tY (i := 11) (v := ?_) rfl ?_ hHeld ?_; rotate_left 1; focus (intro w' hSw; have hCell := fun (b o : Nat) (h : b < w3.heap.size) => hSw.cell (p := ⟨b, o, none⟩) h; clear hSw; go_simp; try with_reducible rfl)
      (try simp only [Act.put, zn1, zn2, zn3])
      refine tY (i := 12) (v := ?_) rfl ?_ hHeld ?_; rotate_left 1; focus (intro w' hSw; clear hSw; go_simp; try with_reducible rfl)
      (try simp only [Act.put, zn1, zn2, zn3])
      refine tY (i := 13) (v := ?_) rfl ?_ hHeld ?_; rotate_left 1; focus (intro w' hSw; clear hSw; go_simp; try with_reducible rfl)
      (try simp only [Act.put, zn1, zn2, zn3])
      refine tY (i := 14) (v := ?_) rfl ?_ hHeld ?_; rotate_left 1; focus (intro w' hSw; clear hSw; go_simp; try with_reducible rfl)
      (try simp only [Act.put, zn1, zn2, zn3])
      refine tY (i := 15) (v := ?_) rfl ?_ hHeld ?_; rotate_left 1; focus (intro w' hSw; have hCell := fun (b o : Nat) (h : b < w3.heap.size) => hSw.cell (p := ⟨b, o, none⟩) h; clear hSw; go_simp; try with_reducible rfl)
      (try simp only [Act.put, zn1, zn2, zn3])
      refine tY (i := 16) (v := ?_) rfl ?_ hHeld ?_; rotate_left 1; focus (intro w' hSw; clear hSw; go_simp; try with_reducible rfl)
      (try simp only [Act.put, zn1, zn2, zn3])
      refine tY (i := 17) (v := ?_) rfl ?_ hHeld ?_; rotate_left 1; focus (intro w' hSw; clear hSw; go_simp; try with_reducible rfl)
      (try simp only [Act.put, zn1, zn2, zn3])
      refine tY (i := 18) (v := ?_) rfl ?_ hHeld ?_; rotate_left 1; focus (intro w' hSw; clear hSw; go_simp; try with_reducible rfl)
      (try simp only [Act.put, zn1, zn2, zn3])
      refine tY (i := 19) (v := ?_) rfl ?_ hHeld ?_; rotate_left 1; focus (intro w' hSw; have hCell := fun (b o : Nat) (h : b < w3.heap.size) => hSw.cell (p := ⟨b, o, none⟩) h; clear hSw; go_simp; try with_reducible rfl)
      (try simp only [Act.put, zn1, zn2, zn3])
      refine ready_one (i := 20) rfl (by kernel_rfl) (fun K hK => ?_)
      go_simp
      refine (PAll_any An Ae Au Ah Ag cn ce cu ch cg ns es up half gone u t _ (HFr.out.on hHeld).in.1.rn (by omega) (HFr.out.on hHeld).in.1.re (by omega) (HFr.out.on hHeld).in.2.u (HFr.out.on hHeld).in.2.h (HGo.out.at hHeld) (by omega) HFr.out.oke HFr.out.okf HGk.out).mono ?_
      rintro e y1 ⟨A5, c5, rfl, ho5, hb⟩
      have HO5 := Lib.hid (ho5.mono (show mb + 1 ≤ _ by have := hHeld.size; omega))
      clear ho5
      refine hK.out _ _ ?_ (fun hHeld2 => ?_)
      · (try dsimp only); first | exact Below.trans hHeld (Below.mono hb hHeld.size) | exact hHeld | exact Below.drew hHeld | exact (by repeat (first | exact Below.refl _ _ | assumption | refine Below.alloc ?_ (by first | omega | (simp <;> omega)) _ | refine Below.setCell ?_ (by first | omega | (simp <;> omega)) _ | refine Below.drew ?_))
      clear hK K hHeld; have hHeld := hHeld2; clear hHeld2; (try simp only [Act.put, zn1, zn2, zn3])
      refine tY (i := 21) (v := ?_) rfl ?_ hHeld ?_; rotate_left 1; focus (intro w' hSw; clear hSw; go_simp; try with_reducible rfl)
      (try simp only [Act.put, zn1, zn2, zn3])
      refine wpAnyH_done (by kernel_rfl) ?_ _
      have HB5 := Lib.hid (HBr.out.trans (hHeld.mono (Nat.le_of_lt hm3)))
      replace k6 := cellAt k6 hHeld (by omega)
      replace HFr := Lib.hid (HFr.out.on hHeld)
      replace HGr := Lib.hid (HGr.out.on hHeld)
      replace hm3 : mb < y1.heap.size := ltAt hm3 hHeld
      clear hHeld k0 k1 k2 k3 k4 k5
      have hLl := pullQ_len ns es up half (u, t) gone
      have HNo := Lib.hid (fun h => goT_none (ns := ns) (es := es) (up := up) (half := half) (first := (u, t)) (gone := gone) (n := g') h)
      have HNe := Lib.hid (fun (p : Pl) (e : Int) h hn => goT_need (ns := ns) (es := es) (up := up) (half := half) (first := (u, t)) (gone := gone) (n := g') (p := p) (e := e) h hn)
      have HNx := Lib.hid (fun (p : Pl) (e : Int) h hn => goT_next (ns := ns) (es := es) (up := up) (half := half) (first := (u, t)) (gone := gone) (n := g') (p := p) (e := e) h hn)
      have HPu := Lib.hid (fun (p : Pl) hp hn => HOk.out.push (ns := ns) (up := up) (half := half) (p := p) hp hn)
      generalize pullQ ns es up half (u, t) gone = L at *
      go_wp2_with fail
      refine (step_any mb An Ae Au Ah A5 cn ce cu ch c5 ns es up half u t _ gone L y1 HFr.out HGr.out (by omega) (own_rd' HO5.out) (by omega)).mono ?_
      rintro e w5 ⟨r, rfl, hd⟩
      cases hbad : badP ns es up L with
      | none =>
        rw [hbad] at hd
        obtain ⟨rfl, hb⟩ := hd
        have HTe := Lib.hid (HT.out.symm.trans (HNo.out hbad))
        have HB6 := Lib.hid (HB5.out.trans (hb.mono (Nat.le_of_lt hm3)))
        have HO6 := Lib.hid (own_on HO5.out hb)
        replace k6 := cellAt k6 hb (by omega)
        replace HFr := Lib.hid (HFr.out.on hb)
        replace HGr := Lib.hid (HGr.out.on hb)
        replace hm3 : mb < w5.heap.size := ltAt hm3 hb
        clear hb hbad
        go_wp2_with fail
        go_ret2
        rw [HTe.out]
        exact ⟨A5, c5, rfl, HO6.out, HB6.out, fun _ => ⟨_, HGr.out⟩⟩
      | some pe =>
        obtain ⟨p, e⟩ := pe
        rw [hbad] at hd
        rcases hd with ⟨hn, rfl, hb⟩ | ⟨hn, rfl, hb, hF6, v6, hG6⟩
        · have HTe := Lib.hid (HT.out.symm.trans (HNe.out p r hbad hn))
          have hne : (r != 0) = true := by simp [bne, bad_err hbad]
          have HB6 := Lib.hid (HB5.out.trans (hb.mono (Nat.le_of_lt hm3)))
          have HEr := Lib.hid (bad_err hbad)
          clear hb hbad hn
          go_wp2_with fail
          go_ret2
          rw [HTe.out]
          exact ⟨none, 0, rfl, World.ownsRow_nil _ _ _ _, HB6.out, fun h => absurd h HEr.out⟩
        · have HTe := Lib.hid ((HNx.out p e hbad hn).symm.trans HT.out)
          have HP6 := Lib.hid (HPu.out p (bad_mem hbad) (by rw [hn]; simp))
          have HF6 := Lib.hid hF6
          have HG6 := Lib.hid hG6
          have HB6 := Lib.hid (HB5.out.trans hb)
          have j6 := hG6.c6
          obtain ⟨A6, c6, rfl, _⟩ := own_rd hG6.row
          have hm6 := hF6.lt
          have hll : (gone ++ [p]).length = gone.length + 1 := by simp
          rw [hll] at j6
          have hd1 : ((gone.length : Int) + 1 == gone.length) = false := by rw [beq_eq_false_iff_ne]; omega
          clear hbad hn hb hF6 hG6 hll
          go_wp2_with fail
          go_roundg g'
          case measure => omega
          case rel => exact ⟨gone ++ [p], _, by have := HFu.out; simp; omega, HP6, HTe, HF6, HG6, HB6⟩
  · have HTe := Lib.hid (show T = ⟨we, [], []⟩ by rw [HMd.out, if_neg hwe])
    have hne : (we != 0) = true := by simp [bne, hwe]
    have HWe := Lib.hid hwe
    clear hwe HMd
    go_wp2_with fail
    go_ret2
    rw [HTe.out]
    exact ⟨none, 0, rfl, World.ownsRow_nil _ _ _ _, HB2.out.mono hmw, fun h => absurd h HWe.out⟩
end Od
end Go.Proofs.YtbllehjhmfehbaaGreat
end
