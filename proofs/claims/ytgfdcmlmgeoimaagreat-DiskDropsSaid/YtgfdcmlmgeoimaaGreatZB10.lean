/- My texts, joined for the claim: DLinksR DSortC DSortL DLaidM DLaid DLaws. -/
import Derived.Test.YtgfdcmlmgeoimaaGreatZB9
import Derived.Test.YtgfdcmlmgeoimaaGreatZB0
import Derived.Test.YtgfdcmlmgeoimaaGreatZB8
import Derived.Test.YtgfdcmlmgeoimaaGreatZB2

section
/- Links of the reference. (bel2) -/
namespace Go.Proofs.YtgfdcmlmgeoimaaGreat
open Go.RowKit Go.Sort
set_option linter.unusedSimpArgs false
namespace Od
theorem canon_snoc (l : List Str) (x : Str) : canon ltS (l ++ [x]) = addG x false (canon ltS l) := by
  rw [addG_ins (canon_ss toS l)]
  unfold canon
  rw [List.foldl_append]
  rfl
theorem links_at {fs : List Fl} (h : mayFs fs = true) (k : Nat) (u : Str) : linksF fs k u = canon ltS (fs.filterMap (linkF k u)) := by unfold linksF; rw [if_pos h]
set_option maxRecDepth 100000 in
set_option maxHeartbeats 8000000 in
theorem Links12_any (A : Option Addr) (c : Nat) (fs : List Fl) (u : Str) (w : World) (h : FlIn w A fs) (hs : Short fs) : Calls Tryz.prog 15 #[.slice A fs.length c, sv u] w (LinksR fs u w) := by
  have HF := Lib.hid h
  have HS := Lib.hid hs
  have hdf : ∀ e w', LinksR fs u w e w' = ∃ A1 c1 A2 c2, e = .returned (.tuple #[.slice A1 (linksF fs 3 u).length c1, .slice A2 (linksF fs 4 u).length c2]) ∧ Rd w' w'.heap.size 1 A1 (linksF fs 3 u).length (svs (linksF fs 3 u)) ∧ Rd w' w'.heap.size 1 A2 (linksF fs 4 u).length (svs (linksF fs 4 u)) ∧ Below w.heap.size w w' := fun _ _ => rfl
  have HD := Lib.hid hdf
  clear h hs hdf
  cases hm : mayFs fs
  · have h3 := links_nil hm 3 u
    have h4 := links_nil hm 4 u
    have H3 := Lib.hid h3
    have H4 := Lib.hid h4
    clear h3 h4
    go_enter Tryz.func15, Tryz.ntmps15
    go_wp2_with fail
    refine (May12_any A c fs w HF.out HS.out).mono ?_
    rintro e w1 ⟨rfl, hb⟩
    rw [hm]
    have HB := Lib.hid hb
    clear hb
    go_wp2_with fail
    go_ret2
    rw [HD.out, H3.out, H4.out]
    exact ⟨none, 0, none, 0, rfl, Rd.none_, Rd.none_, HB.out⟩
  · have hlen := (mayFs_iff.1 hm).1
    have H3 := Lib.hid (links_at hm 3 u)
    have H4 := Lib.hid (links_at hm 4 u)
    have hl3 : ∀ f : Fl, linkF 3 u f = if (wayS f.1).1 = 3 ∧ (wayS f.1).2.2.1 = u then some (wayS f.1).2.2.2 else none := fun _ => rfl
    have hl4 : ∀ f : Fl, linkF 4 u f = if (wayS f.1).1 = 4 ∧ (wayS f.1).2.2.1 = u then some (wayS f.1).2.2.2 else none := fun _ => rfl
    generalize linksF fs 3 u = L3 at *
    generalize linksF fs 4 u = L4 at *
    generalize linkF 3 u = F3 at *
    generalize linkF 4 u = F4 at *
    go_enter Tryz.func15, Tryz.ntmps15
    go_wp2_with fail
    refine (May12_any A c fs w HF.out HS.out).mono ?_
    rintro e w1 ⟨rfl, hb⟩
    rw [hm]
    have HB := Lib.hid hb
    have HF1 := Lib.hid (HF.out.at hb)
    clear hb
    go_wp2_with fail
    go_loopw [6, 7, 16] (fun v v2 i wr => ∃ (k : Nat) (A1 : Option Addr) (c1 : Nat) (A2 : Option Addr) (c2 : Nat), k ≤ fs.length ∧ v = .slice A1 (canon ltS ((fs.take k).filterMap F3)).length c1 ∧ v2 = .slice A2 (canon ltS ((fs.take k).filterMap F4)).length c2 ∧ i = .int .i64 k ∧ Hid (Rd wr wr.heap.size 1 A1 (canon ltS ((fs.take k).filterMap F3)).length (svs (canon ltS ((fs.take k).filterMap F3)))) ∧ Hid (Rd wr wr.heap.size 1 A2 (canon ltS ((fs.take k).filterMap F4)).length (svs (canon ltS ((fs.take k).filterMap F4)))) ∧ Hid (Below w1.heap.size w1 wr)) (fun _ _ i _ => fs.length - (intOf i).toNat)
    case atStart => exact ⟨0, none, 0, none, 0, Nat.zero_le _, rfl, rfl, rfl, Rd.none_, Rd.none_, Below.refl _ _⟩
    case round =>
      obtain ⟨k, A1, c1, A2, c2, hk, rfl, rfl, rfl, HR1, HR2, HBk⟩ := hrel
      obtain ⟨w6, rfl⟩ : ∃ wo : World, wo = wr := ⟨_, rfl⟩
      have hz6 := HBk.out.size
      by_cases hlt : k < fs.length
      · obtain ⟨b2, o2, hA, hB2, x0, x1, x2⟩ := (HF1.out.at HBk.out).rd.fl hlt
        have ht3 := filterMap_take (F := F3) hlt
        have ht4 := filterMap_take (F := F4) hlt
        have hsh := HS.out _ (List.getElem_mem hlt)
        have hq3 := hl3 fs[k]
        have hq4 := hl4 fs[k]
        subst hA
        have hlO3 : ((fs.take k).filterMap F3).length ≤ 120 := Nat.le_trans (List.length_filterMap_le _ _) (by rw [List.length_take]; omega)
        have hlO4 : ((fs.take k).filterMap F4).length ≤ 120 := Nat.le_trans (List.length_filterMap_le _ _) (by rw [List.length_take]; omega)
        generalize fs[k] = p at x0 x1 x2 ht3 ht4 hsh hq3 hq4
        obtain ⟨s, t, l⟩ := p
        simp only at x0 x1 x2 hsh hq3 hq4
        have hpa := fun W => Path_any s W hsh
        rcases hx : wayS s with ⟨kd, pl, un, ot⟩
        rw [hx] at hpa hq3 hq4
        simp only at hq3 hq4
        have hn3 := canon_snoc ((fs.take k).filterMap F3)
        have hn4 := canon_snoc ((fs.take k).filterMap F4)
        generalize F3 (s, t, l) = f3 at ht3 hq3
        generalize F4 (s, t, l) = f4 at ht4 hq4
        generalize hO3 : (fs.take k).filterMap F3 = O3 at *
        generalize hO4 : (fs.take k).filterMap F4 = O4 at *
        have hc3 := canon_len (lt := ltS) O3
        have hc4 := canon_len (lt := ltS) O4
        generalize hC3 : canon ltS O3 = C3 at *
        generalize hC4 : canon ltS O4 = C4 at *
        have HC3 := Lib.hid hC3
        have HC4 := Lib.hid hC4
        clear hC3 hC4
        have HT3 := Lib.hid ht3
        have HT4 := Lib.hid ht4
        have HQ3 := Lib.hid hq3
        have HQ4 := Lib.hid hq4
        have HN3 := Lib.hid hn3
        have HN4 := Lib.hid hn4
        have i1 : (0 : Int) ≤ (k : Int) := by omega
        have i2 : (k : Int) < (fs.length : Int) := by omega
        clear hx ht3 ht4 hq3 hq4 hn3 hn4 hO3 hO4
        go_wp2_with fail
        first | (refine wp_named ?_; intro W7 hW) | (refine calls_named ?_; intro W7 hW) | (refine exit_named ?_; intro W7 hW)
        have B7 : Below w6.heap.size w6 W7 := by rw [hW]; exact (by repeat (first | exact Below.refl _ _ | assumption | refine Below.alloc ?_ (by first | omega | (simp <;> omega)) _ | refine Below.setCell ?_ (by first | omega | (simp <;> omega)) _ | refine Below.drew ?_))
        replace HR1 := Lib.hid (HR1.out.at B7)
        replace HR2 := Lib.hid (HR2.out.at B7)
        have m7 : w6.heap.size < W7.heap.size := by rw [hW]; simp <;> omega
        clear hW
        have HB7 := Lib.hid (lift HBk.out B7)
        clear B7 x0 x1 x2
        refine (hpa W7).mono ?_
        rintro e w8 ⟨rfl, hb⟩
        replace HR1 := Lib.hid (HR1.out.at hb)
        replace HR2 := Lib.hid (HR2.out.at hb)
        replace m7 : w6.heap.size < w8.heap.size := ltAt m7 hb
        have HB8 := Lib.hid (lift HB7.out hb)
        clear hb hpa
        go_upto_region 8 with fail
        first | (refine wp_named ?_; intro W9 hW) | (refine calls_named ?_; intro W9 hW) | (refine exit_named ?_; intro W9 hW)
        have B9 : Below w8.heap.size w8 W9 := by rw [hW]; exact (by repeat (first | exact Below.refl _ _ | assumption | refine Below.alloc ?_ (by first | omega | (simp <;> omega)) _ | refine Below.setCell ?_ (by first | omega | (simp <;> omega)) _ | refine Below.drew ?_))
        replace HR1 := Lib.hid (HR1.out.at B9)
        replace HR2 := Lib.hid (HR2.out.at B9)
        replace m7 : w6.heap.size < W9.heap.size := ltAt m7 B9
        have m9 : w8.heap.size < W9.heap.size := by rw [hW]; simp <;> omega
        have y0 : W9.cell? ⟨w8.heap.size, 0, none⟩ = some (.int .i64 kd) := by rw [hW]; go_simp
        have y2 : W9.cell? ⟨w8.heap.size, 2, none⟩ = some (sv un) := by rw [hW]; go_simp
        have y3 : W9.cell? ⟨w8.heap.size, 3, none⟩ = some (sv ot) := by rw [hW]; go_simp
        clear hW
        have HB9 := Lib.hid (lift HB8.out B9)
        clear B9
        by_cases h3 : kd = 3
        · have b3 : ((kd : Int) == 3) = true := by rw [beq_iff_eq]; omega
          have b4 : ((kd : Int) == 4) = false := by rw [beq_eq_false_iff_ne]; omega
          cases hu : (un == u)
          · have hun : un ≠ u := by simpa using hu
            have hx3 : ¬ (kd = 3 ∧ un = u) := fun e => hun e.2
            have hx4 : ¬ (kd = 4 ∧ un = u) := fun e => hun e.2
            have E3 := Lib.hid (show canon ltS ((fs.take (k + 1)).filterMap F3) = C3 by rw [HT3.out, HQ3.out, if_neg hx3]; simpa using HC3.out)
            have E4 := Lib.hid (show canon ltS ((fs.take (k + 1)).filterMap F4) = C4 by rw [HT4.out, HQ4.out, if_neg hx4]; simpa using HC4.out)
            clear HT3 HT4 HQ3 HQ4 HN3 HN4 HC3 HC4
            go_wp2_with fail
            go_roundw
            case rel => exact ⟨k + 1, A1, c1, A2, c2, by omega, by rw [E3.out], by rw [E4.out], by go_num, by rw [E3.out]; exact HR1.out, by rw [E4.out]; exact HR2.out, HB9.out⟩
            case measure => simp [intOf]; omega
          · have hun : un = u := by simpa using hu
            have hx4 : ¬ (kd = 4 ∧ un = u) := fun e => by omega
            have E3 := Lib.hid (show canon ltS ((fs.take (k + 1)).filterMap F3) = addG ot false C3 by rw [HT3.out, HQ3.out, if_pos ⟨h3, hun⟩]; exact HN3.out ot)
            have E4 := Lib.hid (show canon ltS ((fs.take (k + 1)).filterMap F4) = C4 by rw [HT4.out, HQ4.out, if_neg hx4]; simpa using HC4.out)
            clear HT3 HT4 HQ3 HQ4 HN3 HN4 HC3 HC4
            go_wp2_with fail
            refine (add_any A1 c1 C3 ot W9 HR1.out (by omega)).mono ?_
            rintro e w10 ⟨A5, c5, rfl, ho, hb⟩
            have HR5 := Lib.hid (own_rd' ho)
            have HR6 := Lib.hid (HR2.out.at hb)
            have HB10 := Lib.hid (lift HB9.out hb)
            replace y0 := cellAt y0 hb (by omega)
            replace y2 := cellAt y2 hb (by omega)
            replace y3 := cellAt y3 hb (by omega)
            replace HR1 := Lib.hid (HR1.out.at hb)
            replace HR2 := Lib.hid (HR2.out.at hb)
            replace m7 : w6.heap.size < w10.heap.size := ltAt m7 hb
            replace m9 : w8.heap.size < w10.heap.size := ltAt m9 hb
            clear hb ho
            go_wp2_with fail
            go_roundw
            case rel => exact ⟨k + 1, A5, c5, A2, c2, by omega, by rw [E3.out], by rw [E4.out], by go_num, by rw [E3.out]; exact HR5.out, by rw [E4.out]; exact HR6.out, HB10.out⟩
            case measure => simp [intOf]; omega
        · have b3 : ((kd : Int) == 3) = false := by rw [beq_eq_false_iff_ne]; omega
          have hx3 : ¬ (kd = 3 ∧ un = u) := fun e => h3 e.1
          by_cases h4 : kd = 4
          · have b4 : ((kd : Int) == 4) = true := by rw [beq_iff_eq]; omega
            cases hu : (un == u)
            · have hun : un ≠ u := by simpa using hu
              have hx4 : ¬ (kd = 4 ∧ un = u) := fun e => hun e.2
              have E3 := Lib.hid (show canon ltS ((fs.take (k + 1)).filterMap F3) = C3 by rw [HT3.out, HQ3.out, if_neg hx3]; simpa using HC3.out)
              have E4 := Lib.hid (show canon ltS ((fs.take (k + 1)).filterMap F4) = C4 by rw [HT4.out, HQ4.out, if_neg hx4]; simpa using HC4.out)
              clear HT3 HT4 HQ3 HQ4 HN3 HN4 HC3 HC4
              go_wp2_with fail
              go_roundw
              case rel => exact ⟨k + 1, A1, c1, A2, c2, by omega, by rw [E3.out], by rw [E4.out], by go_num, by rw [E3.out]; exact HR1.out, by rw [E4.out]; exact HR2.out, HB9.out⟩
              case measure => simp [intOf]; omega
            · have hun : un = u := by simpa using hu
              have E3 := Lib.hid (show canon ltS ((fs.take (k + 1)).filterMap F3) = C3 by rw [HT3.out, HQ3.out, if_neg hx3]; simpa using HC3.out)
              have E4 := Lib.hid (show canon ltS ((fs.take (k + 1)).filterMap F4) = addG ot false C4 by rw [HT4.out, HQ4.out, if_pos ⟨h4, hun⟩]; exact HN4.out ot)
              clear HT3 HT4 HQ3 HQ4 HN3 HN4 HC3 HC4
              go_wp2_with fail
              refine (add_any A2 c2 C4 ot W9 HR2.out (by omega)).mono ?_
              rintro e w10 ⟨A5, c5, rfl, ho, hb⟩
              have HR5 := Lib.hid (own_rd' ho)
              have HR6 := Lib.hid (HR1.out.at hb)
              have HB10 := Lib.hid (lift HB9.out hb)
              replace y0 := cellAt y0 hb (by omega)
              replace y2 := cellAt y2 hb (by omega)
              replace y3 := cellAt y3 hb (by omega)
              replace HR1 := Lib.hid (HR1.out.at hb)
              replace HR2 := Lib.hid (HR2.out.at hb)
              replace m7 : w6.heap.size < w10.heap.size := ltAt m7 hb
              replace m9 : w8.heap.size < w10.heap.size := ltAt m9 hb
              clear hb ho
              go_wp2_with fail
              go_roundw
              case rel => exact ⟨k + 1, A1, c1, A5, c5, by omega, by rw [E3.out], by rw [E4.out], by go_num, by rw [E3.out]; exact HR6.out, by rw [E4.out]; exact HR5.out, HB10.out⟩
              case measure => simp [intOf]; omega
          · have b4 : ((kd : Int) == 4) = false := by rw [beq_eq_false_iff_ne]; omega
            have hx4 : ¬ (kd = 4 ∧ un = u) := fun e => h4 e.1
            have E3 := Lib.hid (show canon ltS ((fs.take (k + 1)).filterMap F3) = C3 by rw [HT3.out, HQ3.out, if_neg hx3]; simpa using HC3.out)
            have E4 := Lib.hid (show canon ltS ((fs.take (k + 1)).filterMap F4) = C4 by rw [HT4.out, HQ4.out, if_neg hx4]; simpa using HC4.out)
            clear HT3 HT4 HQ3 HQ4 HN3 HN4 HC3 HC4
            go_wp2_with fail
            go_roundw
            case rel => exact ⟨k + 1, A1, c1, A2, c2, by omega, by rw [E3.out], by rw [E4.out], by go_num, by rw [E3.out]; exact HR1.out, by rw [E4.out]; exact HR2.out, HB9.out⟩
            case measure => simp [intOf]; omega
      · obtain rfl : k = fs.length := by omega
        rw [List.take_length] at HR1 HR2 ⊢
        try rw [List.take_length]
        rw [← H3.out] at HR1 ⊢
        rw [← H4.out] at HR2 ⊢
        have HBz := Lib.hid (lift HB.out HBk.out)
        go_wp2_with fail
        go_ret2
        rw [HD.out]
        exact ⟨A1, c1, A2, c2, rfl, HR1.out, HR2.out, HBz.out⟩
end Od
end Go.Proofs.YtgfdcmlmgeoimaaGreat
end

section
/- The comparison by which disk.laid sorts. (bel2) -/
namespace Go.Proofs.YtgfdcmlmgeoimaaGreat
open Go.RowKit Go.Sort
set_option linter.unusedSimpArgs false
namespace Od
/-- A name without what it ends in. -/
def trimT (n : Str) : Str := Lib.trimSuffix n confS
def cmpT (a b : Str) : Int := Lib.compareBytes (trimT a) (trimT b)
theorem TrimSuffix_any (s e : Str) (w : World) (hl : s.length ≤ 140737488355328) : Calls Tryz.prog 51 #[sv s, sv e] w fun en w' => en = .returned (sv (Lib.trimSuffix s e)) ∧ w = w' :=
  (Tryz.strings_TrimSuffix ⟨s.toArray⟩ ⟨e.toArray⟩ w (by show s.length ≤ _; omega)).mono fun _ _ ⟨h1, h2⟩ => ⟨h1, h2.symm⟩
theorem Compare_any (a b : Str) (w : World) : Calls Tryz.prog 50 #[sv a, sv b] w fun en w' => en = .returned (.int .i64 (Lib.compareBytes a b)) ∧ w = w' :=
  (Tryz.strings_Compare ⟨a.toArray⟩ ⟨b.toArray⟩ w).mono fun _ _ ⟨h1, h2⟩ => ⟨h1, h2.symm⟩
set_option maxHeartbeats 1000000 in
theorem laid1_any (a b : Str) (w : World) (ha : a.length ≤ 140737488355328) (hb : b.length ≤ 140737488355328) : Calls Tryz.prog 49 #[sv a, sv b] w fun e w' => e = .returned (.int .i64 (cmpT a b)) ∧ w = w' := by
  have h1 := Lib.hid (fun W => TrimSuffix_any a confS W ha)
  have h2 := Lib.hid (fun W => TrimSuffix_any b confS W hb)
  have hc := Lib.hid (show cmpT a b = Lib.compareBytes (Lib.trimSuffix a confS) (Lib.trimSuffix b confS) from rfl)
  generalize Lib.trimSuffix a confS = ta at *
  generalize Lib.trimSuffix b confS = tb at *
  go_enter Tryz.func49, Tryz.ntmps49
  go_wp2_with fail
  refine (h1.out w).mono ?_
  rintro e w1 ⟨rfl, rfl⟩
  go_wp2_with fail
  refine (h2.out w).mono ?_
  rintro e w1 ⟨rfl, rfl⟩
  go_wp2_with fail
  refine (Compare_any ta tb w).mono ?_
  rintro e w1 ⟨rfl, rfl⟩
  go_wp2_with fail
  go_ret
  exact ⟨by rw [hc.out]; rfl, rfl⟩
theorem cmp_lt : ∀ a b : Str, decide (Lib.compareBytes a b < 0) = ltS a b
  | [], [] => by decide
  | [], y :: b => by
    have h1 : ltS [] (y :: b) = true := by rw [ltS_iff]; exact List.nil_lt_cons y b
    rw [h1]; rfl
  | x :: a, [] => by
    have h1 : ltS (x :: a) [] = false := by rw [ltS_false]; exact List.not_lt_nil _
    rw [h1]; rfl
  | x :: a, y :: b => by
    have ih := cmp_lt a b
    unfold Lib.compareBytes
    by_cases h1 : x < y
    · have h2 : ltS (x :: a) (y :: b) = true := by rw [ltS_iff]; exact List.cons_lt_cons_iff.2 (.inl h1)
      rw [if_pos h1, h2]; rfl
    · by_cases h3 : y < x
      · have h2 : ltS (x :: a) (y :: b) = false := by
          rw [ltS_false, List.cons_lt_cons_iff]
          rintro (h | ⟨h, _⟩)
          · exact h1 h
          · subst h; exact h1 h3
        rw [if_neg h1, if_pos h3, h2]; rfl
      · have hxy : x = y := by
          have a1 := UInt8.not_lt.1 h1
          have a2 := UInt8.not_lt.1 h3
          exact UInt8.le_antisymm a2 a1
        subst hxy
        rw [if_neg h1, if_neg h1, ih]
        rw [Bool.eq_iff_iff, ltS_iff, ltS_iff, List.cons_lt_cons_iff]
        constructor
        · intro h; exact .inr ⟨rfl, h⟩
        · rintro (h | ⟨_, h⟩)
          · exact absurd h h1
          · exact h
theorem cmpT_lt (a b : Str) : ltOf cmpT a b = ltS (trimT a) (trimT b) := cmp_lt _ _
theorem swoT : SWO (ltOf cmpT) where
  irrefl x := by rw [cmpT_lt]; exact toS.irrefl _
  trans x y z h1 h2 := by rw [cmpT_lt] at *; exact toS.trans h1 h2
  ntrans x y z h1 h2 := by
    rw [cmpT_lt] at *
    cases h3 : ltS (trimT x) (trimT z)
    · rfl
    · cases h4 : ltS (trimT y) (trimT x)
      · have := toS.total h1 h4
        rw [this, h2] at h3; cases h3
      · have := toS.trans h4 h3
        rw [this] at h2; cases h2
theorem trimT_conf {x : Str} : trimT (x ++ confS) = x := by
  unfold trimT Lib.trimSuffix
  have hs : Lib.hasSuffix (x ++ confS) confS = true := by
    unfold Lib.hasSuffix
    rw [List.isSuffixOf_iff_suffix]
    exact ⟨x, rfl⟩
  rw [hs, if_pos rfl]
  simp
end Od
end Go.Proofs.YtgfdcmlmgeoimaaGreat
end

section
/- The sort of disk.laid: a row of names that all end alike, sorted by what stands ahead of the end. (bel2) -/
namespace Go.Proofs.YtgfdcmlmgeoimaaGreat
open Go.RowKit Go.Sort
set_option linter.unusedSimpArgs false
namespace Od
/-- What stands ahead of the end. -/
abbrev Xt := {x : Str // x.length ≤ 1000000000000}
instance : Inhabited Xt := ⟨⟨[], by simp⟩⟩
def cfX (x : Xt) : Str := x.1 ++ confS
def encX (x : Xt) : Value := sv (cfX x)
def cmpX (x y : Xt) : Int := Lib.compareBytes x.1 y.1
theorem cmpX_cf (x y : Xt) : cmpT (cfX x) (cfX y) = cmpX x y := by unfold cmpT cfX cmpX; rw [trimT_conf, trimT_conf]
theorem cmpX_lt (x y : Xt) : ltOf cmpX x y = ltS x.1 y.1 := cmp_lt _ _
theorem swoX : SWO (ltOf cmpX) where
  irrefl x := by rw [cmpX_lt]; exact toS.irrefl _
  trans x y z h1 h2 := by rw [cmpX_lt] at *; exact toS.trans h1 h2
  ntrans x y z h1 h2 := by
    rw [cmpX_lt] at *
    cases h3 : ltS x.1 z.1
    · rfl
    · cases h4 : ltS y.1 x.1
      · have := toS.total h1 h4
        rw [this, h2] at h3; cases h3
      · have := toS.trans h4 h3
        rw [this] at h2; cases h2
def sortX (xs : List Xt) : List Xt := xs.mergeSort fun x y => !(ltOf cmpX) y x
theorem sortX_len (xs : List Xt) : (sortX xs).length = xs.length := by simp [sortX]
theorem sortX_perm (xs : List Xt) : (sortX xs).Perm xs := List.mergeSort_perm _ _
theorem sortX_le (xs : List Xt) : (sortX xs).Pairwise fun x y => ltS y.1 x.1 = false := by
  have h := List.pairwise_mergeSort (le := fun x y : Xt => !(ltOf cmpX) y x) (fun a b c h1 h2 => by
    simp only [Bool.not_eq_true'] at *
    exact swoX.ntrans _ _ _ h2 h1) (fun a b => by
    cases h1 : ltOf cmpX b a
    · simp
    · cases h2 : ltOf cmpX a b
      · simp
      · have := swoX.trans _ _ _ h1 h2; rw [swoX.irrefl] at this; cases this) xs
  exact h.imp fun {a b} hab => by rw [← cmpX_lt]; simpa using hab
theorem putRow_X (w : World) (g : Nat) (xs : List Xt) : putRow encX w g 0 xs.toArray = putRow encStr w g 0 (xs.map cfX).toArray := by
  unfold putRow
  congr 1
  funext c
  unfold putCells
  congr 1
  funext k x
  simp only [List.size_toArray, List.length_map, Nat.zero_le, true_and, Nat.zero_add, Nat.sub_zero]
  by_cases hk : k < xs.length
  · simp [hk, encX, encStr_sv]
  · simp [hk]
theorem holds_X {w : World} {g : Nat} {xs : List Xt} (h : Holds encStr w g 0 (xs.map cfX).toArray) : Holds encX w g 0 xs.toArray := by
  intro j hj
  have hj' : j < xs.length := by simpa using hj
  have h1 := h j (by simpa using hj')
  have e : encX xs.toArray[j]! = encStr (xs.map cfX).toArray[j]! := by simp [hj', encX, encStr_sv]
  rw [e]
  exact h1
theorem one_X : OneCell encX := fun _ => rfl
set_option maxHeartbeats 1000000 in
theorem sortX_own (base c : Nat) (A : Option Addr) (xs : List Xt) (w : World) (h : w.ownsRow base 9 1 (.slice A xs.length c) xs.length (svs (xs.map cfX))) (hsz : xs.length < 4611686018427387904) :
    Calls Tryz.prog 48 #[.slice A xs.length c, .func (.func 49) #[] #[]] w fun e w' => e = .returned (.tuple #[]) ∧ w'.ownsRow base 9 1 (.slice A xs.length c) xs.length (svs ((sortX xs).map cfX)) ∧ w.grownBy w' (Value.slice A xs.length c).ownBlock := by
  rcases h.2 with ⟨hv, hn⟩ | ⟨g, cap, cur, hv, hg, hb, h1, h2, h3, h4⟩
  · have hnil : xs = [] := List.length_eq_zero_iff.1 hn
    subst hnil
    refine (Tryz.slices_SortFunc_none (α := Str) A c _ w).mono ?_
    rintro e w' ⟨rfl, rfl⟩
    exact ⟨rfl, by simpa [sortX] using h, World.grownBy.refl _ _⟩
  · injection hv with e1 _ e3
    subst e1 e3
    have hgl : g < w.heap.size := (Array.getElem?_eq_some_iff.1 hb).1
    have hlen : (xs.map cfX).length = xs.length := by simp
    have eg : ∀ args w, (callFunc 49 args).run Tryz.prog w = .ok (.enter 49 args) w := enters_of Tryz.func49 (by kernel_rfl) rfl
    have hH : Holds encX w g 0 xs.toArray := holds_X (holds_of_block hb (by rw [hlen]; rw [Nat.mul_one] at h4; exact h4))
    have hcmp : CmpLays1 Tryz.prog 49 #[] encX cmpX g 0 xs.toArray.size w := fun m os dk _ x y => by
      refine (laid1_any (cfX x) (cfX y) _ (by have := x.2; simp [cfX, confS]; omega) (by have := y.2; simp [cfX, confS]; omega)).mono ?_
      rintro e w' ⟨rfl, rfl⟩
      exact ⟨by rw [cmpX_cf], 0, #[], by rw [grow_empty]; rfl⟩
    have hcon := Tryz.slices_SortFunc_total encX one_X cmpX swoX 49 #[] g 0 c xs.toArray w eg hcmp hH hgl (by simpa using hsz)
      (by intro x y hx hy; rw [cmpX_lt] at hx hy; exact Subtype.ext (toS.total hx hy))
    simp only [List.size_toArray] at hcon
    refine hcon.mono ?_
    rintro e w' ⟨rfl, n, os, rfl⟩
    unfold sortWorld
    rw [putRow_X]
    have hs := ownsRow_sorted (w := w) (n := n) (os := os) (ss := xs.map cfX) (ts := (sortX xs).map cfX) (by simp [sortX_len]) hg hb (by simpa using h1) h2 h3
    rw [hlen] at hs
    exact ⟨rfl, hs, grownBy_sorted _⟩
end Od
end Go.Proofs.YtgfdcmlmgeoimaaGreat
end

section
/- What disk.laid gathers: names and the best path of each; no program. (bel2) -/
namespace Go.Proofs.YtgfdcmlmgeoimaaGreat
open Go.RowKit Go.Sort
set_option linter.unusedSimpArgs false
namespace Od
abbrev Cn := Str × Str
/-- The names gathered, each once. -/
def nmC (C : List Cn) : List Str := dedK (C.map (·.1))
/-- What the map holds. -/
def bestV (C : List Cn) (s : Str) : Option Value := (C.find? (fun c => c.1 == s)).map fun c => sv c.2
theorem bestV_nil : bestV [] = fun _ => none := rfl
theorem nm_mem {C : List Cn} {n : Str} : n ∈ nmC C ↔ n ∈ C.map (·.1) := (dedK_mem_nodup _).1 n
theorem nm_snoc (C : List Cn) (n p : Str) : nmC (C ++ [(n, p)]) = if n ∈ nmC C then nmC C else nmC C ++ [n] := by
  unfold nmC
  rw [List.map_append]
  exact dedK_snoc _ n
theorem nm_len (C : List Cn) : (nmC C).length ≤ C.length := by
  have h : ∀ l : List Str, (dedK l).length ≤ l.length := fun l => by
    have h1 := (dedK_mem_nodup l).2
    have h2 : (dedK l) ⊆ l := fun n hn => ((dedK_mem_nodup l).1 n).1 hn
    exact h1.length_le_of_subset h2
  exact Nat.le_trans (h _) (by simp)
theorem bestV_app (C : List Cn) (n p : Str) (s : Str) : bestV (C ++ [(n, p)]) s = (bestV C s).or (if s = n then some (sv p) else none) := by
  unfold bestV
  rw [List.find?_append]
  cases C.find? (fun c => c.1 == s) with
  | some c => rfl
  | none =>
    by_cases h : s = n
    · subst h; simp
    · have h' : ¬ n = s := fun e => h e.symm
      simp [h, h']
theorem bestV_mem {C : List Cn} {n : Str} (h : n ∈ nmC C) : ∃ p, (n, p) ∈ C ∧ bestV C n = some (sv p) ∧ bestC C n = p := by
  have h1 := nm_mem.1 h
  obtain ⟨c, hc, e⟩ := List.mem_map.1 h1
  unfold bestV bestC
  cases hf : C.find? (fun c => c.1 == n) with
  | none => exact absurd (List.find?_eq_none.1 hf c hc) (by simp [e])
  | some d =>
    have hd := List.find?_some hf
    have hd' : d.1 = n := by simpa using hd
    exact ⟨d.2, by rw [← hd']; exact List.mem_of_find?_eq_some hf, rfl, rfl⟩
theorem bestV_not {C : List Cn} {n : Str} (h : n ∉ nmC C) : bestV C n = none := by
  unfold bestV
  rw [Option.map_eq_none_iff, List.find?_eq_none]
  intro c hc e
  exact h (nm_mem.2 (List.mem_map.2 ⟨c, hc, by simpa using e⟩))
theorem bestV_old {C : List Cn} {n p : Str} (h : n ∈ nmC C) : bestV (C ++ [(n, p)]) = bestV C := by
  funext s
  rw [bestV_app]
  by_cases e : s = n
  · subst e
    obtain ⟨q, _, hq, _⟩ := bestV_mem h
    rw [hq]; rfl
  · rw [if_neg e]; simp
theorem bestV_new {C : List Cn} {n p : Str} (h : n ∉ nmC C) : (fun y => if y = n then some (sv p) else bestV C y) = bestV (C ++ [(n, p)]) := by
  funext s
  rw [bestV_app]
  by_cases e : s = n
  · subst e
    rw [bestV_not h, if_pos rfl]; rfl
  · rw [if_neg e, if_neg e]; simp
/-- What may be gathered. -/
def OkC (C : List Cn) : Prop := ∀ c ∈ C, c.2 ≠ []
theorem OkC.nil : OkC [] := fun _ h => by cases h
theorem OkC.app {C D : List Cn} (h : OkC C) (h' : OkC D) : OkC (C ++ D) := fun c hc => (List.mem_append.1 hc).elim (h c) (h' c)
theorem splP_nil_folder : ¬ (splP []).1.2.2.1 = dropsS := by decide
theorem candF_ok {v p : Str} {f : Fl} {c : Cn} (h : candF v p f = some c) : c.2 ≠ [] := by
  unfold candF at h
  split at h
  · rename_i hc
    injection h with h
    subst h
    intro e
    have e' : f.1 = [] := e
    rw [e'] at hc
    exact splP_nil_folder hc.1
  · cases h
theorem OkC.one {v p : Str} {f : Fl} {c : Cn} (h : candF v p f = some c) : OkC [c] := fun d hd => by rw [List.mem_singleton.1 hd]; exact candF_ok h
def cL3 (fs : List Fl) (v p : Str) (i : Nat) : List Cn := (fs.take i).filterMap (candF v p)
def cL2 (fs : List Fl) (v : Str) (j : Nat) : List Cn := (placesL.take j).flatMap fun p => cL3 fs v p fs.length
def cL1 (fs : List Fl) (u : Str) (k : Nat) : List Cn := ((whoP u).take k).flatMap fun v => cL2 fs v placesL.length
theorem flat_take {α β : Type} {F : α → List β} {l : List α} {k : Nat} (hk : k < l.length) : (l.take (k + 1)).flatMap F = (l.take k).flatMap F ++ F l[k] := by
  rw [List.take_succ_eq_append_getElem hk, List.flatMap_append, List.flatMap_cons, List.flatMap_nil, List.append_nil]
theorem cL2_succ (fs : List Fl) (v : Str) {j : Nat} (hj : j < placesL.length) : cL2 fs v (j + 1) = cL2 fs v j ++ cL3 fs v placesL[j] fs.length := flat_take hj
theorem cL1_succ (fs : List Fl) (u : Str) {k : Nat} (hk : k < (whoP u).length) : cL1 fs u (k + 1) = cL1 fs u k ++ cL2 fs (whoP u)[k] placesL.length := flat_take hk
theorem cL1_all (fs : List Fl) (u : Str) : cL1 fs u (whoP u).length = candsF fs u := by
  unfold cL1 candsF cL2 cL3
  simp only [List.take_length]
theorem cL3_succ (fs : List Fl) (v p : Str) {i : Nat} (hi : i < fs.length) : cL3 fs v p (i + 1) = cL3 fs v p i ++ (candF v p fs[i]).toList := filterMap_take hi
theorem cL3_zero (fs : List Fl) (v p : Str) : cL3 fs v p 0 = [] := rfl
theorem cL2_zero (fs : List Fl) (v : Str) : cL2 fs v 0 = [] := rfl
theorem cL1_zero (fs : List Fl) (u : Str) : cL1 fs u 0 = [] := rfl
theorem cand_conf {fs : List Fl} (h : mayFs fs = true) {u n : Str} (hn : n ∈ nmC (candsF fs u)) : ∃ x : Xt, n = cfX x ∧ x.1 ≠ [] := by
  obtain ⟨⟨m, q⟩, hc, rfl⟩ := List.mem_map.1 (nm_mem.1 hn)
  unfold candsF at hc
  simp only [List.mem_flatMap, List.mem_filterMap] at hc
  obtain ⟨v, hv, p, hpp, f, hf, he⟩ := hc
  obtain ⟨y, e1, _, _, e2, _⟩ := (cand_iff h hpp hf).1 he
  rcases may_cases ((mayFs_iff.1 h).2.1 f hf) with ⟨_, _, _, e3, _⟩ | ⟨_, _, z, _, e3, _, _, hz, _⟩ | ⟨_, _, _, _, _, e3, _, _, hj, _⟩
  · rw [e2] at e3; injection e3 with a _; omega
  · rw [e2] at e3
    injection e3 with _ e3
    injection e3 with _ e3
    injection e3 with _ e3
    subst e3
    unfold dropN at hz
    simp only [Bool.and_eq_true, Bool.not_eq_true', beq_eq_false_iff_ne, ne_eq, decide_eq_false_iff_not] at hz
    exact ⟨⟨y, by omega⟩, e1, hz.1⟩
  · rw [e2] at e3; injection e3 with a _; omega
theorem all_X : ∀ {N : List Str}, (∀ n ∈ N, ∃ x : Xt, n = cfX x ∧ x.1 ≠ []) → ∃ xs : List Xt, N = xs.map cfX ∧ ∀ x ∈ xs, x.1 ≠ []
  | [], _ => ⟨[], rfl, fun _ h => by cases h⟩
  | n :: N, h => by
    obtain ⟨x, rfl, hx⟩ := h n (.head _)
    obtain ⟨xs, rfl, hxs⟩ := all_X (N := N) fun m hm => h m (.tail _ hm)
    exact ⟨x :: xs, rfl, fun y hy => by rcases List.mem_cons.1 hy with rfl | hy; exact hx; exact hxs y hy⟩
theorem trimC_cf {x : Xt} (h : x.1 ≠ []) : trimC (cfX x) = x.1 := by unfold trimC cfX; rw [endsW_some.2 ⟨rfl, h⟩]; rfl
theorem laid_sorted {fs : List Fl} (h : mayFs fs = true) {u : Str} (hu : kindS u ≠ 0) {xs : List Xt} (hN : nmC (candsF fs u) = xs.map cfX) (hx : ∀ x ∈ xs, x.1 ≠ []) : ((sortX xs).map cfX).map (bestC (candsF fs u)) = dropsF fs u := by
  refine laid_eq h hu ?_ ?_
  · show ((sortX xs).map cfX).Perm (nmC (candsF fs u))
    rw [hN]
    exact (sortX_perm xs).map _
  · rw [List.pairwise_map]
    refine (sortX_le xs).imp_of_mem ?_
    intro a b ha hb hab
    rw [trimC_cf (hx _ ((sortX_perm xs).mem_iff.1 ha)), trimC_cf (hx _ ((sortX_perm xs).mem_iff.1 hb))]
    exact hab
end Od
end Go.Proofs.YtgfdcmlmgeoimaaGreat
end

section
/- disk.laid. (bel2) -/
namespace Go.Proofs.YtgfdcmlmgeoimaaGreat
open Go.RowKit Go.Sort Go.Maps
set_option linter.unusedSimpArgs false
namespace Od
theorem own_but {w w' : World} {m base e k n : Nat} {v : Value} {xs : List Value} (h : Keeps (But w m) w w') (hm : m < base) (ho : w.ownsRow base e k v n xs) : w'.ownsRow base e k v n xs := by
  refine ⟨ho.1, ?_⟩
  rcases ho.2 with h1 | ⟨g, cap, cur, hv, hg, hb, r⟩
  · exact .inl h1
  · have hgl : g < w.heap.size := (Array.getElem?_eq_some_iff.1 hb).1
    exact .inr ⟨g, cap, cur, hv, hg, by rw [h.block g ⟨hgl, by omega⟩]; exact hb, r⟩
/-- What has been gathered. -/
structure LaidS (W0 wr : World) (m : Nat) (C : List Cn) (Ao : Option Addr) (co : Nat) : Prop where
  row : wr.ownsRow W0.heap.size 9 1 (.slice Ao (nmC C).length co) (nmC C).length (svs (nmC C))
  map : MapIs strK wr m C.length (bestV C)
  keep : Keeps (But W0 m) W0 wr
  ok : OkC C
theorem LaidS.on {W0 wr w' : World} {m co : Nat} {C : List Cn} {Ao : Option Addr} (h : LaidS W0 wr m C Ao co) (hb : Below wr.heap.size wr w') : LaidS W0 w' m C Ao co :=
  ⟨own_on h.row hb, h.map.on hb, But.two h.keep hb, h.ok⟩
theorem LaidS.low {w W0 wr : World} {co : Nat} {C : List Cn} {Ao : Option Addr} (h : LaidS W0 wr w.heap.size C Ao co) (hb : Below w.heap.size w W0) : Below w.heap.size w wr := But.low hb h.keep (Nat.le_refl _)
theorem LaidS.start {W0 : World} {m : Nat} (h : MapIs strK W0 m 0 (bestV [])) : LaidS W0 W0 m [] none 0 :=
  ⟨World.ownsRow_nil _ _ _ _, h, ⟨rfl, rfl, rfl, Nat.le_refl _, fun _ _ => rfl⟩, OkC.nil⟩
theorem But.mid {w w1 w2 : World} {md : Nat} (h : Keeps (But w md) w w1) (hb : Below w.heap.size w1 w2) : Keeps (But w md) w w2 :=
  ⟨hb.os.trans h.os, hb.tape.trans h.tape, hb.output.trans h.output, Nat.le_trans h.size hb.size, fun j hj => (hb.block j hj.1).trans (h.block j hj)⟩
theorem LaidS.add {W0 w13 w' : World} {m : Nat} {C : List Cn} {A : Option Addr} {c : Nat} {pg s : Str} (e : nmC (C ++ [(pg, s)]) = nmC C ++ [pg]) (hm : m < W0.heap.size) (hM : MapIs strK w13 m (C.length + 1) (bestV (C ++ [(pg, s)]))) (hK : Keeps (But W0 m) W0 w13)
    (hO : OkC (C ++ [(pg, s)])) (hr : w'.ownsRow W0.heap.size 9 1 (.slice A ((nmC C).length + 1) c) ((nmC C).length + 1) (svs (nmC C) ++ [sv pg])) (hb : Below W0.heap.size w13 w') : LaidS W0 w' m (C ++ [(pg, s)]) A c := by
  have el : (nmC C ++ [pg]).length = (nmC C).length + 1 := by simp
  refine ⟨?_, ?_, But.mid hK hb, hO⟩
  · rw [e, el, svs_app]; exact hr
  · have := hM.same (hb.block m hm)
    simpa using this
theorem zeroSD (w : World) : (zeroValue 9).run Tryz.prog w = .ok (.string ⟨#[]⟩) w := Tryz.zeroValue9 w
set_option maxRecDepth 100000 in
set_option maxHeartbeats 8000000 in
theorem laid_any (A : Option Addr) (c : Nat) (fs : List Fl) (u : Str) (w : World) (h : FlIn w A fs) (hm : mayFs fs = true) (hu : kindS u ≠ 0) (hul : u.length ≤ 140737488355328) : Calls Tryz.prog 25 #[.slice A fs.length c, sv u] w (OwnS (dropsF fs u) w) := by
  have HF := Lib.hid h
  have hlen := (mayFs_iff.1 hm).1
  have hmm : ∀ (t : TypeId) (w : World), (Instr.makeMap t none).run Tryz.prog w = .ok (.map (some w.heap.size)) (w.alloc (.map #[] 0)) := fun _ _ => rfl
  have hmade := MapIs.made strK w
  have htl := templ_le u
  have hpl : placesL.length = 3 := rfl
  have hwl : (whoP u).length = 2 := rfl
  obtain ⟨i0, hi, hz0, hz1, hz2⟩ := info_parts infoS
  have HM0 := Lib.hid hmade
  clear h hmade
  go_enter Tryz.func25, Tryz.ntmps25
  go_wp2_with fail
  first | (refine wp_named ?_; intro W1 hW) | (refine calls_named ?_; intro W1 hW) | (refine exit_named ?_; intro W1 hW)
  have B1 : Below w.heap.size w W1 := by rw [hW]; exact (by repeat (first | exact Below.refl _ _ | assumption | refine Below.alloc ?_ (by first | omega | (simp <;> omega)) _ | refine Below.setCell ?_ (by first | omega | (simp <;> omega)) _ | refine Below.drew ?_))
  have HM1 := Lib.hid (show MapIs strK W1 w.heap.size 0 (bestV []) by rw [hW]; exact HM0.out)
  have n0 : w.heap.size < W1.heap.size := by rw [hW]; simp <;> omega
  clear hW
  have HB1 := Lib.hid B1
  clear B1 HM0
  refine (Template_any u W1 hul).mono ?_
  rintro e w2 ⟨rfl, hb⟩
  have HM2 := Lib.hid (HM1.out.on hb)
  have HB2 := Lib.hid (lift HB1.out hb)
  replace n0 : w.heap.size < w2.heap.size := ltAt n0 hb
  clear hb HM1
  generalize htm : templS u = tu at *
  have hwe : ∀ k (hk : k < (whoP u).length), (whoP u)[k] = [u, tu][k]'hk := fun k hk => by unfold whoP; subst htm; rfl
  have hw2m : w.heap.size < w2.heap.size := n0
  go_wp2_with fail
  first | (refine wp_named ?_; intro W3 hW) | (refine calls_named ?_; intro W3 hW) | (refine exit_named ?_; intro W3 hW)
  have B3 : Below w2.heap.size w2 W3 := by rw [hW]; exact (by repeat (first | exact Below.refl _ _ | assumption | refine Below.alloc ?_ (by first | omega | (simp <;> omega)) _ | refine Below.setCell ?_ (by first | omega | (simp <;> omega)) _ | refine Below.drew ?_))
  replace n0 : w.heap.size < W3.heap.size := ltAt n0 B3
  have HM3 := Lib.hid (HM2.out.on B3)
  have n3 : w2.heap.size < W3.heap.size := by rw [hW]; simp <;> omega
  have r0 : W3.cell? ⟨w2.heap.size, 0, none⟩ = some (sv u) := by rw [hW]; go_simp
  have r1 : W3.cell? ⟨w2.heap.size, 1, none⟩ = some (sv tu) := by rw [hW]; go_simp
  clear hW
  have HB3 := Lib.hid (lift HB2.out B3)
  clear B3 HM2
  have hrow : ∀ k (hk : k < (whoP u).length), W3.cell? ⟨w2.heap.size, k, none⟩ = some (sv (whoP u)[k]) := fun k hk => by
    rcases k with _ | _ | k
    · exact r0
    · have e : (whoP u)[1] = tu := by unfold whoP; exact htm
      rw [e]; exact r1
    · rw [hwl] at hk; omega
  clear r0 r1 hwe
  go_loopw [6, 23] (fun v i wr => ∃ (k : Nat) (Ao : Option Addr) (co : Nat), k ≤ (whoP u).length ∧ v = .slice Ao (nmC (cL1 fs u k)).length co ∧ i = .int .i64 k ∧ (cL1 fs u k).length ≤ k * 360 ∧ Hid (LaidS W3 wr w.heap.size (cL1 fs u k) Ao co)) (fun _ i _ => (whoP u).length - (intOf i).toNat)
  case atStart => exact ⟨0, none, 0, Nat.zero_le _, rfl, rfl, Nat.le_refl _, LaidS.start HM3.out⟩
  case round =>
    obtain ⟨k, Ao, co, hk, rfl, rfl, hcl, HS⟩ := hrel
    obtain ⟨w6, rfl⟩ : ∃ wo : World, wo = wr := ⟨_, rfl⟩
    have HB6 := Lib.hid (HS.out.low HB3.out)
    by_cases hlt : k < (whoP u).length
    · have x0 := cellK (hrow k hlt) HS.out.keep n3 (by omega)
      have hsu := cL1_succ fs u hlt
      have hvl : (whoP u)[k].length ≤ 140737488355328 := by
        rcases List.mem_cons.1 (List.getElem_mem hlt) with e | e
        · rw [e]; exact hul
        · rw [List.mem_singleton.1 e, htm]; omega
      generalize (whoP u)[k] = v at *
      generalize hC1 : cL1 fs u k = C1 at *
      have i1 : (0 : Int) ≤ (k : Int) := by omega
      have i2 : (k : Int) < 2 := by omega
      go_wp2_with fail
      refine (Places_any w6).mono ?_
      rintro e w7 ⟨A1, c1, rfl, _, _, hb⟩
      have HS7 := Lib.hid (HS.out.on hb)
      clear hb HS HB6 x0
      go_wp2_with fail
      go_loopw [6, 29] (fun vv i wr => ∃ (j : Nat) (Ao : Option Addr) (co : Nat), j ≤ placesL.length ∧ vv = .slice Ao (nmC (C1 ++ cL2 fs v j)).length co ∧ i = .int .i64 j ∧ (C1 ++ cL2 fs v j).length ≤ k * 360 + j * 120 ∧ Hid (LaidS W3 wr w.heap.size (C1 ++ cL2 fs v j) Ao co)) (fun _ i _ => placesL.length - (intOf i).toNat)
      case atStart => exact ⟨0, Ao, co, Nat.zero_le _, by rw [cL2_zero, List.append_nil], rfl, by rw [cL2_zero, List.append_nil]; omega, by rw [cL2_zero, List.append_nil]; exact HS7.out⟩
      case round =>
        clear HS7
        obtain ⟨j, Ao2, co2, hj, rfl, rfl, hcl2, HS⟩ := hrel
        obtain ⟨w8, rfl⟩ : ∃ wo : World, wo = wr := ⟨_, rfl⟩
        by_cases hjt : j < placesL.length
        · have hsu2 := cL2_succ fs v hjt
          have hidx : idxP placesL[j] = (j : Int) := by
            rcases j with _ | _ | _ | j
            · rfl
            · rfl
            · rfl
            · rw [hpl] at hjt; omega
          generalize placesL[j] = p at *
          have hC2s : C1 ++ cL2 fs v (j + 1) = (C1 ++ cL2 fs v j) ++ cL3 fs v p fs.length := by rw [hsu2, List.append_assoc]
          generalize hC2 : C1 ++ cL2 fs v j = C2 at *
          have HN2 := Lib.hid hC2s
          clear hsu2 hC2s hC2
          have i3 : (0 : Int) ≤ (j : Int) := by omega
          have i4 : (j : Int) < 3 := by omega
          go_wp2_with fail
          go_loopw [6, 34] (fun vv i wr => ∃ (n : Nat) (Ao : Option Addr) (co : Nat), n ≤ fs.length ∧ vv = .slice Ao (nmC (C2 ++ cL3 fs v p n)).length co ∧ i = .int .i64 n ∧ (C2 ++ cL3 fs v p n).length ≤ k * 360 + j * 120 + n ∧ Hid (LaidS W3 wr w.heap.size (C2 ++ cL3 fs v p n) Ao co)) (fun _ i _ => fs.length - (intOf i).toNat)
          case atStart => exact ⟨0, Ao2, co2, Nat.zero_le _, by rw [cL3_zero, List.append_nil], rfl, by rw [cL3_zero, List.append_nil]; omega, by rw [cL3_zero, List.append_nil]; exact HS.out⟩
          case round =>
            clear HS
            obtain ⟨n, Ao3, co3, hn, rfl, rfl, hcl3, HS⟩ := hrel
            obtain ⟨w9, rfl⟩ : ∃ wo : World, wo = wr := ⟨_, rfl⟩
            have HB9 := Lib.hid (HS.out.low HB3.out)
            have hz9 : W3.heap.size ≤ w9.heap.size := HS.out.keep.size
            by_cases hnt : n < fs.length
            · obtain ⟨b2, o2, hA, hB2, x0, x1, x2⟩ := (HF.out.at HB9.out).rd.fl hnt
              have hok := (HF.out.ok _ (List.getElem_mem hnt)).1
              have hs3 := cL3_succ fs v p hnt
              have hcd : ∀ f : Fl, candF v p f = if (splP f.1).1.2.2.1 = dropsS ∧ (splP f.1).1.2.1 = v ∧ (splP f.1).1.1 = idxP p then some ((splP f.1).1.2.2.2, f.1) else none := fun _ => rfl
              have hcf := hcd fs[n]
              have hcok : ∀ cc : Cn, candF v p fs[n] = some cc → OkC [cc] := fun cc hcc => OkC.one hcc
              subst hA
              generalize fs[n] = f at x0 x1 x2 hok hs3 hcf hcok
              obtain ⟨s, t, l⟩ := f
              simp only at x0 x1 x2 hok hcf
              have hok1 : s.length ≤ 140737488355328 := Nat.le_trans hok (by decide)
              have hsp := fun W => split_any s W hok1
              have hgl := (spl_le s).2
              rcases hx : splP s with ⟨⟨i, pu, pd, pg⟩, pb⟩
              rw [hx, hidx, show dropsS = ([46, 100] : Str) from rfl] at hcf
              rw [hx] at hsp hgl
              simp only at hcf hgl
              have hgo : okS pg := okS_of (Nat.le_trans hgl hok)
              have hC3s : C2 ++ cL3 fs v p (n + 1) = (C2 ++ cL3 fs v p n) ++ (candF v p (s, t, l)).toList := by rw [hs3, List.append_assoc]
              generalize hC3 : C2 ++ cL3 fs v p n = C3 at *
              generalize candF v p (s, t, l) = fo at hC3s hcf hcok
              have HC3s := Lib.hid hC3s
              have HCf := Lib.hid hcf
              have HCok := Lib.hid hcok
              have i5 : (0 : Int) ≤ (n : Int) := by omega
              have i6 : (n : Int) < (fs.length : Int) := by omega
              clear hx hs3 hcd hC3s hcf hcok hC3 hgl
              go_wp2_with fail
              first | (refine wp_named ?_; intro W10 hW) | (refine calls_named ?_; intro W10 hW) | (refine exit_named ?_; intro W10 hW)
              have B10 : Below w9.heap.size w9 W10 := by rw [hW]; exact (by repeat (first | exact Below.refl _ _ | assumption | refine Below.alloc ?_ (by first | omega | (simp <;> omega)) _ | refine Below.setCell ?_ (by first | omega | (simp <;> omega)) _ | refine Below.drew ?_))
              replace HS := Lib.hid (HS.out.on B10)
              have m10 : w9.heap.size < W10.heap.size := by rw [hW]; simp <;> omega
              have z0 : W10.cell? ⟨w9.heap.size, 0, none⟩ = some (sv s) := by rw [hW]; go_simp
              clear hW
              clear B10 x0 x1 x2
              refine (hsp W10).mono ?_
              rintro e w11 ⟨rfl, hb⟩
              replace z0 := cellAt z0 hb (by omega)
              replace HS := Lib.hid (HS.out.on hb)
              replace m10 : w9.heap.size < w11.heap.size := ltAt m10 hb
              have hz11 : w9.heap.size < w11.heap.size := m10
              clear hb hsp
              go_upto_region 13 with fail
              first | (refine wp_named ?_; intro W12 hW) | (refine calls_named ?_; intro W12 hW) | (refine exit_named ?_; intro W12 hW)
              have B12 : Below w11.heap.size w11 W12 := by rw [hW]; exact (by repeat (first | exact Below.refl _ _ | assumption | refine Below.alloc ?_ (by first | omega | (simp <;> omega)) _ | refine Below.setCell ?_ (by first | omega | (simp <;> omega)) _ | refine Below.drew ?_))
              replace z0 := cellAt z0 B12 (by omega)
              replace HS := Lib.hid (HS.out.on B12)
              replace m10 : w9.heap.size < W12.heap.size := ltAt m10 B12
              have m12 : w11.heap.size < W12.heap.size := by rw [hW]; simp <;> omega
              have y0 : W12.cell? ⟨w11.heap.size, 0, none⟩ = some (.int .i64 i) := by rw [hW]; go_simp
              have y1 : W12.cell? ⟨w11.heap.size, 1, none⟩ = some (sv pu) := by rw [hW]; go_simp
              have y2 : W12.cell? ⟨w11.heap.size, 2, none⟩ = some (sv pd) := by rw [hW]; go_simp
              have y3 : W12.cell? ⟨w11.heap.size, 3, none⟩ = some (sv pg) := by rw [hW]; go_simp
              clear hW
              clear B12
              cases h1 : (pd == ([46, 100] : Str))
              · skip
                have HNx := Lib.hid (show C2 ++ cL3 fs v p (n + 1) = C3 by rw [HC3s.out, HCf.out, if_neg (by simp_all)]; simp)
                clear HC3s HCf HCok
                go_wp2_with fail
                go_roundw
                case rel => exact ⟨n + 1, Ao3, co3, by omega, by rw [HNx.out], by go_num, by rw [HNx.out]; omega, by rw [HNx.out]; exact HS⟩
                case measure => simp [intOf]; omega
              · cases h2 : (pu == v)
                · skip
                  have HNx := Lib.hid (show C2 ++ cL3 fs v p (n + 1) = C3 by rw [HC3s.out, HCf.out, if_neg (by simp_all)]; simp)
                  clear HC3s HCf HCok
                  go_wp2_with fail
                  go_roundw
                  case rel => exact ⟨n + 1, Ao3, co3, by omega, by rw [HNx.out], by go_num, by rw [HNx.out]; omega, by rw [HNx.out]; exact HS⟩
                  case measure => simp [intOf]; omega
                · by_cases h3 : ¬ i = (j : Int)
                  · have h3b : (i == (j : Int)) = false := by simpa using h3
                    have HNx := Lib.hid (show C2 ++ cL3 fs v p (n + 1) = C3 by rw [HC3s.out, HCf.out, if_neg (by simp_all)]; simp)
                    clear HC3s HCf HCok
                    go_wp2_with fail
                    go_roundw
                    case rel => exact ⟨n + 1, Ao3, co3, by omega, by rw [HNx.out], by go_num, by rw [HNx.out]; omega, by rw [HNx.out]; exact HS⟩
                    case measure => simp [intOf]; omega
                  · have e1 : pd = ([46, 100] : Str) := by simpa using h1
                    have e2 : pu = v := by simpa using h2
                    have e3 : i = (j : Int) := Classical.not_not.1 h3
                    have hfo : fo = some (pg, s) := by rw [HCf.out, if_pos ⟨e1, e2, e3⟩]
                    have h3b : (i == (j : Int)) = true := by simpa using e3
                    have HOk := Lib.hid (HCok.out _ hfo)
                    have HNx := Lib.hid (show C2 ++ cL3 fs v p (n + 1) = C3 ++ [(pg, s)] by rw [HC3s.out, hfo]; rfl)
                    clear HC3s HCf HCok e1 e2 hfo h3
                    by_cases hin : pg ∈ nmC C3
                    · obtain ⟨q, hq1, hq2, _⟩ := bestV_mem hin
                      have hqn : q ≠ [] := HS.out.ok _ hq1
                      have hqb : (q == ([] : Str)) = false := by simpa using hqn
                      have HV := Lib.hid hq2
                      have HO := Lib.hid (bestV_old (p := s) hin)
                      have HO2 := Lib.hid (show nmC (C3 ++ [(pg, s)]) = nmC C3 by rw [nm_snoc, if_pos hin])
                      clear hq1 hq2 hqn hin
                      go_wp2_with (first | (at_lookup; refine wpList_lookup_wD _ (by rfl) (.tmp 60) (.tmp 62) 65 (by rfl) 9 Tryz.underlying65 (.string ⟨#[]⟩) (zeroSD _) w.heap.size _ _ (by rfl) HS.out.map pg (by rfl) hgo ?_; rw [HV.out]) | fail)
                      go_roundw
                      case rel => exact ⟨n + 1, Ao3, co3, by omega, by rw [HNx.out, HO2.out], by go_num, by rw [HNx.out]; simp; omega, by rw [HNx.out]; exact ⟨by rw [HO2.out]; exact HS.out.row, by rw [HO.out]; exact HS.out.map.mono (by simp), HS.out.keep, HS.out.ok.app HOk.out⟩⟩
                      case measure => simp [intOf]; omega
                    · have HV := Lib.hid (bestV_not hin)
                      have HO := Lib.hid (bestV_new (p := s) hin)
                      have HO2 := Lib.hid (show nmC (C3 ++ [(pg, s)]) = nmC C3 ++ [pg] by rw [nm_snoc, if_neg hin])
                      have hnl := nm_len C3
                      have hwm : w.heap.size < W3.heap.size := by omega
                      have hkm : C3.length < maxLen := by unfold maxLen; omega
                      have HKm := Lib.hid hkm
                      clear hin hkm
                      go_upto_region 15 with (first | (at_lookup; refine wpList_lookup_wD _ (by rfl) (.tmp 60) (.tmp 62) 65 (by rfl) 9 Tryz.underlying65 (.string ⟨#[]⟩) (zeroSD _) w.heap.size _ _ (by rfl) HS.out.map pg (by rfl) hgo ?_; rw [HV.out]) | (at_mapUpdate; refine wpList_update_is _ (by rfl) (.tmp 66) (.tmp 68) (.tmp 70) 65 (by rfl) 9 Tryz.underlying65 w.heap.size _ _ (by rfl) HS.out.map HKm.out pg (sv s) (by rfl) (by rfl) hgo ?_; intro w13 hm13 hg13) | fail)
                      have HM13 := Lib.hid (setS_if hm13)
                      have HK13 := Lib.hid (But.grown hg13)
                      have HR13 := Lib.hid (own_but HK13.out hwm HS.out.row)
                      have HKK := Lib.hid (But.trans HS.out.keep HK13.out)
                      have HOkk := Lib.hid (HS.out.ok.app HOk.out)
                      clear hm13 hg13
                      replace z0 := cellK z0 HK13.out (by omega) (by omega)
                      replace y0 := cellK y0 HK13.out (by omega) (by omega)
                      replace y1 := cellK y1 HK13.out (by omega) (by omega)
                      replace y2 := cellK y2 HK13.out (by omega) (by omega)
                      replace y3 := cellK y3 HK13.out (by omega) (by omega)
                      replace m10 : w9.heap.size < w13.heap.size := Nat.lt_of_lt_of_le m10 (Keeps.size HK13.out)
                      replace m12 : w11.heap.size < w13.heap.size := Nat.lt_of_lt_of_le m12 (Keeps.size HK13.out)
                      have hz13 : W3.heap.size ≤ w13.heap.size := HKK.out.size
                      have h63 := Lib.hid (show (nmC C3).length + 1 ≤ maxLen by unfold maxLen; omega)
                      have hby := Lib.hid (show ((nmC C3).length + 1) * 16 ≤ 140737488355328 by omega)
                      go_wp2_with (first | (at_builtin; refine wpList_pushm w13 w13 (by rfl) (.tmp 71) (.tmp 74) 24 (by rfl) W3.heap.size 9 i0 _ 1 16 Tryz.underlying24 hi hz0 hz1 hz2 rfl (by decide) _ _ _ (by rfl) HR13.out [sv pg] w13.heap.size rfl (by rfl) rfl (one_sv pg) h63.out hby.out hz13 (Below.refl _ _) ?_; intro A10 c10 w14 hown hbel hg hat; have HO14 := Lib.hid hown; have HBa := Lib.hid hbel; clear hown hbel hg hat) | fail)
                      go_roundw
                      case rel => exact ⟨n + 1, A10, c10, by omega, by rw [HNx.out, HO2.out]; simp, by go_num, by rw [HNx.out]; simp; omega, by rw [HNx.out]; exact LaidS.add HO2.out hwm (by rw [← HO.out]; exact HM13.out) HKK.out HOkk.out HO14.out HBa.out⟩
                      case measure => simp [intOf]; omega
            · obtain rfl : n = fs.length := by omega
              rw [← HN2.out] at hcl3 HS ⊢
              go_wp2_with fail
              go_roundw
              case rel => exact ⟨j + 1, Ao3, co3, by omega, rfl, by go_num, by omega, HS⟩
              case measure => simp [intOf]; omega
        · obtain rfl : j = placesL.length := by omega
          rw [← hsu] at hcl2 HS ⊢
          go_wp2_with fail
          go_roundw
          case rel => exact ⟨k + 1, Ao2, co2, by omega, rfl, by go_num, by omega, HS⟩
          case measure => simp [intOf]; omega
    · obtain rfl : k = (whoP u).length := by omega
      have hall := cL1_all fs u
      have hcnf := fun n hn => cand_conf hm (u := u) (n := n) hn
      have hsrt := fun xs => laid_sorted hm hu (xs := xs)
      have hmb := fun n hn => bestV_mem (C := candsF fs u) (n := n) hn
      rw [hall] at hcl HS ⊢
      clear hall HM3 hrow
      generalize candsF fs u = C at *
      generalize hF : bestC C = F at *
      obtain ⟨xs, hN, hxs⟩ := all_X hcnf
      have HD := Lib.hid (hsrt xs hN hxs)
      have hNl : (nmC C).length = xs.length := by rw [hN]; simp
      have hnl := nm_len C
      have hwm : w.heap.size < W3.heap.size := by omega
      have HRx := Lib.hid (show w6.ownsRow W3.heap.size 9 1 (.slice Ao xs.length co) xs.length (svs (xs.map cfX)) by rw [← hN, ← hNl]; exact HS.out.row)
      have hxl : xs.length ≤ 720 := by omega
      have hSl : ((sortX xs).map cfX).length = xs.length := by rw [List.length_map, sortX_len]
      have HMb := Lib.hid (show ∀ n ∈ (sortX xs).map cfX, bestV C n = some (sv (F n)) ∧ okS n from fun n hn => by
        obtain ⟨x, hx, rfl⟩ := List.mem_map.1 hn
        have hx2 := (sortX_perm xs).mem_iff.1 hx
        obtain ⟨q, _, h2, h3⟩ := hmb (cfX x) (by rw [hN]; exact List.mem_map.2 ⟨x, hx2, rfl⟩)
        refine ⟨by rw [h2, h3], okS_of ?_⟩
        have := x.2
        simp [cfX, confS]; omega)
      have HSo := fun w7 => sortX_own W3.heap.size co Ao xs w7
      have HSo := Lib.hid HSo
      rw [hNl]
      clear hcnf hsrt hmb hN hxs hcl hNl hnl
      generalize (sortX xs).map cfX = S at *
      go_wp2_with fail
      refine (HSo.out w6 HRx.out (by omega)).mono ?_
      rintro e w7 ⟨rfl, h7, g7⟩
      have H7 := Lib.hid (own_rd' h7)
      have hg7 : ∀ g, (Value.slice Ao xs.length co).ownBlock = some g → w.heap.size < g := fun g hg => Nat.lt_of_lt_of_le hwm (HRx.out.lt g hg).1
      have HB7 := Lib.hid (HB6.out.grown g7 HB6.out.size (fun g hg => Nat.le_of_lt (hg7 g hg)))
      have HM7 := Lib.hid (HS.out.map.kept g7 (fun e => by have := hg7 _ e.symm; omega))
      clear h7 g7 hg7 HSo HRx HS HB6
      rw [← hSl] at H7 ⊢
      go_wp2_with fail
      go_loopw [14, 83] (fun v i wr => ∃ (k : Nat) (A2 : Option Addr) (c2 : Nat), k ≤ S.length ∧ v = .slice A2 k c2 ∧ i = .int .i64 k ∧ Hid (wr.ownsRow w7.heap.size 9 1 (.slice A2 k c2) k (svs ((S.take k).map F))) ∧ Hid (Below w7.heap.size w7 wr)) (fun _ i _ => S.length - (intOf i).toNat)
      case atStart => exact ⟨0, none, 0, Nat.zero_le _, rfl, rfl, World.ownsRow_nil _ _ _ _, Below.refl _ _⟩
      case round =>
        obtain ⟨k, A2, c2, hk, rfl, rfl, HO, HB⟩ := hrel
        obtain ⟨w8, rfl⟩ : ∃ wo : World, wo = wr := ⟨_, rfl⟩
        by_cases hlt : k < S.length
        · obtain ⟨b2, o2, hA, hB2, x0⟩ := (H7.out.at HB.out).str hlt
          subst hA
          have hmm2 := HMb.out _ (List.getElem_mem hlt)
          have htk : (S.take (k + 1)).map F = (S.take k).map F ++ [F S[k]] := by rw [List.take_succ_eq_append_getElem hlt, List.map_append]; rfl
          generalize S[k] = q at *
          have HTk := Lib.hid htk
          have HV := Lib.hid hmm2.1
          have hgo := hmm2.2
          clear htk hmm2
          generalize F q = p at *
          have HM8 := Lib.hid (HM7.out.on HB.out)
          have h63 := Lib.hid (show k + 1 ≤ maxLen by unfold maxLen; omega)
          have hby := Lib.hid (show (k + 1) * 16 ≤ 140737488355328 by omega)
          have hz8 := HB.out.size
          have i1 : (0 : Int) ≤ (k : Int) := by omega
          have i2 : (k : Int) < (S.length : Int) := by omega
          go_wp2_with (first | (at_lookup; refine wpList_lookup_wD _ (by rfl) (.tmp 88) (.tmp 89) 65 (by rfl) 9 Tryz.underlying65 (.string ⟨#[]⟩) (zeroSD _) w.heap.size _ _ (by rfl) HM8.out q (by rfl) hgo ?_; rw [HV.out]) | (at_builtin; refine wpList_pushm w8 w8 (by rfl) (.tmp 87) (.tmp 91) 24 (by rfl) w7.heap.size 9 i0 _ 1 16 Tryz.underlying24 hi hz0 hz1 hz2 rfl (by decide) _ _ _ (by rfl) HO.out [sv p] w8.heap.size rfl (by rfl) rfl (one_sv p) h63.out hby.out hz8 (Below.refl _ _) ?_; intro A10 c10 w10 hown hbel hg hat; have HO10 := Lib.hid hown; have HBa := Lib.hid hbel; clear hown hbel hg hat) | fail)
          go_roundw
          case rel => exact ⟨k + 1, A10, c10, by omega, rfl, by go_num, by rw [HTk.out, svs_app]; exact HO10.out, HB.out.trans HBa.out⟩
          case measure => simp [intOf]; omega
        · obtain rfl : k = S.length := by omega
          have hO := HO.out
          rw [List.take_length] at hO
          have HO8 := Lib.hid (own_base hO HB7.out.size)
          have HB8 := Lib.hid (lift HB7.out HB.out)
          clear hO
          go_wp2_with fail
          go_ret
          rw [← HD.out]
          exact ⟨A2, c2, by rw [List.length_map]; rfl, by rw [List.length_map]; exact HO8.out, HB8.out⟩
end Od
end Go.Proofs.YtgfdcmlmgeoimaaGreat
end

section
/- Plain laws of Disk: order of files, a text put first, templates, rows of links. No program. -/
namespace Go.Proofs.YtgfdcmlmgeoimaaGreat
set_option linter.unusedSimpArgs false
namespace Od
/-! ### Any order -/
theorem mayFs_perm {fs gs : List Fl} (h : fs.Perm gs) : mayFs fs = mayFs gs := by
  rw [Bool.eq_iff_iff, mayFs_iff, mayFs_iff, h.length_eq, (h.map (·.1)).nodup_iff]
  simp only [h.mem_iff]
theorem at_iff {fs : List Fl} (hn : (fs.map (·.1)).Nodup) {p : Str} {f : Fl} : atF fs p = some f ↔ f ∈ fs ∧ f.1 = p := by
  unfold atF
  constructor
  · intro h
    exact ⟨List.mem_of_find?_eq_some h, by simpa using List.find?_some h⟩
  · rintro ⟨hf, rfl⟩
    induction fs with
    | nil => cases hf
    | cons g fs ih =>
      rw [List.map_cons, List.nodup_cons] at hn
      rw [List.find?_cons]
      rcases List.mem_cons.1 hf with rfl | hf
      · simp
      · have : (g.1 == f.1) = false := by
          rw [beq_eq_false_iff_ne]
          intro e
          exact hn.1 (by rw [e]; exact List.mem_map.2 ⟨f, hf, rfl⟩)
        rw [this]
        exact ih hn.2 hf
theorem at_none {fs : List Fl} {p : Str} : atF fs p = none ↔ ∀ f ∈ fs, f.1 ≠ p := by
  unfold atF
  rw [List.find?_eq_none]
  simp only [beq_iff_eq]
theorem at_perm {fs gs : List Fl} (hn : (fs.map (·.1)).Nodup) (h : fs.Perm gs) (p : Str) : atF fs p = atF gs p := by
  have hg := (h.map (·.1)).nodup_iff.1 hn
  cases hf : atF fs p with
  | some f =>
    obtain ⟨h1, h2⟩ := (at_iff hn).1 hf
    exact ((at_iff hg).2 ⟨h.mem_iff.1 h1, h2⟩).symm
  | none =>
    refine (at_none.2 fun f hf2 => ?_).symm
    exact at_none.1 hf f (h.mem_iff.2 hf2)
theorem canon_mem {l m : List Str} (h : ∀ x, x ∈ l ↔ x ∈ m) : canon ltS l = canon ltS m := SS.eq_canon toS (canon_ss toS l) fun x => by rw [mem_canon toS]; exact h x
theorem canon_filter {fs gs : List Fl} (h : ∀ f, f ∈ fs ↔ f ∈ gs) (F : Fl → Option Str) : canon ltS (fs.filterMap F) = canon ltS (gs.filterMap F) := canon_mem fun x => by
  rw [List.mem_filterMap, List.mem_filterMap]
  simp only [h]
/-- Two rows of files that answer alike at each path, and have the same texts laid over. -/
structure Alike (fs gs : List Fl) : Prop where
  at_ : ∀ p, atF fs p = atF gs p
  over : ∀ us, canon ltS (fs.filterMap (overF us)) = canon ltS (gs.filterMap (overF us))
theorem Alike.first {fs gs : List Fl} (h : Alike fs gs) (u : Str) : firstF fs u = firstF gs u := by unfold firstF; simp only [h.at_]
theorem Alike.owned {fs gs : List Fl} (h : Alike fs gs) (u : Str) : ownedF fs u = ownedF gs u := by unfold ownedF; rw [h.first, h.first]
theorem Alike.drops {fs gs : List Fl} (h : Alike fs gs) (u : Str) : dropsF fs u = dropsF gs u := by
  unfold dropsF
  rw [h.over]
  have : bestF fs u = bestF gs u := by funext x; unfold bestF; simp only [h.at_]
  rw [this]
theorem Alike.hop {fs gs : List Fl} (h : Alike fs gs) (asked : List Str) (n : Str) : hopF fs asked n = hopF gs asked n := by unfold hopF; rw [h.owned, h.drops]
theorem Alike.go {fs gs : List Fl} (h : Alike fs gs) : ∀ (k : Nat) (asked : List Str) (n : Str), goF fs k asked n = goF gs k asked n
  | 0, _, _ => rfl
  | k + 1, asked, n => by
    unfold goF
    rw [h.hop]
    cases hopF gs asked n with
    | done x e => rfl
    | next m => exact h.go k _ _
theorem alike_perm {fs gs : List Fl} (hm : mayFs fs = true) (h : fs.Perm gs) : Alike fs gs :=
  ⟨at_perm (mayFs_iff.1 hm).2.2 h, fun _ => canon_filter (fun _ => h.mem_iff) _⟩
theorem find_perm {fs gs : List Fl} (h : fs.Perm gs) (u : Str) : findF fs u = findF gs u := by
  unfold findF
  rw [← mayFs_perm h]
  cases hm : mayFs fs
  · rfl
  · rw [(alike_perm hm h).go]
theorem links_perm {fs gs : List Fl} (h : fs.Perm gs) (k : Nat) (u : Str) : linksF fs k u = linksF gs k u := by
  unfold linksF
  rw [← mayFs_perm h, canon_filter (fun _ => h.mem_iff)]
/-! ### A file put first, or behind all others -/
theorem mayFs_snoc {fs : List Fl} {f : Fl} (h : mayFs fs = true) (hl : fs.length < 120) (hf : mayF f = true) (hn : atF fs f.1 = none) : mayFs (fs ++ [f]) = true := by
  obtain ⟨h1, h2, h3⟩ := mayFs_iff.1 h
  refine mayFs_iff.2 ⟨by rw [List.length_append, List.length_singleton]; omega, fun g hg => ?_, ?_⟩
  · rcases List.mem_append.1 hg with hg | hg
    · exact h2 g hg
    · rw [List.mem_singleton.1 hg]; exact hf
  · rw [List.map_append, List.nodup_append]
    refine ⟨h3, by simp, fun a ha b hb e => ?_⟩
    obtain ⟨g, hg, rfl⟩ := List.mem_map.1 ha
    rw [List.map_cons, List.map_nil, List.mem_singleton] at hb
    exact at_none.1 hn g hg (e.trans hb)
theorem at_snoc {fs : List Fl} {f : Fl} (p : Str) (h : f.1 ≠ p) : atF (fs ++ [f]) p = atF fs p := by
  unfold atF
  rw [List.find?_append, List.find?_cons, beq_eq_false_iff_ne.2 h]
  cases fs.find? (fun f => f.1 == p) <;> rfl
theorem at_new {fs : List Fl} {f : Fl} (hn : atF fs f.1 = none) : atF (fs ++ [f]) f.1 = some f := by
  unfold atF at hn ⊢
  rw [List.find?_append, hn]
  simp
theorem pathU_inj {p q u v : Str} (hp : p ∈ placesL) (hq : q ∈ placesL) (h : pathU p u = pathU q v) : p = q ∧ u = v := by
  have h1 : cutR 47 (pathU p u) = some (p, u) := cutR_at (place_slash hp)
  have h2 : cutR 47 (pathU q v) = some (q, v) := cutR_at (place_slash hq)
  rw [h, h2] at h1
  injection h1 with h1
  injection h1 with a b
  exact ⟨a.symm, b.symm⟩
theorem pathX_pathU {p q u v x : Str} (hp : p ∈ placesL) (hq : q ∈ placesL) (hv : kindS v ≠ 0) : pathX p u x ≠ pathU q v := fun h => by
  obtain ⟨_, e⟩ := pathU_inj (u := u ++ dropsS ++ 47 :: (x ++ confS)) hp hq h
  exact name_slash hv (by rw [← e]; simp)
/-- What one unit's file more comes to for all else. -/
theorem over_snoc {fs : List Fl} {f : Fl} (h : (wayS f.1).1 = 1) (us : List Str) : (fs ++ [f]).filterMap (overF us) = fs.filterMap (overF us) := by
  rw [List.filterMap_append]
  have : overF us f = none := by unfold overF; rw [if_neg (by rw [h]; rintro ⟨a, _⟩; omega)]
  rw [List.filterMap_cons, this]
  simp
theorem best_snoc {fs : List Fl} {f : Fl} {p v : Str} (hp : p ∈ placesL) (hv : kindS v ≠ 0) (hf : f.1 = pathU p v) (u : Str) : bestF (fs ++ [f]) u = bestF fs u := by
  funext x
  unfold bestF
  congr 1
  refine Lib.find_congr fun q hq => ?_
  simp only [List.mem_flatMap, List.mem_map] at hq
  obtain ⟨w, _, q', hq', rfl⟩ := hq
  rw [at_snoc _ (by rw [hf]; exact (pathX_pathU hq' hp hv).symm)]
theorem drops_snoc {fs : List Fl} {f : Fl} {p v : Str} (hp : p ∈ placesL) (hv : kindS v ≠ 0) (hf : f.1 = pathU p v) (u : Str) : dropsF (fs ++ [f]) u = dropsF fs u := by
  unfold dropsF
  rw [over_snoc (by rw [hf, way_pathU hp hv]), best_snoc hp hv hf]
theorem first_snoc {fs : List Fl} {f : Fl} {p v u : Str} (hp : p ∈ placesL) (hf : f.1 = pathU p v) (h : u ≠ v) : firstF (fs ++ [f]) u = firstF fs u := by
  unfold firstF
  refine findSome_congr fun q hq => at_snoc _ ?_
  rw [hf]
  exact fun e => h (pathU_inj hp hq e).2.symm
theorem first_etc {fs : List Fl} {f : Fl} {u : Str} (hf : f.1 = pathU etcS u) (hn : atF fs f.1 = none) : firstF (fs ++ [f]) u = some f := by
  unfold firstF placesL
  rw [List.findSome?_cons, ← hf, at_new hn]
/-- A file of one's own in the first place. -/
theorem find_etc {fs : List Fl} {f : Fl} {u : Str} (hu : kindS u ≠ 0) (hf : f.1 = pathU etcS u) (hn : atF fs f.1 = none) (hm : mayFs (fs ++ [f]) = true) :
    (f.2.2 = [] → findF (fs ++ [f]) u = ((u, f.1, false, dropsF (fs ++ [f]) u), 0)) ∧ (f.2.2 = nullS → findF (fs ++ [f]) u = ((u, f.1, true, []), 0)) := by
  have ho : ownedF (fs ++ [f]) u = some (f, true) := by unfold ownedF; rw [first_etc hf hn]
  unfold findF
  rw [if_neg (by rw [hm]; simp), if_neg hu]
  unfold goF hopF
  rw [ho]
  constructor
  · intro h; simp only; rw [if_pos h]
  · intro h; simp only; rw [if_neg (by rw [h]; decide), if_pos h]
/-- What other names find: what they found, if they do not come by it. -/
theorem go_etc {fs : List Fl} {f : Fl} {u : Str} (hu : kindS u ≠ 0) (hf : f.1 = pathU etcS u) (hn : atF fs f.1 = none) (hl : f.2.2 = []) :
    ∀ (k : Nat) (asked : List Str) (n : Str) (x : Fd), goF fs k asked n = (x, 0) → x.1 = u ∨ (goF (fs ++ [f]) k asked n).1.2.1 = f.1 ∨ goF (fs ++ [f]) k asked n = (x, 0)
  | 0, _, _, x, h => by
    unfold goF at h
    injection h with _ h
    exact absurd h (by decide)
  | k + 1, asked, n, x, h => by
    have hp : etcS ∈ placesL := by decide
    have hnew : ∀ n own, ownedF (fs ++ [f]) n = some (f, own) → (goF (fs ++ [f]) (k + 1) asked n).1.2.1 = f.1 := fun n own ho => by
      unfold goF hopF
      rw [ho]
      simp only
      rw [if_pos hl]
    by_cases h1 : n = u
    · subst h1
      exact .inr (.inl (hnew n true (by unfold ownedF; rw [first_etc hf hn])))
    · have e1 := first_snoc (fs := fs) (f := f) hp hf h1
      by_cases h2 : firstF fs n = none ∧ instS n = true ∧ templS n = u
      · refine .inr (.inl (hnew n false ?_))
        unfold ownedF
        rw [e1, h2.1]
        simp only
        rw [if_pos h2.2.1, h2.2.2, first_etc hf hn]
        rfl
      · have e2 : ownedF (fs ++ [f]) n = ownedF fs n := by
          unfold ownedF
          rw [e1]
          cases h3 : firstF fs n with
          | some g => rfl
          | none =>
            simp only
            cases h4 : instS n
            · rfl
            · rw [first_snoc hp hf (fun e => h2 ⟨h3, h4, e⟩)]
        have e3 : hopF (fs ++ [f]) asked n = hopF fs asked n := by unfold hopF; rw [e2, drops_snoc hp hu hf]
        unfold goF at h ⊢
        rw [e3]
        cases h5 : hopF fs asked n with
        | done y e => rw [h5] at h; exact .inr (.inr h)
        | next m => rw [h5] at h; exact go_etc hu hf hn hl k _ m x h
/-! ### Templates -/
theorem inst_parts {t i s : Str} (h : instOf t i = (s, true)) : tmplS t = true ∧ i ≠ [] ∧ kindS s ≠ 0 ∧ instS s = true ∧ templS s = t ∧ s ≠ t := by
  unfold instOf at h
  cases ht : tmplS t
  · rw [ht] at h; injection h with _ h; cases h
  · rw [ht] at h
    by_cases hi : i = []
    · subst hi; injection h with _ h; cases h
    · have hi' : (i == ([] : Str)) = false := by simpa using hi
      rw [hi'] at h
      simp only [Bool.not_true, Bool.or_false, Bool.false_eq_true, if_false] at h
      split at h
      · rename_i ho
        injection h with hs _
        rw [hs] at ho
        have hk := tmpl_kind ht
        obtain ⟨_, n1, n2, n3, _, _, n6⟩ := name_at hk
        have hs1 : (ofS s).1 = kindS t := by rw [ho, ofS_kind]
        have hks : kindS s ≠ 0 := by rw [← ofS_kind s, hs1]; exact hk
        have his : instS s = true := by unfold instS; rw [ho]; simp [hi']
        have hts : templS s = t := by
          unfold templS
          rw [if_pos his, ho]
          unfold tmplS at ht
          rw [Bool.and_eq_true, beq_iff_eq] at ht
          conv => rhs; rw [← n6]
          unfold makeS
          simp only [ht.1, ht.2]
        refine ⟨rfl, hi, hks, his, hts, fun e => ?_⟩
        subst e
        unfold tmplS at ht
        rw [ho, hi'] at ht
        cases ht
      · injection h with _ h; cases h
theorem first_none {fs : List Fl} {u : Str} : firstF fs u = none ↔ ∀ p ∈ placesL, atF fs (pathU p u) = none := by
  unfold firstF
  rw [List.findSome?_eq_none_iff]
/-- No file of its own for a name. -/
theorem first_gone {fs : List Fl} {u : Str} (hu : kindS u ≠ 0) (hn : ∀ f ∈ fs, ¬ ((wayS f.1).1 = 1 ∧ (wayS f.1).2.2.1 = u)) : firstF fs u = none := by
  rw [first_none]
  intro p hp
  rw [at_none]
  intro f hf e
  exact hn f hf (by rw [e, way_pathU hp hu]; exact ⟨rfl, rfl⟩)
theorem find_tmpl {fs : List Fl} (h : mayFs fs = true) {t i s x : Str} (hi : instOf t i = (s, true)) (hn : ∀ f ∈ fs, (wayS f.1).1 ≠ 1 ∨ (wayS f.1).2.2.1 ≠ s ∧ (wayS f.1).2.2.1 ≠ t) (hl : fs.length < 120) (hx : x.length ≤ 300) :
    findF fs s = (found0, 6) ∧ findF (fs ++ [(pathU libS t, x, [])]) s = ((s, pathU libS t, false, dropsF (fs ++ [(pathU libS t, x, [])]) s), 0) := by
  obtain ⟨ht, _, hs, his, hts, hne⟩ := inst_parts hi
  have hkt := tmpl_kind ht
  have hp : libS ∈ placesL := by decide
  have f1 := first_gone hs fun f hf ⟨a, b⟩ => (hn f hf).elim (fun c => c a) (fun c => c.1 b)
  have f2 := first_gone hkt fun f hf ⟨a, b⟩ => (hn f hf).elim (fun c => c a) (fun c => c.2 b)
  have hmf : mayF (pathU libS t, x, []) = true := by
    unfold mayF mayW
    simp only
    rw [way_pathU hp hkt, decide_eq_false (by omega)]
    simp
  have hmm := mayFs_snoc h hl hmf (first_none.1 f2 _ hp)
  constructor
  · unfold findF
    rw [if_neg (by rw [h]; simp), if_neg hs]
    unfold goF hopF ownedF
    rw [f1]
    simp only
    rw [if_pos his, hts, f2]
    rfl
  · have g1 : firstF (fs ++ [(pathU libS t, x, [])]) s = none := by rw [first_snoc hp rfl hne, f1]
    have g2 : firstF (fs ++ [(pathU libS t, x, [])]) t = some (pathU libS t, x, []) := by
      unfold firstF placesL
      have a1 : atF (fs ++ [(pathU libS t, x, [])]) (pathU etcS t) = none := by
        rw [at_snoc _ (fun e => absurd (pathU_inj hp (by decide) e).1 (by decide))]; exact first_none.1 f2 _ (by decide)
      have a2 : atF (fs ++ [(pathU libS t, x, [])]) (pathU runS t) = none := by
        rw [at_snoc _ (fun e => absurd (pathU_inj hp (by decide) e).1 (by decide))]; exact first_none.1 f2 _ (by decide)
      have a3 : atF (fs ++ [(pathU libS t, x, [])]) (pathU libS t) = some (pathU libS t, x, []) := at_new (f := (pathU libS t, x, [])) (first_none.1 f2 _ hp)
      rw [List.findSome?_cons, a1, List.findSome?_cons, a2, List.findSome?_cons, a3]
    unfold findF
    rw [if_neg (by rw [hmm]; simp), if_neg hs]
    unfold goF hopF
    have ho : ownedF (fs ++ [(pathU libS t, x, [])]) s = some ((pathU libS t, x, []), false) := by
      unfold ownedF
      rw [g1]
      simp only
      rw [if_pos his, hts, g2]
      rfl
    rw [ho]
    rfl
end Od
end Go.Proofs.YtgfdcmlmgeoimaaGreat
end
