/- My texts, joined for the claim: DOwned DWithin DAdd DLinksR DSortC DSortL. -/
import Derived.Test.YtgfdcmlmgeoimaaZB10
import Derived.Test.YtgfdcmlmgeoimaaZB0

section
/- disk.owned: a name's file, or its template's. (bel2) -/
namespace Go.Proofs.Ytgfdcmlmgeoimaa
open Go.RowKit Go.Sort
set_option linter.unusedSimpArgs false
namespace Od
def fl0 : Fl := ([], [], [])
/-- A file, whether it is the template's, whether there is one. -/
def ownR (fs : List Fl) (n : Str) : Fl × Bool × Bool :=
  match firstF fs n with
  | some f => (f, false, true)
  | none => if templS n = [] then (fl0, false, false) else match firstF fs (templS n) with
    | some f => (f, true, true)
    | none => (fl0, true, false)
abbrev ownV (r : Fl × Bool × Bool) : Value := .tuple #[flV r.1, .bool r.2.1, .bool r.2.2]
theorem templ_le (s : Str) : (templS s).length ≤ 200 := by
  rw [templ_eq]
  split
  · simp
  · rename_i hi
    have hk : kindS s ≠ 0 := fun h0 => hi (by rw [ofS_zero h0])
    have h1 := (ofS_le s).1
    have h2 := (kind_parts hk).2.2.2.1
    have h3 := (suf_pos h2.1 h2.2).2.2.2
    unfold makeS
    simp only [if_true, List.length_append, List.length_cons, List.length_nil]
    omega
theorem templ_nil (s : Str) : templS s = [] ↔ instS s = false := by
  constructor
  · intro h
    cases hi : instS s
    · rfl
    · exact absurd h (templ_ne hi).2
  · intro h; unfold templS; rw [h]; rfl
theorem own_none {fs : List Fl} {n : Str} : (ownR fs n).2.2 = false ↔ ownedF fs n = none := by
  unfold ownR ownedF
  cases firstF fs n with
  | some f => simp
  | none =>
    simp only
    by_cases ht : templS n = []
    · rw [if_pos ht, (templ_nil n).1 ht]; simp
    · have hi : instS n = true := by
        cases hi : instS n
        · exact absurd ((templ_nil n).2 hi) ht
        · rfl
      rw [if_neg ht, hi]
      cases firstF fs (templS n) <;> simp
theorem own_some {fs : List Fl} {n : Str} {f : Fl} {own : Bool} (h : ownedF fs n = some (f, own)) : ownR fs n = (f, !own, true) := by
  unfold ownR
  unfold ownedF at h
  cases h1 : firstF fs n with
  | some g =>
    rw [h1] at h
    injection h with h
    injection h with a b
    rw [a, ← b]
    rfl
  | none =>
    rw [h1] at h
    simp only at h ⊢
    cases hi : instS n
    · rw [hi] at h; cases h
    · rw [hi] at h
      simp only [if_true] at h
      rw [if_neg (fun e => by rw [(templ_nil n).1 e] at hi; cases hi)]
      obtain ⟨g, hg, e⟩ := Option.map_eq_some_iff.1 h
      injection e with a b
      rw [hg, ← b, a]
      rfl
set_option maxRecDepth 100000 in
set_option maxHeartbeats 8000000 in
theorem owned_any (A : Option Addr) (c : Nat) (fs : List Fl) (n : Str) (w : World) (h : FlIn w A fs) (hl : fs.length ≤ 10000000000000) (hn : n.length ≤ 140737488355328) : Calls Try.prog 14 #[.slice A fs.length c, sv n] w fun e w' => e = .returned (ownV (ownR fs n)) ∧ Below w.heap.size w w' := by
  have HF := Lib.hid h
  have hR : ownR fs n = match firstF fs n with
    | some f => (f, false, true)
    | none => if templS n = [] then (fl0, false, false) else match firstF fs (templS n) with
      | some f => (f, true, true)
      | none => (fl0, true, false) := rfl
  have htl := templ_le n
  clear h
  cases h1 : firstF fs n with
  | some f =>
    obtain ⟨s, t, l⟩ := f
    have HR := Lib.hid (show ownR fs n = ((s, t, l), false, true) by rw [hR, h1])
    clear hR
    go_enter Try.func14, Try.ntmps14
    go_wp2_with fail
    first | (refine wp_named ?_; intro W1 hW) | (refine calls_named ?_; intro W1 hW) | (refine exit_named ?_; intro W1 hW)
    have B1 : Below w.heap.size w W1 := by rw [hW]; exact (by repeat (first | exact Below.refl _ _ | assumption | refine Below.alloc ?_ (by first | omega | (simp <;> omega)) _ | refine Below.setCell ?_ (by first | omega | (simp <;> omega)) _ | refine Below.drew ?_))
    replace HF := Lib.hid (HF.out.at B1)
    have n0 : w.heap.size < W1.heap.size := by rw [hW]; simp <;> omega
    have r0 : W1.cell? ⟨w.heap.size, 0, none⟩ = some (.string ⟨#[]⟩) := by rw [hW]; go_simp
    have r1 : W1.cell? ⟨w.heap.size, 1, none⟩ = some (.string ⟨#[]⟩) := by rw [hW]; go_simp
    have r2 : W1.cell? ⟨w.heap.size, 2, none⟩ = some (.string ⟨#[]⟩) := by rw [hW]; go_simp
    have z0 : W1.frozen? ⟨w.heap.size, 0, none⟩ = false := by rw [hW]; go_simp
    have z1 : W1.frozen? ⟨w.heap.size, 1, none⟩ = false := by rw [hW]; go_simp
    have z2 : W1.frozen? ⟨w.heap.size, 2, none⟩ = false := by rw [hW]; go_simp
    clear hW
    have HB1 := Lib.hid B1
    clear B1
    refine (first_any A c fs n W1 HF.out hl hn).mono ?_
    rintro e w2 ⟨rfl, hb⟩
    rw [h1]
    unfold optV
    simp only
    replace r0 := cellAt r0 hb (by omega)
    replace r1 := cellAt r1 hb (by omega)
    replace r2 := cellAt r2 hb (by omega)
    replace z0 := froAt z0 hb (by omega)
    replace z1 := froAt z1 hb (by omega)
    replace z2 := froAt z2 hb (by omega)
    replace HF := Lib.hid (HF.out.at hb)
    replace n0 : w.heap.size < w2.heap.size := ltAt n0 hb
    have HB2 := Lib.hid (lift HB1.out hb)
    have hn2 : w.heap.size < w2.heap.size := n0
    clear hb
    go_wp2_with fail
    have hB0 := HB2.out
    refine bodyPost_ret (v := .tuple #[flV (s, t, l), .bool false, .bool true]) (by simp only [results, Try.results14]; go_simp) rfl ⟨by rw [HR.out] <;> rfl, ?_⟩
    repeat (first | (with_reducible exact hB0) | (with_reducible refine Below.drew ?_) | (with_reducible refine Below.alloc ?_ ?zs _; case zs => first | omega | (simp <;> omega)) | (with_reducible refine Below.setCell ?_ ?zs _; case zs => first | omega | (simp <;> omega)))
  | none =>
    rw [h1] at hR
    simp only at hR
    cases ht : (templS n == ([] : Str))
    · have ht0 : templS n ≠ [] := by simpa using ht
      rw [if_neg ht0] at hR
      have hTm := Lib.hid (fun W => Template_any n W hn)
      clear ht0
      generalize templS n = tn at *
      go_enter Try.func14, Try.ntmps14
      go_wp2_with fail
      first | (refine wp_named ?_; intro W1 hW) | (refine calls_named ?_; intro W1 hW) | (refine exit_named ?_; intro W1 hW)
      have B1 : Below w.heap.size w W1 := by rw [hW]; exact (by repeat (first | exact Below.refl _ _ | assumption | refine Below.alloc ?_ (by first | omega | (simp <;> omega)) _ | refine Below.setCell ?_ (by first | omega | (simp <;> omega)) _ | refine Below.drew ?_))
      replace HF := Lib.hid (HF.out.at B1)
      have n0 : w.heap.size < W1.heap.size := by rw [hW]; simp <;> omega
      have r0 : W1.cell? ⟨w.heap.size, 0, none⟩ = some (.string ⟨#[]⟩) := by rw [hW]; go_simp
      have r1 : W1.cell? ⟨w.heap.size, 1, none⟩ = some (.string ⟨#[]⟩) := by rw [hW]; go_simp
      have r2 : W1.cell? ⟨w.heap.size, 2, none⟩ = some (.string ⟨#[]⟩) := by rw [hW]; go_simp
      have z0 : W1.frozen? ⟨w.heap.size, 0, none⟩ = false := by rw [hW]; go_simp
      have z1 : W1.frozen? ⟨w.heap.size, 1, none⟩ = false := by rw [hW]; go_simp
      have z2 : W1.frozen? ⟨w.heap.size, 2, none⟩ = false := by rw [hW]; go_simp
      clear hW
      have HB1 := Lib.hid B1
      clear B1
      refine (first_any A c fs n W1 HF.out hl hn).mono ?_
      rintro e w2 ⟨rfl, hb⟩
      rw [h1]
      unfold optV
      simp only
      replace r0 := cellAt r0 hb (by omega)
      replace r1 := cellAt r1 hb (by omega)
      replace r2 := cellAt r2 hb (by omega)
      replace z0 := froAt z0 hb (by omega)
      replace z1 := froAt z1 hb (by omega)
      replace z2 := froAt z2 hb (by omega)
      replace HF := Lib.hid (HF.out.at hb)
      replace n0 : w.heap.size < w2.heap.size := ltAt n0 hb
      have HB2 := Lib.hid (lift HB1.out hb)
      have hn2 : w.heap.size < w2.heap.size := n0
      clear hb
      go_wp2_with fail
      first | (refine wp_named ?_; intro W3 hW) | (refine calls_named ?_; intro W3 hW) | (refine exit_named ?_; intro W3 hW)
      have B3 : Below w2.heap.size w2 W3 := by rw [hW]; exact (by repeat (first | exact Below.refl _ _ | assumption | refine Below.alloc ?_ (by first | omega | (simp <;> omega)) _ | refine Below.setCell ?_ (by first | omega | (simp <;> omega)) _ | refine Below.drew ?_))
      replace r0 := cellAt r0 B3 (by omega)
      replace r1 := cellAt r1 B3 (by omega)
      replace r2 := cellAt r2 B3 (by omega)
      replace z0 := froAt z0 B3 (by omega)
      replace z1 := froAt z1 B3 (by omega)
      replace z2 := froAt z2 B3 (by omega)
      replace HF := Lib.hid (HF.out.at B3)
      replace n0 : w.heap.size < W3.heap.size := ltAt n0 B3
      have n3 : w2.heap.size < W3.heap.size := by rw [hW]; simp <;> omega
      have f0 : W3.cell? ⟨w2.heap.size, 0, none⟩ = some (.string ⟨#[]⟩) := by rw [hW]; go_simp
      have f1 : W3.cell? ⟨w2.heap.size, 1, none⟩ = some (.string ⟨#[]⟩) := by rw [hW]; go_simp
      have f2 : W3.cell? ⟨w2.heap.size, 2, none⟩ = some (.string ⟨#[]⟩) := by rw [hW]; go_simp
      have g0 : W3.frozen? ⟨w2.heap.size, 0, none⟩ = false := by rw [hW]; go_simp
      have g1 : W3.frozen? ⟨w2.heap.size, 1, none⟩ = false := by rw [hW]; go_simp
      have g2 : W3.frozen? ⟨w2.heap.size, 2, none⟩ = false := by rw [hW]; go_simp
      clear hW
      have HB3 := Lib.hid (lift HB2.out B3)
      have hqw : ¬ w.heap.size = w2.heap.size := by omega
      clear B3
      refine (hTm.out W3).mono ?_
      rintro e w4 ⟨rfl, hb⟩
      replace r0 := cellAt r0 hb (by omega)
      replace r1 := cellAt r1 hb (by omega)
      replace r2 := cellAt r2 hb (by omega)
      replace z0 := froAt z0 hb (by omega)
      replace z1 := froAt z1 hb (by omega)
      replace z2 := froAt z2 hb (by omega)
      replace f0 := cellAt f0 hb (by omega)
      replace f1 := cellAt f1 hb (by omega)
      replace f2 := cellAt f2 hb (by omega)
      replace g0 := froAt g0 hb (by omega)
      replace g1 := froAt g1 hb (by omega)
      replace g2 := froAt g2 hb (by omega)
      replace HF := Lib.hid (HF.out.at hb)
      replace n0 : w.heap.size < w4.heap.size := ltAt n0 hb
      replace n3 : w2.heap.size < w4.heap.size := ltAt n3 hb
      have HB4 := Lib.hid (lift HB3.out hb)
      clear hb
      go_wp2_with fail
      refine (hTm.out w4).mono ?_
      rintro e w5 ⟨rfl, hb⟩
      replace r0 := cellAt r0 hb (by omega)
      replace r1 := cellAt r1 hb (by omega)
      replace r2 := cellAt r2 hb (by omega)
      replace z0 := froAt z0 hb (by omega)
      replace z1 := froAt z1 hb (by omega)
      replace z2 := froAt z2 hb (by omega)
      replace f0 := cellAt f0 hb (by omega)
      replace f1 := cellAt f1 hb (by omega)
      replace f2 := cellAt f2 hb (by omega)
      replace g0 := froAt g0 hb (by omega)
      replace g1 := froAt g1 hb (by omega)
      replace g2 := froAt g2 hb (by omega)
      replace HF := Lib.hid (HF.out.at hb)
      replace n0 : w.heap.size < w5.heap.size := ltAt n0 hb
      replace n3 : w2.heap.size < w5.heap.size := ltAt n3 hb
      have HB5 := Lib.hid (lift HB4.out hb)
      clear hb
      go_wp2_with fail
      refine (first_any A c fs tn w5 HF.out hl (by omega)).mono ?_
      rintro e w6 ⟨rfl, hb⟩
      replace r0 := cellAt r0 hb (by omega)
      replace r1 := cellAt r1 hb (by omega)
      replace r2 := cellAt r2 hb (by omega)
      replace z0 := froAt z0 hb (by omega)
      replace z1 := froAt z1 hb (by omega)
      replace z2 := froAt z2 hb (by omega)
      replace f0 := cellAt f0 hb (by omega)
      replace f1 := cellAt f1 hb (by omega)
      replace f2 := cellAt f2 hb (by omega)
      replace g0 := froAt g0 hb (by omega)
      replace g1 := froAt g1 hb (by omega)
      replace g2 := froAt g2 hb (by omega)
      replace HF := Lib.hid (HF.out.at hb)
      replace n0 : w.heap.size < w6.heap.size := ltAt n0 hb
      replace n3 : w2.heap.size < w6.heap.size := ltAt n3 hb
      have HB6 := Lib.hid (lift HB5.out hb)
      clear hb
      have hlw : w.heap.size ≤ w2.heap.size := HB2.out.size
      cases h2 : firstF fs tn with
      | some f =>
        obtain ⟨s, t, l⟩ := f
        have HR := Lib.hid (show ownR fs n = ((s, t, l), true, true) by rw [hR, h2])
        clear hR
        unfold optV
        simp only
        go_wp2_with fail
        have hB0 := HB6.out
        refine bodyPost_ret (v := .tuple #[flV (s, t, l), .bool true, .bool true]) (by simp only [results, Try.results14]; go_simp) rfl ⟨by rw [HR.out] <;> rfl, ?_⟩
        repeat (first | (with_reducible exact hB0) | (with_reducible refine Below.drew ?_) | (with_reducible refine Below.alloc ?_ ?zs _; case zs => first | omega | (simp <;> omega)) | (with_reducible refine Below.setCell ?_ ?zs _; case zs => first | omega | (simp <;> omega)))
      | none =>
        have HR := Lib.hid (show ownR fs n = (fl0, true, false) by rw [hR, h2])
        clear hR
        unfold optV
        simp only
        go_wp2_with fail
        have hB0 := HB6.out
        refine bodyPost_ret (v := .tuple #[flV ([], [], []), .bool true, .bool false]) (by simp only [results, Try.results14]; go_simp) rfl ⟨by rw [HR.out] <;> rfl, ?_⟩
        repeat (first | (with_reducible exact hB0) | (with_reducible refine Below.drew ?_) | (with_reducible refine Below.alloc ?_ ?zs _; case zs => first | omega | (simp <;> omega)) | (with_reducible refine Below.setCell ?_ ?zs _; case zs => first | omega | (simp <;> omega)))
    · have ht0 : templS n = [] := by simpa using ht
      rw [if_pos ht0] at hR
      have HR := Lib.hid hR
      have hTm := Lib.hid (fun W => Template_any n W hn)
      rw [ht0] at hTm
      clear ht0 hR ht
      go_enter Try.func14, Try.ntmps14
      go_wp2_with fail
      first | (refine wp_named ?_; intro W1 hW) | (refine calls_named ?_; intro W1 hW) | (refine exit_named ?_; intro W1 hW)
      have B1 : Below w.heap.size w W1 := by rw [hW]; exact (by repeat (first | exact Below.refl _ _ | assumption | refine Below.alloc ?_ (by first | omega | (simp <;> omega)) _ | refine Below.setCell ?_ (by first | omega | (simp <;> omega)) _ | refine Below.drew ?_))
      replace HF := Lib.hid (HF.out.at B1)
      have n0 : w.heap.size < W1.heap.size := by rw [hW]; simp <;> omega
      have r0 : W1.cell? ⟨w.heap.size, 0, none⟩ = some (.string ⟨#[]⟩) := by rw [hW]; go_simp
      have r1 : W1.cell? ⟨w.heap.size, 1, none⟩ = some (.string ⟨#[]⟩) := by rw [hW]; go_simp
      have r2 : W1.cell? ⟨w.heap.size, 2, none⟩ = some (.string ⟨#[]⟩) := by rw [hW]; go_simp
      have z0 : W1.frozen? ⟨w.heap.size, 0, none⟩ = false := by rw [hW]; go_simp
      have z1 : W1.frozen? ⟨w.heap.size, 1, none⟩ = false := by rw [hW]; go_simp
      have z2 : W1.frozen? ⟨w.heap.size, 2, none⟩ = false := by rw [hW]; go_simp
      clear hW
      have HB1 := Lib.hid B1
      clear B1
      refine (first_any A c fs n W1 HF.out hl hn).mono ?_
      rintro e w2 ⟨rfl, hb⟩
      rw [h1]
      unfold optV
      simp only
      replace r0 := cellAt r0 hb (by omega)
      replace r1 := cellAt r1 hb (by omega)
      replace r2 := cellAt r2 hb (by omega)
      replace z0 := froAt z0 hb (by omega)
      replace z1 := froAt z1 hb (by omega)
      replace z2 := froAt z2 hb (by omega)
      replace HF := Lib.hid (HF.out.at hb)
      replace n0 : w.heap.size < w2.heap.size := ltAt n0 hb
      have HB2 := Lib.hid (lift HB1.out hb)
      have hn2 : w.heap.size < w2.heap.size := n0
      clear hb
      go_wp2_with fail
      first | (refine wp_named ?_; intro W3 hW) | (refine calls_named ?_; intro W3 hW) | (refine exit_named ?_; intro W3 hW)
      have B3 : Below w2.heap.size w2 W3 := by rw [hW]; exact (by repeat (first | exact Below.refl _ _ | assumption | refine Below.alloc ?_ (by first | omega | (simp <;> omega)) _ | refine Below.setCell ?_ (by first | omega | (simp <;> omega)) _ | refine Below.drew ?_))
      replace r0 := cellAt r0 B3 (by omega)
      replace r1 := cellAt r1 B3 (by omega)
      replace r2 := cellAt r2 B3 (by omega)
      replace z0 := froAt z0 B3 (by omega)
      replace z1 := froAt z1 B3 (by omega)
      replace z2 := froAt z2 B3 (by omega)
      replace HF := Lib.hid (HF.out.at B3)
      replace n0 : w.heap.size < W3.heap.size := ltAt n0 B3
      have n3 : w2.heap.size < W3.heap.size := by rw [hW]; simp <;> omega
      have f0 : W3.cell? ⟨w2.heap.size, 0, none⟩ = some (.string ⟨#[]⟩) := by rw [hW]; go_simp
      have f1 : W3.cell? ⟨w2.heap.size, 1, none⟩ = some (.string ⟨#[]⟩) := by rw [hW]; go_simp
      have f2 : W3.cell? ⟨w2.heap.size, 2, none⟩ = some (.string ⟨#[]⟩) := by rw [hW]; go_simp
      clear hW
      have HB3 := Lib.hid (lift HB2.out B3)
      clear B3
      refine (hTm.out W3).mono ?_
      rintro e w4 ⟨rfl, hb⟩
      replace r0 := cellAt r0 hb (by omega)
      replace r1 := cellAt r1 hb (by omega)
      replace r2 := cellAt r2 hb (by omega)
      replace z0 := froAt z0 hb (by omega)
      replace z1 := froAt z1 hb (by omega)
      replace z2 := froAt z2 hb (by omega)
      replace f0 := cellAt f0 hb (by omega)
      replace f1 := cellAt f1 hb (by omega)
      replace f2 := cellAt f2 hb (by omega)
      replace HF := Lib.hid (HF.out.at hb)
      replace n0 : w.heap.size < w4.heap.size := ltAt n0 hb
      replace n3 : w2.heap.size < w4.heap.size := ltAt n3 hb
      have HB4 := Lib.hid (lift HB3.out hb)
      clear hb
      go_wp2_with fail
      have hB0 := HB4.out
      refine bodyPost_ret (v := .tuple #[flV ([], [], []), .bool false, .bool false]) (by simp only [results, Try.results14]; go_simp) rfl ⟨by rw [HR.out] <;> rfl, ?_⟩
      repeat (first | (with_reducible exact hB0) | (with_reducible refine Below.drew ?_) | (with_reducible refine Below.alloc ?_ ?zs _; case zs => first | omega | (simp <;> omega)) | (with_reducible refine Below.setCell ?_ ?zs _; case zs => first | omega | (simp <;> omega)))
end Od
end Go.Proofs.Ytgfdcmlmgeoimaa
end

section
/- disk.within, disk.Links. (bel2) -/
namespace Go.Proofs.Ytgfdcmlmgeoimaa
open Go.RowKit Go.Sort
set_option linter.unusedSimpArgs false
namespace Od
theorem filterMap_take {α β : Type} {F : α → Option β} {l : List α} {k : Nat} (hk : k < l.length) : (l.take (k + 1)).filterMap F = (l.take k).filterMap F ++ (F l[k]).toList := by
  rw [List.take_succ_eq_append_getElem hk, List.filterMap_append]
  congr 1
set_option maxRecDepth 100000 in
set_option maxHeartbeats 8000000 in
theorem within_any (A : Option Addr) (c : Nat) (fs : List Fl) (u : Str) (kk : Nat) (w : World) (h : FlIn w A fs) (hl : fs.length ≤ 1000000) : Calls Try.prog 19 #[.slice A fs.length c, sv u, sv (foldE kk)] w (OwnS (canon ltS (fs.filterMap (linkP kk u))) w) := by
  obtain ⟨i0, hi, hz0, hz1, hz2⟩ := info_parts infoS
  have HF := Lib.hid h
  have hlk : ∀ f : Fl, linkP kk u f = if (splP f.1).1.2.1 = u ∧ (splP f.1).1.2.2.1 = foldE kk then some (splP f.1).1.2.2.2 else none := fun _ => rfl
  generalize foldE kk = d at *
  generalize hLk : linkP kk u = F at *
  clear h hLk
  go_enter Try.func19, Try.ntmps19
  go_wp2_with fail
  go_loopw [7, 14] (fun v i wr => ∃ (k : Nat) (Ao : Option Addr) (co : Nat), k ≤ fs.length ∧ v = .slice Ao ((fs.take k).filterMap F).length co ∧ i = .int .i64 k ∧ Hid (wr.ownsRow w.heap.size 9 1 (.slice Ao ((fs.take k).filterMap F).length co) ((fs.take k).filterMap F).length (svs ((fs.take k).filterMap F))) ∧ Hid (Below w.heap.size w wr)) (fun _ i _ => fs.length - (intOf i).toNat)
  case atStart => exact ⟨0, none, 0, Nat.zero_le _, rfl, rfl, World.ownsRow_nil _ _ _ _, Below.refl _ _⟩
  case round =>
    obtain ⟨k, Ao, co, hk, rfl, rfl, HO, HB⟩ := hrel
    obtain ⟨w6, rfl⟩ : ∃ wo : World, wo = wr := ⟨_, rfl⟩
    have hz6 := HB.out.size
    have hol : ((fs.take k).filterMap F).length ≤ fs.length := Nat.le_trans (List.length_filterMap_le _ _) (by rw [List.length_take]; omega)
    by_cases hlt : k < fs.length
    · obtain ⟨b2, o2, hA, hB2, x0, x1, x2⟩ := (HF.out.at HB.out).rd.fl hlt
      have htk := filterMap_take (F := F) hlt
      have hok := (HF.out.ok _ (List.getElem_mem hlt)).1
      have hlf := hlk fs[k]
      subst hA
      generalize fs[k] = p at x0 x1 x2 htk hok hlf
      obtain ⟨s, t, l⟩ := p
      simp only at x0 x1 x2 hok hlf
      have hok1 : s.length ≤ 140737488355328 := Nat.le_trans hok (by decide)
      have hsp := fun W => split_any s W hok1
      rcases hx : splP s with ⟨⟨i, pu, pd, pg⟩, pb⟩
      rw [hx] at hsp hlf
      simp only at hlf
      generalize F (s, t, l) = fo at htk hlf
      generalize (fs.take k).filterMap F = O at *
      have HTk := Lib.hid htk
      have HLf := Lib.hid hlf
      have i1 : (0 : Int) ≤ (k : Int) := by omega
      have i2 : (k : Int) < (fs.length : Int) := by omega
      clear hx htk hlf
      go_wp2_with fail
      first | (refine wp_named ?_; intro W7 hW) | (refine calls_named ?_; intro W7 hW) | (refine exit_named ?_; intro W7 hW)
      have B7 : Below w6.heap.size w6 W7 := by rw [hW]; exact (by repeat (first | exact Below.refl _ _ | assumption | refine Below.alloc ?_ (by first | omega | (simp <;> omega)) _ | refine Below.setCell ?_ (by first | omega | (simp <;> omega)) _ | refine Below.drew ?_))
      replace HO := Lib.hid (own_on HO.out B7)
      have m7 : w6.heap.size < W7.heap.size := by rw [hW]; simp <;> omega
      clear hW
      have HB7 := Lib.hid (lift HB.out B7)
      clear B7 x0 x1 x2
      refine (hsp W7).mono ?_
      rintro e w8 ⟨rfl, hb⟩
      replace HO := Lib.hid (own_on HO.out hb)
      replace m7 : w6.heap.size < w8.heap.size := ltAt m7 hb
      have HB8 := Lib.hid (lift HB7.out hb)
      clear hb hsp
      go_upto_region 6 with fail
      first | (refine wp_named ?_; intro W9 hW) | (refine calls_named ?_; intro W9 hW) | (refine exit_named ?_; intro W9 hW)
      have B9 : Below w8.heap.size w8 W9 := by rw [hW]; exact (by repeat (first | exact Below.refl _ _ | assumption | refine Below.alloc ?_ (by first | omega | (simp <;> omega)) _ | refine Below.setCell ?_ (by first | omega | (simp <;> omega)) _ | refine Below.drew ?_))
      replace HO := Lib.hid (own_on HO.out B9)
      replace m7 : w6.heap.size < W9.heap.size := ltAt m7 B9
      have m9 : w8.heap.size < W9.heap.size := by rw [hW]; simp <;> omega
      have y0 : W9.cell? ⟨w8.heap.size, 0, none⟩ = some (.int .i64 i) := by rw [hW]; go_simp
      have y1 : W9.cell? ⟨w8.heap.size, 1, none⟩ = some (sv pu) := by rw [hW]; go_simp
      have y2 : W9.cell? ⟨w8.heap.size, 2, none⟩ = some (sv pd) := by rw [hW]; go_simp
      have y3 : W9.cell? ⟨w8.heap.size, 3, none⟩ = some (sv pg) := by rw [hW]; go_simp
      clear hW
      have HB9 := Lib.hid (lift HB8.out B9)
      have hz9 := HB9.out.size
      clear B9
      cases h1 : (pu == u)
      · skip
        have HNx := Lib.hid (show (fs.take (k + 1)).filterMap F = O by rw [HTk.out, HLf.out, if_neg (by simp_all)]; simp)
        clear HTk HLf
        go_wp2_with fail
        go_roundw
        case rel => exact ⟨k + 1, Ao, co, by omega, by rw [HNx.out], by go_num, by rw [HNx.out]; exact HO.out, HB9.out⟩
        case measure => simp [intOf]; omega
      · cases h2 : (pd == d)
        · skip
          have HNx := Lib.hid (show (fs.take (k + 1)).filterMap F = O by rw [HTk.out, HLf.out, if_neg (by simp_all)]; simp)
          clear HTk HLf
          go_wp2_with fail
          go_roundw
          case rel => exact ⟨k + 1, Ao, co, by omega, by rw [HNx.out], by go_num, by rw [HNx.out]; exact HO.out, HB9.out⟩
          case measure => simp [intOf]; omega
        · have e1 : pu = u := by simpa using h1
          have e2 : pd = d := by simpa using h2
          have HNx := Lib.hid (show (fs.take (k + 1)).filterMap F = O ++ [pg] by rw [HTk.out, HLf.out, if_pos ⟨e1, e2⟩]; rfl)
          have h63 := Lib.hid (show O.length + 1 ≤ maxLen by unfold maxLen; omega)
          have hby := Lib.hid (show (O.length + 1) * 16 ≤ 140737488355328 by omega)
          clear HTk HLf e1 e2
          go_wp2_with (first | (at_builtin; refine wpList_pushm W9 W9 (by rfl) (.tmp 34) (.tmp 37) 24 (by rfl) w.heap.size 9 i0 _ 1 16 Try.underlying24 hi hz0 hz1 hz2 rfl (by decide) _ _ _ (by rfl) HO.out [sv pg] W9.heap.size rfl (by rfl) rfl (one_sv pg) h63.out hby.out hz9 (Below.refl _ _) ?_; intro A10 c10 w10 hown hbel hg hat; have HO10 := Lib.hid hown; have HBa := Lib.hid hbel; clear hown hbel hg hat) | fail)
          go_roundw
          case rel => exact ⟨k + 1, A10, c10, by omega, by rw [HNx.out, List.length_append]; rfl, by go_num, by rw [HNx.out, List.length_append, svs_app]; exact HO10.out, HB9.out.trans HBa.out⟩
          case measure => simp [intOf]; omega
    · obtain rfl : k = fs.length := by omega
      rw [List.take_length] at HO hol ⊢
      have hcan : ∀ O, fs.filterMap F = O → Lib.compact (sortS O) = canon ltS (fs.filterMap F) := fun O h => by rw [h]; exact onceS_canon O
      generalize hO : fs.filterMap F = O at HO hol ⊢
      have HC := Lib.hid (hcan O hO)
      clear hcan hO
      go_wp2_with fail
      refine (sortS_own w.heap.size co Ao O w6 HO.out (by omega)).mono ?_
      rintro e w7 ⟨rfl, h7, g7⟩
      have H7 := Lib.hid h7
      have HB7 := Lib.hid (HB.out.grown g7 hz6 (fun g hg => (HO.out.lt g hg).1))
      have hsl := sortS_len O
      clear h7 g7
      go_wp2_with fail
      refine (show Calls Try.prog 35 #[.slice Ao O.length co] w7 _ from hsl ▸ compactS_own w.heap.size co Ao (sortS O) w7 (by rw [hsl]; exact H7.out) (by omega)).mono ?_
      rintro e w8 ⟨rfl, h8, g8⟩
      have H8 := Lib.hid h8
      have HB8 := Lib.hid (HB7.out.grown g8 HB7.out.size (fun g hg => (H7.out.lt g hg).1))
      clear h8 g8
      go_wp2_with fail
      go_ret
      refine ⟨Ao, co, ?_, ?_, HB8.out⟩
      · rw [← HC.out]; rfl
      · rw [← HC.out]; exact H8.out
/-- Whom links name: two rows. -/
def LinksR (fs : List Fl) (u : Str) (w : World) (e : Ending) (w' : World) : Prop := ∃ A1 c1 A2 c2, e = .returned (.tuple #[.slice A1 (linksF fs 3 u).length c1, .slice A2 (linksF fs 4 u).length c2]) ∧ Rd w' w'.heap.size 1 A1 (linksF fs 3 u).length (svs (linksF fs 3 u)) ∧ Rd w' w'.heap.size 1 A2 (linksF fs 4 u).length (svs (linksF fs 4 u)) ∧ Below w.heap.size w w'
theorem links_nil {fs : List Fl} (h : mayFs fs = false) (k : Nat) (u : Str) : linksF fs k u = [] := by unfold linksF; rw [h]; rfl
set_option maxRecDepth 100000 in
set_option maxHeartbeats 8000000 in
theorem Links_any (A : Option Addr) (c : Nat) (fs : List Fl) (u : Str) (w : World) (h : FlIn w A fs) (hl : fs.length ≤ 10000000000000) : Calls Try.prog 7 #[.slice A fs.length c, sv u] w (LinksR fs u w) := by
  have HF := Lib.hid h
  have hdf : ∀ e w', LinksR fs u w e w' = ∃ A1 c1 A2 c2, e = .returned (.tuple #[.slice A1 (linksF fs 3 u).length c1, .slice A2 (linksF fs 4 u).length c2]) ∧ Rd w' w'.heap.size 1 A1 (linksF fs 3 u).length (svs (linksF fs 3 u)) ∧ Rd w' w'.heap.size 1 A2 (linksF fs 4 u).length (svs (linksF fs 4 u)) ∧ Below w.heap.size w w' := fun _ _ => rfl
  have HD := Lib.hid hdf
  clear h hdf
  cases hm : mayFs fs
  · have h3 := links_nil hm 3 u
    have h4 := links_nil hm 4 u
    have H3 := Lib.hid h3
    have H4 := Lib.hid h4
    clear h3 h4
    go_enter Try.func7, Try.ntmps7
    go_wp2_with fail
    refine (MayD_any A c fs w HF.out hl).mono ?_
    rintro e w1 ⟨rfl, hb⟩
    rw [hm]
    have HB := Lib.hid hb
    clear hb
    go_wp2_with fail
    go_ret2
    rw [HD.out, H3.out, H4.out]
    exact ⟨none, 0, none, 0, rfl, Rd.none_, Rd.none_, HB.out⟩
  · have hlen := (mayFs_iff.1 hm).1
    have hw2 : canon ltS (fs.filterMap (linkP 2 u)) = linksF fs 3 u := within_eq hm (k := 2) (.inl rfl) u
    have hw3 : canon ltS (fs.filterMap (linkP 3 u)) = linksF fs 4 u := within_eq hm (k := 3) (.inr rfl) u
    have HW2 : Hid (∀ W, FlIn W A fs → Calls Try.prog 19 #[.slice A fs.length c, sv u, sv wantsS] W (OwnS (linksF fs 3 u) W)) := Lib.hid fun W h => by rw [← hw2]; exact within_any A c fs u 2 W h (by omega)
    have HW3 : Hid (∀ W, FlIn W A fs → Calls Try.prog 19 #[.slice A fs.length c, sv u, sv reqsS] W (OwnS (linksF fs 4 u) W)) := Lib.hid fun W h => by rw [← hw3]; exact within_any A c fs u 3 W h (by omega)
    clear hw2 hw3
    generalize linksF fs 3 u = L1 at *
    generalize linksF fs 4 u = L2 at *
    go_enter Try.func7, Try.ntmps7
    go_wp2_with fail
    refine (MayD_any A c fs w HF.out hl).mono ?_
    rintro e w1 ⟨rfl, hb⟩
    rw [hm]
    have HB := Lib.hid hb
    have HF1 := Lib.hid (HF.out.at hb)
    clear hb
    go_wp2_with fail
    refine (HW2.out w1 HF1.out).mono ?_
    rintro e w2 ⟨A1, c1, rfl, ho1, hb⟩
    have HR1 := Lib.hid (own_rd' ho1)
    have HB2 := Lib.hid (lift HB.out hb)
    have HF2 := Lib.hid (HF1.out.at hb)
    clear hb ho1
    go_wp2_with fail
    refine (HW3.out w2 HF2.out).mono ?_
    rintro e w3 ⟨A2, c2, rfl, ho2, hb⟩
    have HR2 := Lib.hid (own_rd' ho2)
    have HR1' := Lib.hid (HR1.out.at hb)
    have HB3 := Lib.hid (lift HB2.out hb)
    clear hb ho2
    go_wp2_with fail
    go_ret2
    rw [HD.out]
    exact ⟨A1, c1, A2, c2, rfl, HR1'.out, HR2.out, HB3.out⟩
end Od
end Go.Proofs.Ytgfdcmlmgeoimaa
end

section
/- matinsref12.add: a text put into a rising row, once. (bel2) -/
namespace Go.Proofs.Ytgfdcmlmgeoimaa
open Go.RowKit Go.Sort
set_option linter.unusedSimpArgs false
namespace Od
end Od
end Go.Proofs.Ytgfdcmlmgeoimaa
end

section
/- Links of the reference. (bel2) -/
namespace Go.Proofs.Ytgfdcmlmgeoimaa
open Go.RowKit Go.Sort
set_option linter.unusedSimpArgs false
namespace Od
end Od
end Go.Proofs.Ytgfdcmlmgeoimaa
end

section
/- The comparison by which disk.laid sorts. (bel2) -/
namespace Go.Proofs.Ytgfdcmlmgeoimaa
open Go.RowKit Go.Sort
set_option linter.unusedSimpArgs false
namespace Od
/-- A name without what it ends in. -/
def trimT (n : Str) : Str := Lib.trimSuffix n confS
def cmpT (a b : Str) : Int := Lib.compareBytes (trimT a) (trimT b)
theorem TrimSuffix_any (s e : Str) (w : World) (hl : s.length ≤ 140737488355328) : Calls Try.prog 28 #[sv s, sv e] w fun en w' => en = .returned (sv (Lib.trimSuffix s e)) ∧ w = w' :=
  (Try.strings_TrimSuffix ⟨s.toArray⟩ ⟨e.toArray⟩ w (by show s.length ≤ _; omega)).mono fun _ _ ⟨h1, h2⟩ => ⟨h1, h2.symm⟩
theorem Compare_any (a b : Str) (w : World) : Calls Try.prog 27 #[sv a, sv b] w fun en w' => en = .returned (.int .i64 (Lib.compareBytes a b)) ∧ w = w' :=
  (Try.strings_Compare ⟨a.toArray⟩ ⟨b.toArray⟩ w).mono fun _ _ ⟨h1, h2⟩ => ⟨h1, h2.symm⟩
set_option maxHeartbeats 1000000 in
theorem laid1_any (a b : Str) (w : World) (ha : a.length ≤ 140737488355328) (hb : b.length ≤ 140737488355328) : Calls Try.prog 26 #[sv a, sv b] w fun e w' => e = .returned (.int .i64 (cmpT a b)) ∧ w = w' := by
  have h1 := Lib.hid (fun W => TrimSuffix_any a confS W ha)
  have h2 := Lib.hid (fun W => TrimSuffix_any b confS W hb)
  have hc := Lib.hid (show cmpT a b = Lib.compareBytes (Lib.trimSuffix a confS) (Lib.trimSuffix b confS) from rfl)
  generalize Lib.trimSuffix a confS = ta at *
  generalize Lib.trimSuffix b confS = tb at *
  go_enter Try.func26, Try.ntmps26
  go_wp2_with fail
  refine (h1.out w).mono ?_
  rintro e w1 ⟨rfl, rfl⟩
  go_wp2_with fail
  refine (h2.out w).mono ?_
  rintro e w1 ⟨rfl, rfl⟩
  go_wp2_with fail
  refine (Compare_any ta tb w).mono ?_
  rintro e w1 ⟨rfl, rfl⟩
  go_wp2_with fail
  go_ret
  exact ⟨by rw [hc.out]; rfl, rfl⟩
theorem cmp_lt : ∀ a b : Str, decide (Lib.compareBytes a b < 0) = ltS a b
  | [], [] => by decide
  | [], y :: b => by
    have h1 : ltS [] (y :: b) = true := by rw [ltS_iff]; exact List.nil_lt_cons y b
    rw [h1]; rfl
  | x :: a, [] => by
    have h1 : ltS (x :: a) [] = false := by rw [ltS_false]; exact List.not_lt_nil _
    rw [h1]; rfl
  | x :: a, y :: b => by
    have ih := cmp_lt a b
    unfold Lib.compareBytes
    by_cases h1 : x < y
    · have h2 : ltS (x :: a) (y :: b) = true := by rw [ltS_iff]; exact List.cons_lt_cons_iff.2 (.inl h1)
      rw [if_pos h1, h2]; rfl
    · by_cases h3 : y < x
      · have h2 : ltS (x :: a) (y :: b) = false := by
          rw [ltS_false, List.cons_lt_cons_iff]
          rintro (h | ⟨h, _⟩)
          · exact h1 h
          · subst h; exact h1 h3
        rw [if_neg h1, if_pos h3, h2]; rfl
      · have hxy : x = y := by
          have a1 := UInt8.not_lt.1 h1
          have a2 := UInt8.not_lt.1 h3
          exact UInt8.le_antisymm a2 a1
        subst hxy
        rw [if_neg h1, if_neg h1, ih]
        rw [Bool.eq_iff_iff, ltS_iff, ltS_iff, List.cons_lt_cons_iff]
        constructor
        · intro h; exact .inr ⟨rfl, h⟩
        · rintro (h | ⟨_, h⟩)
          · exact absurd h h1
          · exact h
theorem trimT_conf {x : Str} : trimT (x ++ confS) = x := by
  unfold trimT Lib.trimSuffix
  have hs : Lib.hasSuffix (x ++ confS) confS = true := by
    unfold Lib.hasSuffix
    rw [List.isSuffixOf_iff_suffix]
    exact ⟨x, rfl⟩
  rw [hs, if_pos rfl]
  simp
end Od
end Go.Proofs.Ytgfdcmlmgeoimaa
end

section
/- The sort of disk.laid: a row of names that all end alike, sorted by what stands ahead of the end. (bel2) -/
namespace Go.Proofs.Ytgfdcmlmgeoimaa
open Go.RowKit Go.Sort
set_option linter.unusedSimpArgs false
namespace Od
/-- What stands ahead of the end. -/
abbrev Xt := {x : Str // x.length ≤ 1000000000000}
instance : Inhabited Xt := ⟨⟨[], by simp⟩⟩
def cfX (x : Xt) : Str := x.1 ++ confS
def encX (x : Xt) : Value := sv (cfX x)
def cmpX (x y : Xt) : Int := Lib.compareBytes x.1 y.1
theorem cmpX_cf (x y : Xt) : cmpT (cfX x) (cfX y) = cmpX x y := by unfold cmpT cfX cmpX; rw [trimT_conf, trimT_conf]
theorem cmpX_lt (x y : Xt) : ltOf cmpX x y = ltS x.1 y.1 := cmp_lt _ _
theorem swoX : SWO (ltOf cmpX) where
  irrefl x := by rw [cmpX_lt]; exact toS.irrefl _
  trans x y z h1 h2 := by rw [cmpX_lt] at *; exact toS.trans h1 h2
  ntrans x y z h1 h2 := by
    rw [cmpX_lt] at *
    cases h3 : ltS x.1 z.1
    · rfl
    · cases h4 : ltS y.1 x.1
      · have := toS.total h1 h4
        rw [this, h2] at h3; cases h3
      · have := toS.trans h4 h3
        rw [this] at h2; cases h2
def sortX (xs : List Xt) : List Xt := xs.mergeSort fun x y => !(ltOf cmpX) y x
theorem sortX_len (xs : List Xt) : (sortX xs).length = xs.length := by simp [sortX]
theorem sortX_perm (xs : List Xt) : (sortX xs).Perm xs := List.mergeSort_perm _ _
theorem sortX_le (xs : List Xt) : (sortX xs).Pairwise fun x y => ltS y.1 x.1 = false := by
  have h := List.pairwise_mergeSort (le := fun x y : Xt => !(ltOf cmpX) y x) (fun a b c h1 h2 => by
    simp only [Bool.not_eq_true'] at *
    exact swoX.ntrans _ _ _ h2 h1) (fun a b => by
    cases h1 : ltOf cmpX b a
    · simp
    · cases h2 : ltOf cmpX a b
      · simp
      · have := swoX.trans _ _ _ h1 h2; rw [swoX.irrefl] at this; cases this) xs
  exact h.imp fun {a b} hab => by rw [← cmpX_lt]; simpa using hab
theorem putRow_X (w : World) (g : Nat) (xs : List Xt) : putRow encX w g 0 xs.toArray = putRow encStr w g 0 (xs.map cfX).toArray := by
  unfold putRow
  congr 1
  funext c
  unfold putCells
  congr 1
  funext k x
  simp only [List.size_toArray, List.length_map, Nat.zero_le, true_and, Nat.zero_add, Nat.sub_zero]
  by_cases hk : k < xs.length
  · simp [hk, encX, encStr_sv]
  · simp [hk]
theorem holds_X {w : World} {g : Nat} {xs : List Xt} (h : Holds encStr w g 0 (xs.map cfX).toArray) : Holds encX w g 0 xs.toArray := by
  intro j hj
  have hj' : j < xs.length := by simpa using hj
  have h1 := h j (by simpa using hj')
  have e : encX xs.toArray[j]! = encStr (xs.map cfX).toArray[j]! := by simp [hj', encX, encStr_sv]
  rw [e]
  exact h1
theorem one_X : OneCell encX := fun _ => rfl
set_option maxHeartbeats 1000000 in
theorem sortX_own (base c : Nat) (A : Option Addr) (xs : List Xt) (w : World) (h : w.ownsRow base 9 1 (.slice A xs.length c) xs.length (svs (xs.map cfX))) (hsz : xs.length < 4611686018427387904) :
    Calls Try.prog 25 #[.slice A xs.length c, .func (.func 26) #[] #[]] w fun e w' => e = .returned (.tuple #[]) ∧ w'.ownsRow base 9 1 (.slice A xs.length c) xs.length (svs ((sortX xs).map cfX)) ∧ w.grownBy w' (Value.slice A xs.length c).ownBlock := by
  rcases h.2 with ⟨hv, hn⟩ | ⟨g, cap, cur, hv, hg, hb, h1, h2, h3, h4⟩
  · have hnil : xs = [] := List.length_eq_zero_iff.1 hn
    subst hnil
    refine (Try.slices_SortFunc_none (α := Str) A c _ w).mono ?_
    rintro e w' ⟨rfl, rfl⟩
    exact ⟨rfl, by simpa [sortX] using h, World.grownBy.refl _ _⟩
  · injection hv with e1 _ e3
    subst e1 e3
    have hgl : g < w.heap.size := (Array.getElem?_eq_some_iff.1 hb).1
    have hlen : (xs.map cfX).length = xs.length := by simp
    have eg : ∀ args w, (callFunc 26 args).run Try.prog w = .ok (.enter 26 args) w := enters_of Try.func26 (by kernel_rfl) rfl
    have hH : Holds encX w g 0 xs.toArray := holds_X (holds_of_block hb (by rw [hlen]; rw [Nat.mul_one] at h4; exact h4))
    have hcmp : CmpLays1 Try.prog 26 #[] encX cmpX g 0 xs.toArray.size w := fun m os dk _ x y => by
      refine (laid1_any (cfX x) (cfX y) _ (by have := x.2; simp [cfX, confS]; omega) (by have := y.2; simp [cfX, confS]; omega)).mono ?_
      rintro e w' ⟨rfl, rfl⟩
      exact ⟨by rw [cmpX_cf], 0, #[], by rw [grow_empty]; rfl⟩
    have hcon := Try.slices_SortFunc_total encX one_X cmpX swoX 26 #[] g 0 c xs.toArray w eg hcmp hH hgl (by simpa using hsz)
      (by intro x y hx hy; rw [cmpX_lt] at hx hy; exact Subtype.ext (toS.total hx hy))
    simp only [List.size_toArray] at hcon
    refine hcon.mono ?_
    rintro e w' ⟨rfl, n, os, rfl⟩
    unfold sortWorld
    rw [putRow_X]
    have hs := ownsRow_sorted (w := w) (n := n) (os := os) (ss := xs.map cfX) (ts := (sortX xs).map cfX) (by simp [sortX_len]) hg hb (by simpa using h1) h2 h3
    rw [hlen] at hs
    exact ⟨rfl, hs, grownBy_sorted _⟩
end Od
end Go.Proofs.Ytgfdcmlmgeoimaa
end
