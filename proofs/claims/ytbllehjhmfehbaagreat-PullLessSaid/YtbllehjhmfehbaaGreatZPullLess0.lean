/- My texts, joined for the claim: LpC. -/
import Derived.Test.YtbllehjhmfehbaaGreatZB15
import Derived.Laws.BitsLemmas

section
/- The walk of the law PullLess. (bel2) -/
namespace Go.Proofs.YtbllehjhmfehbaaGreat
open Go.RowKit Go.Sort Go.Maps
set_option linter.unusedSimpArgs false
theorem i64_and65535 (n : Int) : bits .and .i64 n 65535 = n % 65536 := by
  have h127 : (BitVec.ofInt 64 65535).toNat = 2 ^ 16 - 1 := by decide
  have key : (BitVec.ofInt 64 n &&& BitVec.ofInt 64 65535).toNat = (n % ((2 ^ 64 : Nat) : Int)).toNat % 2 ^ 16 := by
    rw [BitVec.toNat_and, BitVec.toNat_ofInt, h127, Nat.and_two_pow_sub_one_eq_mod]
  show IntKind.i64.wrap ((BitVec.ofInt 64 n &&& BitVec.ofInt 64 65535).toNat : Nat) = n % 65536
  rw [key, IntKind.wrap_i64]
  omega
namespace Od

def nmO : Str := [110, 111, 110, 101, 46, 111, 102, 45, 116, 104, 101, 115, 101, 46, 116, 97, 114, 103, 101, 116]
def thereB (l : List Pl) (p : Pl) : Bool := l.any fun q => q.1 == p.1 && (q.2.1 == p.2.1 && (q.2.2.1 || !p.2.2.1))
theorem thereB_snoc (l : List Pl) (q p : Pl) : thereB (l ++ [q]) p = (thereB l p || (q.1 == p.1 && (q.2.1 == p.2.1 && (q.2.2.1 || !p.2.2.1)))) := by
  unfold thereB; rw [List.any_append]; simp
theorem thereB_less {ns : List Nd} {es : List Ed} {up half : List Str} {first : Jp} {x p : Pl} (hp : p ∈ pullQ ns es up half first [x]) : thereB (pullQ ns es up half first []) p = true := by
  obtain ⟨q, hq, h1, h2⟩ := pull_less hp
  unfold thereB
  rw [List.any_eq_true]
  refine ⟨q, hq, ?_⟩
  have e1 : q.1 = p.1 := congrArg (fun k : Jp => k.1) h1
  have e2 : q.2.1 = p.2.1 := congrArg (fun k : Jp => k.2) h1
  rw [e1, e2]
  rcases h2 with h2 | h2 <;> simp [h2]
theorem mod_at (a : Int) {n : Nat} (hn : 0 < n) : ∃ r x : Nat, bits .and .i64 a 65535 = (r : Int) ∧ (r : Int).tmod (n : Int) = (x : Int) ∧ x < n := by
  refine ⟨(a % 65536).toNat, (a % 65536).toNat % n, ?_, ?_, Nat.mod_lt _ hn⟩
  · rw [i64_and65535]; omega
  · rw [Int.tmod_eq_emod_of_nonneg (by omega)]; omega
set_option maxRecDepth 100000 in
set_option maxHeartbeats 16000000 in
theorem pullLess_any (An Ae Au Ah : Option Addr) (cn ce cu ch : Nat) (ns : List Nd) (es : List Ed) (up half : List Str) (u : Str) (t at' : Int) (w : World) (hg : GIw w An Ae ns es) (hn : NIn w Au Ah up half) (hof : okJ (u, t)) :
    Calls Tryz.prog 5 #[gV An ns.length cn Ae es.length ce, nowV Au up.length cu Ah half.length ch, sv u, .int .i64 t, .int .i64 at'] w fun e w' => e = .returned (.bool true) ∧ Below w.heap.size w w' := by
  have HG := Lib.hid hg
  have HN := Lib.hid hn
  clear hg hn
  go_enter Tryz.func5, Tryz.ntmps5
  go_wp2_with fail
  first | (refine wp_named ?_; intro W1 hW) | (refine calls_named ?_; intro W1 hW)
  have B1 : Below w.heap.size w W1 := by rw [hW]; exact (by repeat (first | exact Below.refl _ _ | assumption | refine Below.alloc ?_ (by first | omega | (simp <;> omega)) _ | refine Below.setCell ?_ (by first | omega | (simp <;> omega)) _ | refine Below.drew ?_))
  replace HG := Lib.hid (HG.out.at B1)
  replace HN := Lib.hid (HN.out.at B1)
  have n1 : w.heap.size < W1.heap.size := by rw [hW]; simp <;> omega
  have n2 : (w.heap.size + 1) < W1.heap.size := by rw [hW]; simp <;> omega
  have c0 : W1.cell? ⟨w.heap.size, 0, none⟩ = some (.slice An ns.length cn) := by rw [hW]; go_simp
  have c1 : W1.cell? ⟨w.heap.size, 1, none⟩ = some (.slice Ae es.length ce) := by rw [hW]; go_simp
  have c2 : W1.cell? ⟨(w.heap.size + 1), 0, none⟩ = some (.slice Au up.length cu) := by rw [hW]; go_simp
  have c3 : W1.cell? ⟨(w.heap.size + 1), 1, none⟩ = some (.slice Ah half.length ch) := by rw [hW]; go_simp
  clear hW
  have HB := Lib.hid B1
  clear B1
  refine (shown17_any W1).mono ?_
  rintro e w2 ⟨rfl, hb⟩
  replace c0 := cellAt c0 hb (by omega)
  replace c1 := cellAt c1 hb (by omega)
  replace c2 := cellAt c2 hb (by omega)
  replace c3 := cellAt c3 hb (by omega)
  replace HG := Lib.hid (HG.out.at hb)
  replace HN := Lib.hid (HN.out.at hb)
  replace n1 : w.heap.size < w2.heap.size := ltAt n1 hb
  replace n2 : (w.heap.size + 1) < w2.heap.size := ltAt n2 hb
  replace HB := Lib.hid (lift HB.out hb)
  clear hb
  go_wp2_with fail
  refine (small17_any An Ae cn ce ns es w2 HG.out).mono ?_
  rintro e w3 ⟨rfl, hb⟩
  replace c0 := cellAt c0 hb (by omega)
  replace c1 := cellAt c1 hb (by omega)
  replace c2 := cellAt c2 hb (by omega)
  replace c3 := cellAt c3 hb (by omega)
  replace HG := Lib.hid (HG.out.at hb)
  replace HN := Lib.hid (HN.out.at hb)
  replace n1 : w.heap.size < w3.heap.size := ltAt n1 hb
  replace n2 : (w.heap.size + 1) < w3.heap.size := ltAt n2 hb
  replace HB := Lib.hid (lift HB.out hb)
  clear hb
  cases hsm : small17 ns es
  · skip
    go_wp2_with fail
    go_ret
    exact ⟨rfl, HB.out⟩
  · obtain ⟨hl, hmay⟩ := small17_iff.1 hsm
    have hnl := may_len hmay
    have HMay := Lib.hid hmay
    clear hmay hsm
    go_wp2_with fail
    refine (PAll_any An Ae Au Ah none cn ce cu ch 0 ns es up half [] u t w3 HG.out.rn (by omega) HG.out.re (by omega) HN.out.u HN.out.h Rd.none_ (by simp) HG.out.oke hof (fun _ h => by cases h)).mono ?_
    rintro e w4 ⟨A, c, rfl, ho, hb⟩
    have HR := Lib.hid (own_rd' ho)
    replace c0 := cellAt c0 hb (by omega)
    replace c1 := cellAt c1 hb (by omega)
    replace c2 := cellAt c2 hb (by omega)
    replace c3 := cellAt c3 hb (by omega)
    replace HG := Lib.hid (HG.out.at hb)
    replace HN := Lib.hid (HN.out.at hb)
    replace n1 : w.heap.size < w4.heap.size := ltAt n1 hb
    replace n2 : (w.heap.size + 1) < w4.heap.size := ltAt n2 hb
    replace HB := Lib.hid (lift HB.out hb)
    have HOk := Lib.hid (fun p (hp : p ∈ pullQ ns es up half (u, t) []) => pull_ok HG.out.oke hof hp)
    have hlen := pullQ_len ns es up half (u, t) []
    have HLess := Lib.hid (fun (x p : Pl) (hp : p ∈ pullQ ns es up half (u, t) [x]) => thereB_less hp)
    have HGone := Lib.hid (fun (x p : Pl) (hx : x ∈ pullQ ns es up half (u, t) []) (hb : x.2.2.2 ≠ []) (hp : p ∈ pullQ ns es up half (u, t) [x]) => pull_gone HMay.out hx hb hp)
    have HOth := Lib.hid (fun (o : Pl) (ho : (nodeOf ns o.1).isSome = false) => pull_other (es := es) (up := up) (half := half) (first := (u, t)) HMay.out ho)
    clear hb ho
    generalize pullQ ns es up half (u, t) [] = L at *
    by_cases h0 : L.length = 0
    · have hL := List.length_eq_zero_iff.1 h0
      subst hL
      go_wp2_with fail
      go_ret
      exact ⟨rfl, HB.out⟩
    · obtain ⟨r, xi, hbit, hmod, hxi⟩ := mod_at at' (show 0 < L.length by omega)
      obtain ⟨b2, o2, hA, hB2, x0, x1, x2, x3⟩ := HR.out.pl hxi
      subst hA
      have hxm := List.getElem_mem hxi
      have hxo := HOk.out _ hxm
      have hd0 : ((L.length : Int) == 0) = false := by rw [beq_eq_false_iff_ne]; omega
      have HXm := Lib.hid hxm
      generalize hXe : L[xi] = X at x0 x1 x2 x3 hxo HXm
      obtain ⟨sx, tx, nx, bx⟩ := X
      simp only at x0 x1 x2 x3 hxo
      have HXe := Lib.hid hXe
      have i1 : (0 : Int) ≤ (xi : Int) := by omega
      have i2 : (xi : Int) < (L.length : Int) := by omega
      clear hxm hXe
      go_wp2_with fail
      first | (refine wp_named ?_; intro W5 hW) | (refine calls_named ?_; intro W5 hW)
      have B5 : Below w4.heap.size w4 W5 := by rw [hW]; exact (by repeat (first | exact Below.refl _ _ | assumption | refine Below.alloc ?_ (by first | omega | (simp <;> omega)) _ | refine Below.setCell ?_ (by first | omega | (simp <;> omega)) _ | refine Below.drew ?_))
      replace c0 := cellAt c0 B5 (by omega)
      replace c1 := cellAt c1 B5 (by omega)
      replace c2 := cellAt c2 B5 (by omega)
      replace c3 := cellAt c3 B5 (by omega)
      replace HG := Lib.hid (HG.out.at B5)
      replace HN := Lib.hid (HN.out.at B5)
      replace n1 : w.heap.size < W5.heap.size := ltAt n1 B5
      replace n2 : (w.heap.size + 1) < W5.heap.size := ltAt n2 B5
      replace HB := Lib.hid (lift HB.out B5)
      replace HR := Lib.hid (HR.out.at B5)
      have m5 : w4.heap.size < W5.heap.size := by rw [hW]; simp <;> omega
      have z0 : W5.cell? ⟨w4.heap.size, 0, none⟩ = some (sv sx) := by rw [hW]; go_simp
      have z1 : W5.cell? ⟨w4.heap.size, 1, none⟩ = some (.int .i64 tx) := by rw [hW]; go_simp
      have z3 : W5.cell? ⟨w4.heap.size, 3, none⟩ = some (sv bx) := by rw [hW]; go_simp
      have hrw : Rd W5 W5.heap.size 4 (some ⟨w4.heap.size + 1, 0, none⟩) 1 (plsC [(sx, tx, nx, bx)]) := by
        rw [hW]
        have h := Rd.lit (w4.alloc (.cells #[sv sx, .int .i64 tx, .bool nx, sv bx] 37)) (plsC [(sx, tx, nx, bx)]) 37 4 1 rfl
        simp only [World.size_alloc] at h ⊢
        exact h
      clear hW
      clear B5 x0 x1 x2 x3 hbit hmod
      refine (PAll_any An Ae Au Ah (some ⟨w4.heap.size + 1, 0, none⟩) cn ce cu ch 1 ns es up half [(sx, tx, nx, bx)] u t W5 HG.out.rn (by omega) HG.out.re (by omega) HN.out.u HN.out.h hrw (by simp) HG.out.oke hof (fun p h => by rw [List.mem_singleton.1 h]; exact hxo.1)).mono ?_
      rintro e w6 ⟨A6, c6, rfl, ho6, hb⟩
      have HR6 := Lib.hid (own_rd' ho6)
      replace c0 := cellAt c0 hb (by omega)
      replace c1 := cellAt c1 hb (by omega)
      replace c2 := cellAt c2 hb (by omega)
      replace c3 := cellAt c3 hb (by omega)
      replace z0 := cellAt z0 hb (by omega)
      replace z1 := cellAt z1 hb (by omega)
      replace z3 := cellAt z3 hb (by omega)
      replace HG := Lib.hid (HG.out.at hb)
      replace HN := Lib.hid (HN.out.at hb)
      replace n1 : w.heap.size < w6.heap.size := ltAt n1 hb
      replace n2 : (w.heap.size + 1) < w6.heap.size := ltAt n2 hb
      replace HB := Lib.hid (lift HB.out hb)
      replace HR := Lib.hid (HR.out.at hb)
      replace m5 : w4.heap.size < w6.heap.size := ltAt m5 hb
      have HOk6 := Lib.hid (fun p (hp : p ∈ pullQ ns es up half (u, t) [(sx, tx, nx, bx)]) => pull_ok HG.out.oke hof hp)
      have hlen6 := pullQ_len ns es up half (u, t) [(sx, tx, nx, bx)]
      have HLess6 := Lib.hid (HLess.out (sx, tx, nx, bx))
      have HGone6 := Lib.hid (fun (p : Pl) (hb : bx ≠ []) (hp : p ∈ pullQ ns es up half (u, t) [(sx, tx, nx, bx)]) => (show keyP p ≠ (sx, tx) from HGone.out (sx, tx, nx, bx) p (by rw [← HXe.out]; exact List.getElem_mem hxi) hb hp))
      clear hb ho6 hrw HLess HGone HXe HXm
      generalize pullQ ns es up half (u, t) [(sx, tx, nx, bx)] = M at *
      go_wp2_with fail
      go_loopw [52] (fun i wr => ∃ k : Nat, k ≤ M.length ∧ i = .int .i64 k ∧ Hid (Below w6.heap.size w6 wr)) (fun i _ => M.length - (intOf i).toNat)
      case atStart => exact ⟨0, Nat.zero_le _, rfl, Below.refl _ _⟩
      case round =>
        obtain ⟨k, hk, rfl, HBx⟩ := hrel
        obtain ⟨w7, rfl⟩ : ∃ wo : World, wo = wr := ⟨_, rfl⟩
        by_cases hlt : k < M.length
        · obtain ⟨b3, o3, hA3, hB3, y0, y1, y2, y3⟩ := (HR6.out.at HBx.out).pl hlt
          subst hA3
          have hth := HLess6.out _ (List.getElem_mem hlt)
          have hgo := fun hb => HGone6.out _ hb (List.getElem_mem hlt)
          generalize M[k] = p at y0 y1 y2 y3 hth hgo
          obtain ⟨sp, tp, np, bp⟩ := p
          simp only at y0 y1 y2 y3
          have HTh := Lib.hid hth
          have HGo := Lib.hid hgo
          have k1 : (0 : Int) ≤ (k : Int) := by omega
          have k2 : (k : Int) < (M.length : Int) := by omega
          clear hth hgo
          go_wp2_with fail
          replace c0 := cellAt c0 HBx.out (by omega)
          replace c1 := cellAt c1 HBx.out (by omega)
          replace c2 := cellAt c2 HBx.out (by omega)
          replace c3 := cellAt c3 HBx.out (by omega)
          replace z1 := cellAt z1 HBx.out (by omega)
          replace z3 := cellAt z3 HBx.out (by omega)
          replace z0 := cellAt z0 HBx.out (by omega)
          replace HG := Lib.hid (HG.out.at HBx.out)
          replace HN := Lib.hid (HN.out.at HBx.out)
          replace n1 : w.heap.size < w7.heap.size := ltAt n1 HBx.out
          replace n2 : (w.heap.size + 1) < w7.heap.size := ltAt n2 HBx.out
          replace HB := Lib.hid (lift HB.out HBx.out)
          replace HR := Lib.hid (HR.out.at HBx.out)
          replace m5 : w4.heap.size < w7.heap.size := ltAt m5 HBx.out
          replace HR6 := Lib.hid (HR6.out.at HBx.out)
          first | (refine wp_named ?_; intro W8 hW) | (refine calls_named ?_; intro W8 hW)
          have B8 : Below w7.heap.size w7 W8 := by rw [hW]; exact (by repeat (first | exact Below.refl _ _ | assumption | refine Below.alloc ?_ (by first | omega | (simp <;> omega)) _ | refine Below.setCell ?_ (by first | omega | (simp <;> omega)) _ | refine Below.drew ?_))
          replace c0 := cellAt c0 B8 (by omega)
          replace c1 := cellAt c1 B8 (by omega)
          replace c2 := cellAt c2 B8 (by omega)
          replace c3 := cellAt c3 B8 (by omega)
          replace z1 := cellAt z1 B8 (by omega)
          replace z3 := cellAt z3 B8 (by omega)
          replace z0 := cellAt z0 B8 (by omega)
          replace HG := Lib.hid (HG.out.at B8)
          replace HN := Lib.hid (HN.out.at B8)
          replace n1 : w.heap.size < W8.heap.size := ltAt n1 B8
          replace n2 : (w.heap.size + 1) < W8.heap.size := ltAt n2 B8
          replace HB := Lib.hid (lift HB.out B8)
          replace HR := Lib.hid (HR.out.at B8)
          replace m5 : w4.heap.size < W8.heap.size := ltAt m5 B8
          replace HR6 := Lib.hid (HR6.out.at B8)
          replace hB3 : b3 < W8.heap.size := ltAt hB3 B8
          have m8 : w7.heap.size < W8.heap.size := by rw [hW]; simp <;> omega
          have v0 : W8.cell? ⟨w7.heap.size, 0, none⟩ = some (sv sp) := by rw [hW]; go_simp
          have v1 : W8.cell? ⟨w7.heap.size, 1, none⟩ = some (.int .i64 tp) := by rw [hW]; go_simp
          have v2 : W8.cell? ⟨w7.heap.size, 2, none⟩ = some (.bool np) := by rw [hW]; go_simp
          clear hW
          have HB8 := Lib.hid (lift HBx.out B8)
          clear B8 y0 y1 y2 y3
          go_loopw [16, 58] (fun th i wr => ∃ j : Nat, j ≤ L.length ∧ i = .int .i64 j ∧ th = .bool (thereB (L.take j) (sp, tp, np, bp)) ∧ Hid (Below W8.heap.size W8 wr)) (fun _ i _ => L.length - (intOf i).toNat)
          case atStart => exact ⟨0, Nat.zero_le _, rfl, rfl, Below.refl _ _⟩
          case round =>
            obtain ⟨j, hj, rfl, rfl, HBy⟩ := hrel
            have hz8 := HBy.out.size
            by_cases hlt2 : j < L.length
            · obtain ⟨b4, o4, hA4, hB4, q0, q1, q2, q3⟩ := (HR.out.at HBy.out).pl hlt2
              injection hA4 with hA4
              injection hA4 with e1 e2
              subst e1 e2
              have hts : thereB (L.take (j + 1)) (sp, tp, np, bp) = (thereB (L.take j) (sp, tp, np, bp) || (L[j].1 == sp && (L[j].2.1 == tp && (L[j].2.2.1 || !np)))) := by rw [List.take_succ_eq_append_getElem hlt2]; exact thereB_snoc _ _ _
              generalize L[j] = q at q0 q1 q2 q3 hts
              obtain ⟨sq, tq, nq, bq⟩ := q
              simp only at q0 q1 q2 q3 hts
              have HTs := Lib.hid hts
              have j1 : (0 : Int) ≤ (j : Int) := by omega
              have j2 : (j : Int) < (L.length : Int) := by omega
              replace v0 := cellAt v0 HBy.out m8
              replace v1 := cellAt v1 HBy.out m8
              replace v2 := cellAt v2 HBy.out m8
              have m9 := ltAt m8 HBy.out
              clear hts
              cases hth : thereB (L.take j) (sp, tp, np, bp)
              · cases e1 : (sq == sp)
                · have HV := Lib.hid (show thereB (L.take (j + 1)) (sp, tp, np, bp) = false by rw [HTs.out, hth, e1]; rfl)
                  go_wp2_with fail
                  go_roundw
                  case rel => exact ⟨j + 1, by omega, by go_num, by first | rw [HV.out] | (rw [HV.out]; simp), lift HBy.out ((by repeat (first | exact Below.refl _ _ | assumption | refine Below.alloc ?_ (by first | omega | (simp <;> omega)) _ | refine Below.setCell ?_ (by first | omega | (simp <;> omega)) _ | refine Below.drew ?_)))⟩
                  case measure => simp [intOf]; omega
                · cases e2 : (tq == tp)
                  · have HV := Lib.hid (show thereB (L.take (j + 1)) (sp, tp, np, bp) = false by rw [HTs.out, hth, e1, e2]; rfl)
                    go_wp2_with fail
                    go_roundw
                    case rel => exact ⟨j + 1, by omega, by go_num, by first | rw [HV.out] | (rw [HV.out]; simp), lift HBy.out ((by repeat (first | exact Below.refl _ _ | assumption | refine Below.alloc ?_ (by first | omega | (simp <;> omega)) _ | refine Below.setCell ?_ (by first | omega | (simp <;> omega)) _ | refine Below.drew ?_)))⟩
                    case measure => simp [intOf]; omega
                  · cases nq
                    · have HV := Lib.hid (show thereB (L.take (j + 1)) (sp, tp, np, bp) = !np by rw [HTs.out, hth, e1, e2]; simp)
                      go_wp2_with fail
                      go_roundw
                      case rel => exact ⟨j + 1, by omega, by go_num, by first | rw [HV.out] | (rw [HV.out]; simp), lift HBy.out ((by repeat (first | exact Below.refl _ _ | assumption | refine Below.alloc ?_ (by first | omega | (simp <;> omega)) _ | refine Below.setCell ?_ (by first | omega | (simp <;> omega)) _ | refine Below.drew ?_)))⟩
                      case measure => simp [intOf]; omega
                    · have HV := Lib.hid (show thereB (L.take (j + 1)) (sp, tp, np, bp) = true by rw [HTs.out, hth, e1, e2]; simp)
                      go_wp2_with fail
                      go_roundw
                      case rel => exact ⟨j + 1, by omega, by go_num, by first | rw [HV.out] | (rw [HV.out]; simp), lift HBy.out ((by repeat (first | exact Below.refl _ _ | assumption | refine Below.alloc ?_ (by first | omega | (simp <;> omega)) _ | refine Below.setCell ?_ (by first | omega | (simp <;> omega)) _ | refine Below.drew ?_)))⟩
                      case measure => simp [intOf]; omega
              · have HV := Lib.hid (show thereB (L.take (j + 1)) (sp, tp, np, bp) = true by rw [HTs.out, hth]; rfl)
                go_wp2_with fail
                go_roundw
                case rel => exact ⟨j + 1, by omega, by go_num, by first | rw [HV.out] | (rw [HV.out]; simp), lift HBy.out ((by repeat (first | exact Below.refl _ _ | assumption | refine Below.alloc ?_ (by first | omega | (simp <;> omega)) _ | refine Below.setCell ?_ (by first | omega | (simp <;> omega)) _ | refine Below.drew ?_)))⟩
                case measure => simp [intOf]; omega
            · obtain rfl : j = L.length := by omega
              rw [List.take_length, HTh.out]
              have hbz := HBy.out
              have HBz := Lib.hid (lift HB8.out hbz)
              replace v0 := cellAt v0 hbz m8
              replace v1 := cellAt v1 hbz m8
              replace z0 := cellAt z0 hbz (by omega)
              replace z1 := cellAt z1 hbz (by omega)
              replace z3 := cellAt z3 hbz (by omega)
              clear hbz
              cases bx with
              | nil =>
                go_wp2_with fail
                go_roundw
                case rel => exact ⟨k + 1, by omega, by go_num, HBz⟩
                case measure => simp [intOf]; omega
              | cons b0 br =>
                cases e1 : (sp == sx)
                · skip
                  go_wp2_with fail
                  go_roundw
                  case rel => exact ⟨k + 1, by omega, by go_num, HBz⟩
                  case measure => simp [intOf]; omega
                · have e2 : (tp == tx) = false := by
                    have h := HGo.out (by simp)
                    rw [beq_iff_eq] at e1
                    rw [beq_eq_false_iff_ne]
                    exact fun e2 => h (by show (sp, tp) = (sx, tx); rw [e1, e2])
                  go_wp2_with fail
                  go_roundw
                  case rel => exact ⟨k + 1, by omega, by go_num, HBz⟩
                  case measure => simp [intOf]; omega
        · obtain rfl : k = M.length := by omega
          have hbr := HBx.out
          replace c0 := cellAt c0 hbr (by omega)
          replace c1 := cellAt c1 hbr (by omega)
          replace c2 := cellAt c2 hbr (by omega)
          replace c3 := cellAt c3 hbr (by omega)
          replace z0 := cellAt z0 hbr (by omega)
          replace z1 := cellAt z1 hbr (by omega)
          replace z3 := cellAt z3 hbr (by omega)
          replace HG := Lib.hid (HG.out.at hbr)
          replace HN := Lib.hid (HN.out.at hbr)
          replace n1 : w.heap.size < w7.heap.size := ltAt n1 hbr
          replace n2 : (w.heap.size + 1) < w7.heap.size := ltAt n2 hbr
          replace HB := Lib.hid (lift HB.out hbr)
          replace HR := Lib.hid (HR.out.at hbr)
          replace m5 : w4.heap.size < w7.heap.size := ltAt m5 hbr
          replace HR6 := Lib.hid (HR6.out.at hbr)
          clear hbr HBx
          go_wp2_with fail
          first | (refine wp_named ?_; intro W8 hW) | (refine calls_named ?_; intro W8 hW)
          have B8 : Below w7.heap.size w7 W8 := by rw [hW]; exact (by repeat (first | exact Below.refl _ _ | assumption | refine Below.alloc ?_ (by first | omega | (simp <;> omega)) _ | refine Below.setCell ?_ (by first | omega | (simp <;> omega)) _ | refine Below.drew ?_))
          replace c0 := cellAt c0 B8 (by omega)
          replace c1 := cellAt c1 B8 (by omega)
          replace c2 := cellAt c2 B8 (by omega)
          replace c3 := cellAt c3 B8 (by omega)
          replace z0 := cellAt z0 B8 (by omega)
          replace z1 := cellAt z1 B8 (by omega)
          replace z3 := cellAt z3 B8 (by omega)
          replace HG := Lib.hid (HG.out.at B8)
          replace HN := Lib.hid (HN.out.at B8)
          replace n1 : w.heap.size < W8.heap.size := ltAt n1 B8
          replace n2 : (w.heap.size + 1) < W8.heap.size := ltAt n2 B8
          replace HB := Lib.hid (lift HB.out B8)
          replace HR := Lib.hid (HR.out.at B8)
          replace m5 : w4.heap.size < W8.heap.size := ltAt m5 B8
          replace HR6 := Lib.hid (HR6.out.at B8)
          have m8 : w7.heap.size < W8.heap.size := by rw [hW]; simp <;> omega
          have v0 : W8.cell? ⟨w7.heap.size, 0, none⟩ = some (.string ⟨#[110, 111, 110, 101, 46, 111, 102, 45, 116, 104, 101, 115, 101, 46, 116, 97, 114, 103, 101, 116]⟩) := by rw [hW]; go_simp
          have v1 : W8.cell? ⟨w7.heap.size, 1, none⟩ = some (.int .i64 t) := by rw [hW]; go_simp
          have v2 : W8.cell? ⟨w7.heap.size, 2, none⟩ = some (.bool false) := by rw [hW]; go_simp
          have v3 : W8.cell? ⟨w7.heap.size, 3, none⟩ = some (.string ⟨#[]⟩) := by rw [hW]; go_simp
          clear hW
          clear B8
          refine (Node_any An Ae es.length cn ce ns nmO W8 HG.out.rn (by omega)).mono ?_
          rintro e w9 ⟨rfl, hb⟩
          replace c0 := cellAt c0 hb (by omega)
          replace c1 := cellAt c1 hb (by omega)
          replace c2 := cellAt c2 hb (by omega)
          replace c3 := cellAt c3 hb (by omega)
          replace z0 := cellAt z0 hb (by omega)
          replace z1 := cellAt z1 hb (by omega)
          replace z3 := cellAt z3 hb (by omega)
          replace v0 := cellAt v0 hb (by omega)
          replace v1 := cellAt v1 hb (by omega)
          replace v2 := cellAt v2 hb (by omega)
          replace v3 := cellAt v3 hb (by omega)
          replace HG := Lib.hid (HG.out.at hb)
          replace HN := Lib.hid (HN.out.at hb)
          replace n1 : w.heap.size < w9.heap.size := ltAt n1 hb
          replace n2 : (w.heap.size + 1) < w9.heap.size := ltAt n2 hb
          replace HB := Lib.hid (lift HB.out hb)
          replace HR := Lib.hid (HR.out.at hb)
          replace m5 : w4.heap.size < w9.heap.size := ltAt m5 hb
          replace HR6 := Lib.hid (HR6.out.at hb)
          replace m8 : w7.heap.size < w9.heap.size := ltAt m8 hb
          clear hb
          have hz9 := HB.out.size
          cases hno : nodeOf ns nmO with
          | some nd =>
            obtain ⟨s1, k1, r1⟩ := nd
            unfold nodeV
            go_wp2_with fail
            go_ret
            exact ⟨rfl, HB.out.alloc hz9 _⟩
          | none =>
            have hoe := HOth.out (nmO, t, false, []) (by rw [hno]; rfl)
            have HOe := Lib.hid hoe
            clear hoe
            unfold nodeV
            go_wp2_with fail
            first | (refine wp_named ?_; intro X1 hW) | (refine calls_named ?_; intro X1 hW)
            have D1 : Below w9.heap.size w9 X1 := by rw [hW]; exact (by repeat (first | exact Below.refl _ _ | assumption | refine Below.alloc ?_ (by first | omega | (simp <;> omega)) _ | refine Below.setCell ?_ (by first | omega | (simp <;> omega)) _ | refine Below.drew ?_))
            replace c0 := cellAt c0 D1 (by omega)
            replace c1 := cellAt c1 D1 (by omega)
            replace c2 := cellAt c2 D1 (by omega)
            replace c3 := cellAt c3 D1 (by omega)
            replace z0 := cellAt z0 D1 (by omega)
            replace z1 := cellAt z1 D1 (by omega)
            replace z3 := cellAt z3 D1 (by omega)
            replace v0 := cellAt v0 D1 (by omega)
            replace v1 := cellAt v1 D1 (by omega)
            replace v2 := cellAt v2 D1 (by omega)
            replace v3 := cellAt v3 D1 (by omega)
            replace HG := Lib.hid (HG.out.at D1)
            replace HN := Lib.hid (HN.out.at D1)
            replace n1 : w.heap.size < X1.heap.size := ltAt n1 D1
            replace n2 : (w.heap.size + 1) < X1.heap.size := ltAt n2 D1
            replace HB := Lib.hid (lift HB.out D1)
            replace HR := Lib.hid (HR.out.at D1)
            replace m5 : w4.heap.size < X1.heap.size := ltAt m5 D1
            replace HR6 := Lib.hid (HR6.out.at D1)
            replace m8 : w7.heap.size < X1.heap.size := ltAt m8 D1
            have hrw : Rd X1 X1.heap.size 4 (some ⟨w9.heap.size + 1, 0, none⟩) 1 (plsC [(nmO, t, false, [])]) := by
              rw [hW]
              have h := Rd.lit (w9.alloc (.cells #[sv [], .int .i64 0, .int .i64 0] 39)) (plsC [(nmO, t, false, [])]) 37 4 1 rfl
              simp only [World.size_alloc] at h ⊢
              exact h
            clear hW
            clear D1
            refine (PAll_any An Ae Au Ah (some ⟨w9.heap.size + 1, 0, none⟩) cn ce cu ch 1 ns es up half [(nmO, t, false, [])] u t X1 HG.out.rn (by omega) HG.out.re (by omega) HN.out.u HN.out.h hrw (by simp) HG.out.oke hof (fun p h => by rw [List.mem_singleton.1 h]; exact ⟨by show nmO.length ≤ maxLen; unfold maxLen; decide, hof.2⟩)).mono ?_
            rw [HOe.out]
            rintro e X2 ⟨A9, c9, rfl, ho9, hb⟩
            have HR9 := Lib.hid (own_rd' ho9)
            replace c0 := cellAt c0 hb (by omega)
            replace c1 := cellAt c1 hb (by omega)
            replace c2 := cellAt c2 hb (by omega)
            replace c3 := cellAt c3 hb (by omega)
            replace z0 := cellAt z0 hb (by omega)
            replace z1 := cellAt z1 hb (by omega)
            replace z3 := cellAt z3 hb (by omega)
            replace v0 := cellAt v0 hb (by omega)
            replace v1 := cellAt v1 hb (by omega)
            replace v2 := cellAt v2 hb (by omega)
            replace v3 := cellAt v3 hb (by omega)
            replace HG := Lib.hid (HG.out.at hb)
            replace HN := Lib.hid (HN.out.at hb)
            replace n1 : w.heap.size < X2.heap.size := ltAt n1 hb
            replace n2 : (w.heap.size + 1) < X2.heap.size := ltAt n2 hb
            replace HB := Lib.hid (lift HB.out hb)
            replace HR := Lib.hid (HR.out.at hb)
            replace m5 : w4.heap.size < X2.heap.size := ltAt m5 hb
            replace HR6 := Lib.hid (HR6.out.at hb)
            replace m8 : w7.heap.size < X2.heap.size := ltAt m8 hb
            clear hb ho9 hrw
            go_wp2_with fail
            refine (SamePulls_any A9 (some ⟨b2, o2, none⟩) c9 c L L X2 HR9.out HR.out (by omega)).mono ?_
            rw [decide_eq_true rfl]
            rintro e X3 ⟨rfl, hb⟩
            have HB9 := Lib.hid (lift HB.out hb)
            clear hb
            go_wp2_with fail
            go_ret
            exact ⟨rfl, HB9.out⟩
end Od
end Go.Proofs.YtbllehjhmfehbaaGreat
end
