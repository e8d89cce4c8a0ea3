/- My texts, joined for the claim: QReadyW QGIw OSortB QOwn QSmallW QSameW GrowS. -/
import Derived.Test.YtanfnejbnmenkaaGreatZB9
import Derived.Test.YtanfnejbnmenkaaGreatZB10
import Derived.Test.YtanfnejbnmenkaaGreatZB4
import Derived.Test.YtanfnejbnmenkaaGreatZB6
import Derived.Test.YtanfnejbnmenkaaGreatZB8
import Derived.Test.YtanfnejbnmenkaaGreatZB1
import Derived.Test.YtanfnejbnmenkaaGreatZB2
import Derived.Shelf.Spec.SlicesGrow
import Derived.Ground.Names8Prog
import Derived.Test.YtanfnejbnmenkaaGreatProg

section
/- The walks of queue.Ready and queue.Sound. (bel2) -/
namespace Go.Proofs.YtanfnejbnmenkaaGreat
open Go.RowKit Go.Sort
set_option linter.unusedSimpArgs false

namespace Od
theorem infoJ : (Tryz.prog.info? 50).map (fun i => (i.zero, i.size, i.bytes)) = some (some (.agg #[.string ⟨#[]⟩, .int .i64 0, .int .i64 0, .int .i64 0]), 4, 40) := by kernel_rfl
def readyL (es : List Ed) (q : List Jb) (m : Nat) : List Str := ((q.take m).filter (readyB es q)).map (·.1)
theorem readyL_succ {es : List Ed} {q : List Jb} {i : Nat} (hi : i < q.length) : readyL es q (i + 1) = readyL es q i ++ (if readyB es q q[i] = true then [q[i].1] else []) := by
  unfold readyL
  rw [filter_take_succ (p := readyB es q) hi, List.map_append]
  split <;> simp
theorem readyL_len (es : List Ed) (q : List Jb) (i : Nat) : (readyL es q i).length ≤ q.length := by
  unfold readyL; rw [List.length_map]; exact filter_take_le
theorem readyL_all {es : List Ed} {q : List Jb} (h : mayQ q = true) : readyL es q q.length = readyQ es q := by
  unfold readyL readyQ; rw [if_pos h, List.take_length]
set_option maxRecDepth 100000 in
set_option maxHeartbeats 16000000 in
theorem ReadyQ_any (An Ae : Option Addr) (nn cn ce : Nat) (es : List Ed) (A : Option Addr) (c : Nat) (q : List Jb) (w : World) (hr : Rd w w.heap.size 3 Ae es.length (edsC es)) (hq : Rd w w.heap.size 4 A q.length (jbsC q)) (hl : es.length ≤ 1000000) (hlq : q.length ≤ 1000000) (hok : OkJs q) :
    Calls Tryz.prog 26 #[gV An nn cn Ae es.length ce, .slice A q.length c] w (OwnS (readyQ es q) w) := by
  obtain ⟨i0, hi, hz0, hz1, hz2⟩ := info_parts infoS
  have Hr := Lib.hid hr
  have HQ := Lib.hid hq
  have HOk := Lib.hid hok
  clear hr hq hok
  go_enter Tryz.func26, Tryz.ntmps26
  go_wp2_with fail
  first | (refine wp_named ?_; intro W1 hW) | (refine calls_named ?_; intro W1 hW)
  have B1 : Below w.heap.size w W1 := by rw [hW]; exact (by repeat (first | exact Below.refl _ _ | assumption | refine Below.alloc ?_ (by first | omega | (simp <;> omega)) _ | refine Below.setCell ?_ (by first | omega | (simp <;> omega)) _ | refine Below.drew ?_))
  replace Hr := Lib.hid (Hr.out.at B1)
  replace HQ := Lib.hid (HQ.out.at B1)
  have n1 : w.heap.size < W1.heap.size := by rw [hW]; simp <;> omega
  have g0 : W1.cell? ⟨w.heap.size, 0, none⟩ = some (.slice An nn cn) := by rw [hW]; go_simp
  have g1 : W1.cell? ⟨w.heap.size, 1, none⟩ = some (.slice Ae es.length ce) := by rw [hW]; go_simp
  clear hW
  have HB := Lib.hid B1
  clear B1
  refine (MayQ_any A c q W1 HQ.out (by omega) HOk.out).mono ?_
  rintro e w3 ⟨rfl, hb⟩
  replace g0 := cellAt g0 hb (by omega)
  replace g1 := cellAt g1 hb (by omega)
  replace Hr := Lib.hid (Hr.out.at hb)
  replace HQ := Lib.hid (HQ.out.at hb)
  replace n1 : w.heap.size < w3.heap.size := ltAt n1 hb
  replace HB := Lib.hid (lift HB.out hb)
  clear hb
  cases hm : mayQ q
  · have HW := Lib.hid (show readyQ es q = [] by unfold readyQ; rw [hm]; simp)
    go_wp2_with fail
    go_ret
    rw [HW.out]
    exact OwnS.nil HB.out
  · have HM := Lib.hid hm
    clear hm
    have hzw : w.heap.size ≤ w3.heap.size := HB.out.size
    go_wp2_with fail
    go_loopw [5, 13] (fun v i wr => ∃ m : Nat, m ≤ q.length ∧ i = .int .i64 m ∧ wr.ownsRow w3.heap.size 9 1 v (readyL es q m).length (svs (readyL es q m)) ∧ Below w3.heap.size w3 wr) (fun _ i _ => q.length - (intOf i).toNat)
    case atStart => exact ⟨0, Nat.zero_le _, rfl, World.ownsRow_nil _ _ _ _, Below.refl _ _⟩
    case round =>
      obtain ⟨m, hm, rfl, hown, hb⟩ := hrel
      have HOut := Lib.hid hown
      have Hb := Lib.hid hb
      clear hown
      replace g0 := cellAt g0 hb (by omega)
      replace g1 := cellAt g1 hb (by omega)
      replace Hr := Lib.hid (Hr.out.at hb)
      replace HQ := Lib.hid (HQ.out.at hb)
      replace n1 : w.heap.size < wr.heap.size := ltAt n1 hb
      replace HB := Lib.hid (lift HB.out hb)
      clear hb
      by_cases hlt : m < q.length
      · obtain ⟨b2, o2, hA, hB2, x0, x1, x2, x3⟩ := HQ.out.job hlt
        subst hA
        have hsucc := readyL_succ (es := es) hlt
        have hln := readyL_len es q m
        generalize q[m] = x at x0 x1 x2 x3 hsucc
        obtain ⟨s, t, r, d⟩ := x
        simp only at x0 x1 x2 x3 hsucc
        have hrb : readyB es q (s, t, r, d) = (r == 1 && (waitsQ es q s).isEmpty) := rfl
        rw [hrb] at hsucc
        have m1 : (0 : Int) ≤ (m : Int) := by omega
        have m2 : (m : Int) < (q.length : Int) := by omega
        by_cases r1 : r = 1
        · subst r1
          have HS := Lib.hid hsucc
          clear hsucc hrb
          go_wp2_with fail
          first | (refine wp_named ?_; intro W2 hW) | (refine calls_named ?_; intro W2 hW)
          have B2 : Below wr.heap.size wr W2 := by rw [hW]; exact (by repeat (first | exact Below.refl _ _ | assumption | refine Below.alloc ?_ (by first | omega | (simp <;> omega)) _ | refine Below.setCell ?_ (by first | omega | (simp <;> omega)) _ | refine Below.drew ?_))
          replace g0 := cellAt g0 B2 (by omega)
          replace g1 := cellAt g1 B2 (by omega)
          replace Hr := Lib.hid (Hr.out.at B2)
          replace HQ := Lib.hid (HQ.out.at B2)
          replace n1 : w.heap.size < W2.heap.size := ltAt n1 B2
          replace HB := Lib.hid (lift HB.out B2)
          replace HOut := Lib.hid (own_on HOut.out B2)
          replace Hb := Lib.hid (lift Hb.out B2)
          have p1 : wr.heap.size < W2.heap.size := by rw [hW]; simp <;> omega
          have e0 : W2.cell? ⟨wr.heap.size, 0, none⟩ = some (sv s) := by rw [hW]; go_simp
          have e1 : W2.cell? ⟨wr.heap.size, 1, none⟩ = some (.int .i64 t) := by rw [hW]; go_simp
          have e2 : W2.cell? ⟨wr.heap.size, 2, none⟩ = some (.int .i64 1) := by rw [hW]; go_simp
          have e3 : W2.cell? ⟨wr.heap.size, 3, none⟩ = some (.int .i64 d) := by rw [hW]; go_simp
          clear hW
          clear B2
          go_wp2_with fail
          refine (WaitsQ_any An Ae nn cn ce es _ c q s W2 Hr.out HQ.out hl hlq HOk.out).mono ?_
          rintro e v3 ⟨A5, c5, rfl, _, hb⟩
          replace g0 := cellAt g0 hb (by omega)
          replace g1 := cellAt g1 hb (by omega)
          replace e0 := cellAt e0 hb (by omega)
          replace e1 := cellAt e1 hb (by omega)
          replace e2 := cellAt e2 hb (by omega)
          replace e3 := cellAt e3 hb (by omega)
          replace Hr := Lib.hid (Hr.out.at hb)
          replace HQ := Lib.hid (HQ.out.at hb)
          replace n1 : w.heap.size < v3.heap.size := ltAt n1 hb
          replace HB := Lib.hid (lift HB.out hb)
          replace HOut := Lib.hid (own_on HOut.out hb)
          replace Hb := Lib.hid (lift Hb.out hb)
          replace p1 : wr.heap.size < v3.heap.size := ltAt p1 hb
          clear hb
          have hzb : w3.heap.size ≤ v3.heap.size := Hb.out.size
          cases hW : waitsQ es q s with
          | nil =>
            have HS2 := Lib.hid (show readyL es q (m + 1) = readyL es q m ++ [s] by rw [HS.out, hW]; simp)
            have h63 : (readyL es q m).length + 1 ≤ maxLen := by unfold maxLen; omega
            have hby : ((readyL es q m).length + 1) * 16 ≤ 140737488355328 := by omega
            go_wp2_with (first | (at_builtin; refine wpList_pushm w3 v3 (by rfl) (.tmp 29) (.tmp 32) 37 (by rfl) w3.heap.size 9 i0 _ 1 16 Tryz.underlying37 hi hz0 hz1 hz2 rfl (by decide) _ _ _ (by rfl) HOut.out [sv s] v3.heap.size rfl (by rfl) rfl (one_sv s) h63 hby hzb Hb.out ?_; intro A8 c8 w4 hown4 hbel4 hg4 hat4) | fail)
            go_roundw
            case rel => exact ⟨m + 1, by omega, by go_num, by rw [HS2.out]; simpa [svs] using hown4, hbel4⟩
            case measure => simp [intOf]; omega
          | cons z zs =>
            have HS2 := Lib.hid (show readyL es q (m + 1) = readyL es q m by rw [HS.out, hW]; simp)
            have hne : ((((z :: zs).length : Nat) : Int) == 0) = false := by simp; omega
            go_wp2_with fail
            go_roundw
            case rel => exact ⟨m + 1, by omega, by go_num, by rw [HS2.out]; exact HOut.out, Hb.out⟩
            case measure => simp [intOf]; omega
        · have rb : (r == 1) = false := by simpa using r1
          rw [rb] at hsucc
          have HS2 := Lib.hid (show readyL es q (m + 1) = readyL es q m by rw [hsucc]; simp)
          clear hsucc hrb r1
          go_wp2_with fail
          go_roundw
          case rel => exact ⟨m + 1, by omega, by go_num, by rw [HS2.out]; exact HOut.out.alloc _, Hb.out.alloc Hb.out.size _⟩
          case measure => simp [intOf]; omega
      · have hmq : m = q.length := by omega
        have ho := HOut.out
        rw [hmq, readyL_all HM.out] at ho
        have HO2 := Lib.hid ho
        clear ho
        go_wp2_with fail
        go_ret
        exact OwnS.of HO2.out hzw HB.out
theorem noPair_drop {es : List Ed} {q : List Jb} {k : Nat} (hk : k < q.length) {y : Jb} (hy : y ∈ q.drop (k + 1)) (h : runPair es q[k] y = true) : noPair es q = false := by
  cases hn : noPair es q
  · rfl
  · have hp := List.Pairwise.sublist (List.drop_sublist k q) (noPair_iff.1 hn)
    rw [List.drop_eq_getElem_cons hk] at hp
    have := (List.pairwise_cons.1 hp).1 y hy
    rw [h] at this
    cases this
theorem noPair_all {es : List Ed} {q : List Jb} (h : ∀ k (hk : k < q.length), ∀ y ∈ q.drop (k + 1), runPair es q[k] y = false) : noPair es q = true := by
  refine noPair_iff.2 (List.pairwise_iff_getElem.2 fun i j hi hj hij => h i hi q[j] ?_)
  refine List.mem_iff_getElem.2 ⟨j - (i + 1), by rw [List.length_drop]; omega, ?_⟩
  rw [List.getElem_drop]
  congr 1
  omega
/-- What the walks on a queue start from. -/
structure QIn (w : World) (A : Option Addr) (c : Nat) (q : List Jb) : Prop where
  rq : Rd w w.heap.size 4 A q.length (jbsC q)
  ok : OkJs q
  cap : q.length ≤ c
theorem QIn.at {w w' : World} {A : Option Addr} {c : Nat} {q : List Jb} (h : QIn w A c q) (hb : Below w.heap.size w w') : QIn w' A c q := ⟨h.rq.at hb, h.ok, h.cap⟩
structure GIq (w : World) (An Ae : Option Addr) (ns : List Nd) (es : List Ed) : Prop where
  rn : Rd w w.heap.size 3 An ns.length (ndsC ns)
  re : Rd w w.heap.size 3 Ae es.length (edsC es)
  okn : OkNs ns
  oke : OkE es
  ln : ns.length ≤ 64
  le : es.length ≤ 200
theorem GIq.at {w w' : World} {An Ae : Option Addr} {ns : List Nd} {es : List Ed} (h : GIq w An Ae ns es) (hb : Below w.heap.size w w') : GIq w' An Ae ns es := ⟨h.rn.at hb, h.re.at hb, h.okn, h.oke, h.ln, h.le⟩
set_option maxRecDepth 100000 in
set_option maxHeartbeats 16000000 in
theorem SoundQ_any (An Ae : Option Addr) (cn ce : Nat) (ns : List Nd) (es : List Ed) (A : Option Addr) (c : Nat) (q : List Jb) (w : World) (hg : GIq w An Ae ns es) (hq : QIn w A c q) (hlq : q.length ≤ 140737488355328) :
    Calls Tryz.prog 19 #[gV An ns.length cn Ae es.length ce, .slice A q.length c] w fun e w' => e = .returned (.bool (soundQ ns es q)) ∧ Below w.heap.size w w' := by
  obtain ⟨i0, hi, hz0, hz1, hz2⟩ := info_parts infoJ
  have hln := hg.ln
  have hle := hg.le
  have HG := Lib.hid hg
  have HQ := Lib.hid hq
  have HM := Lib.hid (show soundQ ns es q = (mayG ns es && (isB es && (mayQ q && noPair es q))) from rfl)
  clear hg hq
  go_enter Tryz.func19, Tryz.ntmps19
  go_wp2_with fail
  first | (refine wp_named ?_; intro W1 hW) | (refine calls_named ?_; intro W1 hW)
  have B1 : Below w.heap.size w W1 := by rw [hW]; exact (by repeat (first | exact Below.refl _ _ | assumption | refine Below.alloc ?_ (by first | omega | (simp <;> omega)) _ | refine Below.setCell ?_ (by first | omega | (simp <;> omega)) _ | refine Below.drew ?_))
  replace HG := Lib.hid (HG.out.at B1)
  replace HQ := Lib.hid (HQ.out.at B1)
  have n1 : w.heap.size < W1.heap.size := by rw [hW]; simp <;> omega
  have g0 : W1.cell? ⟨w.heap.size, 0, none⟩ = some (.slice An ns.length cn) := by rw [hW]; go_simp
  have g1 : W1.cell? ⟨w.heap.size, 1, none⟩ = some (.slice Ae es.length ce) := by rw [hW]; go_simp
  clear hW
  have HB := Lib.hid B1
  clear B1
  refine (MayG_any An Ae cn ce ns es W1 HG.out.rn HG.out.re (by omega) (by omega) HG.out.okn).mono ?_
  rintro e w2 ⟨rfl, hb⟩
  replace g0 := cellAt g0 hb (by omega)
  replace g1 := cellAt g1 hb (by omega)
  replace HG := Lib.hid (HG.out.at hb)
  replace HQ := Lib.hid (HQ.out.at hb)
  replace n1 : w.heap.size < w2.heap.size := ltAt n1 hb
  replace HB := Lib.hid (lift HB.out hb)
  clear hb
  cases h1 : mayG ns es
  · have H1 := Lib.hid h1
    go_wp2_with fail
    go_ret
    exact ⟨ret_bool (by rw [HM.out]; simp [H1.out]), HB.out⟩
  · have H1 := Lib.hid h1
    go_wp2_with fail
    refine (Is_any An Ae ns.length cn ce es w2 HG.out.re HG.out.oke (by omega)).mono ?_
    rintro e w3 ⟨rfl, hb⟩
    replace g0 := cellAt g0 hb (by omega)
    replace g1 := cellAt g1 hb (by omega)
    replace HG := Lib.hid (HG.out.at hb)
    replace HQ := Lib.hid (HQ.out.at hb)
    replace n1 : w.heap.size < w3.heap.size := ltAt n1 hb
    replace HB := Lib.hid (lift HB.out hb)
    clear hb
    cases h2 : isB es
    · have H2 := Lib.hid h2
      go_wp2_with fail
      go_ret
      exact ⟨ret_bool (by rw [HM.out]; simp [H1.out, H2.out]), HB.out⟩
    · have H2 := Lib.hid h2
      go_wp2_with fail
      refine (MayQ_any A c q w3 HQ.out.rq hlq HQ.out.ok).mono ?_
      rintro e w4 ⟨rfl, hb⟩
      replace g0 := cellAt g0 hb (by omega)
      replace g1 := cellAt g1 hb (by omega)
      replace HG := Lib.hid (HG.out.at hb)
      replace HQ := Lib.hid (HQ.out.at hb)
      replace n1 : w.heap.size < w4.heap.size := ltAt n1 hb
      replace HB := Lib.hid (lift HB.out hb)
      clear hb
      cases h3 : mayQ q
      · have H3 := Lib.hid h3
        go_wp2_with fail
        go_ret
        exact ⟨ret_bool (by rw [HM.out]; simp [H1.out, H2.out, H3.out]), HB.out⟩
      · have H3 := Lib.hid h3
        have hlq2 : q.length ≤ 64 := (mayQ_iff.1 h3).1
        clear h3
        go_wp2_with fail
        go_loopw [24] (fun i wr => ∃ m : Nat, m ≤ q.length ∧ i = .int .i64 m ∧ Hid (∀ k (hk : k < q.length), k < m → ∀ y ∈ q.drop (k + 1), runPair es q[k] y = false) ∧ Below w4.heap.size w4 wr) (fun i _ => q.length - (intOf i).toNat)
        case atStart => exact ⟨0, Nat.zero_le _, rfl, fun _ _ h => absurd h (by omega), Below.refl _ _⟩
        case round =>
          obtain ⟨m, hm, rfl, hall, hb⟩ := hrel
          have Hall := Lib.hid hall.out
          clear hall
          have Hb := Lib.hid hb
          replace g0 := cellAt g0 hb (by omega)
          replace g1 := cellAt g1 hb (by omega)
          replace HG := Lib.hid (HG.out.at hb)
          replace HQ := Lib.hid (HQ.out.at hb)
          replace n1 : w.heap.size < wr.heap.size := ltAt n1 hb
          replace HB := Lib.hid (lift HB.out hb)
          clear hb
          by_cases hlt : m < q.length
          · obtain ⟨b2, o2, hA, hB2, x0, x1, x2, x3⟩ := HQ.out.rq.job hlt
            have hcap := HQ.out.cap
            have hrd := HQ.out.rq.dropA (m := m + 1) hlt hcap
            have hml : (q.drop (m + 1)).length = q.length - (m + 1) := List.length_drop
            have hs2 := run_slice_tail (P := Tryz.prog) Tryz.underlying26 hi A q.length c (m + 1) hlt
            rw [hz1] at hs2
            rw [show (((m + 1 : Nat)) : Int) = (m : Int) + 1 from by omega, ← hml] at hs2
            rw [← hml, ← jbsC_drop] at hrd
            have kw : IntKind.i64.wrap ((m : Int) + 1) = (m : Int) + 1 := IntWalk.i64_in _ (by omega)
            have hml2 : (q.drop (m + 1)).length ≤ 64 := by omega
            have hbad := fun y (hy : y ∈ q.drop (m + 1)) => noPair_drop (es := es) hlt hy
            generalize hx : q[m] = x at x0 x1 x2 x3 hbad
            obtain ⟨s, t, r, d⟩ := x
            have Hx := Lib.hid hx
            clear hx
            simp only at x0 x1 x2 x3
            generalize hAd : dropA A c (m + 1) 4 = Ad at hs2 hrd
            generalize hMd : q.drop (m + 1) = M at hs2 hrd hml2 hbad
            have HMd := Lib.hid hMd
            have Hbad := Lib.hid hbad
            have HRd := Lib.hid hrd
            clear hml hAd hMd hbad hrd
            have m1 : (0 : Int) ≤ (m : Int) := by omega
            have m2 : (m : Int) < (q.length : Int) := by omega
            subst hA
            obtain ⟨w9, rfl⟩ : ∃ wo : World, wo = wr := ⟨_, rfl⟩
            go_wp2_with fail
            first | (refine wp_named ?_; intro W2 hW) | (refine calls_named ?_; intro W2 hW)
            have B2 : Below w9.heap.size w9 W2 := by rw [hW]; exact (by repeat (first | exact Below.refl _ _ | assumption | refine Below.alloc ?_ (by first | omega | (simp <;> omega)) _ | refine Below.setCell ?_ (by first | omega | (simp <;> omega)) _ | refine Below.drew ?_))
            replace g0 := cellAt g0 B2 (by omega)
            replace g1 := cellAt g1 B2 (by omega)
            replace HG := Lib.hid (HG.out.at B2)
            replace HQ := Lib.hid (HQ.out.at B2)
            replace n1 : w.heap.size < W2.heap.size := ltAt n1 B2
            replace HB := Lib.hid (lift HB.out B2)
            replace Hb := Lib.hid (lift Hb.out B2)
            replace HRd := Lib.hid (HRd.out.at B2)
            have p1 : w9.heap.size < W2.heap.size := by rw [hW]; simp <;> omega
            have e0 : W2.cell? ⟨w9.heap.size, 0, none⟩ = some (sv s) := by rw [hW]; go_simp
            have e1 : W2.cell? ⟨w9.heap.size, 1, none⟩ = some (.int .i64 t) := by rw [hW]; go_simp
            have e2 : W2.cell? ⟨w9.heap.size, 2, none⟩ = some (.int .i64 r) := by rw [hW]; go_simp
            have e3 : W2.cell? ⟨w9.heap.size, 3, none⟩ = some (.int .i64 d) := by rw [hW]; go_simp
            clear hW
            clear B2
            have Hb9 := Hb
            go_loopw [34] (fun i wr => ∃ j : Nat, j ≤ M.length ∧ i = .int .i64 j ∧ Hid (∀ y ∈ M.take j, runPair es (s, t, r, d) y = false) ∧ Below W2.heap.size W2 wr) (fun i _ => M.length - (intOf i).toNat)
            case atStart => exact ⟨0, Nat.zero_le _, rfl, by simp [Hid], Below.refl _ _⟩
            case round =>
              obtain ⟨j, hj, rfl, hall2, hb⟩ := hrel
              have Hb7 := Lib.hid hb
              replace g0 := cellAt g0 hb (by omega)
              replace g1 := cellAt g1 hb (by omega)
              replace e0 := cellAt e0 hb (by omega)
              replace e1 := cellAt e1 hb (by omega)
              replace e2 := cellAt e2 hb (by omega)
              replace e3 := cellAt e3 hb (by omega)
              replace HG := Lib.hid (HG.out.at hb)
              replace HQ := Lib.hid (HQ.out.at hb)
              replace n1 : w.heap.size < wr.heap.size := ltAt n1 hb
              replace HB := Lib.hid (lift HB.out hb)
              replace HRd := Lib.hid (HRd.out.at hb)
              replace p1 : w9.heap.size < wr.heap.size := ltAt p1 hb
              clear hb
              by_cases hlt2 : j < M.length
              · obtain ⟨b3, o3, hA3, hB3, y0, y1, y2, y3⟩ := HRd.out.job hlt2
                have htake : ∀ p : Bool, runPair es (s, t, r, d) M[j] = p → p = false → ∀ y ∈ M.take (j + 1), runPair es (s, t, r, d) y = false := by
                  intro p h1 h2 y hy
                  rw [List.take_succ_eq_append_getElem hlt2, List.mem_append, List.mem_singleton] at hy
                  rcases hy with h | h
                  · exact hall2.out y h
                  · rw [h, h1, h2]
                have hbad2 := Hbad.out M[j] (List.getElem_mem hlt2)
                generalize M[j] = z at y0 y1 y2 y3 htake hbad2
                obtain ⟨s', t', r', d'⟩ := z
                simp only at y0 y1 y2 y3
                have hrp : runPair es (s, t, r, d) (s', t', r', d') = ((r == 2 && r' == 2) && (es.any (aheadB s s') || es.any (aheadB s' s))) := rfl
                have HT := Lib.hid htake
                have HN2 := Lib.hid hbad2
                have HRP := Lib.hid hrp
                clear htake hbad2 hrp
                have j1 : (0 : Int) ≤ (j : Int) := by omega
                have j2 : (j : Int) < (M.length : Int) := by omega
                subst hA3
                cases rb : (r == 2)
                · have HT2 := Lib.hid (HT.out false (HRP.out.trans (by rw [rb]; rfl)) rfl)
                  go_wp2_with fail
                  go_roundw
                  case rel => exact ⟨j + 1, by omega, by go_num, HT2.out, (Hb7.out.alloc Hb7.out.size _)⟩
                  case measure => simp [intOf]; omega
                · cases rb' : (r' == 2)
                  · have HT2 := Lib.hid (HT.out false (HRP.out.trans (by rw [rb, rb']; rfl)) rfl)
                    go_wp2_with fail
                    go_roundw
                    case rel => exact ⟨j + 1, by omega, by go_num, HT2.out, (Hb7.out.alloc Hb7.out.size _)⟩
                    case measure => simp [intOf]; omega
                  · go_wp2_with fail
                    first | (refine wp_named ?_; intro W3 hW) | (refine calls_named ?_; intro W3 hW)
                    have B3 : Below wr.heap.size wr W3 := by rw [hW]; exact (by repeat (first | exact Below.refl _ _ | assumption | refine Below.alloc ?_ (by first | omega | (simp <;> omega)) _ | refine Below.setCell ?_ (by first | omega | (simp <;> omega)) _ | refine Below.drew ?_))
                    replace g0 := cellAt g0 B3 (by omega)
                    replace g1 := cellAt g1 B3 (by omega)
                    replace e0 := cellAt e0 B3 (by omega)
                    replace e1 := cellAt e1 B3 (by omega)
                    replace e2 := cellAt e2 B3 (by omega)
                    replace e3 := cellAt e3 B3 (by omega)
                    replace HG := Lib.hid (HG.out.at B3)
                    replace HQ := Lib.hid (HQ.out.at B3)
                    replace n1 : w.heap.size < W3.heap.size := ltAt n1 B3
                    replace HB := Lib.hid (lift HB.out B3)
                    replace HRd := Lib.hid (HRd.out.at B3)
                    replace p1 : w9.heap.size < W3.heap.size := ltAt p1 B3
                    replace Hb7 := Lib.hid (lift Hb7.out B3)
                    have p2 : wr.heap.size < W3.heap.size := by rw [hW]; simp <;> omega
                    have f0 : W3.cell? ⟨wr.heap.size, 0, none⟩ = some (sv s') := by rw [hW]; go_simp
                    have f1 : W3.cell? ⟨wr.heap.size, 1, none⟩ = some (.int .i64 t') := by rw [hW]; go_simp
                    have f2 : W3.cell? ⟨wr.heap.size, 2, none⟩ = some (.int .i64 r') := by rw [hW]; go_simp
                    have f3 : W3.cell? ⟨wr.heap.size, 3, none⟩ = some (.int .i64 d') := by rw [hW]; go_simp
                    clear hW
                    clear B3
                    refine (Ahead_any An Ae ns.length cn ce es s s' W3 HG.out.re (by omega)).mono ?_
                    rintro e v5 ⟨rfl, hb⟩
                    replace g0 := cellAt g0 hb (by omega)
                    replace g1 := cellAt g1 hb (by omega)
                    replace e0 := cellAt e0 hb (by omega)
                    replace e1 := cellAt e1 hb (by omega)
                    replace e2 := cellAt e2 hb (by omega)
                    replace e3 := cellAt e3 hb (by omega)
                    replace f0 := cellAt f0 hb (by omega)
                    replace f1 := cellAt f1 hb (by omega)
                    replace f2 := cellAt f2 hb (by omega)
                    replace f3 := cellAt f3 hb (by omega)
                    replace HG := Lib.hid (HG.out.at hb)
                    replace HQ := Lib.hid (HQ.out.at hb)
                    replace n1 : w.heap.size < v5.heap.size := ltAt n1 hb
                    replace HB := Lib.hid (lift HB.out hb)
                    replace HRd := Lib.hid (HRd.out.at hb)
                    replace p1 : w9.heap.size < v5.heap.size := ltAt p1 hb
                    replace Hb7 := Lib.hid (lift Hb7.out hb)
                    replace p2 : wr.heap.size < v5.heap.size := ltAt p2 hb
                    clear hb
                    cases hp1 : es.any (aheadB s s')
                    · go_wp2_with fail
                      refine (Ahead_any An Ae ns.length cn ce es s' s v5 HG.out.re (by omega)).mono ?_
                      rintro e v6 ⟨rfl, hb⟩
                      replace g0 := cellAt g0 hb (by omega)
                      replace g1 := cellAt g1 hb (by omega)
                      replace e0 := cellAt e0 hb (by omega)
                      replace e1 := cellAt e1 hb (by omega)
                      replace e2 := cellAt e2 hb (by omega)
                      replace e3 := cellAt e3 hb (by omega)
                      replace f0 := cellAt f0 hb (by omega)
                      replace f1 := cellAt f1 hb (by omega)
                      replace f2 := cellAt f2 hb (by omega)
                      replace f3 := cellAt f3 hb (by omega)
                      replace HG := Lib.hid (HG.out.at hb)
                      replace HQ := Lib.hid (HQ.out.at hb)
                      replace n1 : w.heap.size < v6.heap.size := ltAt n1 hb
                      replace HB := Lib.hid (lift HB.out hb)
                      replace HRd := Lib.hid (HRd.out.at hb)
                      replace p1 : w9.heap.size < v6.heap.size := ltAt p1 hb
                      replace Hb7 := Lib.hid (lift Hb7.out hb)
                      replace p2 : wr.heap.size < v6.heap.size := ltAt p2 hb
                      clear hb
                      cases hp2 : es.any (aheadB s' s)
                      · have HT2 := Lib.hid (HT.out false (HRP.out.trans (by rw [rb, rb', hp1, hp2]; rfl)) rfl)
                        go_wp2_with fail
                        go_roundw
                        case rel => exact ⟨j + 1, by omega, by go_num, HT2.out, Hb7.out⟩
                        case measure => simp [intOf]; omega
                      · have HN3 := Lib.hid (HN2.out (HRP.out.trans (by rw [rb, rb', hp1, hp2]; rfl)))
                        go_wp2_with fail
                        go_ret
                        exact ⟨ret_bool (by rw [HM.out]; simp [H1.out, H2.out, H3.out, HN3.out]), HB.out⟩
                    · have HN3 := Lib.hid (HN2.out (HRP.out.trans (by rw [rb, rb', hp1]; rfl)))
                      go_wp2_with fail
                      go_ret
                      exact ⟨ret_bool (by rw [HM.out]; simp [H1.out, H2.out, H3.out, HN3.out]), HB.out⟩
              · have hjM : j = M.length := by omega
                have hfin := hall2.out
                rw [hjM, List.take_length] at hfin
                have HF := Lib.hid hfin
                clear hfin
                go_wp2_with fail
                go_roundw
                case rel =>
                  refine ⟨m + 1, by omega, by go_num, fun k hk hkm => ?_, Hb9.out.trans (Hb7.out.mono Hb9.out.size)⟩
                  by_cases e : k = m
                  · subst e
                    rw [Hx.out, HMd.out]
                    exact HF.out
                  · exact Hall.out k hk (by omega)
                case measure => simp [intOf]; omega
          · have HN := Lib.hid (noPair_all (es := es) fun k hk => Hall.out k hk (by omega))
            go_wp2_with fail
            go_ret
            exact ⟨ret_bool (by rw [HM.out]; simp [H1.out, H2.out, H3.out, HN.out]), HB.out⟩
end Od
end Go.Proofs.YtanfnejbnmenkaaGreat
end

section
/- A graph that came in, of any size; the laws' own word for a small one. (bel2) -/
namespace Go.Proofs.YtanfnejbnmenkaaGreat
open Go.RowKit Go.Sort
set_option linter.unusedSimpArgs false

namespace Od
structure GIw (w : World) (An Ae : Option Addr) (ns : List Nd) (es : List Ed) : Prop where
  rn : Rd w w.heap.size 3 An ns.length (ndsC ns)
  re : Rd w w.heap.size 3 Ae es.length (edsC es)
  okn : OkNs ns
  oke : OkE es
theorem GIw.at {w w' : World} {An Ae : Option Addr} {ns : List Nd} {es : List Ed} (h : GIw w An Ae ns es) (hb : Below w.heap.size w w') : GIw w' An Ae ns es := ⟨h.rn.at hb, h.re.at hb, h.okn, h.oke⟩
theorem GIw.q {w : World} {An Ae : Option Addr} {ns : List Nd} {es : List Ed} (h : GIw w An Ae ns es) (h1 : ns.length ≤ 64) (h2 : es.length ≤ 200) : GIq w An Ae ns es := ⟨h.rn, h.re, h.okn, h.oke, h1, h2⟩
theorem okS_of {s : Str} (h : s.length ≤ 140737488351232) : okS s := by unfold okS maxLen; omega
def nmA : Str := [97, 46, 116, 97, 114, 103, 101, 116]
def nmB : Str := [98, 46, 116, 97, 114, 103, 101, 116]
def nmC : Str := [99, 46, 116, 97, 114, 103, 101, 116]
end Od
end Go.Proofs.YtanfnejbnmenkaaGreat
end

section
/- Rows and cells kept over what a call did to a row of its own; slices.Clone at texts. -/
namespace Go.Proofs.YtanfnejbnmenkaaGreat
open Go.RowKit Go.Sort

theorem eql_slice_none {P : Program} {t e : TypeId} (h : P.underlying t = some (.slice e)) (a : Option Addr) (n c : Nat) (w : World) : (binOp .eql t (.slice a n c) (.slice none 0 0)).run P w = .ok (.bool a.isNone) w := by
  simp only [binOp]
  simp [run_equal_slice_nil w t e a n c h]
theorem ownBlock_len (A : Option Addr) (n c m d : Nat) : (Value.slice A n c).ownBlock = (Value.slice A m d).ownBlock := by cases A <;> rfl
theorem grownBy_setCell (w : World) (p : Addr) (u : Value) : w.grownBy (w.setCell p u) (some p.block) :=
  ⟨rfl, rfl, rfl, by simp [World.setCell], fun k _ hne => Below.heap_setCell _ _ _ _ (fun e => hne (by rw [e]))⟩
theorem cell_kept {w w' : World} {b o : Nat} {v : Value} {row : Option Nat} (c : w.cell? ⟨b, o, none⟩ = some v) (hg : w.grownBy w' row) (hb : b < w.heap.size) (hne : row ≠ some b) : w'.cell? ⟨b, o, none⟩ = some v :=
  (World.cell?_of_block (a := ⟨b, o, none⟩) (hg.block b hb (fun e => hne e.symm))).trans c
theorem fro_kept {w w' : World} {b o : Nat} {row : Option Nat} (c : w.frozen? ⟨b, o, none⟩ = false) (hg : w.grownBy w' row) (hb : b < w.heap.size) (hne : row ≠ some b) : w'.frozen? ⟨b, o, none⟩ = false :=
  (World.frozen?_of_block (a := ⟨b, o, none⟩) (hg.block b hb (fun e => hne e.symm))).trans c
namespace Od
set_option maxRecDepth 100000 in
set_option maxHeartbeats 1000000 in
theorem cloneS_own (A : Option Addr) (c : Nat) (ss : List Str) (w : World) (hr : Rd w w.heap.size 1 A ss.length (svs ss)) (hl : ss.length ≤ 1000000) :
    Calls Tryz.prog 104 #[.slice A ss.length c] w fun e w' => ∃ A' c', e = .returned (.slice A' ss.length c') ∧ w'.ownsRow w.heap.size 9 1 (.slice A' ss.length c') ss.length (svs ss) ∧ Below w.heap.size w w' := by
  cases A with
  | none =>
    have hn : ss = [] := by
      rcases Nat.eq_zero_or_pos ss.length with h | h
      · exact List.length_eq_zero_iff.1 h
      · obtain ⟨ad, h, _⟩ := hr.2 h; cases h
    subst hn
    refine (Tryz.slices_Clone_string_nil _ c w).mono ?_
    rintro e w' ⟨rfl, rfl⟩
    exact ⟨none, 0, rfl, World.ownsRow_nil _ _ _ _, Below.refl _ _⟩
  | some ad =>
    rcases Nat.eq_zero_or_pos ss.length with h | h
    · have hn := List.length_eq_zero_iff.1 h
      subst hn
      refine (Tryz.slices_Clone_string_zero ad c w).mono ?_
      rintro e w' ⟨v', rfl, ho, _, hb⟩
      obtain ⟨A', c', rfl, _⟩ := own_rd ho
      exact ⟨A', c', rfl, ho, hb⟩
    · obtain ⟨b, o, e, hb0, hc⟩ := hr.open h
      injection e with e
      subst e
      refine (Tryz.slices_Clone_string b o ss.length c (ss.map fun s => ⟨s.toArray⟩) w (by simp) (by omega) (fun j hj => ?_)).mono ?_
      · have hj' : j < ss.length := by simpa using hj
        rw [hc j (by omega)]
        simp [svs, hj']
      · rintro e w' ⟨v', rfl, ho, _, hb⟩
        have hx : (((ss.map fun s => (⟨s.toArray⟩ : ByteArray)).take ss.length).map Value.string) = svs ss := by
          rw [List.take_of_length_le (by simp)]; simp [svs]
        rw [hx] at ho
        obtain ⟨A', c', rfl, _⟩ := own_rd ho
        exact ⟨A', c', rfl, ho, hb⟩
end Od
end Go.Proofs.YtanfnejbnmenkaaGreat
end

section
/- Rows of the call's own written into; slices.Clone at jobs. (bel2) -/
namespace Go.Proofs.YtanfnejbnmenkaaGreat
open Go.RowKit Go.Sort
set_option linter.unusedSimpArgs false

section
variable {w : World} {base e k n c : Nat} {xs : List Value} {g : Nat}
theorem own_open {A : Option Addr} (h : w.ownsRow base e k (.slice A n c) n xs) (hn : 0 < n) : ∃ g, A = some ⟨g, 0, none⟩ ∧ base ≤ g ∧ g < w.heap.size ∧ n ≤ c := by
  have h' := h
  obtain ⟨_, ⟨_, h0⟩ | ⟨g, cap, cur, hv, hg, hh, h1, _⟩⟩ := h
  · omega
  · injection hv with h2 h3 h4
    subst h2 h4
    exact ⟨g, rfl, hg, (h'.lt g rfl).2, h1⟩
theorem own_fro (h : w.ownsRow base e k (.slice (some ⟨g, 0, none⟩) n c) n xs) {j : Nat} : w.frozen? ⟨g, j, none⟩ = false := by
  obtain ⟨_, ⟨hv, _⟩ | ⟨g', cap, cur, hv, hg, hh, _⟩⟩ := h
  · injection hv with h1; cases h1
  · injection hv with h1 _ _
    injection h1 with h1
    injection h1 with h1
    subst h1
    simp [World.frozen?, hh]
theorem own_cell (h : w.ownsRow base e k (.slice (some ⟨g, 0, none⟩) n c) n xs) {j : Nat} (hj : j < xs.length) : w.cell? ⟨g, j, none⟩ = some xs[j] := by
  have := h.cellAt (g := g) (cap := c) j (by rw [← h.1]; exact hj)
  simpa [hj] using this
/-- A cell of it turned. -/
theorem own_set (h : w.ownsRow base e k (.slice (some ⟨g, 0, none⟩) n c) n xs) {j : Nat} (u : Value) : (w.setCell ⟨g, j, none⟩ u).ownsRow base e k (.slice (some ⟨g, 0, none⟩) n c) n (xs.set j u) := by
  obtain ⟨hl, ⟨hv, _⟩ | ⟨g', cap, cur, hv, hg, hh, h1, h2, h3, h4⟩⟩ := h
  · injection hv with h1; cases h1
  · injection hv with e1 _ e3
    injection e1 with e1
    injection e1 with e1
    subst e1 e3
    refine ⟨by simpa using hl, .inr ⟨g, c, cur.setIfInBounds j u, rfl, hg, ?_, h1, h2, by simpa using h3, ?_⟩⟩
    · simp [World.setCell, Array.getElem?_modify, hh]
    · rw [Array.toList_setIfInBounds, List.take_set, h4]
end
theorem flat_set {α : Type} (c : α → List Value) (k : Nat) (hc : ∀ x, (c x).length = k) (u : Nat) (y : α) (v : Value) (hu : u < k) : ∀ (l : List α) (i : Nat) (hi : i < l.length), c y = (c l[i]).set u v → (l.flatMap c).set (i * k + u) v = (l.set i y).flatMap c
  | x :: l, 0, _, h => by
    simp only [List.getElem_cons_zero] at h
    simp only [List.flatMap_cons, Nat.zero_mul, Nat.zero_add, List.set_cons_zero]
    rw [List.set_append_left _ _ (by rw [hc]; exact hu), h]
  | x :: l, i + 1, hi, h => by
    simp only [List.getElem_cons_succ] at h
    simp only [List.flatMap_cons, List.set_cons_succ]
    rw [List.set_append_right _ _ (by rw [hc, Nat.add_mul]; omega), hc, show (i + 1) * k + u - k = i * k + u from by rw [Nat.add_mul]; omega]
    rw [flat_set c k hc u y v hu l i (by simpa using hi) h]
theorem jbsC_set {q : List Jb} {i : Nat} (hi : i < q.length) (u : Nat) (hu : u < 4) (y : Jb) (v : Value) (h : jbC y = (jbC q[i]).set u v) : (jbsC q).set (i * 4 + u) v = jbsC (q.set i y) := flat_set jbC 4 jbC_len u y v hu q i hi h
namespace Od
theorem infoJb : (Tryz.prog.info? 50).map (fun i => (i.zero, i.size, i.bytes)) = some (some (.agg #[.string ⟨#[]⟩, .int .i64 0, .int .i64 0, .int .i64 0]), 4, 40) := by kernel_rfl
section
variable {w : World} {base c : Nat} {q : List Jb} {g : Nat}
/-- A field of a job of its own turned. -/
theorem ownJ_set (h : w.ownsRow base 50 4 (.slice (some ⟨g, 0, none⟩) q.length c) q.length (jbsC q)) {i : Nat} (hi : i < q.length) (u : Nat) (hu : u < 4) (y : Jb) (v : Value) (hy : jbC y = (jbC q[i]).set u v) :
    (w.setCell ⟨g, i * 4 + u, none⟩ v).ownsRow base 50 4 (.slice (some ⟨g, 0, none⟩) (q.set i y).length c) (q.set i y).length (jbsC (q.set i y)) := by
  have := own_set h (j := i * 4 + u) v
  rw [jbsC_set hi u hu y v hy] at this
  rw [List.length_set]
  exact this
/-- A whole job of its own turned. -/
theorem ownJ_put (h : w.ownsRow base 50 4 (.slice (some ⟨g, 0, none⟩) q.length c) q.length (jbsC q)) {i : Nat} (hi : i < q.length) (s : Str) (t r d : Int) :
    ((((w.setCell ⟨g, i * 4, none⟩ (sv s)).setCell ⟨g, i * 4 + 1, none⟩ (.int .i64 t)).setCell ⟨g, i * 4 + 2, none⟩ (.int .i64 r)).setCell ⟨g, i * 4 + 3, none⟩ (.int .i64 d)).ownsRow base 50 4 (.slice (some ⟨g, 0, none⟩) q.length c) q.length (jbsC (q.set i (s, t, r, d))) := by
  have h0 := ownJ_set h hi 0 (by omega) (s, q[i].2.1, q[i].2.2.1, q[i].2.2.2) (sv s) rfl
  have h1 := ownJ_set h0 (i := i) (by simpa using hi) 1 (by omega) (s, t, q[i].2.2.1, q[i].2.2.2) (.int .i64 t) (by rw [List.getElem_set_self]; rfl)
  have h2 := ownJ_set h1 (i := i) (by simpa using hi) 2 (by omega) (s, t, r, q[i].2.2.2) (.int .i64 r) (by rw [List.getElem_set_self]; rfl)
  have h3 := ownJ_set h2 (i := i) (by simpa using hi) 3 (by omega) (s, t, r, d) (.int .i64 d) (by rw [List.getElem_set_self]; rfl)
  simpa using h3
end
def OwnJ (q : List Jb) (w : World) (e : Ending) (w' : World) : Prop := ∃ A c, e = .returned (.slice A q.length c) ∧ w'.ownsRow w.heap.size 50 4 (.slice A q.length c) q.length (jbsC q) ∧ Below w.heap.size w w'
set_option maxRecDepth 100000 in
set_option maxHeartbeats 1000000 in
theorem cloneJ_own (A : Option Addr) (c : Nat) (q : List Jb) (w : World) (hr : Rd w w.heap.size 4 A q.length (jbsC q)) (hl : q.length ≤ 1000000) :
    Calls Tryz.prog 53 #[.slice A q.length c] w (OwnJ q w) := by
  obtain ⟨i0, hi, hz0, hz1, hz2⟩ := info_parts infoJb
  have Hr := Lib.hid hr
  clear hr
  cases A with
  | none =>
    have hn : q.length = 0 := by
      rcases Nat.eq_zero_or_pos q.length with h | h
      · exact h
      · obtain ⟨ad, h, _⟩ := Hr.out.2 h; cases h
    have HN := Lib.hid hn
    clear hn
    have hq : ∀ w, (binOp .eql 26 (.slice none q.length c) (.slice none 0 0)).run Tryz.prog w = .ok (.bool true) w := eql_slice_none Tryz.underlying26 _ _ _
    go_enter Tryz.func53, Tryz.ntmps53
    go_wp2_with fail
    go_ret
    have h0 := List.length_eq_zero_iff.1 HN.out
    subst h0
    exact ⟨none, 0, rfl, World.ownsRow_nil _ _ _ _, Below.refl _ _⟩
  | some ad =>
    have h63 : 0 + q.length ≤ maxLen := by unfold maxLen; omega
    have hby : (0 + q.length) * 40 ≤ 140737488355328 := by omega
    have hq : ∀ w, (binOp .eql 26 (.slice (some ad) q.length c) (.slice none 0 0)).run Tryz.prog w = .ok (.bool false) w := eql_slice_none Tryz.underlying26 _ _ _
    have h0 : (w.alloc (.cells #[] 50)).ownsRow w.heap.size 50 4 (.slice (some ⟨w.heap.size, 0, none⟩) 0 0) 0 [] :=
      ⟨rfl, .inr ⟨w.heap.size, 0, #[], rfl, Nat.le_refl _, by show (w.heap.push _)[w.heap.size]? = _; simp, Nat.le_refl _, by decide, rfl, rfl⟩⟩
    have H0 := Lib.hid h0
    clear h0
    go_enter Tryz.func53, Tryz.ntmps53
    go_wp2_with (first
      | (at_builtin; refine wpList_append_rd _ (by rfl) (.tmp 5) (.tmp 6) 26 (by rfl) w.heap.size 50 i0 _ 4 40 Tryz.underlying26 hi hz0 hz1 hz2 rfl (by decide) (.slice (some ⟨w.heap.size, 0, none⟩) 0 0) 0 [] (by rfl) H0.out _ (some ad) q.length c (jbsC q) (by rfl) (Hr.out.alloc (Nat.le_refl _) _) (one_jbsC q) h63 hby (by simp) ?_; intro A1 c1 w1 ho1 hg1 hat1)
      | fail)
    go_ret
    exact ⟨A1, c1, rfl, by simpa using ho1, ((Below.refl _ _).alloc (Nat.le_refl _) _).grown hg1 (by simp) (fun j hj => by simp [Value.ownBlock] at hj; omega)⟩
end Od
end Go.Proofs.YtanfnejbnmenkaaGreat
end

section
/- The walks of layer 20's own helpers: small, node, two, some. (bel2) -/
namespace Go.Proofs.YtanfnejbnmenkaaGreat
open Go.RowKit Go.Sort
set_option linter.unusedSimpArgs false

namespace Od
def smallB (ns : List Nd) (es : List Ed) : Bool := decide ((es.length : Int) ≤ 200) && decide ((ns.length : Int) ≤ 64)
theorem smallB_iff {ns : List Nd} {es : List Ed} : smallB ns es = true ↔ ns.length ≤ 64 ∧ es.length ≤ 200 := by
  simp [smallB]; omega
set_option maxHeartbeats 1000000 in
theorem small_any (An Ae : Option Addr) (cn ce : Nat) (ns : List Nd) (es : List Ed) (w : World) :
    Calls Tryz.prog 14 #[gV An ns.length cn Ae es.length ce] w fun e w' => e = .returned (.bool (smallB ns es)) ∧ Below w.heap.size w w' := by
  have HM := Lib.hid (show smallB ns es = (decide ((es.length : Int) ≤ 200) && decide ((ns.length : Int) ≤ 64)) from rfl)
  by_cases h1 : (es.length : Int) ≤ 200
  · have d1 : decide ((es.length : Int) ≤ 200) = true := by simpa using h1
    have D1 := Lib.hid d1
    go_enter Tryz.func14, Tryz.ntmps14
    go_wp2_with fail
    go_ret
    exact ⟨ret_bool (by rw [HM.out, D1.out]; simp), (by repeat (first | exact Below.refl _ _ | assumption | refine Below.alloc ?_ (by first | omega | (simp <;> omega)) _ | refine Below.setCell ?_ (by first | omega | (simp <;> omega)) _ | refine Below.drew ?_))⟩
  · have d1 : decide ((es.length : Int) ≤ 200) = false := by simpa using h1
    have D1 := Lib.hid d1
    go_enter Tryz.func14, Tryz.ntmps14
    go_wp2_with fail
    go_ret
    exact ⟨ret_bool (by rw [HM.out, D1.out]; simp), (by repeat (first | exact Below.refl _ _ | assumption | refine Below.alloc ?_ (by first | omega | (simp <;> omega)) _ | refine Below.setCell ?_ (by first | omega | (simp <;> omega)) _ | refine Below.drew ?_))⟩
set_option maxRecDepth 100000 in
theorem node_any (s : Str) (w : World) : Calls Tryz.prog 68 #[sv s] w fun e w' => e = .returned (.agg #[sv s, .int .i64 4, .int .i64 1]) ∧ Below w.heap.size w w' := by
  go_enter Tryz.func68, Tryz.ntmps68
  go_wp2_with fail
  refine bodyPost_ret (v := .agg #[sv s, .int .i64 4, .int .i64 1]) (by simp only [results, Tryz.results68]; go_simp) rfl ⟨rfl, (by repeat (first | exact Below.refl _ _ | assumption | refine Below.alloc ?_ (by first | omega | (simp <;> omega)) _ | refine Below.setCell ?_ (by first | omega | (simp <;> omega)) _ | refine Below.drew ?_))⟩
def twoJ (a b : Int) : List Jb := [(nmA, a, 1, 0), (nmB, b, 1, 0)]
set_option maxRecDepth 100000 in
theorem two_any (a b : Int) (w : World) : Calls Tryz.prog 38 #[.int .i64 a, .int .i64 b] w (RdIs 4 (twoJ a b).length (jbsC (twoJ a b)) w) := by
  go_enter Tryz.func38, Tryz.ntmps38
  go_wp2_with fail
  go_ret
  exact ⟨_, 2, rfl, Nat.le_refl _, Rd.lit w (jbsC (twoJ a b)) 50 4 2 rfl, (by repeat (first | exact Below.refl _ _ | assumption | refine Below.alloc ?_ (by first | omega | (simp <;> omega)) _ | refine Below.setCell ?_ (by first | omega | (simp <;> omega)) _ | refine Below.drew ?_))⟩
def someNs : List Nd := [(nmA, 4, 1), (nmB, 4, 1)]
def someEs : List Ed := [(nmB, nmA, 1), (nmB, nmA, 8)]
def GraphIs (ns : List Nd) (es : List Ed) (w : World) (e : Ending) (w' : World) : Prop := ∃ An cn Ae ce, e = .returned (gV An ns.length cn Ae es.length ce) ∧ ns.length ≤ cn ∧ es.length ≤ ce ∧
  Rd w' w'.heap.size 3 An ns.length (ndsC ns) ∧ Rd w' w'.heap.size 3 Ae es.length (edsC es) ∧ Below w.heap.size w w'
set_option maxRecDepth 100000 in
set_option maxHeartbeats 4000000 in
theorem some_any (w : World) : Calls Tryz.prog 39 #[] w (GraphIs someNs someEs w) := by
  go_enter Tryz.func39, Tryz.ntmps39
  go_wp2_with fail
  first | (refine wp_named ?_; intro W1 hW) | (refine calls_named ?_; intro W1 hW)
  have B1 : Below w.heap.size w W1 := by rw [hW]; exact (by repeat (first | exact Below.refl _ _ | assumption | refine Below.alloc ?_ (by first | omega | (simp <;> omega)) _ | refine Below.setCell ?_ (by first | omega | (simp <;> omega)) _ | refine Below.drew ?_))
  have n1 : w.heap.size < W1.heap.size := by rw [hW]; simp <;> omega
  have c0 : W1.cell? ⟨w.heap.size, 0, none⟩ = some (.slice none 0 0) := by rw [hW]; go_simp
  have c1 : W1.cell? ⟨w.heap.size, 1, none⟩ = some (.slice none 0 0) := by rw [hW]; go_simp
  have f0 : W1.frozen? ⟨w.heap.size, 0, none⟩ = false := by rw [hW]; go_simp
  have f1 : W1.frozen? ⟨w.heap.size, 1, none⟩ = false := by rw [hW]; go_simp
  clear hW
  have HB := Lib.hid B1
  clear B1
  refine (node_any nmA W1).mono ?_
  rintro e w2 ⟨rfl, hb⟩
  replace c0 := cellAt c0 hb (by omega)
  replace c1 := cellAt c1 hb (by omega)
  replace f0 := froAt f0 hb (by omega)
  replace f1 := froAt f1 hb (by omega)
  replace n1 : w.heap.size < w2.heap.size := ltAt n1 hb
  replace HB := Lib.hid (lift HB.out hb)
  clear hb
  go_wp2_with fail
  refine (node_any nmB w2).mono ?_
  rintro e w3 ⟨rfl, hb⟩
  replace c0 := cellAt c0 hb (by omega)
  replace c1 := cellAt c1 hb (by omega)
  replace f0 := froAt f0 hb (by omega)
  replace f1 := froAt f1 hb (by omega)
  replace n1 : w.heap.size < w3.heap.size := ltAt n1 hb
  replace HB := Lib.hid (lift HB.out hb)
  clear hb
  have hz : w.heap.size ≤ w3.heap.size := HB.out.size
  go_wp2_with fail
  refine bodyPost_ret (v := gV (some ⟨w3.heap.size, 0, none⟩) 2 2 (some ⟨w3.heap.size + 1, 0, none⟩) 2 2) (by simp only [results, Tryz.results39]; go_simp) rfl ⟨_, 2, _, 2, rfl, Nat.le_refl _, Nat.le_refl _, ?_, ?_, ?_⟩
  · have h := Rd.lit ((w3.setCell ⟨w.heap.size, 0, none⟩ (.slice (some ⟨w3.heap.size, 0, none⟩) 2 2)).setCell ⟨w.heap.size, 1, none⟩ (.slice (some ⟨w3.heap.size + 1, 0, none⟩) 2 2)) (ndsC someNs) 84 3 2 rfl
    simp only [World.size_alloc, World.size_setCell] at h
    exact (h.alloc (by simp) _).more (by simp)
  · have h := Rd.lit (((w3.setCell ⟨w.heap.size, 0, none⟩ (.slice (some ⟨w3.heap.size, 0, none⟩) 2 2)).setCell ⟨w.heap.size, 1, none⟩ (.slice (some ⟨w3.heap.size + 1, 0, none⟩) 2 2)).alloc (.cells (ndsC someNs).toArray 84)) (edsC someEs) 77 3 2 rfl
    simp only [World.size_alloc, World.size_setCell] at h
    exact h.more (by simp)
  · exact ((((HB.out.setCell (Nat.le_refl _) _).setCell (Nat.le_refl _) _).alloc (by simp; omega) _).alloc (by simp; omega) _)
end Od
end Go.Proofs.YtanfnejbnmenkaaGreat
end

section
/- The walks of matinsref20.SameJobs and SameDone. (bel2) -/
namespace Go.Proofs.YtanfnejbnmenkaaGreat
open Go.RowKit
set_option linter.unusedSimpArgs false

namespace Od
def jbEq (a b : Jb) : Bool := a == b
def dnEq (a b : Nd) : Bool := a == b
set_option maxRecDepth 100000 in
theorem jb_eq (s s' : Str) (t r d t' r' d' : Int) (w : World) : (Op.equalIn 10000 50 (jbV (s, t, r, d)) (jbV (s', t', r', d'))).run Tryz.prog w = .ok (jbEq (s, t, r, d) (s', t', r', d')) w := by
  show (Op.equalIn (9999 + 1) _ _ _).run _ w = _
  go_simp
  unfold jbEq
  by_cases h1 : s = s' <;> by_cases h2 : t = t' <;> by_cases h3 : r = r' <;> by_cases h4 : d = d' <;> simp [h1, h2, h3, h4]
theorem jb_eql (s s' : Str) (t r d t' r' d' : Int) (w : World) : (binOp .eql 50 (jbV (s, t, r, d)) (jbV (s', t', r', d'))).run Tryz.prog w = .ok (.bool (jbEq (s, t, r, d) (s', t', r', d'))) w := by
  rw [run_eql_struct, jb_eq]; rfl
theorem jb_neq (s s' : Str) (t r d t' r' d' : Int) (w : World) : (binOp .neq 50 (jbV (s, t, r, d)) (jbV (s', t', r', d'))).run Tryz.prog w = .ok (.bool (!jbEq (s, t, r, d) (s', t', r', d'))) w := by
  rw [run_neq_struct, jb_eq]; rfl
set_option maxRecDepth 100000 in
theorem dn_eq (s s' : Str) (t d t' d' : Int) (w : World) : (Op.equalIn 10000 59 (ndV (s, t, d)) (ndV (s', t', d'))).run Tryz.prog w = .ok (dnEq (s, t, d) (s', t', d')) w := by
  show (Op.equalIn (9999 + 1) _ _ _).run _ w = _
  go_simp
  unfold dnEq
  by_cases h1 : s = s' <;> by_cases h2 : t = t' <;> by_cases h4 : d = d' <;> simp [h1, h2, h4]
theorem dn_eql (s s' : Str) (t d t' d' : Int) (w : World) : (binOp .eql 59 (ndV (s, t, d)) (ndV (s', t', d'))).run Tryz.prog w = .ok (.bool (dnEq (s, t, d) (s', t', d'))) w := by
  rw [run_eql_struct, dn_eq]; rfl
theorem dn_neq (s s' : Str) (t d t' d' : Int) (w : World) : (binOp .neq 59 (ndV (s, t, d)) (ndV (s', t', d'))).run Tryz.prog w = .ok (.bool (!dnEq (s, t, d) (s', t', d'))) w := by
  rw [run_neq_struct, dn_eq]; rfl
set_option maxRecDepth 100000 in
set_option maxHeartbeats 4000000 in
theorem SameJobs_any (A A' : Option Addr) (c c' : Nat) (xs ys : List Jb) (w : World) (hr : Rd w w.heap.size 4 A xs.length (jbsC xs)) (hr' : Rd w w.heap.size 4 A' ys.length (jbsC ys)) (hb : xs.length ≤ 1000000) :
    Calls Tryz.prog 21 #[.slice A xs.length c, .slice A' ys.length c'] w fun e w' => e = .returned (.bool (decide (xs = ys))) ∧ Below w.heap.size w w' := by
  have Hr := Lib.hid hr
  have Hr' := Lib.hid hr'
  have hq := jb_neq
  clear hr hr'
  by_cases hl : xs.length = ys.length
  · have Hl := Lib.hid hl
    have hl1 : ((xs.length : Int) != (ys.length : Int)) = false := by simp [hl]
    clear hl
    go_enter Tryz.func21, Tryz.ntmps21
    go_wp2_with fail
    go_loopw [13] (fun i wr => ∃ k : Nat, k ≤ xs.length ∧ i = .int .i64 k ∧ Hid (∀ j (h1 : j < xs.length) (h2 : j < ys.length), j < k → xs[j] = ys[j]) ∧ Below w.heap.size w wr) (fun i _ => xs.length - (intOf i).toNat)
    case atStart => exact ⟨0, Nat.zero_le _, rfl, fun _ _ _ h => absurd h (by omega), Below.refl _ _⟩
    case round =>
      obtain ⟨k, hk, rfl, hall, hb⟩ := hrel
      have HB := Lib.hid hb
      replace Hr := Lib.hid (Hr.out.at hb)
      replace Hr' := Lib.hid (Hr'.out.at hb)
      clear hb
      by_cases hlt : k < xs.length
      · have hlt' : k < ys.length := by have := Hl.out; omega
        obtain ⟨b, o, rfl, hB, x0, x1, x2, x3⟩ := Hr.out.job hlt
        obtain ⟨b', o', rfl, hB', y0, y1, y2, y3⟩ := Hr'.out.job hlt'
        generalize hx : xs[k] = x at x0 x1 x2 x3
        generalize hy : ys[k] = y at y0 y1 y2 y3
        obtain ⟨s, t, r, d⟩ := x
        obtain ⟨s', t', r', d'⟩ := y
        have Hx := Lib.hid hx
        have Hy := Lib.hid hy
        simp only at x0 x1 x2 x3 y0 y1 y2 y3
        clear hx hy
        have hk0 : (0 : Int) ≤ (k : Int) := by omega
        have hk1 : (k : Int) < (xs.length : Int) := by omega
        have hk2 : (k : Int) < (ys.length : Int) := by omega
        cases hne : jbEq (s, t, r, d) (s', t', r', d')
        · have Hne := Lib.hid (show (s, t, r, d) ≠ (s', t', r', d') by simpa [jbEq] using hne)
          go_wp2_with fail
          try go_wp2_with fail
          refine wp_region_held_drew (S := fun w' => Below wr.heap.size wr w') (by kernel_rfl) (Below.drew (Below.refl _ _)) (fun hHeld => ?_)
          refine tY (i := 0) (v := ?_) rfl ?_ hHeld ?_; rotate_left 1; focus (intro w' hSw; clear hSw; go_simp; try with_reducible rfl)
          (try simp only [Act.put, zn1, zn2, zn3])
          refine tY (i := 1) (v := ?_) rfl ?_ hHeld ?_; rotate_left 1; focus (intro w' hSw; clear hSw; go_simp; try with_reducible rfl)
          (try simp only [Act.put, zn1, zn2, zn3])
          refine tY (i := 2) (v := ?_) rfl ?_ hHeld ?_; rotate_left 1; focus (intro w' hSw; clear hSw; go_simp; try with_reducible rfl)
          (try simp only [Act.put, zn1, zn2, zn3])
          refine tY (i := 3) (v := ?_) rfl ?_ hHeld ?_; rotate_left 1; focus (intro w' hSw; have hCell := fun (b o : Nat) (h : b < wr.heap.size) => hSw.cell (p := ⟨b, o, none⟩) h; clear hSw; go_simp; try with_reducible rfl)
          (try simp only [Act.put, zn1, zn2, zn3])
          refine tY (i := 4) (v := ?_) rfl ?_ hHeld ?_; rotate_left 1; focus (intro w' hSw; clear hSw; go_simp; try with_reducible rfl)
          (try simp only [Act.put, zn1, zn2, zn3])
          refine tY (i := 5) (v := ?_) rfl ?_ hHeld ?_; rotate_left 1; focus (intro w' hSw; clear hSw; go_simp; try with_reducible rfl)
          (try simp only [Act.put, zn1, zn2, zn3])
          refine tY (i := 6) (v := ?_) rfl ?_ hHeld ?_; rotate_left 1; focus (intro w' hSw; clear hSw; go_simp; try with_reducible rfl)
          (try simp only [Act.put, zn1, zn2, zn3])
          refine tY (i := 7) (v := ?_) rfl ?_ hHeld ?_; rotate_left 1; focus (intro w' hSw; have hCell := fun (b o : Nat) (h : b < wr.heap.size) => hSw.cell (p := ⟨b, o, none⟩) h; clear hSw; go_simp; try with_reducible rfl)
          (try simp only [Act.put, zn1, zn2, zn3])
          refine tY (i := 8) (v := ?_) rfl ?_ hHeld ?_; rotate_left 1; focus (intro w' hSw; clear hSw; go_simp; try with_reducible rfl)
          (try simp only [Act.put, zn1, zn2, zn3])
          refine wpAnyH_done (by kernel_rfl) ?_ _
          go_wp2_with fail
          go_ret
          exact ⟨ret_bool (by
            have hd : xs[k] ≠ ys[k] := by rw [Hx.out, Hy.out]; exact Hne.out
            simp [at_ne hlt hlt' hd]), lift HB.out hHeld⟩
        · have Hne := Lib.hid (show (s, t, r, d) = (s', t', r', d') by simpa [jbEq] using hne)
          go_wp2_with fail
          try go_wp2_with fail
          refine wp_region_held_drew (S := fun w' => Below wr.heap.size wr w') (by kernel_rfl) (Below.drew (Below.refl _ _)) (fun hHeld => ?_)
          refine tY (i := 0) (v := ?_) rfl ?_ hHeld ?_; rotate_left 1; focus (intro w' hSw; clear hSw; go_simp; try with_reducible rfl)
          (try simp only [Act.put, zn1, zn2, zn3])
          refine tY (i := 1) (v := ?_) rfl ?_ hHeld ?_; rotate_left 1; focus (intro w' hSw; clear hSw; go_simp; try with_reducible rfl)
          (try simp only [Act.put, zn1, zn2, zn3])
          refine tY (i := 2) (v := ?_) rfl ?_ hHeld ?_; rotate_left 1; focus (intro w' hSw; clear hSw; go_simp; try with_reducible rfl)
          (try simp only [Act.put, zn1, zn2, zn3])
          refine tY (i := 3) (v := ?_) rfl ?_ hHeld ?_; rotate_left 1; focus (intro w' hSw; have hCell := fun (b o : Nat) (h : b < wr.heap.size) => hSw.cell (p := ⟨b, o, none⟩) h; clear hSw; go_simp; try with_reducible rfl)
          (try simp only [Act.put, zn1, zn2, zn3])
          refine tY (i := 4) (v := ?_) rfl ?_ hHeld ?_; rotate_left 1; focus (intro w' hSw; clear hSw; go_simp; try with_reducible rfl)
          (try simp only [Act.put, zn1, zn2, zn3])
          refine tY (i := 5) (v := ?_) rfl ?_ hHeld ?_; rotate_left 1; focus (intro w' hSw; clear hSw; go_simp; try with_reducible rfl)
          (try simp only [Act.put, zn1, zn2, zn3])
          refine tY (i := 6) (v := ?_) rfl ?_ hHeld ?_; rotate_left 1; focus (intro w' hSw; clear hSw; go_simp; try with_reducible rfl)
          (try simp only [Act.put, zn1, zn2, zn3])
          refine tY (i := 7) (v := ?_) rfl ?_ hHeld ?_; rotate_left 1; focus (intro w' hSw; have hCell := fun (b o : Nat) (h : b < wr.heap.size) => hSw.cell (p := ⟨b, o, none⟩) h; clear hSw; go_simp; try with_reducible rfl)
          (try simp only [Act.put, zn1, zn2, zn3])
          refine tY (i := 8) (v := ?_) rfl ?_ hHeld ?_; rotate_left 1; focus (intro w' hSw; clear hSw; go_simp; try with_reducible rfl)
          (try simp only [Act.put, zn1, zn2, zn3])
          refine wpAnyH_done (by kernel_rfl) ?_ _
          go_wp2_with fail
          go_roundw
          case rel => exact ⟨k + 1, by omega, by go_num, fun j h1 h2 h3 => by
            by_cases h : j < k
            · exact hall.out j h1 h2 h
            · obtain rfl : j = k := by omega
              rw [Hx.out, Hy.out]; exact Hne.out, lift HB.out hHeld⟩
          case measure => simp [intOf]; omega
      · go_wp2_with fail
        go_ret
        exact ⟨ret_bool (by
          have : xs = ys := eq_of_at Hl.out fun j h1 h2 => hall.out j h1 h2 (by omega)
          simp [this]), HB.out⟩
  · have hl1 : ((xs.length : Int) != (ys.length : Int)) = true := by rw [bne_iff_ne]; omega
    have Hl := Lib.hid hl
    clear hl
    go_enter Tryz.func21, Tryz.ntmps21
    go_wp2
    go_ret
    exact ⟨ret_bool (by
      have : ¬ xs = ys := fun e => Hl.out (by rw [e])
      simp [this]), Below.refl _ _⟩
set_option maxRecDepth 100000 in
set_option maxHeartbeats 4000000 in
theorem SameDone_any (A A' : Option Addr) (c c' : Nat) (xs ys : List Nd) (w : World) (hr : Rd w w.heap.size 3 A xs.length (ndsC xs)) (hr' : Rd w w.heap.size 3 A' ys.length (ndsC ys)) (hb : xs.length ≤ 1000000) :
    Calls Tryz.prog 22 #[.slice A xs.length c, .slice A' ys.length c'] w fun e w' => e = .returned (.bool (decide (xs = ys))) ∧ Below w.heap.size w w' := by
  have Hr := Lib.hid hr
  have Hr' := Lib.hid hr'
  have hq := dn_neq
  clear hr hr'
  by_cases hl : xs.length = ys.length
  · have Hl := Lib.hid hl
    have hl1 : ((xs.length : Int) != (ys.length : Int)) = false := by simp [hl]
    clear hl
    go_enter Tryz.func22, Tryz.ntmps22
    go_wp2_with fail
    go_loopw [13] (fun i wr => ∃ k : Nat, k ≤ xs.length ∧ i = .int .i64 k ∧ Hid (∀ j (h1 : j < xs.length) (h2 : j < ys.length), j < k → xs[j] = ys[j]) ∧ Below w.heap.size w wr) (fun i _ => xs.length - (intOf i).toNat)
    case atStart => exact ⟨0, Nat.zero_le _, rfl, fun _ _ _ h => absurd h (by omega), Below.refl _ _⟩
    case round =>
      obtain ⟨k, hk, rfl, hall, hb⟩ := hrel
      have HB := Lib.hid hb
      replace Hr := Lib.hid (Hr.out.at hb)
      replace Hr' := Lib.hid (Hr'.out.at hb)
      clear hb
      by_cases hlt : k < xs.length
      · have hlt' : k < ys.length := by have := Hl.out; omega
        obtain ⟨b, o, rfl, hB, x0, x1, x2⟩ := Hr.out.node hlt
        obtain ⟨b', o', rfl, hB', y0, y1, y2⟩ := Hr'.out.node hlt'
        generalize hx : xs[k] = x at x0 x1 x2
        generalize hy : ys[k] = y at y0 y1 y2
        obtain ⟨s, t, d⟩ := x
        obtain ⟨s', t', d'⟩ := y
        have Hx := Lib.hid hx
        have Hy := Lib.hid hy
        simp only at x0 x1 x2 y0 y1 y2
        clear hx hy
        have hk0 : (0 : Int) ≤ (k : Int) := by omega
        have hk1 : (k : Int) < (xs.length : Int) := by omega
        have hk2 : (k : Int) < (ys.length : Int) := by omega
        cases hne : dnEq (s, t, d) (s', t', d')
        · have Hne := Lib.hid (show (s, t, d) ≠ (s', t', d') by simpa [dnEq] using hne)
          go_wp2_with fail
          try go_wp2_with fail
          refine wp_region_held_drew (S := fun w' => Below wr.heap.size wr w') (by kernel_rfl) (Below.drew (Below.refl _ _)) (fun hHeld => ?_)
          refine tY (i := 0) (v := ?_) rfl ?_ hHeld ?_; rotate_left 1; focus (intro w' hSw; clear hSw; go_simp; try with_reducible rfl)
          (try simp only [Act.put, zn1, zn2, zn3])
          refine tY (i := 1) (v := ?_) rfl ?_ hHeld ?_; rotate_left 1; focus (intro w' hSw; clear hSw; go_simp; try with_reducible rfl)
          (try simp only [Act.put, zn1, zn2, zn3])
          refine tY (i := 2) (v := ?_) rfl ?_ hHeld ?_; rotate_left 1; focus (intro w' hSw; clear hSw; go_simp; try with_reducible rfl)
          (try simp only [Act.put, zn1, zn2, zn3])
          refine tY (i := 3) (v := ?_) rfl ?_ hHeld ?_; rotate_left 1; focus (intro w' hSw; have hCell := fun (b o : Nat) (h : b < wr.heap.size) => hSw.cell (p := ⟨b, o, none⟩) h; clear hSw; go_simp; try with_reducible rfl)
          (try simp only [Act.put, zn1, zn2, zn3])
          refine tY (i := 4) (v := ?_) rfl ?_ hHeld ?_; rotate_left 1; focus (intro w' hSw; clear hSw; go_simp; try with_reducible rfl)
          (try simp only [Act.put, zn1, zn2, zn3])
          refine tY (i := 5) (v := ?_) rfl ?_ hHeld ?_; rotate_left 1; focus (intro w' hSw; clear hSw; go_simp; try with_reducible rfl)
          (try simp only [Act.put, zn1, zn2, zn3])
          refine tY (i := 6) (v := ?_) rfl ?_ hHeld ?_; rotate_left 1; focus (intro w' hSw; clear hSw; go_simp; try with_reducible rfl)
          (try simp only [Act.put, zn1, zn2, zn3])
          refine tY (i := 7) (v := ?_) rfl ?_ hHeld ?_; rotate_left 1; focus (intro w' hSw; have hCell := fun (b o : Nat) (h : b < wr.heap.size) => hSw.cell (p := ⟨b, o, none⟩) h; clear hSw; go_simp; try with_reducible rfl)
          (try simp only [Act.put, zn1, zn2, zn3])
          refine tY (i := 8) (v := ?_) rfl ?_ hHeld ?_; rotate_left 1; focus (intro w' hSw; clear hSw; go_simp; try with_reducible rfl)
          (try simp only [Act.put, zn1, zn2, zn3])
          refine wpAnyH_done (by kernel_rfl) ?_ _
          go_wp2_with fail
          go_ret
          exact ⟨ret_bool (by
            have hd : xs[k] ≠ ys[k] := by rw [Hx.out, Hy.out]; exact Hne.out
            simp [at_ne hlt hlt' hd]), lift HB.out hHeld⟩
        · have Hne := Lib.hid (show (s, t, d) = (s', t', d') by simpa [dnEq] using hne)
          go_wp2_with fail
          try go_wp2_with fail
          refine wp_region_held_drew (S := fun w' => Below wr.heap.size wr w') (by kernel_rfl) (Below.drew (Below.refl _ _)) (fun hHeld => ?_)
          refine tY (i := 0) (v := ?_) rfl ?_ hHeld ?_; rotate_left 1; focus (intro w' hSw; clear hSw; go_simp; try with_reducible rfl)
          (try simp only [Act.put, zn1, zn2, zn3])
          refine tY (i := 1) (v := ?_) rfl ?_ hHeld ?_; rotate_left 1; focus (intro w' hSw; clear hSw; go_simp; try with_reducible rfl)
          (try simp only [Act.put, zn1, zn2, zn3])
          refine tY (i := 2) (v := ?_) rfl ?_ hHeld ?_; rotate_left 1; focus (intro w' hSw; clear hSw; go_simp; try with_reducible rfl)
          (try simp only [Act.put, zn1, zn2, zn3])
          refine tY (i := 3) (v := ?_) rfl ?_ hHeld ?_; rotate_left 1; focus (intro w' hSw; have hCell := fun (b o : Nat) (h : b < wr.heap.size) => hSw.cell (p := ⟨b, o, none⟩) h; clear hSw; go_simp; try with_reducible rfl)
          (try simp only [Act.put, zn1, zn2, zn3])
          refine tY (i := 4) (v := ?_) rfl ?_ hHeld ?_; rotate_left 1; focus (intro w' hSw; clear hSw; go_simp; try with_reducible rfl)
          (try simp only [Act.put, zn1, zn2, zn3])
          refine tY (i := 5) (v := ?_) rfl ?_ hHeld ?_; rotate_left 1; focus (intro w' hSw; clear hSw; go_simp; try with_reducible rfl)
          (try simp only [Act.put, zn1, zn2, zn3])
          refine tY (i := 6) (v := ?_) rfl ?_ hHeld ?_; rotate_left 1; focus (intro w' hSw; clear hSw; go_simp; try with_reducible rfl)
          (try simp only [Act.put, zn1, zn2, zn3])
          refine tY (i := 7) (v := ?_) rfl ?_ hHeld ?_; rotate_left 1; focus (intro w' hSw; have hCell := fun (b o : Nat) (h : b < wr.heap.size) => hSw.cell (p := ⟨b, o, none⟩) h; clear hSw; go_simp; try with_reducible rfl)
          (try simp only [Act.put, zn1, zn2, zn3])
          refine tY (i := 8) (v := ?_) rfl ?_ hHeld ?_; rotate_left 1; focus (intro w' hSw; clear hSw; go_simp; try with_reducible rfl)
          (try simp only [Act.put, zn1, zn2, zn3])
          refine wpAnyH_done (by kernel_rfl) ?_ _
          go_wp2_with fail
          go_roundw
          case rel => exact ⟨k + 1, by omega, by go_num, fun j h1 h2 h3 => by
            by_cases h : j < k
            · exact hall.out j h1 h2 h
            · obtain rfl : j = k := by omega
              rw [Hx.out, Hy.out]; exact Hne.out, lift HB.out hHeld⟩
          case measure => simp [intOf]; omega
      · go_wp2_with fail
        go_ret
        exact ⟨ret_bool (by
          have : xs = ys := eq_of_at Hl.out fun j h1 h2 => hall.out j h1 h2 (by omega)
          simp [this]), HB.out⟩
  · have hl1 : ((xs.length : Int) != (ys.length : Int)) = true := by rw [bne_iff_ne]; omega
    have Hl := Lib.hid hl
    clear hl
    go_enter Tryz.func22, Tryz.ntmps22
    go_wp2
    go_ret
    exact ⟨ret_bool (by
      have : ¬ xs = ys := fun e => Hl.out (by rw [e])
      simp [this]), Below.refl _ _⟩
end Od
end Go.Proofs.YtanfnejbnmenkaaGreat
end

section
/-
  DERIVED: THE SHELF's CONTRACTS AT THIS DUMP, IN PLAIN WORDS (tools/lay-plain.mjs out of 'TryzGrowS.lean', which tools/lay-shelf.mjs wrote): THE SAME DECLARATIONS UNDER THE SAME NAMES: 'import', 'namespace', 'open', 'def', 'theorem' AND NOTHING ELSE: no command of the shelf's: FOR A HAND-IN. Each laying: the table of numbers ('.._ren') and one theorem, a field a fact of the dump's own or the kernel's comparison; each contract: ONE APPLICATION.
-/
namespace Go.Proofs.YtanfnejbnmenkaaGreat
open Go.Shelf
def Tryz.growS_ren : Go.Shelf.Ren := ⟨fun | 4 => 126 | n => n, fun | 22 => 37 | 25 => 9 | 3 => 3 | 4 => 4 | 9 => 9 | 20 => 20 | 0 => 0 | n => n, fun | n => n⟩
theorem Tryz.growS : Go.Proofs.Lays8.n4 Tryz.prog Tryz.growS_ren := {
  mixed := by kernel_rfl
  f4 := ⟨Tryz.f126.name, by decide, Tryz.func126.trans (congrArg some (by kernel_rfl))⟩
  t0 := Tryz.underlying0
  a0 := Tryz.isAgg0
  z0 := Tryz.sizeOf0
  v0 := Tryz.zeroValue0
  t3 := Tryz.underlying3
  a3 := Tryz.isAgg3
  z3 := Tryz.sizeOf3
  v3 := Tryz.zeroValue3
  t4 := Tryz.underlying4
  a4 := Tryz.isAgg4
  z4 := Tryz.sizeOf4
  v4 := Tryz.zeroValue4
  t9 := Tryz.underlying9
  a9 := Tryz.isAgg9
  z9 := Tryz.sizeOf9
  v9 := Tryz.zeroValue9
  t20 := Tryz.underlying20
  a20 := Tryz.isAgg20
  z20 := Tryz.sizeOf20
  v20 := Tryz.zeroValue20
  t22 := Tryz.underlying37
  a22 := Tryz.isAgg37
  z22 := Tryz.sizeOf37
  v22 := Tryz.zeroValue37 }
end Go.Proofs.YtanfnejbnmenkaaGreat
end
