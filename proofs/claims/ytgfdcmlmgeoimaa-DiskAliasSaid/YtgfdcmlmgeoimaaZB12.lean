/- My texts, joined for the claim: DLaidM DLaid DLaws. -/
import Derived.Test.YtgfdcmlmgeoimaaZB11
import Derived.Test.YtgfdcmlmgeoimaaZB10
import Derived.Test.YtgfdcmlmgeoimaaZB5

section
/- What disk.laid gathers: names and the best path of each; no program. (bel2) -/
namespace Go.Proofs.Ytgfdcmlmgeoimaa
open Go.RowKit Go.Sort
set_option linter.unusedSimpArgs false
namespace Od
abbrev Cn := Str × Str
/-- The names gathered, each once. -/
def nmC (C : List Cn) : List Str := dedK (C.map (·.1))
/-- What the map holds. -/
def bestV (C : List Cn) (s : Str) : Option Value := (C.find? (fun c => c.1 == s)).map fun c => sv c.2
theorem nm_mem {C : List Cn} {n : Str} : n ∈ nmC C ↔ n ∈ C.map (·.1) := (dedK_mem_nodup _).1 n
theorem nm_snoc (C : List Cn) (n p : Str) : nmC (C ++ [(n, p)]) = if n ∈ nmC C then nmC C else nmC C ++ [n] := by
  unfold nmC
  rw [List.map_append]
  exact dedK_snoc _ n
theorem nm_len (C : List Cn) : (nmC C).length ≤ C.length := by
  have h : ∀ l : List Str, (dedK l).length ≤ l.length := fun l => by
    have h1 := (dedK_mem_nodup l).2
    have h2 : (dedK l) ⊆ l := fun n hn => ((dedK_mem_nodup l).1 n).1 hn
    exact h1.length_le_of_subset h2
  exact Nat.le_trans (h _) (by simp)
theorem bestV_app (C : List Cn) (n p : Str) (s : Str) : bestV (C ++ [(n, p)]) s = (bestV C s).or (if s = n then some (sv p) else none) := by
  unfold bestV
  rw [List.find?_append]
  cases C.find? (fun c => c.1 == s) with
  | some c => rfl
  | none =>
    by_cases h : s = n
    · subst h; simp
    · have h' : ¬ n = s := fun e => h e.symm
      simp [h, h']
theorem bestV_mem {C : List Cn} {n : Str} (h : n ∈ nmC C) : ∃ p, (n, p) ∈ C ∧ bestV C n = some (sv p) ∧ bestC C n = p := by
  have h1 := nm_mem.1 h
  obtain ⟨c, hc, e⟩ := List.mem_map.1 h1
  unfold bestV bestC
  cases hf : C.find? (fun c => c.1 == n) with
  | none => exact absurd (List.find?_eq_none.1 hf c hc) (by simp [e])
  | some d =>
    have hd := List.find?_some hf
    have hd' : d.1 = n := by simpa using hd
    exact ⟨d.2, by rw [← hd']; exact List.mem_of_find?_eq_some hf, rfl, rfl⟩
theorem bestV_not {C : List Cn} {n : Str} (h : n ∉ nmC C) : bestV C n = none := by
  unfold bestV
  rw [Option.map_eq_none_iff, List.find?_eq_none]
  intro c hc e
  exact h (nm_mem.2 (List.mem_map.2 ⟨c, hc, by simpa using e⟩))
theorem bestV_old {C : List Cn} {n p : Str} (h : n ∈ nmC C) : bestV (C ++ [(n, p)]) = bestV C := by
  funext s
  rw [bestV_app]
  by_cases e : s = n
  · subst e
    obtain ⟨q, _, hq, _⟩ := bestV_mem h
    rw [hq]; rfl
  · rw [if_neg e]; simp
theorem bestV_new {C : List Cn} {n p : Str} (h : n ∉ nmC C) : (fun y => if y = n then some (sv p) else bestV C y) = bestV (C ++ [(n, p)]) := by
  funext s
  rw [bestV_app]
  by_cases e : s = n
  · subst e
    rw [bestV_not h, if_pos rfl]; rfl
  · rw [if_neg e, if_neg e]; simp
/-- What may be gathered. -/
def OkC (C : List Cn) : Prop := ∀ c ∈ C, c.2 ≠ []
theorem OkC.nil : OkC [] := fun _ h => by cases h
theorem OkC.app {C D : List Cn} (h : OkC C) (h' : OkC D) : OkC (C ++ D) := fun c hc => (List.mem_append.1 hc).elim (h c) (h' c)
theorem splP_nil_folder : ¬ (splP []).1.2.2.1 = dropsS := by decide
theorem candF_ok {v p : Str} {f : Fl} {c : Cn} (h : candF v p f = some c) : c.2 ≠ [] := by
  unfold candF at h
  split at h
  · rename_i hc
    injection h with h
    subst h
    intro e
    have e' : f.1 = [] := e
    rw [e'] at hc
    exact splP_nil_folder hc.1
  · cases h
theorem OkC.one {v p : Str} {f : Fl} {c : Cn} (h : candF v p f = some c) : OkC [c] := fun d hd => by rw [List.mem_singleton.1 hd]; exact candF_ok h
def cL3 (fs : List Fl) (v p : Str) (i : Nat) : List Cn := (fs.take i).filterMap (candF v p)
def cL2 (fs : List Fl) (v : Str) (j : Nat) : List Cn := (placesL.take j).flatMap fun p => cL3 fs v p fs.length
def cL1 (fs : List Fl) (u : Str) (k : Nat) : List Cn := ((whoP u).take k).flatMap fun v => cL2 fs v placesL.length
theorem flat_take {α β : Type} {F : α → List β} {l : List α} {k : Nat} (hk : k < l.length) : (l.take (k + 1)).flatMap F = (l.take k).flatMap F ++ F l[k] := by
  rw [List.take_succ_eq_append_getElem hk, List.flatMap_append, List.flatMap_cons, List.flatMap_nil, List.append_nil]
theorem cL2_succ (fs : List Fl) (v : Str) {j : Nat} (hj : j < placesL.length) : cL2 fs v (j + 1) = cL2 fs v j ++ cL3 fs v placesL[j] fs.length := flat_take hj
theorem cL1_succ (fs : List Fl) (u : Str) {k : Nat} (hk : k < (whoP u).length) : cL1 fs u (k + 1) = cL1 fs u k ++ cL2 fs (whoP u)[k] placesL.length := flat_take hk
theorem cL1_all (fs : List Fl) (u : Str) : cL1 fs u (whoP u).length = candsF fs u := by
  unfold cL1 candsF cL2 cL3
  simp only [List.take_length]
theorem cL3_succ (fs : List Fl) (v p : Str) {i : Nat} (hi : i < fs.length) : cL3 fs v p (i + 1) = cL3 fs v p i ++ (candF v p fs[i]).toList := filterMap_take hi
theorem cL3_zero (fs : List Fl) (v p : Str) : cL3 fs v p 0 = [] := rfl
theorem cL2_zero (fs : List Fl) (v : Str) : cL2 fs v 0 = [] := rfl
theorem cand_conf {fs : List Fl} (h : mayFs fs = true) {u n : Str} (hn : n ∈ nmC (candsF fs u)) : ∃ x : Xt, n = cfX x ∧ x.1 ≠ [] := by
  obtain ⟨⟨m, q⟩, hc, rfl⟩ := List.mem_map.1 (nm_mem.1 hn)
  unfold candsF at hc
  simp only [List.mem_flatMap, List.mem_filterMap] at hc
  obtain ⟨v, hv, p, hpp, f, hf, he⟩ := hc
  obtain ⟨y, e1, _, _, e2, _⟩ := (cand_iff h hpp hf).1 he
  rcases may_cases ((mayFs_iff.1 h).2.1 f hf) with ⟨_, _, _, e3, _⟩ | ⟨_, _, z, _, e3, _, _, hz, _⟩ | ⟨_, _, _, _, _, e3, _, _, hj, _⟩
  · rw [e2] at e3; injection e3 with a _; omega
  · rw [e2] at e3
    injection e3 with _ e3
    injection e3 with _ e3
    injection e3 with _ e3
    subst e3
    unfold dropN at hz
    simp only [Bool.and_eq_true, Bool.not_eq_true', beq_eq_false_iff_ne, ne_eq, decide_eq_false_iff_not] at hz
    exact ⟨⟨y, by omega⟩, e1, hz.1⟩
  · rw [e2] at e3; injection e3 with a _; omega
theorem all_X : ∀ {N : List Str}, (∀ n ∈ N, ∃ x : Xt, n = cfX x ∧ x.1 ≠ []) → ∃ xs : List Xt, N = xs.map cfX ∧ ∀ x ∈ xs, x.1 ≠ []
  | [], _ => ⟨[], rfl, fun _ h => by cases h⟩
  | n :: N, h => by
    obtain ⟨x, rfl, hx⟩ := h n (.head _)
    obtain ⟨xs, rfl, hxs⟩ := all_X (N := N) fun m hm => h m (.tail _ hm)
    exact ⟨x :: xs, rfl, fun y hy => by rcases List.mem_cons.1 hy with rfl | hy; exact hx; exact hxs y hy⟩
theorem trimC_cf {x : Xt} (h : x.1 ≠ []) : trimC (cfX x) = x.1 := by unfold trimC cfX; rw [endsW_some.2 ⟨rfl, h⟩]; rfl
theorem laid_sorted {fs : List Fl} (h : mayFs fs = true) {u : Str} (hu : kindS u ≠ 0) {xs : List Xt} (hN : nmC (candsF fs u) = xs.map cfX) (hx : ∀ x ∈ xs, x.1 ≠ []) : ((sortX xs).map cfX).map (bestC (candsF fs u)) = dropsF fs u := by
  refine laid_eq h hu ?_ ?_
  · show ((sortX xs).map cfX).Perm (nmC (candsF fs u))
    rw [hN]
    exact (sortX_perm xs).map _
  · rw [List.pairwise_map]
    refine (sortX_le xs).imp_of_mem ?_
    intro a b ha hb hab
    rw [trimC_cf (hx _ ((sortX_perm xs).mem_iff.1 ha)), trimC_cf (hx _ ((sortX_perm xs).mem_iff.1 hb))]
    exact hab
end Od
end Go.Proofs.Ytgfdcmlmgeoimaa
end

section
/- disk.laid. (bel2) -/
namespace Go.Proofs.Ytgfdcmlmgeoimaa
open Go.RowKit Go.Sort Go.Maps
set_option linter.unusedSimpArgs false
namespace Od
theorem own_but {w w' : World} {m base e k n : Nat} {v : Value} {xs : List Value} (h : Keeps (But w m) w w') (hm : m < base) (ho : w.ownsRow base e k v n xs) : w'.ownsRow base e k v n xs := by
  refine ⟨ho.1, ?_⟩
  rcases ho.2 with h1 | ⟨g, cap, cur, hv, hg, hb, r⟩
  · exact .inl h1
  · have hgl : g < w.heap.size := (Array.getElem?_eq_some_iff.1 hb).1
    exact .inr ⟨g, cap, cur, hv, hg, by rw [h.block g ⟨hgl, by omega⟩]; exact hb, r⟩
/-- What has been gathered. -/
structure LaidS (W0 wr : World) (m : Nat) (C : List Cn) (Ao : Option Addr) (co : Nat) : Prop where
  row : wr.ownsRow W0.heap.size 9 1 (.slice Ao (nmC C).length co) (nmC C).length (svs (nmC C))
  map : MapIs strK wr m C.length (bestV C)
  keep : Keeps (But W0 m) W0 wr
  ok : OkC C
theorem LaidS.on {W0 wr w' : World} {m co : Nat} {C : List Cn} {Ao : Option Addr} (h : LaidS W0 wr m C Ao co) (hb : Below wr.heap.size wr w') : LaidS W0 w' m C Ao co :=
  ⟨own_on h.row hb, h.map.on hb, But.two h.keep hb, h.ok⟩
theorem LaidS.low {w W0 wr : World} {co : Nat} {C : List Cn} {Ao : Option Addr} (h : LaidS W0 wr w.heap.size C Ao co) (hb : Below w.heap.size w W0) : Below w.heap.size w wr := But.low hb h.keep (Nat.le_refl _)
theorem LaidS.start {W0 : World} {m : Nat} (h : MapIs strK W0 m 0 (bestV [])) : LaidS W0 W0 m [] none 0 :=
  ⟨World.ownsRow_nil _ _ _ _, h, ⟨rfl, rfl, rfl, Nat.le_refl _, fun _ _ => rfl⟩, OkC.nil⟩
theorem But.mid {w w1 w2 : World} {md : Nat} (h : Keeps (But w md) w w1) (hb : Below w.heap.size w1 w2) : Keeps (But w md) w w2 :=
  ⟨hb.os.trans h.os, hb.tape.trans h.tape, hb.output.trans h.output, Nat.le_trans h.size hb.size, fun j hj => (hb.block j hj.1).trans (h.block j hj)⟩
theorem LaidS.add {W0 w13 w' : World} {m : Nat} {C : List Cn} {A : Option Addr} {c : Nat} {pg s : Str} (e : nmC (C ++ [(pg, s)]) = nmC C ++ [pg]) (hm : m < W0.heap.size) (hM : MapIs strK w13 m (C.length + 1) (bestV (C ++ [(pg, s)]))) (hK : Keeps (But W0 m) W0 w13)
    (hO : OkC (C ++ [(pg, s)])) (hr : w'.ownsRow W0.heap.size 9 1 (.slice A ((nmC C).length + 1) c) ((nmC C).length + 1) (svs (nmC C) ++ [sv pg])) (hb : Below W0.heap.size w13 w') : LaidS W0 w' m (C ++ [(pg, s)]) A c := by
  have el : (nmC C ++ [pg]).length = (nmC C).length + 1 := by simp
  refine ⟨?_, ?_, But.mid hK hb, hO⟩
  · rw [e, el, svs_app]; exact hr
  · have := hM.same (hb.block m hm)
    simpa using this
theorem zeroSD (w : World) : (zeroValue 9).run Try.prog w = .ok (.string ⟨#[]⟩) w := Try.zeroValue9 w
set_option maxRecDepth 100000 in
set_option maxHeartbeats 8000000 in
theorem laid_any (A : Option Addr) (c : Nat) (fs : List Fl) (u : Str) (w : World) (h : FlIn w A fs) (hm : mayFs fs = true) (hu : kindS u ≠ 0) (hul : u.length ≤ 140737488355328) : Calls Try.prog 15 #[.slice A fs.length c, sv u] w (OwnS (dropsF fs u) w) := by
  have HF := Lib.hid h
  have hlen := (mayFs_iff.1 hm).1
  have hmm : ∀ (t : TypeId) (w : World), (Instr.makeMap t none).run Try.prog w = .ok (.map (some w.heap.size)) (w.alloc (.map #[] 0)) := fun _ _ => rfl
  have hmade := MapIs.made strK w
  have htl := templ_le u
  have hpl : placesL.length = 3 := rfl
  have hwl : (whoP u).length = 2 := rfl
  obtain ⟨i0, hi, hz0, hz1, hz2⟩ := info_parts infoS
  have HM0 := Lib.hid hmade
  clear h hmade
  go_enter Try.func15, Try.ntmps15
  go_wp2_with fail
  first | (refine wp_named ?_; intro W1 hW) | (refine calls_named ?_; intro W1 hW) | (refine exit_named ?_; intro W1 hW)
  have B1 : Below w.heap.size w W1 := by rw [hW]; exact (by repeat (first | exact Below.refl _ _ | assumption | refine Below.alloc ?_ (by first | omega | (simp <;> omega)) _ | refine Below.setCell ?_ (by first | omega | (simp <;> omega)) _ | refine Below.drew ?_))
  have HM1 := Lib.hid (show MapIs strK W1 w.heap.size 0 (bestV []) by rw [hW]; exact HM0.out)
  have n0 : w.heap.size < W1.heap.size := by rw [hW]; simp <;> omega
  clear hW
  have HB1 := Lib.hid B1
  clear B1 HM0
  refine (Template_any u W1 hul).mono ?_
  rintro e w2 ⟨rfl, hb⟩
  have HM2 := Lib.hid (HM1.out.on hb)
  have HB2 := Lib.hid (lift HB1.out hb)
  replace n0 : w.heap.size < w2.heap.size := ltAt n0 hb
  clear hb HM1
  generalize htm : templS u = tu at *
  have hwe : ∀ k (hk : k < (whoP u).length), (whoP u)[k] = [u, tu][k]'hk := fun k hk => by unfold whoP; subst htm; rfl
  have hw2m : w.heap.size < w2.heap.size := n0
  go_wp2_with fail
  first | (refine wp_named ?_; intro W3 hW) | (refine calls_named ?_; intro W3 hW) | (refine exit_named ?_; intro W3 hW)
  have B3 : Below w2.heap.size w2 W3 := by rw [hW]; exact (by repeat (first | exact Below.refl _ _ | assumption | refine Below.alloc ?_ (by first | omega | (simp <;> omega)) _ | refine Below.setCell ?_ (by first | omega | (simp <;> omega)) _ | refine Below.drew ?_))
  replace n0 : w.heap.size < W3.heap.size := ltAt n0 B3
  have HM3 := Lib.hid (HM2.out.on B3)
  have n3 : w2.heap.size < W3.heap.size := by rw [hW]; simp <;> omega
  have r0 : W3.cell? ⟨w2.heap.size, 0, none⟩ = some (sv u) := by rw [hW]; go_simp
  have r1 : W3.cell? ⟨w2.heap.size, 1, none⟩ = some (sv tu) := by rw [hW]; go_simp
  clear hW
  have HB3 := Lib.hid (lift HB2.out B3)
  clear B3 HM2
  have hrow : ∀ k (hk : k < (whoP u).length), W3.cell? ⟨w2.heap.size, k, none⟩ = some (sv (whoP u)[k]) := fun k hk => by
    rcases k with _ | _ | k
    · exact r0
    · have e : (whoP u)[1] = tu := by unfold whoP; exact htm
      rw [e]; exact r1
    · rw [hwl] at hk; omega
  clear r0 r1 hwe
  go_loopw [6, 23] (fun v i wr => ∃ (k : Nat) (Ao : Option Addr) (co : Nat), k ≤ (whoP u).length ∧ v = .slice Ao (nmC (cL1 fs u k)).length co ∧ i = .int .i64 k ∧ (cL1 fs u k).length ≤ k * 360 ∧ Hid (LaidS W3 wr w.heap.size (cL1 fs u k) Ao co)) (fun _ i _ => (whoP u).length - (intOf i).toNat)
  case atStart => exact ⟨0, none, 0, Nat.zero_le _, rfl, rfl, Nat.le_refl _, LaidS.start HM3.out⟩
  case round =>
    obtain ⟨k, Ao, co, hk, rfl, rfl, hcl, HS⟩ := hrel
    obtain ⟨w6, rfl⟩ : ∃ wo : World, wo = wr := ⟨_, rfl⟩
    have HB6 := Lib.hid (HS.out.low HB3.out)
    by_cases hlt : k < (whoP u).length
    · have x0 := cellK (hrow k hlt) HS.out.keep n3 (by omega)
      have hsu := cL1_succ fs u hlt
      have hvl : (whoP u)[k].length ≤ 140737488355328 := by
        rcases List.mem_cons.1 (List.getElem_mem hlt) with e | e
        · rw [e]; exact hul
        · rw [List.mem_singleton.1 e, htm]; omega
      generalize (whoP u)[k] = v at *
      generalize hC1 : cL1 fs u k = C1 at *
      have i1 : (0 : Int) ≤ (k : Int) := by omega
      have i2 : (k : Int) < 2 := by omega
      go_wp2_with fail
      refine (Places_any w6).mono ?_
      rintro e w7 ⟨A1, c1, rfl, _, _, hb⟩
      have HS7 := Lib.hid (HS.out.on hb)
      clear hb HS HB6 x0
      go_wp2_with fail
      go_loopw [6, 29] (fun vv i wr => ∃ (j : Nat) (Ao : Option Addr) (co : Nat), j ≤ placesL.length ∧ vv = .slice Ao (nmC (C1 ++ cL2 fs v j)).length co ∧ i = .int .i64 j ∧ (C1 ++ cL2 fs v j).length ≤ k * 360 + j * 120 ∧ Hid (LaidS W3 wr w.heap.size (C1 ++ cL2 fs v j) Ao co)) (fun _ i _ => placesL.length - (intOf i).toNat)
      case atStart => exact ⟨0, Ao, co, Nat.zero_le _, by rw [cL2_zero, List.append_nil], rfl, by rw [cL2_zero, List.append_nil]; omega, by rw [cL2_zero, List.append_nil]; exact HS7.out⟩
      case round =>
        clear HS7
        obtain ⟨j, Ao2, co2, hj, rfl, rfl, hcl2, HS⟩ := hrel
        obtain ⟨w8, rfl⟩ : ∃ wo : World, wo = wr := ⟨_, rfl⟩
        by_cases hjt : j < placesL.length
        · have hsu2 := cL2_succ fs v hjt
          have hidx : idxP placesL[j] = (j : Int) := by
            rcases j with _ | _ | _ | j
            · rfl
            · rfl
            · rfl
            · rw [hpl] at hjt; omega
          generalize placesL[j] = p at *
          have hC2s : C1 ++ cL2 fs v (j + 1) = (C1 ++ cL2 fs v j) ++ cL3 fs v p fs.length := by rw [hsu2, List.append_assoc]
          generalize hC2 : C1 ++ cL2 fs v j = C2 at *
          have HN2 := Lib.hid hC2s
          clear hsu2 hC2s hC2
          have i3 : (0 : Int) ≤ (j : Int) := by omega
          have i4 : (j : Int) < 3 := by omega
          go_wp2_with fail
          go_loopw [6, 34] (fun vv i wr => ∃ (n : Nat) (Ao : Option Addr) (co : Nat), n ≤ fs.length ∧ vv = .slice Ao (nmC (C2 ++ cL3 fs v p n)).length co ∧ i = .int .i64 n ∧ (C2 ++ cL3 fs v p n).length ≤ k * 360 + j * 120 + n ∧ Hid (LaidS W3 wr w.heap.size (C2 ++ cL3 fs v p n) Ao co)) (fun _ i _ => fs.length - (intOf i).toNat)
          case atStart => exact ⟨0, Ao2, co2, Nat.zero_le _, by rw [cL3_zero, List.append_nil], rfl, by rw [cL3_zero, List.append_nil]; omega, by rw [cL3_zero, List.append_nil]; exact HS.out⟩
          case round =>
            clear HS
            obtain ⟨n, Ao3, co3, hn, rfl, rfl, hcl3, HS⟩ := hrel
            obtain ⟨w9, rfl⟩ : ∃ wo : World, wo = wr := ⟨_, rfl⟩
            have HB9 := Lib.hid (HS.out.low HB3.out)
            have hz9 : W3.heap.size ≤ w9.heap.size := HS.out.keep.size
            by_cases hnt : n < fs.length
            · obtain ⟨b2, o2, hA, hB2, x0, x1, x2⟩ := (HF.out.at HB9.out).rd.fl hnt
              have hok := (HF.out.ok _ (List.getElem_mem hnt)).1
              have hs3 := cL3_succ fs v p hnt
              have hcd : ∀ f : Fl, candF v p f = if (splP f.1).1.2.2.1 = dropsS ∧ (splP f.1).1.2.1 = v ∧ (splP f.1).1.1 = idxP p then some ((splP f.1).1.2.2.2, f.1) else none := fun _ => rfl
              have hcf := hcd fs[n]
              have hcok : ∀ cc : Cn, candF v p fs[n] = some cc → OkC [cc] := fun cc hcc => OkC.one hcc
              subst hA
              generalize fs[n] = f at x0 x1 x2 hok hs3 hcf hcok
              obtain ⟨s, t, l⟩ := f
              simp only at x0 x1 x2 hok hcf
              have hok1 : s.length ≤ 140737488355328 := Nat.le_trans hok (by decide)
              have hsp := fun W => split_any s W hok1
              have hgl := (spl_le s).2
              rcases hx : splP s with ⟨⟨i, pu, pd, pg⟩, pb⟩
              rw [hx, hidx, show dropsS = ([46, 100] : Str) from rfl] at hcf
              rw [hx] at hsp hgl
              simp only at hcf hgl
              have hgo : okS pg := okS_of (Nat.le_trans hgl hok)
              have hC3s : C2 ++ cL3 fs v p (n + 1) = (C2 ++ cL3 fs v p n) ++ (candF v p (s, t, l)).toList := by rw [hs3, List.append_assoc]
              generalize hC3 : C2 ++ cL3 fs v p n = C3 at *
              generalize candF v p (s, t, l) = fo at hC3s hcf hcok
              have HC3s := Lib.hid hC3s
              have HCf := Lib.hid hcf
              have HCok := Lib.hid hcok
              have i5 : (0 : Int) ≤ (n : Int) := by omega
              have i6 : (n : Int) < (fs.length : Int) := by omega
              clear hx hs3 hcd hC3s hcf hcok hC3 hgl
              go_wp2_with fail
              first | (refine wp_named ?_; intro W10 hW) | (refine calls_named ?_; intro W10 hW) | (refine exit_named ?_; intro W10 hW)
              have B10 : Below w9.heap.size w9 W10 := by rw [hW]; exact (by repeat (first | exact Below.refl _ _ | assumption | refine Below.alloc ?_ (by first | omega | (simp <;> omega)) _ | refine Below.setCell ?_ (by first | omega | (simp <;> omega)) _ | refine Below.drew ?_))
              replace HS := Lib.hid (HS.out.on B10)
              have m10 : w9.heap.size < W10.heap.size := by rw [hW]; simp <;> omega
              have z0 : W10.cell? ⟨w9.heap.size, 0, none⟩ = some (sv s) := by rw [hW]; go_simp
              clear hW
              clear B10 x0 x1 x2
              refine (hsp W10).mono ?_
              rintro e w11 ⟨rfl, hb⟩
              replace z0 := cellAt z0 hb (by omega)
              replace HS := Lib.hid (HS.out.on hb)
              replace m10 : w9.heap.size < w11.heap.size := ltAt m10 hb
              have hz11 : w9.heap.size < w11.heap.size := m10
              clear hb hsp
              go_upto_region 13 with fail
              first | (refine wp_named ?_; intro W12 hW) | (refine calls_named ?_; intro W12 hW) | (refine exit_named ?_; intro W12 hW)
              have B12 : Below w11.heap.size w11 W12 := by rw [hW]; exact (by repeat (first | exact Below.refl _ _ | assumption | refine Below.alloc ?_ (by first | omega | (simp <;> omega)) _ | refine Below.setCell ?_ (by first | omega | (simp <;> omega)) _ | refine Below.drew ?_))
              replace z0 := cellAt z0 B12 (by omega)
              replace HS := Lib.hid (HS.out.on B12)
              replace m10 : w9.heap.size < W12.heap.size := ltAt m10 B12
              have m12 : w11.heap.size < W12.heap.size := by rw [hW]; simp <;> omega
              have y0 : W12.cell? ⟨w11.heap.size, 0, none⟩ = some (.int .i64 i) := by rw [hW]; go_simp
              have y1 : W12.cell? ⟨w11.heap.size, 1, none⟩ = some (sv pu) := by rw [hW]; go_simp
              have y2 : W12.cell? ⟨w11.heap.size, 2, none⟩ = some (sv pd) := by rw [hW]; go_simp
              have y3 : W12.cell? ⟨w11.heap.size, 3, none⟩ = some (sv pg) := by rw [hW]; go_simp
              clear hW
              clear B12
              cases h1 : (pd == ([46, 100] : Str))
              · skip
                have HNx := Lib.hid (show C2 ++ cL3 fs v p (n + 1) = C3 by rw [HC3s.out, HCf.out, if_neg (by simp_all)]; simp)
                clear HC3s HCf HCok
                go_wp2_with fail
                go_roundw
                case rel => exact ⟨n + 1, Ao3, co3, by omega, by rw [HNx.out], by go_num, by rw [HNx.out]; omega, by rw [HNx.out]; exact HS⟩
                case measure => simp [intOf]; omega
              · cases h2 : (pu == v)
                · skip
                  have HNx := Lib.hid (show C2 ++ cL3 fs v p (n + 1) = C3 by rw [HC3s.out, HCf.out, if_neg (by simp_all)]; simp)
                  clear HC3s HCf HCok
                  go_wp2_with fail
                  go_roundw
                  case rel => exact ⟨n + 1, Ao3, co3, by omega, by rw [HNx.out], by go_num, by rw [HNx.out]; omega, by rw [HNx.out]; exact HS⟩
                  case measure => simp [intOf]; omega
                · by_cases h3 : ¬ i = (j : Int)
                  · have h3b : (i == (j : Int)) = false := by simpa using h3
                    have HNx := Lib.hid (show C2 ++ cL3 fs v p (n + 1) = C3 by rw [HC3s.out, HCf.out, if_neg (by simp_all)]; simp)
                    clear HC3s HCf HCok
                    go_wp2_with fail
                    go_roundw
                    case rel => exact ⟨n + 1, Ao3, co3, by omega, by rw [HNx.out], by go_num, by rw [HNx.out]; omega, by rw [HNx.out]; exact HS⟩
                    case measure => simp [intOf]; omega
                  · have e1 : pd = ([46, 100] : Str) := by simpa using h1
                    have e2 : pu = v := by simpa using h2
                    have e3 : i = (j : Int) := Classical.not_not.1 h3
                    have hfo : fo = some (pg, s) := by rw [HCf.out, if_pos ⟨e1, e2, e3⟩]
                    have h3b : (i == (j : Int)) = true := by simpa using e3
                    have HOk := Lib.hid (HCok.out _ hfo)
                    have HNx := Lib.hid (show C2 ++ cL3 fs v p (n + 1) = C3 ++ [(pg, s)] by rw [HC3s.out, hfo]; rfl)
                    clear HC3s HCf HCok e1 e2 hfo h3
                    by_cases hin : pg ∈ nmC C3
                    · obtain ⟨q, hq1, hq2, _⟩ := bestV_mem hin
                      have hqn : q ≠ [] := HS.out.ok _ hq1
                      have hqb : (q == ([] : Str)) = false := by simpa using hqn
                      have HV := Lib.hid hq2
                      have HO := Lib.hid (bestV_old (p := s) hin)
                      have HO2 := Lib.hid (show nmC (C3 ++ [(pg, s)]) = nmC C3 by rw [nm_snoc, if_pos hin])
                      clear hq1 hq2 hqn hin
                      go_wp2_with (first | (at_lookup; refine wpList_lookup_wD _ (by rfl) (.tmp 60) (.tmp 62) 57 (by rfl) 9 Try.underlying57 (.string ⟨#[]⟩) (zeroSD _) w.heap.size _ _ (by rfl) HS.out.map pg (by rfl) hgo ?_; rw [HV.out]) | fail)
                      go_roundw
                      case rel => exact ⟨n + 1, Ao3, co3, by omega, by rw [HNx.out, HO2.out], by go_num, by rw [HNx.out]; simp; omega, by rw [HNx.out]; exact ⟨by rw [HO2.out]; exact HS.out.row, by rw [HO.out]; exact HS.out.map.mono (by simp), HS.out.keep, HS.out.ok.app HOk.out⟩⟩
                      case measure => simp [intOf]; omega
                    · have HV := Lib.hid (bestV_not hin)
                      have HO := Lib.hid (bestV_new (p := s) hin)
                      have HO2 := Lib.hid (show nmC (C3 ++ [(pg, s)]) = nmC C3 ++ [pg] by rw [nm_snoc, if_neg hin])
                      have hnl := nm_len C3
                      have hwm : w.heap.size < W3.heap.size := by omega
                      have hkm : C3.length < maxLen := by unfold maxLen; omega
                      have HKm := Lib.hid hkm
                      clear hin hkm
                      go_upto_region 15 with (first | (at_lookup; refine wpList_lookup_wD _ (by rfl) (.tmp 60) (.tmp 62) 57 (by rfl) 9 Try.underlying57 (.string ⟨#[]⟩) (zeroSD _) w.heap.size _ _ (by rfl) HS.out.map pg (by rfl) hgo ?_; rw [HV.out]) | (at_mapUpdate; refine wpList_update_is _ (by rfl) (.tmp 66) (.tmp 68) (.tmp 70) 57 (by rfl) 9 Try.underlying57 w.heap.size _ _ (by rfl) HS.out.map HKm.out pg (sv s) (by rfl) (by rfl) hgo ?_; intro w13 hm13 hg13) | fail)
                      have HM13 := Lib.hid (setS_if hm13)
                      have HK13 := Lib.hid (But.grown hg13)
                      have HR13 := Lib.hid (own_but HK13.out hwm HS.out.row)
                      have HKK := Lib.hid (But.trans HS.out.keep HK13.out)
                      have HOkk := Lib.hid (HS.out.ok.app HOk.out)
                      clear hm13 hg13
                      replace z0 := cellK z0 HK13.out (by omega) (by omega)
                      replace y0 := cellK y0 HK13.out (by omega) (by omega)
                      replace y1 := cellK y1 HK13.out (by omega) (by omega)
                      replace y2 := cellK y2 HK13.out (by omega) (by omega)
                      replace y3 := cellK y3 HK13.out (by omega) (by omega)
                      replace m10 : w9.heap.size < w13.heap.size := Nat.lt_of_lt_of_le m10 (Keeps.size HK13.out)
                      replace m12 : w11.heap.size < w13.heap.size := Nat.lt_of_lt_of_le m12 (Keeps.size HK13.out)
                      have hz13 : W3.heap.size ≤ w13.heap.size := HKK.out.size
                      have h63 := Lib.hid (show (nmC C3).length + 1 ≤ maxLen by unfold maxLen; omega)
                      have hby := Lib.hid (show ((nmC C3).length + 1) * 16 ≤ 140737488355328 by omega)
                      go_wp2_with (first | (at_builtin; refine wpList_pushm w13 w13 (by rfl) (.tmp 71) (.tmp 74) 24 (by rfl) W3.heap.size 9 i0 _ 1 16 Try.underlying24 hi hz0 hz1 hz2 rfl (by decide) _ _ _ (by rfl) HR13.out [sv pg] w13.heap.size rfl (by rfl) rfl (one_sv pg) h63.out hby.out hz13 (Below.refl _ _) ?_; intro A10 c10 w14 hown hbel hg hat; have HO14 := Lib.hid hown; have HBa := Lib.hid hbel; clear hown hbel hg hat) | fail)
                      go_roundw
                      case rel => exact ⟨n + 1, A10, c10, by omega, by rw [HNx.out, HO2.out]; simp, by go_num, by rw [HNx.out]; simp; omega, by rw [HNx.out]; exact LaidS.add HO2.out hwm (by rw [← HO.out]; exact HM13.out) HKK.out HOkk.out HO14.out HBa.out⟩
                      case measure => simp [intOf]; omega
            · obtain rfl : n = fs.length := by omega
              rw [← HN2.out] at hcl3 HS ⊢
              go_wp2_with fail
              go_roundw
              case rel => exact ⟨j + 1, Ao3, co3, by omega, rfl, by go_num, by omega, HS⟩
              case measure => simp [intOf]; omega
        · obtain rfl : j = placesL.length := by omega
          rw [← hsu] at hcl2 HS ⊢
          go_wp2_with fail
          go_roundw
          case rel => exact ⟨k + 1, Ao2, co2, by omega, rfl, by go_num, by omega, HS⟩
          case measure => simp [intOf]; omega
    · obtain rfl : k = (whoP u).length := by omega
      have hall := cL1_all fs u
      have hcnf := fun n hn => cand_conf hm (u := u) (n := n) hn
      have hsrt := fun xs => laid_sorted hm hu (xs := xs)
      have hmb := fun n hn => bestV_mem (C := candsF fs u) (n := n) hn
      rw [hall] at hcl HS ⊢
      clear hall HM3 hrow
      generalize candsF fs u = C at *
      generalize hF : bestC C = F at *
      obtain ⟨xs, hN, hxs⟩ := all_X hcnf
      have HD := Lib.hid (hsrt xs hN hxs)
      have hNl : (nmC C).length = xs.length := by rw [hN]; simp
      have hnl := nm_len C
      have hwm : w.heap.size < W3.heap.size := by omega
      have HRx := Lib.hid (show w6.ownsRow W3.heap.size 9 1 (.slice Ao xs.length co) xs.length (svs (xs.map cfX)) by rw [← hN, ← hNl]; exact HS.out.row)
      have hxl : xs.length ≤ 720 := by omega
      have hSl : ((sortX xs).map cfX).length = xs.length := by rw [List.length_map, sortX_len]
      have HMb := Lib.hid (show ∀ n ∈ (sortX xs).map cfX, bestV C n = some (sv (F n)) ∧ okS n from fun n hn => by
        obtain ⟨x, hx, rfl⟩ := List.mem_map.1 hn
        have hx2 := (sortX_perm xs).mem_iff.1 hx
        obtain ⟨q, _, h2, h3⟩ := hmb (cfX x) (by rw [hN]; exact List.mem_map.2 ⟨x, hx2, rfl⟩)
        refine ⟨by rw [h2, h3], okS_of ?_⟩
        have := x.2
        simp [cfX, confS]; omega)
      have HSo := fun w7 => sortX_own W3.heap.size co Ao xs w7
      have HSo := Lib.hid HSo
      rw [hNl]
      clear hcnf hsrt hmb hN hxs hcl hNl hnl
      generalize (sortX xs).map cfX = S at *
      go_wp2_with fail
      refine (HSo.out w6 HRx.out (by omega)).mono ?_
      rintro e w7 ⟨rfl, h7, g7⟩
      have H7 := Lib.hid (own_rd' h7)
      have hg7 : ∀ g, (Value.slice Ao xs.length co).ownBlock = some g → w.heap.size < g := fun g hg => Nat.lt_of_lt_of_le hwm (HRx.out.lt g hg).1
      have HB7 := Lib.hid (HB6.out.grown g7 HB6.out.size (fun g hg => Nat.le_of_lt (hg7 g hg)))
      have HM7 := Lib.hid (HS.out.map.kept g7 (fun e => by have := hg7 _ e.symm; omega))
      clear h7 g7 hg7 HSo HRx HS HB6
      rw [← hSl] at H7 ⊢
      go_wp2_with fail
      go_loopw [14, 83] (fun v i wr => ∃ (k : Nat) (A2 : Option Addr) (c2 : Nat), k ≤ S.length ∧ v = .slice A2 k c2 ∧ i = .int .i64 k ∧ Hid (wr.ownsRow w7.heap.size 9 1 (.slice A2 k c2) k (svs ((S.take k).map F))) ∧ Hid (Below w7.heap.size w7 wr)) (fun _ i _ => S.length - (intOf i).toNat)
      case atStart => exact ⟨0, none, 0, Nat.zero_le _, rfl, rfl, World.ownsRow_nil _ _ _ _, Below.refl _ _⟩
      case round =>
        obtain ⟨k, A2, c2, hk, rfl, rfl, HO, HB⟩ := hrel
        obtain ⟨w8, rfl⟩ : ∃ wo : World, wo = wr := ⟨_, rfl⟩
        by_cases hlt : k < S.length
        · obtain ⟨b2, o2, hA, hB2, x0⟩ := (H7.out.at HB.out).str hlt
          subst hA
          have hmm2 := HMb.out _ (List.getElem_mem hlt)
          have htk : (S.take (k + 1)).map F = (S.take k).map F ++ [F S[k]] := by rw [List.take_succ_eq_append_getElem hlt, List.map_append]; rfl
          generalize S[k] = q at *
          have HTk := Lib.hid htk
          have HV := Lib.hid hmm2.1
          have hgo := hmm2.2
          clear htk hmm2
          generalize F q = p at *
          have HM8 := Lib.hid (HM7.out.on HB.out)
          have h63 := Lib.hid (show k + 1 ≤ maxLen by unfold maxLen; omega)
          have hby := Lib.hid (show (k + 1) * 16 ≤ 140737488355328 by omega)
          have hz8 := HB.out.size
          have i1 : (0 : Int) ≤ (k : Int) := by omega
          have i2 : (k : Int) < (S.length : Int) := by omega
          go_wp2_with (first | (at_lookup; refine wpList_lookup_wD _ (by rfl) (.tmp 88) (.tmp 89) 57 (by rfl) 9 Try.underlying57 (.string ⟨#[]⟩) (zeroSD _) w.heap.size _ _ (by rfl) HM8.out q (by rfl) hgo ?_; rw [HV.out]) | (at_builtin; refine wpList_pushm w8 w8 (by rfl) (.tmp 87) (.tmp 91) 24 (by rfl) w7.heap.size 9 i0 _ 1 16 Try.underlying24 hi hz0 hz1 hz2 rfl (by decide) _ _ _ (by rfl) HO.out [sv p] w8.heap.size rfl (by rfl) rfl (one_sv p) h63.out hby.out hz8 (Below.refl _ _) ?_; intro A10 c10 w10 hown hbel hg hat; have HO10 := Lib.hid hown; have HBa := Lib.hid hbel; clear hown hbel hg hat) | fail)
          go_roundw
          case rel => exact ⟨k + 1, A10, c10, by omega, rfl, by go_num, by rw [HTk.out, svs_app]; exact HO10.out, HB.out.trans HBa.out⟩
          case measure => simp [intOf]; omega
        · obtain rfl : k = S.length := by omega
          have hO := HO.out
          rw [List.take_length] at hO
          have HO8 := Lib.hid (own_base hO HB7.out.size)
          have HB8 := Lib.hid (lift HB7.out HB.out)
          clear hO
          go_wp2_with fail
          go_ret
          rw [← HD.out]
          exact ⟨A2, c2, by rw [List.length_map]; rfl, by rw [List.length_map]; exact HO8.out, HB8.out⟩
end Od
end Go.Proofs.Ytgfdcmlmgeoimaa
end

section
/- Plain laws of Disk: order of files, a text put first, templates, rows of links. No program. -/
namespace Go.Proofs.Ytgfdcmlmgeoimaa
set_option linter.unusedSimpArgs false
namespace Od
/-! ### Any order -/
theorem mayFs_perm {fs gs : List Fl} (h : fs.Perm gs) : mayFs fs = mayFs gs := by
  rw [Bool.eq_iff_iff, mayFs_iff, mayFs_iff, h.length_eq, (h.map (·.1)).nodup_iff]
  simp only [h.mem_iff]
theorem at_iff {fs : List Fl} (hn : (fs.map (·.1)).Nodup) {p : Str} {f : Fl} : atF fs p = some f ↔ f ∈ fs ∧ f.1 = p := by
  unfold atF
  constructor
  · intro h
    exact ⟨List.mem_of_find?_eq_some h, by simpa using List.find?_some h⟩
  · rintro ⟨hf, rfl⟩
    induction fs with
    | nil => cases hf
    | cons g fs ih =>
      rw [List.map_cons, List.nodup_cons] at hn
      rw [List.find?_cons]
      rcases List.mem_cons.1 hf with rfl | hf
      · simp
      · have : (g.1 == f.1) = false := by
          rw [beq_eq_false_iff_ne]
          intro e
          exact hn.1 (by rw [e]; exact List.mem_map.2 ⟨f, hf, rfl⟩)
        rw [this]
        exact ih hn.2 hf
theorem at_none {fs : List Fl} {p : Str} : atF fs p = none ↔ ∀ f ∈ fs, f.1 ≠ p := by
  unfold atF
  rw [List.find?_eq_none]
  simp only [beq_iff_eq]
theorem at_perm {fs gs : List Fl} (hn : (fs.map (·.1)).Nodup) (h : fs.Perm gs) (p : Str) : atF fs p = atF gs p := by
  have hg := (h.map (·.1)).nodup_iff.1 hn
  cases hf : atF fs p with
  | some f =>
    obtain ⟨h1, h2⟩ := (at_iff hn).1 hf
    exact ((at_iff hg).2 ⟨h.mem_iff.1 h1, h2⟩).symm
  | none =>
    refine (at_none.2 fun f hf2 => ?_).symm
    exact at_none.1 hf f (h.mem_iff.2 hf2)
theorem canon_mem {l m : List Str} (h : ∀ x, x ∈ l ↔ x ∈ m) : canon ltS l = canon ltS m := SS.eq_canon toS (canon_ss toS l) fun x => by rw [mem_canon toS]; exact h x
theorem canon_filter {fs gs : List Fl} (h : ∀ f, f ∈ fs ↔ f ∈ gs) (F : Fl → Option Str) : canon ltS (fs.filterMap F) = canon ltS (gs.filterMap F) := canon_mem fun x => by
  rw [List.mem_filterMap, List.mem_filterMap]
  simp only [h]
/-- Two rows of files that answer alike at each path, and have the same texts laid over. -/
structure Alike (fs gs : List Fl) : Prop where
  at_ : ∀ p, atF fs p = atF gs p
  over : ∀ us, canon ltS (fs.filterMap (overF us)) = canon ltS (gs.filterMap (overF us))
theorem Alike.first {fs gs : List Fl} (h : Alike fs gs) (u : Str) : firstF fs u = firstF gs u := by unfold firstF; simp only [h.at_]
theorem Alike.owned {fs gs : List Fl} (h : Alike fs gs) (u : Str) : ownedF fs u = ownedF gs u := by unfold ownedF; rw [h.first, h.first]
theorem Alike.drops {fs gs : List Fl} (h : Alike fs gs) (u : Str) : dropsF fs u = dropsF gs u := by
  unfold dropsF
  rw [h.over]
  have : bestF fs u = bestF gs u := by funext x; unfold bestF; simp only [h.at_]
  rw [this]
theorem Alike.hop {fs gs : List Fl} (h : Alike fs gs) (asked : List Str) (n : Str) : hopF fs asked n = hopF gs asked n := by unfold hopF; rw [h.owned, h.drops]
theorem Alike.go {fs gs : List Fl} (h : Alike fs gs) : ∀ (k : Nat) (asked : List Str) (n : Str), goF fs k asked n = goF gs k asked n
  | 0, _, _ => rfl
  | k + 1, asked, n => by
    unfold goF
    rw [h.hop]
    cases hopF gs asked n with
    | done x e => rfl
    | next m => exact h.go k _ _
theorem alike_perm {fs gs : List Fl} (hm : mayFs fs = true) (h : fs.Perm gs) : Alike fs gs :=
  ⟨at_perm (mayFs_iff.1 hm).2.2 h, fun _ => canon_filter (fun _ => h.mem_iff) _⟩
theorem find_perm {fs gs : List Fl} (h : fs.Perm gs) (u : Str) : findF fs u = findF gs u := by
  unfold findF
  rw [← mayFs_perm h]
  cases hm : mayFs fs
  · rfl
  · rw [(alike_perm hm h).go]
theorem links_perm {fs gs : List Fl} (h : fs.Perm gs) (k : Nat) (u : Str) : linksF fs k u = linksF gs k u := by
  unfold linksF
  rw [← mayFs_perm h, canon_filter (fun _ => h.mem_iff)]
/-! ### A file put first, or behind all others -/
/-! ### Templates -/
theorem inst_parts {t i s : Str} (h : instOf t i = (s, true)) : tmplS t = true ∧ i ≠ [] ∧ kindS s ≠ 0 ∧ instS s = true ∧ templS s = t ∧ s ≠ t := by
  unfold instOf at h
  cases ht : tmplS t
  · rw [ht] at h; injection h with _ h; cases h
  · rw [ht] at h
    by_cases hi : i = []
    · subst hi; injection h with _ h; cases h
    · have hi' : (i == ([] : Str)) = false := by simpa using hi
      rw [hi'] at h
      simp only [Bool.not_true, Bool.or_false, Bool.false_eq_true, if_false] at h
      split at h
      · rename_i ho
        injection h with hs _
        rw [hs] at ho
        have hk := tmpl_kind ht
        obtain ⟨_, n1, n2, n3, _, _, n6⟩ := name_at hk
        have hs1 : (ofS s).1 = kindS t := by rw [ho, ofS_kind]
        have hks : kindS s ≠ 0 := by rw [← ofS_kind s, hs1]; exact hk
        have his : instS s = true := by unfold instS; rw [ho]; simp [hi']
        have hts : templS s = t := by
          unfold templS
          rw [if_pos his, ho]
          unfold tmplS at ht
          rw [Bool.and_eq_true, beq_iff_eq] at ht
          conv => rhs; rw [← n6]
          unfold makeS
          simp only [ht.1, ht.2]
        refine ⟨rfl, hi, hks, his, hts, fun e => ?_⟩
        subst e
        unfold tmplS at ht
        rw [ho, hi'] at ht
        cases ht
      · injection h with _ h; cases h
end Od
end Go.Proofs.Ytgfdcmlmgeoimaa
end
