/- My texts, joined for the claim: RInO ROut ROutO RAllM R17Small R17Brings. -/
import Derived.Test.YtbllehjhmfehbaaGreatZU1
import Derived.Test.YtbllehjhmfehbaaGreatZU9
import Derived.Test.YtbllehjhmfehbaaGreatZU2
import Derived.Test.YtbllehjhmfehbaaGreatZU3
import Derived.Test.YtbllehjhmfehbaaGreatZU5
import Derived.Test.YtbllehjhmfehbaaGreatZU6

section
/- An append to a full row makes a row of the call's own; matinsref15.put and In so. (bel2) -/
namespace Go.Proofs.YtbllehjhmfehbaaGreat
open Go.RowKit Go.Sort
set_option linter.unusedSimpArgs false
section
variable {P : Program}
theorem run_append_fullo (w : World) (t ty e : TypeId) (i : TypeInfo) (z : Value) (size bytes : Nat) (ht : P.underlying t = some (.slice e)) (hi : P.info? e = some i) (hz : i.zero = some z)
  (hsize : i.size = size) (hby : i.bytes = bytes) (hzs : z.cells.size = size) (B : Nat) (A : Option Addr) (n : Nat) (xs : List Value) (hr : Rd w B size A n xs)
  (B2 : Nat) (A2 : Option Addr) (m c : Nat) (news : List Value) (hr2 : Rd w B2 size A2 m news) (h1 : ∀ u ∈ news, u.oneCell' = true) (hm0 : 0 < m) (h63 : n + m ≤ maxLen) (hbytes : (n + m) * bytes ≤ 140737488355328) :
  ∃ A' c' w', (Builtin.append_ #[t, t] ty #[.slice A n n, .slice A2 m c]).run P w = .ok (.slice A' (n + m) c') w' ∧ w'.ownsRow w.heap.size e size (.slice A' (n + m) c') (n + m) (xs ++ news) ∧ Below w.heap.size w w' := by
 subst hsize
 subst hby
 have hs : Src P i.size t (.slice A2 m c) m news w := src_rd ht hr2 h1 fun e => by
  obtain ⟨ad, h, _⟩ := hr2.2 hm0; rw [e] at h; cases h
 have hnl := hs.newsLen
 have hlen : (xs ++ news).length = (n + m) * i.size := by rw [List.length_append, hr.1, hnl, Nat.add_mul]
 have hold : (Builtin.firstCells i.size n (.slice A n n)).run P w.drew = .ok xs.toArray w.drew := by
  cases A with
  | none =>
   have hn : n = 0 := by
    rcases Nat.eq_zero_or_pos n with h | h
    ·exact h
    ·obtain ⟨ad, h, _⟩ := hr.2 h; cases h
   subst hn
   have hx : xs = [] := List.eq_nil_of_length_eq_zero (by simpa using hr.1)
   subst hx
   exact run_firstCells_none w.drew i.size 0 0 0
  | some ad =>
   refine run_firstCells_some w.drew i.size n ad n n xs hr.1 (fun j u hu => ?_)
   have hj : j < n * i.size := by
    have := (List.getElem?_eq_some_iff.1 hu).1
    rw [hr.1] at this
    exact this
   have hn0 : 0 < n := by
    rcases Nat.eq_zero_or_pos n with h | h
    ·rw [h, Nat.zero_mul] at hj; omega
    ·exact h
   obtain ⟨ad', he, _, hsp, hc⟩ := hr.2 hn0
   injection he with he
   subst he
   have hadd : ad.add j = ⟨ad.block, ad.off + j, none⟩ := by
    unfold Addr.add
    split
    ·rename_i h0; subst h0; cases ad; simp_all
    ·rfl
   rw [hadd]
   exact (hc j hj).trans hu
 have hm2 : n + m ≤ 9223372036854775807 := by simp only [maxLen] at h63; omega
 have hg : n < n + m := by omega
 have hrun := run_append_grow_src (P := P) w t t ty e i z ht hi hz A n n xs hold (.slice A2 m c) m news hs hg (by omega) (growslice_fits hg hbytes)
 have hge := grownCap_ge w (n + m) n e
 have hcm := grownCap_le_maxLen w (n + m) n e h63
 refine ⟨_, _, _, hrun, ⟨hlen, .inr ⟨w.heap.size, grownCap w (n + m) n e, (xs ++ news).toArray ++ Builtin.zeroCells z.cells (grownCap w (n + m) n e - (n + m)), rfl, Nat.le_refl _, ?_, hge, hcm, ?_, ?_⟩⟩, ⟨rfl, rfl, rfl, by simp, fun k hk => Below.heap_alloc w.drew _ k hk⟩⟩
 ·show (w.heap.push _)[w.heap.size]? = _
  exact Array.getElem?_push_size
 ·rw [Array.size_append, size_zeroCells, List.size_toArray, hlen, hzs, ← Nat.add_mul]
  congr 1
  omega
 ·rw [Array.toList_append, List.take_append_of_le_length (by simp only [List.toList_toArray]; omega), List.toList_toArray, List.take_of_length_le (by omega)]
theorem step_append_fullo {w : World} {ops : Array Oper} {o : Oper} {a : Act} {K : Act → World → Prop} {Q : Exit → Act → World → Prop} {E : Prop} (hw : Region.wanted o (yielded ops a.tmps) = true) (s x : Operand) (t : TypeId)
  (ho : o.op = .call { callee := .builtin .append, args := #[s, x], argTypes := #[t, t] })
  (e : TypeId) (i : TypeInfo) (z : Value) (size bytes : Nat) (ht : P.underlying t = some (.slice e)) (hi : P.info? e = some i) (hz : i.zero = some z)
  (hsize : i.size = size) (hby : i.bytes = bytes) (hzs : z.cells.size = size) (B : Nat) (A : Option Addr) (n : Nat) (xs : List Value) (hs : a.eval s = .slice A n n) (hr : Rd w B size A n xs) (_hB : B ≤ w.heap.size)
  (B2 : Nat) (A2 : Option Addr) (m c : Nat) (news : List Value) (hx : a.eval x = .slice A2 m c) (hr2 : Rd w B2 size A2 m news) (h1 : ∀ u ∈ news, u.oneCell' = true) (hm0 : 0 < m) (h63 : n + m ≤ maxLen) (hbytes : (n + m) * bytes ≤ 140737488355328)
  (h : ∀ A' c' w', w'.ownsRow w.heap.size e size (.slice A' (n + m) c') (n + m) (xs ++ news) → Below w.heap.size w w' → K (a.put o.dst (.slice A' (n + m) c')) w') :
  if Region.wanted o (yielded ops a.tmps) = true then Oper.wp P o a w K Q else E := by
 rw [if_pos hw]
 obtain ⟨A', c', w', hrun, h2, h3⟩ := run_append_fullo (P := P) w t o.type e i z size bytes ht hi hz hsize hby hzs B A n xs hr B2 A2 m c news hr2 h1 hm0 h63 hbytes
 unfold Oper.wp execOp
 simp only [ho, resolve, invoke, builtin, Sem.run_bind, Sem.run_pure, Result.andThen_ok, List.map_toArray, List.map_cons, List.map_nil, hs, hx, hrun]
 exact h A' c' w' h2 h3
end
namespace Od
/-- The row as it was, or a new one. -/
def PutO (A : Option Addr) (c : Nat) (ss rs : List Str) (w : World) (e : Ending) (w' : World) : Prop := ∃ A' c', e = .returned (.slice A' rs.length c') ∧ ((A' = A ∧ c' = c ∧ rs = ss) ∨ w'.ownsRow w.heap.size 9 1 (.slice A' rs.length c') rs.length (svs rs)) ∧ Below w.heap.size w w'
set_option maxRecDepth 100000 in
set_option maxHeartbeats 1000000 in
theorem put15o_any (A : Option Addr) (c : Nat) (ss : List Str) (s : Str) (w : World) (hr : Rd w w.heap.size 1 A ss.length (svs ss)) (hc : ss.length ≤ c) (hl : ss.length ≤ 1000000) :
  Calls Tryz.prog 137 #[.slice A ss.length c, sv s] w (PutO A c ss (insL ltS s ss) w) := by
 obtain ⟨i0, hi, hz0, hz1, hz2⟩ := info_parts inS
 have Hr := Lib.hid hr
 clear hr
 go_enter Tryz.func137, Tryz.ntmps137
 go_wp2_with fail
 go_loop [5] (fun i => ∃ k : Nat, k ≤ ss.length ∧ i = .int .i64 k ∧ Hid (∀ y ∈ ss.take k, ltS y s = true)) (fun i => ss.length - (intOf i).toNat)
 case atStart => exact ⟨0, Nat.zero_le _, rfl, by simp [Hid]⟩
 case round =>
  obtain ⟨k, hk, rfl, hall⟩ := hrel
  by_cases hlt : k < ss.length
  ·obtain ⟨b, o, rfl, hB, hc0⟩ := Hr.out.str hlt
   generalize hx : ss[k] = x at hc0
   have Hx := Lib.hid hx
   clear hx
   cases hlx : Op.bytesLess x s
   ·have hge : ∀ h : k < ss.length, ltS ss[k] s = false := fun _ => by rw [Hx.out]; exact hlx
    have Hge := Lib.hid hge
    clear hge
    cases hxs : (x == s)
    ·go_wp2_with fail
     have hge := Hge.out
     have hne : ¬ ss[k]? = some s := by rw [List.getElem?_eq_getElem hlt, Hx.out]; intro e; injection e with e; rw [e] at hxs; simp at hxs
     clear hlx hxs
     have hins : insL ltS s ss = ss.take k ++ s :: ss.drop k := by rw [insL_cut ss k hk hall hge, if_neg hne]
     have HI := Lib.hid hins
     have HR1 := Lib.hid (Hr.out.takeA hk)
     have HR2 := Lib.hid (Hr.out.dropA hk hc)
     have hs1 := run_slice_full (P := Tryz.prog) Tryz.underlying26 hi (some ⟨b, o, none⟩) ss.length c k (Nat.le_trans hk hc)
     have hs2 := run_slice_tail (P := Tryz.prog) Tryz.underlying26 hi (some ⟨b, o, none⟩) ss.length c k hk
     rw [hz1] at hs1 hs2
     clear hins hne hge
     have hlk : (ss.drop k).length = ss.length - k := List.length_drop
     have HLk := Lib.hid hlk
     clear hlk
     try go_wp2_with fail
     refine wp_region_held_drew (S := fun w' => Below w.heap.size w w') (by kernel_rfl) (Below.drew (Below.refl _ _)) (fun hHeld => ?_)
     refine tV 0 ?_ ?zq ?_; (case zq => rintro _ -; go_simp; try with_reducible rfl); try simp only [Act.put, zn1, zn2, zn3]
     refine tV 1 ?_ ?zq ?_; (case zq => rintro _ -; go_simp; try with_reducible rfl); try simp only [Act.put, zn1, zn2, zn3]
     refine tV 2 ?_ ?zq ?_; (case zq => rintro _ -; go_simp; try with_reducible rfl); try simp only [Act.put, zn1, zn2, zn3]
     refine tV 3 ?_ ?zq ?_; (case zq => rintro _ -; go_simp; try with_reducible rfl); try simp only [Act.put, zn1, zn2, zn3]
     refine tV 4 ?_ ?zq ?_; (case zq => rintro _ -; go_simp; try with_reducible rfl); try simp only [Act.put, zn1, zn2, zn3]
     refine tV 6 ?_ ?zq ?_; (case zq => rintro _ -; go_simp; try with_reducible rfl); try simp only [Act.put, zn1, zn2, zn3]
     refine tV 7 ?_ ?zq ?_; (case zq => rintro _ -; go_simp; try with_reducible rfl); try simp only [Act.put, zn1, zn2, zn3]
     refine tV 8 ?_ ?zq ?_; (case zq => rintro _ -; go_simp; try with_reducible rfl); try simp only [Act.put, zn1, zn2, zn3]
     refine ready_one (i := 5) rfl (by kernel_rfl) (fun K hK => ?_)
     go_simp
     refine hK.out _ _ ?_ (fun hHeld2 => ?_)
     ·(try dsimp only); first | exact hHeld | exact bq2
     clear hK K hHeld; have hHeld := hHeld2; clear hHeld2; (try simp only [Act.put, zn1, zn2, zn3])
     refine ready_one (i := 9) rfl (by kernel_rfl) (fun K hK => ?_)
     refine step_append_full (by rfl) (.tmp 38) (.tmp 41) 26 (by rfl) 9 i0 (.string ⟨#[]⟩) 1 16 Tryz.underlying26 hi hz0 hz1 hz2 rfl _ (some ⟨w.heap.size, 0, none⟩) 1 [sv s] (by rfl) (Rd.lit w.drew [sv s] 9 1 1 rfl) (Nat.le_refl _) _ _ (ss.length - k) (c - k) _ (by rfl) (HR2.out.at' (Nat.le_refl _) hHeld) (one_drop (one_svs ss) _) (by unfold maxLen; omega) (by omega) ?_
     intro A2 c2 v2 hc2 hr2 hb
     have HR3 := Lib.hid hr2
     clear hr2
     refine hK.out _ _ ?_ (fun hHeld2 => ?_)
     ·(try dsimp only); first | exact Below.trans hHeld (Below.mono hb hHeld.size) | exact hHeld | exact Below.drew hHeld | exact bq2
     clear hK K hHeld; have hHeld := hHeld2; clear hHeld2; (try simp only [Act.put, zn1, zn2, zn3])
     refine ready_one (i := 10) rfl (by kernel_rfl) (fun K hK => ?_)
     refine step_append_fullo (by rfl) (.tmp 36) (.tmp 42) 26 (by rfl) 9 i0 (.string ⟨#[]⟩) 1 16 Tryz.underlying26 hi hz0 hz1 hz2 rfl _ _ k _ (by rfl) (HR1.out.at' (Nat.le_refl _) hHeld) (Nat.le_refl _) _ A2 (1 + (ss.length - k)) c2 _ (by rfl) HR3.out (one_app (one_sv s) (one_drop (one_svs ss) _)) (by omega) (by unfold maxLen; omega) (by omega) ?_
     intro A3 c3 v3 hr3 hb
     have HR4 := Lib.hid (own_base hr3 hHeld.size)
     clear hr3
     refine hK.out _ _ ?_ (fun hHeld2 => ?_)
     ·(try dsimp only); first | exact Below.trans hHeld (Below.mono hb hHeld.size) | exact hHeld | exact Below.drew hHeld | exact bq2
     clear hK K hHeld; have hHeld := hHeld2; clear hHeld2; (try simp only [Act.put, zn1, zn2, zn3])
     refine tV 11 ?_ ?zq ?_; (case zq => rintro _ -; go_simp; try with_reducible rfl); try simp only [Act.put, zn1, zn2, zn3]
     refine wpAnyH_done (by kernel_rfl) ?_ _
     go_wp2_with fail
     go_ret
     have hl9 : k + (1 + (ss.length - k)) = (insL ltS s ss).length := by rw [HI.out, List.length_append, List.length_cons, List.length_take, HLk.out]; omega
     have ho9 := HR4.out
     rw [show (svs ss).take (k * 1) ++ ([sv s] ++ (svs ss).drop (k * 1)) = svs (insL ltS s ss) by rw [HI.out]; simp [svs, List.map_take, List.map_drop], hl9] at ho9
     rw [hl9]
     exact ⟨A3, c3, rfl, .inr ho9, hHeld⟩
    ·go_wp2_with fail
     go_ret
     have hins : insL ltS s ss = ss := by rw [insL_cut ss k hk hall Hge.out, if_pos]; rw [List.getElem?_eq_getElem hlt, Hx.out]; simpa using hxs
     exact ⟨_, c, by rw [hins]; rfl, .inl ⟨rfl, rfl, hins⟩, Below.refl _ _⟩
   ·go_wp2_with fail
    go_round
    case rel =>
     refine ⟨k + 1, by omega, by go_num, fun y hy => ?_⟩
     rw [List.take_succ_eq_append_getElem hlt, List.mem_append, List.mem_singleton] at hy
     rcases hy with h | h
     ·exact hall y h
     ·rw [h, Hx.out]; exact hlx
    case measure => simp [intOf]; omega
  ·have hge : ∀ h : k < ss.length, ltS ss[k] s = false := fun h => absurd h hlt
   have hne : ¬ ss[k]? = some s := by rw [List.getElem?_eq_none (by omega)]; simp
   go_wp2_with fail
   have hins : insL ltS s ss = ss.take k ++ s :: ss.drop k := by rw [insL_cut ss k hk hall hge, if_neg hne]
   have HI := Lib.hid hins
   have HR1 := Lib.hid (Hr.out.takeA hk)
   have HR2 := Lib.hid (Hr.out.dropA hk hc)
   have hs1 := run_slice_full (P := Tryz.prog) Tryz.underlying26 hi A ss.length c k (Nat.le_trans hk hc)
   have hs2 := run_slice_tail (P := Tryz.prog) Tryz.underlying26 hi A ss.length c k hk
   rw [hz1] at hs1 hs2
   clear hins hne hge
   have hlk : (ss.drop k).length = ss.length - k := List.length_drop
   have HLk := Lib.hid hlk
   clear hlk
   try go_wp2_with fail
   refine wp_region_held_drew (S := fun w' => Below w.heap.size w w') (by kernel_rfl) (Below.drew (Below.refl _ _)) (fun hHeld => ?_)
   refine tV 0 ?_ ?zq ?_; (case zq => rintro _ -; go_simp; try with_reducible rfl); try simp only [Act.put, zn1, zn2, zn3]
   refine tV 1 ?_ ?zq ?_; (case zq => rintro _ -; go_simp; try with_reducible rfl); try simp only [Act.put, zn1, zn2, zn3]
   refine tV 2 ?_ ?zq ?_; (case zq => rintro _ -; go_simp; try with_reducible rfl); try simp only [Act.put, zn1, zn2, zn3]
   refine tV 3 ?_ ?zq ?_; (case zq => rintro _ -; go_simp; try with_reducible rfl); try simp only [Act.put, zn1, zn2, zn3]
   refine tV 4 ?_ ?zq ?_; (case zq => rintro _ -; go_simp; try with_reducible rfl); try simp only [Act.put, zn1, zn2, zn3]
   refine tV 6 ?_ ?zq ?_; (case zq => rintro _ -; go_simp; try with_reducible rfl); try simp only [Act.put, zn1, zn2, zn3]
   refine tV 7 ?_ ?zq ?_; (case zq => rintro _ -; go_simp; try with_reducible rfl); try simp only [Act.put, zn1, zn2, zn3]
   refine tV 8 ?_ ?zq ?_; (case zq => rintro _ -; go_simp; try with_reducible rfl); try simp only [Act.put, zn1, zn2, zn3]
   refine ready_one (i := 5) rfl (by kernel_rfl) (fun K hK => ?_)
   go_simp
   refine hK.out _ _ ?_ (fun hHeld2 => ?_)
   ·(try dsimp only); first | exact hHeld | exact bq2
   clear hK K hHeld; have hHeld := hHeld2; clear hHeld2; (try simp only [Act.put, zn1, zn2, zn3])
   refine ready_one (i := 9) rfl (by kernel_rfl) (fun K hK => ?_)
   refine step_append_full (by rfl) (.tmp 38) (.tmp 41) 26 (by rfl) 9 i0 (.string ⟨#[]⟩) 1 16 Tryz.underlying26 hi hz0 hz1 hz2 rfl _ (some ⟨w.heap.size, 0, none⟩) 1 [sv s] (by rfl) (Rd.lit w.drew [sv s] 9 1 1 rfl) (Nat.le_refl _) _ _ (ss.length - k) (c - k) _ (by rfl) (HR2.out.at' (Nat.le_refl _) hHeld) (one_drop (one_svs ss) _) (by unfold maxLen; omega) (by omega) ?_
   intro A2 c2 v2 hc2 hr2 hb
   have HR3 := Lib.hid hr2
   clear hr2
   refine hK.out _ _ ?_ (fun hHeld2 => ?_)
   ·(try dsimp only); first | exact Below.trans hHeld (Below.mono hb hHeld.size) | exact hHeld | exact Below.drew hHeld | exact bq2
   clear hK K hHeld; have hHeld := hHeld2; clear hHeld2; (try simp only [Act.put, zn1, zn2, zn3])
   refine ready_one (i := 10) rfl (by kernel_rfl) (fun K hK => ?_)
   refine step_append_fullo (by rfl) (.tmp 36) (.tmp 42) 26 (by rfl) 9 i0 (.string ⟨#[]⟩) 1 16 Tryz.underlying26 hi hz0 hz1 hz2 rfl _ _ k _ (by rfl) (HR1.out.at' (Nat.le_refl _) hHeld) (Nat.le_refl _) _ A2 (1 + (ss.length - k)) c2 _ (by rfl) HR3.out (one_app (one_sv s) (one_drop (one_svs ss) _)) (by omega) (by unfold maxLen; omega) (by omega) ?_
   intro A3 c3 v3 hr3 hb
   have HR4 := Lib.hid (own_base hr3 hHeld.size)
   clear hr3
   refine hK.out _ _ ?_ (fun hHeld2 => ?_)
   ·(try dsimp only); first | exact Below.trans hHeld (Below.mono hb hHeld.size) | exact hHeld | exact Below.drew hHeld | exact bq2
   clear hK K hHeld; have hHeld := hHeld2; clear hHeld2; (try simp only [Act.put, zn1, zn2, zn3])
   refine tV 11 ?_ ?zq ?_; (case zq => rintro _ -; go_simp; try with_reducible rfl); try simp only [Act.put, zn1, zn2, zn3]
   refine wpAnyH_done (by kernel_rfl) ?_ _
   go_wp2_with fail
   go_ret
   have hl9 : k + (1 + (ss.length - k)) = (insL ltS s ss).length := by rw [HI.out, List.length_append, List.length_cons, List.length_take, HLk.out]; omega
   have ho9 := HR4.out
   rw [show (svs ss).take (k * 1) ++ ([sv s] ++ (svs ss).drop (k * 1)) = svs (insL ltS s ss) by rw [HI.out]; simp [svs, List.map_take, List.map_drop], hl9] at ho9
   rw [hl9]
   exact ⟨A3, c3, rfl, .inr ho9, hHeld⟩
set_option maxRecDepth 100000 in
set_option maxHeartbeats 4000000 in
theorem In15o_any (An Ae : Option Addr) (nn cn ce : Nat) (es : List Ed) (u : Str) (rel : Int) (w : World) (hr : Rd w w.heap.size 3 Ae es.length (edsC es)) (hl : es.length ≤ 1000000) :
  Calls Tryz.prog 97 #[gV An nn cn Ae es.length ce, sv u, .int .i64 rel] w (OwnS (inR es u rel) w) := by
 have Hr := Lib.hid hr
 clear hr
 go_enter Tryz.func97, Tryz.ntmps97
 go_wp2_with fail
 first | (refine wp_named ?_; intro W1 hW) | (refine calls_named ?_; intro W1 hW)
 have B1 : Below w.heap.size w W1 := by rw [hW]; exact bq2
 replace Hr := Lib.hid (Hr.out.at B1)
 have n1 : w.heap.size < W1.heap.size := by rw [hW]; simp <;> omega
 have g0 : W1.cell? ⟨w.heap.size, 0, none⟩ = some (.slice An nn cn) := by rw [hW]; go_simp
 have g1 : W1.cell? ⟨w.heap.size, 1, none⟩ = some (.slice Ae es.length ce) := by rw [hW]; go_simp
 clear hW
 have HB1 := Lib.hid B1
 clear B1
 go_wp2_with fail
 go_loopw [7, 13] (fun v i wr => ∃ (k : Nat) (A9 : Option Addr) (c9 : Nat), k ≤ es.length ∧ i = .int .i64 k ∧ v = .slice A9 (canon ltS (inRaw (es.take k) u rel)).length c9 ∧ Hid (wr.ownsRow W1.heap.size 9 1 (.slice A9 (canon ltS (inRaw (es.take k) u rel)).length c9) (canon ltS (inRaw (es.take k) u rel)).length (svs (canon ltS (inRaw (es.take k) u rel)))) ∧ Below W1.heap.size W1 wr) (fun _ i _ => es.length - (intOf i).toNat)
 case atStart => exact ⟨0, none, 0, Nat.zero_le _, rfl, rfl, World.ownsRow_nil _ _ _ _, Below.refl _ _⟩
 case round =>
  obtain ⟨k, A9, c9, hk, rfl, rfl, HR, hb⟩ := hrel
  have HBl := Lib.hid hb
  replace g0 := cellAt g0 hb (by omega)
  replace g1 := cellAt g1 hb (by omega)
  replace Hr := Lib.hid (Hr.out.at hb)
  replace n1 : w.heap.size < wr.heap.size := ltAt n1 hb
  clear hb
  by_cases hlt : k < es.length
  ·obtain ⟨b2, o2, hA, hB2, x0, x1, x2⟩ := Hr.out.edge hlt
   have hsu := inRaw_succ (u := u) (rel := rel) hlt
   have hll := inR_len es u rel k
   subst hA
   generalize es[k] = e at x0 x1 x2 hsu
   obtain ⟨s, d, r⟩ := e
   simp only at x0 x1 x2 hsu
   generalize inRaw (es.take k) u rel = L at HR hsu hll ⊢
   have HSu := Lib.hid hsu
   have m1 : (0 : Int) ≤ (k : Int) := by omega
   have m2 : (k : Int) < (es.length : Int) := by omega
   clear hsu
   cases e1 : (d == u)
   ·have HS2 := Lib.hid (show inRaw (es.take (k + 1)) u rel = L by rw [HSu.out, e1]; simp)
    go_wp2_with fail
    go_roundw
    case rel => exact ⟨k + 1, A9, c9, by omega, by go_num, by rw [HS2.out], by rw [HS2.out]; exact own_on HR.out ((Below.refl _ _).alloc (Nat.le_refl _) _), HBl.out.alloc (by have := HBl.out.size; omega) _⟩
    case measure => simp [intOf]; omega
   ·cases e2 : (r == rel)
    ·have HS2 := Lib.hid (show inRaw (es.take (k + 1)) u rel = L by rw [HSu.out, e1, e2]; simp)
     go_wp2_with fail
     go_roundw
     case rel => exact ⟨k + 1, A9, c9, by omega, by go_num, by rw [HS2.out], by rw [HS2.out]; exact own_on HR.out ((Below.refl _ _).alloc (Nat.le_refl _) _), HBl.out.alloc (by have := HBl.out.size; omega) _⟩
     case measure => simp [intOf]; omega
    ·have HS2 := Lib.hid (show inRaw (es.take (k + 1)) u rel = L ++ [s] by rw [HSu.out, e1, e2]; rfl)
     go_wp2_with fail
     first | (refine wp_named ?_; intro W4 hW) | (refine calls_named ?_; intro W4 hW)
     have B4 : Below wr.heap.size wr W4 := by rw [hW]; exact bq2
     replace g0 := cellAt g0 B4 (by omega)
     replace g1 := cellAt g1 B4 (by omega)
     replace Hr := Lib.hid (Hr.out.at B4)
     replace n1 : w.heap.size < W4.heap.size := ltAt n1 B4
     replace HBl := Lib.hid (lift HBl.out B4)
     replace HR := Lib.hid (own_on HR.out B4)
     clear hW
     clear B4 x0 x1 x2
     have hcap := (own_cap HR.out).1
     refine (put15o_any A9 c9 (canon ltS L) s W4 (own_rd' HR.out) hcap (by omega)).mono ?_
     rintro e v3 ⟨A8, c8, rfl, hc8, hb⟩
     have hr8 : v3.ownsRow W1.heap.size 9 1 (.slice A8 (insL ltS s (canon ltS L)).length c8) (insL ltS s (canon ltS L)).length (svs (insL ltS s (canon ltS L))) := by
      rcases hc8 with ⟨rfl, rfl, he⟩ | h
      ·rw [he]; exact own_on HR.out hb
      ·exact own_base h HBl.out.size
     have HR8 := Lib.hid hr8
     replace g0 := cellAt g0 hb (by omega)
     replace g1 := cellAt g1 hb (by omega)
     replace Hr := Lib.hid (Hr.out.at hb)
     replace n1 : w.heap.size < v3.heap.size := ltAt n1 hb
     replace HBl := Lib.hid (lift HBl.out hb)
     replace HR := Lib.hid (own_on HR.out hb)
     clear hb hr8 hc8 hcap
     go_wp2_with fail
     go_roundw
     case rel =>
      refine ⟨k + 1, A8, c8, by omega, by go_num, ?_, ?_, HBl.out⟩
      ·rw [HS2.out, inR_put]
      ·rw [HS2.out, inR_put]; exact HR8
     case measure => simp [intOf]; omega
  ·have htk : es.take k = es := List.take_of_length_le (by omega)
   rw [htk] at HR ⊢
   have HB := Lib.hid (lift HB1.out HBl.out)
   go_wp2_with fail
   go_ret
   exact ⟨A9, c9, rfl, own_base HR.out HB1.out.size, HB.out⟩
end Od
end Go.Proofs.YtbllehjhmfehbaaGreat
end

section
/- The walk of matinsref15.Out: to whom a unit leads by a relation, rising, each once. (bel2) -/
namespace Go.Proofs.YtbllehjhmfehbaaGreat
open Go.RowKit Go.Sort
set_option linter.unusedSimpArgs false

namespace Od
def outR (es : List Ed) (u : Str) (rel : Int) : List Str := canon ltS (outRaw es u rel)
theorem outR_eq (es : List Ed) (u : Str) (rel : Int) : outS es u rel = outR es u rel := onceS_canon _
theorem outRaw_succ {es : List Ed} {u : Str} {rel : Int} {k : Nat} (h : k < es.length) : outRaw (es.take (k + 1)) u rel = outRaw (es.take k) u rel ++ (if (es[k].1 == u && es[k].2.2 == rel) = true then [es[k].2.1] else []) := by
 unfold outRaw
 rw [List.take_succ_eq_append_getElem h, List.filter_append, List.map_append]
 congr 1
 rw [List.filter_cons, List.filter_nil]
 show List.map _ (if outP u rel es[k] = true then _ else _) = _
 unfold outP
 split <;> simp
theorem outR_len (es : List Ed) (u : Str) (rel : Int) (k : Nat) : (canon ltS (outRaw (es.take k) u rel)).length ≤ es.length := by
 refine Nat.le_trans (canon_len _) ?_
 unfold outRaw
 rw [List.length_map]
 refine Nat.le_trans (List.length_filter_le _ _) ?_
 rw [List.length_take]; omega
set_option maxRecDepth 100000 in
set_option maxHeartbeats 4000000 in
theorem Out15_any (An Ae : Option Addr) (nn cn ce : Nat) (es : List Ed) (u : Str) (rel : Int) (w : World) (hr : Rd w w.heap.size 3 Ae es.length (edsC es)) (hl : es.length ≤ 1000000) :
  Calls Tryz.prog 96 #[gV An nn cn Ae es.length ce, sv u, .int .i64 rel] w (RdIs 1 (outR es u rel).length (svs (outR es u rel)) w) := by
 have Hr := Lib.hid hr
 clear hr
 go_enter Tryz.func96, Tryz.ntmps96
 go_wp2_with fail
 first | (refine wp_named ?_; intro W1 hW) | (refine calls_named ?_; intro W1 hW)
 have B1 : Below w.heap.size w W1 := by rw [hW]; exact bq2
 replace Hr := Lib.hid (Hr.out.at B1)
 have n1 : w.heap.size < W1.heap.size := by rw [hW]; simp <;> omega
 have g0 : W1.cell? ⟨w.heap.size, 0, none⟩ = some (.slice An nn cn) := by rw [hW]; go_simp
 have g1 : W1.cell? ⟨w.heap.size, 1, none⟩ = some (.slice Ae es.length ce) := by rw [hW]; go_simp
 clear hW
 have HB1 := Lib.hid B1
 clear B1
 go_wp2_with fail
 go_loopw [7, 13] (fun v i wr => ∃ (k : Nat) (A9 : Option Addr) (c9 : Nat), k ≤ es.length ∧ i = .int .i64 k ∧ v = .slice A9 (canon ltS (outRaw (es.take k) u rel)).length c9 ∧ (canon ltS (outRaw (es.take k) u rel)).length ≤ c9 ∧ Hid (Rd wr wr.heap.size 1 A9 (canon ltS (outRaw (es.take k) u rel)).length (svs (canon ltS (outRaw (es.take k) u rel)))) ∧ Below W1.heap.size W1 wr) (fun _ i _ => es.length - (intOf i).toNat)
 case atStart => exact ⟨0, none, 0, Nat.zero_le _, rfl, rfl, Nat.le_refl _, Rd.none_, Below.refl _ _⟩
 case round =>
  obtain ⟨k, A9, c9, hk, rfl, rfl, hc9, HR, hb⟩ := hrel
  have HBl := Lib.hid hb
  replace g0 := cellAt g0 hb (by omega)
  replace g1 := cellAt g1 hb (by omega)
  replace Hr := Lib.hid (Hr.out.at hb)
  replace n1 : w.heap.size < wr.heap.size := ltAt n1 hb
  clear hb
  by_cases hlt : k < es.length
  ·obtain ⟨b2, o2, hA, hB2, x0, x1, x2⟩ := Hr.out.edge hlt
   have hsu := outRaw_succ (u := u) (rel := rel) hlt
   have hll := outR_len es u rel k
   subst hA
   generalize es[k] = e at x0 x1 x2 hsu
   obtain ⟨s, d, r⟩ := e
   simp only at x0 x1 x2 hsu
   generalize outRaw (es.take k) u rel = L at HR hsu hll hc9 ⊢
   have HSu := Lib.hid hsu
   have m1 : (0 : Int) ≤ (k : Int) := by omega
   have m2 : (k : Int) < (es.length : Int) := by omega
   clear hsu
   cases e1 : (s == u)
   ·have HS2 := Lib.hid (show outRaw (es.take (k + 1)) u rel = L by rw [HSu.out, e1]; simp)
    go_wp2_with fail
    go_roundw
    case rel => exact ⟨k + 1, A9, c9, by omega, by go_num, by rw [HS2.out], by rw [HS2.out]; exact hc9, by rw [HS2.out]; exact HR.out.at ((Below.refl _ _).alloc (Nat.le_refl _) _), HBl.out.alloc (by have := HBl.out.size; omega) _⟩
    case measure => simp [intOf]; omega
   ·cases e2 : (r == rel)
    ·have HS2 := Lib.hid (show outRaw (es.take (k + 1)) u rel = L by rw [HSu.out, e1, e2]; simp)
     go_wp2_with fail
     go_roundw
     case rel => exact ⟨k + 1, A9, c9, by omega, by go_num, by rw [HS2.out], by rw [HS2.out]; exact hc9, by rw [HS2.out]; exact HR.out.at ((Below.refl _ _).alloc (Nat.le_refl _) _), HBl.out.alloc (by have := HBl.out.size; omega) _⟩
     case measure => simp [intOf]; omega
    ·have HS2 := Lib.hid (show outRaw (es.take (k + 1)) u rel = L ++ [d] by rw [HSu.out, e1, e2]; rfl)
     go_wp2_with fail
     first | (refine wp_named ?_; intro W4 hW) | (refine calls_named ?_; intro W4 hW)
     have B4 : Below wr.heap.size wr W4 := by rw [hW]; exact bq2
     replace g0 := cellAt g0 B4 (by omega)
     replace g1 := cellAt g1 B4 (by omega)
     replace Hr := Lib.hid (Hr.out.at B4)
     replace n1 : w.heap.size < W4.heap.size := ltAt n1 B4
     replace HBl := Lib.hid (lift HBl.out B4)
     replace HR := Lib.hid (HR.out.at B4)
     clear hW
     clear B4 x0 x1 x2
     refine (put15_any A9 c9 (canon ltS L) d W4 HR.out hc9 (by omega)).mono ?_
     rintro e v3 ⟨A8, c8, rfl, hc8, hr8, hb⟩
     have HR8 := Lib.hid hr8
     replace g0 := cellAt g0 hb (by omega)
     replace g1 := cellAt g1 hb (by omega)
     replace Hr := Lib.hid (Hr.out.at hb)
     replace n1 : w.heap.size < v3.heap.size := ltAt n1 hb
     replace HBl := Lib.hid (lift HBl.out hb)
     replace HR := Lib.hid (HR.out.at hb)
     clear hb hr8
     go_wp2_with fail
     go_roundw
     case rel =>
      refine ⟨k + 1, A8, c8, by omega, by go_num, ?_, ?_, ?_, HBl.out⟩
      ·rw [HS2.out, inR_put]
      ·rw [HS2.out, inR_put]; exact hc8
      ·rw [HS2.out, inR_put]; exact HR8
     case measure => simp [intOf]; omega
  ·have htk : es.take k = es := List.take_of_length_le (by omega)
   rw [htk] at HR hc9 ⊢
   have HB := Lib.hid (lift HB1.out HBl.out)
   go_wp2_with fail
   go_ret
   exact ⟨A9, c9, rfl, hc9, HR.out, HB.out⟩
end Od
end Go.Proofs.YtbllehjhmfehbaaGreat
end

section
/- matinsref15.Out: a row of the call's own. (bel2) -/
namespace Go.Proofs.YtbllehjhmfehbaaGreat
open Go.RowKit Go.Sort
set_option linter.unusedSimpArgs false
namespace Od
set_option maxRecDepth 100000 in
set_option maxHeartbeats 4000000 in
theorem Out15o_any (An Ae : Option Addr) (nn cn ce : Nat) (es : List Ed) (u : Str) (rel : Int) (w : World) (hr : Rd w w.heap.size 3 Ae es.length (edsC es)) (hl : es.length ≤ 1000000) :
  Calls Tryz.prog 96 #[gV An nn cn Ae es.length ce, sv u, .int .i64 rel] w (OwnS (outR es u rel) w) := by
 have Hr := Lib.hid hr
 clear hr
 go_enter Tryz.func96, Tryz.ntmps96
 go_wp2_with fail
 first | (refine wp_named ?_; intro W1 hW) | (refine calls_named ?_; intro W1 hW)
 have B1 : Below w.heap.size w W1 := by rw [hW]; exact bq2
 replace Hr := Lib.hid (Hr.out.at B1)
 have n1 : w.heap.size < W1.heap.size := by rw [hW]; simp <;> omega
 have g0 : W1.cell? ⟨w.heap.size, 0, none⟩ = some (.slice An nn cn) := by rw [hW]; go_simp
 have g1 : W1.cell? ⟨w.heap.size, 1, none⟩ = some (.slice Ae es.length ce) := by rw [hW]; go_simp
 clear hW
 have HB1 := Lib.hid B1
 clear B1
 go_wp2_with fail
 go_loopw [7, 13] (fun v i wr => ∃ (k : Nat) (A9 : Option Addr) (c9 : Nat), k ≤ es.length ∧ i = .int .i64 k ∧ v = .slice A9 (canon ltS (outRaw (es.take k) u rel)).length c9 ∧ Hid (wr.ownsRow W1.heap.size 9 1 (.slice A9 (canon ltS (outRaw (es.take k) u rel)).length c9) (canon ltS (outRaw (es.take k) u rel)).length (svs (canon ltS (outRaw (es.take k) u rel)))) ∧ Below W1.heap.size W1 wr) (fun _ i _ => es.length - (intOf i).toNat)
 case atStart => exact ⟨0, none, 0, Nat.zero_le _, rfl, rfl, World.ownsRow_nil _ _ _ _, Below.refl _ _⟩
 case round =>
  obtain ⟨k, A9, c9, hk, rfl, rfl, HR, hb⟩ := hrel
  have HBl := Lib.hid hb
  replace g0 := cellAt g0 hb (by omega)
  replace g1 := cellAt g1 hb (by omega)
  replace Hr := Lib.hid (Hr.out.at hb)
  replace n1 : w.heap.size < wr.heap.size := ltAt n1 hb
  clear hb
  by_cases hlt : k < es.length
  ·obtain ⟨b2, o2, hA, hB2, x0, x1, x2⟩ := Hr.out.edge hlt
   have hsu := outRaw_succ (u := u) (rel := rel) hlt
   have hll := outR_len es u rel k
   subst hA
   generalize es[k] = e at x0 x1 x2 hsu
   obtain ⟨s, d, r⟩ := e
   simp only at x0 x1 x2 hsu
   generalize outRaw (es.take k) u rel = L at HR hsu hll ⊢
   have HSu := Lib.hid hsu
   have m1 : (0 : Int) ≤ (k : Int) := by omega
   have m2 : (k : Int) < (es.length : Int) := by omega
   clear hsu
   cases e1 : (s == u)
   ·have HS2 := Lib.hid (show outRaw (es.take (k + 1)) u rel = L by rw [HSu.out, e1]; simp)
    go_wp2_with fail
    go_roundw
    case rel => exact ⟨k + 1, A9, c9, by omega, by go_num, by rw [HS2.out], by rw [HS2.out]; exact own_on HR.out ((Below.refl _ _).alloc (Nat.le_refl _) _), HBl.out.alloc (by have := HBl.out.size; omega) _⟩
    case measure => simp [intOf]; omega
   ·cases e2 : (r == rel)
    ·have HS2 := Lib.hid (show outRaw (es.take (k + 1)) u rel = L by rw [HSu.out, e1, e2]; simp)
     go_wp2_with fail
     go_roundw
     case rel => exact ⟨k + 1, A9, c9, by omega, by go_num, by rw [HS2.out], by rw [HS2.out]; exact own_on HR.out ((Below.refl _ _).alloc (Nat.le_refl _) _), HBl.out.alloc (by have := HBl.out.size; omega) _⟩
     case measure => simp [intOf]; omega
    ·have HS2 := Lib.hid (show outRaw (es.take (k + 1)) u rel = L ++ [d] by rw [HSu.out, e1, e2]; rfl)
     go_wp2_with fail
     first | (refine wp_named ?_; intro W4 hW) | (refine calls_named ?_; intro W4 hW)
     have B4 : Below wr.heap.size wr W4 := by rw [hW]; exact bq2
     replace g0 := cellAt g0 B4 (by omega)
     replace g1 := cellAt g1 B4 (by omega)
     replace Hr := Lib.hid (Hr.out.at B4)
     replace n1 : w.heap.size < W4.heap.size := ltAt n1 B4
     replace HBl := Lib.hid (lift HBl.out B4)
     replace HR := Lib.hid (own_on HR.out B4)
     clear hW
     clear B4 x0 x1 x2
     have hcap := (own_cap HR.out).1
     refine (put15o_any A9 c9 (canon ltS L) d W4 (own_rd' HR.out) hcap (by omega)).mono ?_
     rintro e v3 ⟨A8, c8, rfl, hc8, hb⟩
     have hr8 : v3.ownsRow W1.heap.size 9 1 (.slice A8 (insL ltS d (canon ltS L)).length c8) (insL ltS d (canon ltS L)).length (svs (insL ltS d (canon ltS L))) := by
      rcases hc8 with ⟨rfl, rfl, he⟩ | h
      ·rw [he]; exact own_on HR.out hb
      ·exact own_base h HBl.out.size
     have HR8 := Lib.hid hr8
     replace g0 := cellAt g0 hb (by omega)
     replace g1 := cellAt g1 hb (by omega)
     replace Hr := Lib.hid (Hr.out.at hb)
     replace n1 : w.heap.size < v3.heap.size := ltAt n1 hb
     replace HBl := Lib.hid (lift HBl.out hb)
     replace HR := Lib.hid (own_on HR.out hb)
     clear hb hr8 hc8 hcap
     go_wp2_with fail
     go_roundw
     case rel =>
      refine ⟨k + 1, A8, c8, by omega, by go_num, ?_, ?_, HBl.out⟩
      ·rw [HS2.out, inR_put]
      ·rw [HS2.out, inR_put]; exact HR8
     case measure => simp [intOf]; omega
  ·have htk : es.take k = es := List.take_of_length_le (by omega)
   rw [htk] at HR ⊢
   have HB := Lib.hid (lift HB1.out HBl.out)
   go_wp2_with fail
   go_ret
   exact ⟨A9, c9, rfl, own_base HR.out HB1.out.size, HB.out⟩
end Od
end Go.Proofs.YtbllehjhmfehbaaGreat
end

section
/- What the reference of layer 17 does, as lists: what a job brings, who is needed. No program. -/
namespace Go.Proofs.YtbllehjhmfehbaaGreat
set_option linter.unusedSimpArgs false
namespace Od
theorem back_each (es : List Ed) (up half : List Str) (u : Str) (t : Int) : backB es up half u t = eachB (((inwS es u 1 ++ inwS es u 4) ++ inwS es u 5).filter (upB up half)) t true := by
 unfold backB backA eachB
 rw [List.append_assoc, ← List.map_append, ← List.map_append, List.filter_map]
 rfl
/-- Who is needed so far. -/
structure NdR (E : Jp → List Bg) (out : Jp → Bool) (first : Jp) (N : List Jp) : Prop where
 nd : N.Nodup
 fst : first ∈ N
 all : ∀ j ∈ N, Rj (needJ E) out first j
theorem NdR.zero {E : Jp → List Bg} {out : Jp → Bool} {first : Jp} : NdR E out first [first] := ⟨by simp, by simp, fun j hj => by rw [List.mem_singleton.1 hj]; exact .one⟩
/-- All that j needs of those that come along is there. -/
def CloAt (E : Jp → List Bg) (far N : List Jp) (j : Jp) : Prop := ∀ b ∈ E j, b.2 = true → b.1 ∈ far → b.1 ∈ N
theorem needJ_Rj {E : Jp → List Bg} {out : Jp → Bool} {first k : Jp} (h : Rj (needJ E) out first k) : Rj E out first k := by
 induction h with
 | one => exact .one
 | more _ hb ho ih => exact .more ih (List.mem_filter.1 hb).1 ho
theorem NdR.iff {E : Jp → List Bg} {out : Jp → Bool} {first : Jp} {m : Ms} {N : List Jp} (hl : Lay E out first m []) (h : NdR E out first N) (hc : ∀ j ∈ keysP m, j ∈ N → CloAt E (keysP m) N j) (k : Jp) : k ∈ N ↔ Rj (needJ E) out first k :=
 clo_iff h.fst h.all (fun j hj b hb ho => by
  obtain ⟨hb1, hb2⟩ := List.mem_filter.1 hb
  have hjm : j ∈ keysP m := (hl.iff j).2 (needJ_Rj (h.all j hj))
  exact hc j hjm hj b hb1 hb2 (hl.clo j hjm (by simp) b hb1 ho)) k
theorem NdR.push {E : Jp → List Bg} {out : Jp → Bool} {first : Jp} {m : Ms} {N : List Jp} {j : Jp} {b : Bg} (hl : Lay E out first m []) (h : NdR E out first N) (hj : j ∈ N) (hb : b ∈ E j) (hn : b.2 = true) (hf : b.1 ∈ keysP m) (hnew : b.1 ∉ N) : NdR E out first (N ++ [b.1]) := by
 refine ⟨?_, List.mem_append_left _ h.fst, fun i hi => ?_⟩
 ·rw [List.nodup_append]
  refine ⟨h.nd, by simp, fun a ha c hc e => ?_⟩
  rw [List.mem_singleton] at hc
  exact hnew (by rw [← hc, ← e]; exact ha)
 ·rcases List.mem_append.1 hi with hi | hi
  ·exact h.all i hi
  ·rw [List.mem_singleton.1 hi]
   refine .more (h.all j hj) (List.mem_filter.2 ⟨hb, hn⟩) ?_
   obtain ⟨p, hp, e⟩ := List.mem_map.1 hf
   rcases hl.by_ p hp with e2 | ⟨ho, _⟩
   ·exfalso
    apply hnew
    rw [← e, e2]; exact h.fst
   ·rw [← e]; exact ho
theorem NdR.len {E : Jp → List Bg} {out : Jp → Bool} {first : Jp} {N cand : List Jp} (h : NdR E out first N) (hc : ∀ j b, b ∈ E j → b.1 ∈ cand) : N.length ≤ cand.length + 1 := by
 have := nodup_len (cand := first :: cand) h.nd fun k hk => by
  cases h.all k hk with
  | one => exact .head _
  | more _ hb _ => exact .tail _ (hc _ _ (List.mem_filter.1 hb).1)
 simpa using this
/-- In a round: g: something came; V: who was asked. -/
structure RndR (E : Jp → List Bg) (far N0 N : List Jp) (g : Bool) (V : Jp → Prop) : Prop where
 le : N0.length ≤ N.length
 gt : g = true → N0.length < N.length
 clo : g = false → ∀ j, V j → j ∈ N → CloAt E far N j
theorem known_need {es : List Ed} {up half : List Str} {first : Jp} {wo : List Pl} {N : List Jp} (h : ∀ k, k ∈ N ↔ Rj (needJ (bringB es up half)) (outB wo) first k) (k : Jp) : N.contains k = knownP (needM es up half first wo) k := by
 rw [Bool.eq_iff_iff, List.contains_iff_mem, knownP_iff, mem_needM, h]
/-- The row of all, whatever the order in which they came. -/
theorem canon_perm {L M : List Jp} (h : ∀ k, k ∈ L ↔ k ∈ M) : canon ltJ L = canon ltJ M := SS.eq_canon toJ (canon_ss toJ L) fun k => by rw [mem_canon toJ]; exact h k
theorem insL_canon {l : List Jp} {j : Jp} : insL ltJ j (canon ltJ l) = canon ltJ (l ++ [j]) := by unfold canon; rw [List.foldl_append]; rfl
end Od
end Go.Proofs.YtbllehjhmfehbaaGreat
end

section
/- The small words of matinsref17: each, there, along, out. (bel2) -/
namespace Go.Proofs.YtbllehjhmfehbaaGreat
open Go.RowKit Go.Sort
set_option linter.unusedSimpArgs false
namespace Od
theorem infoBr17 : (Tryz.prog.info? 93).map (fun i => (i.zero, i.size, i.bytes)) = some (some (.agg #[.string ⟨#[]⟩, .int .i64 0, .bool false]), 3, 32) := by kernel_rfl
theorem infoStr : (Tryz.prog.info? 9).map (fun i => (i.zero, i.size, i.bytes)) = some (some (.string ⟨#[]⟩), 1, 16) := by kernel_rfl
def OwnR (l : List Bg) (w : World) (e : Ending) (w' : World) : Prop := ∃ A c, e = .returned (.slice A l.length c) ∧ w'.ownsRow w.heap.size 93 3 (.slice A l.length c) l.length (brsC l) ∧ Below w.heap.size w w'
theorem inR_eq (es : List Ed) (u : Str) (rel : Int) : inwS es u rel = inR es u rel := onceS_canon _
set_option maxRecDepth 100000 in
set_option maxHeartbeats 1000000 in
theorem each17_any (A : Option Addr) (c : Nat) (us : List Str) (t : Int) (n : Bool) (w : World) (hr : Rd w w.heap.size 1 A us.length (svs us)) (hl : us.length ≤ 1000000) :
  Calls Tryz.prog 95 #[.slice A us.length c, .int .i64 t, .bool n] w (OwnR (eachB us t n) w) := by
 obtain ⟨i0, hi, hz0, hz1, hz2⟩ := info_parts infoBr17
 have Hr := Lib.hid hr
 clear hr
 go_enter Tryz.func95, Tryz.ntmps95
 go_wp2_with fail
 go_loopw [7, 12] (fun v i wr => ∃ k : Nat, k ≤ us.length ∧ i = .int .i64 k ∧ wr.ownsRow w.heap.size 93 3 v k (brsC (eachB (us.take k) t n)) ∧ Below w.heap.size w wr) (fun _ i _ => us.length - (intOf i).toNat)
 case atStart => exact ⟨0, Nat.zero_le _, rfl, World.ownsRow_nil _ _ _ _, Below.refl _ _⟩
 case round =>
  obtain ⟨k, hk, rfl, hown, hbel⟩ := hrel
  by_cases hlt : k < us.length
  ·obtain ⟨bb, o, rfl, hB, hc0⟩ := (Hr.out.on (Nat.le_refl _) hbel).str hlt
   have hz := hbel.size
   have n1 : bb < wr.heap.size := by omega
   have h63 : k + 1 ≤ maxLen := by unfold maxLen; omega
   have hby : (k + 1) * 32 ≤ 140737488355328 := by omega
   have hft := eachB_take (t := t) (n := n) hlt
   generalize hx : us[k] = x at hc0 hft
   clear hx
   have Hbel := Lib.hid hbel
   have Hown := Lib.hid hown
   have Hft := Lib.hid hft
   clear hbel hown hft
   go_wp2_with (first | (at_builtin; refine wpList_pushm w wr (by rfl) _ _ 90 (by rfl) w.heap.size 93 i0 _ 3 32 Tryz.underlying90 hi hz0 hz1 hz2 rfl (by decide) _ _ _ (by rfl) Hown.out [sv x, .int .i64 t, .bool n] (wr.heap.size) (by simp) (by rfl) rfl (by simp [Value.oneCell']) h63 hby hz Hbel.out ?_; intro A1 c1 w1 hown1 hbel1 hg1 hat1) | fail)
   go_roundw
   case rel => exact ⟨k + 1, by omega, by go_num, by rw [Hft.out, brsC_app, brsC_one]; exact hown1, hbel1⟩
   case measure => simp [intOf]; omega
  ·have hkl : k = us.length := by omega
   subst hkl
   rw [List.take_length] at hown
   obtain ⟨A1, c1, rfl, _⟩ := own_rd hown
   have Hown := Lib.hid hown
   have Hbel := Lib.hid hbel
   clear hown hbel
   go_wp2_with fail
   go_ret
   exact ⟨A1, c1, by rw [eachB_len]; rfl, by rw [eachB_len]; exact Hown.out, Hbel.out⟩
theorem filter_upto {up half : List Str} {l : List Str} {k : Nat} (h : k < l.length) : (l.take (k + 1)).filter (upB up half) = (l.take k).filter (upB up half) ++ (if upB up half l[k] = true then [l[k]] else []) := by
 rw [List.take_succ_eq_append_getElem h, List.filter_append, List.filter_cons, List.filter_nil]
set_option maxRecDepth 100000 in
set_option maxHeartbeats 4000000 in
theorem there17_any (A Au Ah : Option Addr) (c cu ch : Nat) (l up half : List Str) (w : World) (hr : Rd w w.heap.size 1 A l.length (svs l)) (hl : l.length ≤ 1000000) (hn : SIn w Au up) (hh : SIn w Ah half) :
  Calls Tryz.prog 98 #[.slice A l.length c, nowV Au up.length cu Ah half.length ch] w (OwnS (l.filter (upB up half)) w) := by
 obtain ⟨i0, hi, hz0, hz1, hz2⟩ := info_parts infoStr
 have Hr := Lib.hid hr
 have Hu := Lib.hid hn
 have Hh := Lib.hid hh
 clear hr hn hh
 go_enter Tryz.func98, Tryz.ntmps98
 go_wp2_with fail
 first | (refine wp_named ?_; intro W1 hW) | (refine calls_named ?_; intro W1 hW)
 have B1 : Below w.heap.size w W1 := by rw [hW]; exact bq2
 replace Hr := Lib.hid (Hr.out.at B1)
 replace Hu := Lib.hid (Hu.out.at B1)
 replace Hh := Lib.hid (Hh.out.at B1)
 have n1 : w.heap.size < W1.heap.size := by rw [hW]; simp <;> omega
 have g0 : W1.cell? ⟨w.heap.size, 0, none⟩ = some (.slice Au up.length cu) := by rw [hW]; go_simp
 have g1 : W1.cell? ⟨w.heap.size, 1, none⟩ = some (.slice Ah half.length ch) := by rw [hW]; go_simp
 clear hW
 have HB1 := Lib.hid B1
 clear B1
 go_loopw [5, 10] (fun v i wr => ∃ k : Nat, k ≤ l.length ∧ i = .int .i64 k ∧ Hid (wr.ownsRow W1.heap.size 9 1 v ((l.take k).filter (upB up half)).length (svs ((l.take k).filter (upB up half)))) ∧ Hid (Below W1.heap.size W1 wr)) (fun _ i _ => l.length - (intOf i).toNat)
 case atStart => exact ⟨0, Nat.zero_le _, rfl, World.ownsRow_nil _ _ _ _, Below.refl _ _⟩
 case round =>
  obtain ⟨k, hk, rfl, HO, HB⟩ := hrel
  have hz := HB.out.size
  have hfl := List.length_filter_le (upB up half) (l.take k)
  have htl := List.length_take_le k l
  by_cases hlt : k < l.length
  ·obtain ⟨b, o, hA, hB, x0⟩ := (Hr.out.at HB.out).str hlt
   subst hA
   have hft := filter_upto (up := up) (half := half) hlt
   have h63 := Lib.hid (show ((l.take k).filter (upB up half)).length + 1 ≤ maxLen by unfold maxLen; omega)
   have hby := Lib.hid (show (((l.take k).filter (upB up half)).length + 1) * 16 ≤ 140737488355328 by omega)
   generalize l[k] = x at x0 hft
   have HFt0 := Lib.hid hft
   have HUp := Lib.hid (show upB up half x = (hasB up x || hasB half x) from rfl)
   have k0 := cellAt g0 HB.out n1
   have k1 := cellAt g1 HB.out n1
   have hnr := ltAt n1 HB.out
   have Hu2 := Lib.hid (Hu.out.at HB.out)
   have Hh2 := Lib.hid (Hh.out.at HB.out)
   have i1 : (0 : Int) ≤ (k : Int) := by omega
   have i2 : (k : Int) < (l.length : Int) := by omega
   clear hft hfl htl
   generalize (l.take k).filter (upB up half) = F at *
   go_wp2_with fail
   refine (HasS_any Au cu up x wr Hu2.out.rd Hu2.out.len).mono ?_
   rintro e z1 ⟨rfl, rfl⟩
   cases h1 : hasB up x
   ·go_wp2_with fail
    refine (HasS_any Ah ch half x wr Hh2.out.rd Hh2.out.len).mono ?_
    rintro e z1 ⟨rfl, rfl⟩
    cases h2 : hasB half x
    ·have HFt := Lib.hid (show (l.take (k + 1)).filter (upB up half) = F by rw [HFt0.out, HUp.out, h1, h2]; simp)
     go_wp2_with fail
     go_roundw
     case rel => exact ⟨k + 1, by omega, by go_num, by show World.ownsRow _ _ _ _ _ _ _; rw [HFt.out]; exact HO.out, HB.out⟩
     case measure => simp [intOf]; omega
    ·have HFt := Lib.hid (show (l.take (k + 1)).filter (upB up half) = F ++ [x] by rw [HFt0.out, HUp.out, h1, h2]; rfl)
     go_wp2_with (first | (at_builtin; refine wpList_pushm W1 wr (by rfl) (.tmp 24) (.tmp 26) 26 (by rfl) W1.heap.size 9 i0 _ 1 16 Tryz.underlying26 hi hz0 hz1 hz2 rfl (by decide) _ _ _ (by rfl) HO.out [sv x] (wr.heap.size) rfl (by rfl) rfl (by simp [Value.oneCell']) h63.out hby.out hz HB.out ?_; intro A8 c8 w8 hown8 hbel8 hg8 hat8) | fail)
     go_roundw
     case rel => exact ⟨k + 1, by omega, by go_num, by show World.ownsRow _ _ _ _ _ _ _; rw [HFt.out, List.length_append, svs_app]; exact hown8, hbel8⟩
     case measure => simp [intOf]; omega
   ·have HFt := Lib.hid (show (l.take (k + 1)).filter (upB up half) = F ++ [x] by rw [HFt0.out, HUp.out, h1]; rfl)
    go_wp2_with (first | (at_builtin; refine wpList_pushm W1 wr (by rfl) (.tmp 24) (.tmp 26) 26 (by rfl) W1.heap.size 9 i0 _ 1 16 Tryz.underlying26 hi hz0 hz1 hz2 rfl (by decide) _ _ _ (by rfl) HO.out [sv x] (wr.heap.size) rfl (by rfl) rfl (by simp [Value.oneCell']) h63.out hby.out hz HB.out ?_; intro A8 c8 w8 hown8 hbel8 hg8 hat8) | fail)
    go_roundw
    case rel => exact ⟨k + 1, by omega, by go_num, by show World.ownsRow _ _ _ _ _ _ _; rw [HFt.out, List.length_append, svs_app]; exact hown8, hbel8⟩
    case measure => simp [intOf]; omega
  ·obtain rfl : k = l.length := by omega
   rw [List.take_length] at HO
   obtain ⟨A1, c1, rfl, _⟩ := own_rd HO.out
   go_wp2_with fail
   go_ret
   exact ⟨A1, c1, rfl, own_base HO.out HB1.out.size, lift HB1.out HB.out⟩
theorem inwS_le (es : List Ed) (u : Str) (rel : Int) : (inwS es u rel).length ≤ es.length := Nat.le_trans (onceS_len _) (inwRaw_len _ _ _)
set_option maxRecDepth 100000 in
set_option maxHeartbeats 4000000 in
theorem along17_any (An Ae : Option Addr) (nn cn ce : Nat) (es : List Ed) (u : Str) (w : World) (hr : Rd w w.heap.size 3 Ae es.length (edsC es)) (hl : es.length ≤ 10000) :
  Calls Tryz.prog 99 #[gV An nn cn Ae es.length ce, sv u] w (OwnS ((inwS es u 1 ++ inwS es u 4) ++ inwS es u 5) w) := by
 obtain ⟨i0, hi, hz0, hz1, hz2⟩ := info_parts infoStr
 have Hr := Lib.hid hr
 have HE := Lib.hid (And.intro (inR_eq es u 1) (And.intro (inR_eq es u 4) (inR_eq es u 5)))
 have hl1 := inwS_le es u 1
 have hl4 := inwS_le es u 4
 have hl5 := inwS_le es u 5
 rw [inR_eq es u 1] at hl1
 rw [inR_eq es u 4] at hl4
 rw [inR_eq es u 5] at hl5
 clear hr
 go_enter Tryz.func99, Tryz.ntmps99
 go_wp2_with fail
 first | (refine wp_named ?_; intro W1 hW) | (refine calls_named ?_; intro W1 hW)
 have B1 : Below w.heap.size w W1 := by rw [hW]; exact bq2
 replace Hr := Lib.hid (Hr.out.at B1)
 have n1 : w.heap.size < W1.heap.size := by rw [hW]; simp <;> omega
 have g0 : W1.cell? ⟨w.heap.size, 0, none⟩ = some (.slice An nn cn) := by rw [hW]; go_simp
 have g1 : W1.cell? ⟨w.heap.size, 1, none⟩ = some (.slice Ae es.length ce) := by rw [hW]; go_simp
 clear hW
 have HB1 := Lib.hid B1
 clear B1
 have h63 := Lib.hid (show (inR es u 1).length + (inR es u 4).length ≤ maxLen by unfold maxLen; omega)
 have hby := Lib.hid (show ((inR es u 1).length + (inR es u 4).length) * 16 ≤ 140737488355328 by omega)
 try go_wp2_with fail
 refine wp_region_held_drew (S := fun w' => Below W1.heap.size W1 w') (by kernel_rfl) (Below.drew (Below.refl _ _)) (fun hHeld => ?_)
 refine tV 0 ?_ ?zq ?_; (case zq => intro w' hSw; have hCell := fun (b o : Nat) (h : b < W1.heap.size) => hSw.cell (p := ⟨b, o, none⟩) h; clear hSw; go_simp; try with_reducible rfl); try simp only [Act.put, zn1, zn2, zn3]
 refine tV 1 ?_ ?zq ?_; (case zq => rintro _ -; go_simp; try with_reducible rfl); try simp only [Act.put, zn1, zn2, zn3]
 refine tV 3 ?_ ?zq ?_; (case zq => intro w' hSw; have hCell := fun (b o : Nat) (h : b < W1.heap.size) => hSw.cell (p := ⟨b, o, none⟩) h; clear hSw; go_simp; try with_reducible rfl); try simp only [Act.put, zn1, zn2, zn3]
 refine tV 4 ?_ ?zq ?_; (case zq => rintro _ -; go_simp; try with_reducible rfl); try simp only [Act.put, zn1, zn2, zn3]
 refine ready_one (i := 2) rfl (by kernel_rfl) (fun K hK => ?_)
 go_simp
 refine (In15o_any An Ae nn cn ce es u 1 _ (Hr.out.at hHeld) (by omega)).mono ?_
 rintro e y1 ⟨A1, c1, rfl, ho1, hb⟩
 have HO1 := Lib.hid (own_base ho1 hHeld.size)
 clear ho1
 refine hK.out _ _ ?_ (fun hHeld2 => ?_)
 ·(try dsimp only); first | exact Below.trans hHeld (Below.mono hb hHeld.size) | exact hHeld | exact Below.drew hHeld | exact bq2
 clear hK K hHeld; have hHeld := hHeld2; clear hHeld2; (try simp only [Act.put, zn1, zn2, zn3])
 refine ready_one (i := 5) rfl (by kernel_rfl) (fun K hK => ?_)
 go_simp
 refine (In15o_any An Ae nn cn ce es u 4 _ (Hr.out.at hHeld) (by omega)).mono ?_
 rintro e y2 ⟨A2, c2, rfl, ho2, hb⟩
 have HO2 := Lib.hid (own_on HO1.out hb)
 have HS2 := Lib.hid (own_rd' ho2)
 clear ho2
 refine hK.out _ _ ?_ (fun hHeld2 => ?_)
 ·(try dsimp only); first | exact Below.trans hHeld (Below.mono hb hHeld.size) | exact hHeld | exact Below.drew hHeld | exact bq2
 clear hK K hHeld; have hHeld := hHeld2; clear hHeld2; (try simp only [Act.put, zn1, zn2, zn3])
 refine ready_one (i := 6) rfl (by kernel_rfl) (fun K hK => ?_)
 refine step_append_rd _ (by rfl) (.tmp 8) (.tmp 11) 26 (by rfl) W1.heap.size 9 i0 _ 1 16 Tryz.underlying26 hi hz0 hz1 hz2 rfl (by decide) _ (inR es u 1).length (svs (inR es u 1)) (by rfl) HO2.out _ A2 (inR es u 4).length c2 (svs (inR es u 4)) (by rfl) HS2.out (one_svs _) h63.out hby.out hHeld.size ?_
 intro A7 c7 w7 ho7 hg7 hat7
 replace hHeld := hHeld.grown hg7 hHeld.size (fun j hj => (HO2.out.lt j hj).1)
 have HO7 := Lib.hid ho7
 clear ho7 hg7 hat7
 refine hK.out _ _ ?_ (fun hHeld2 => ?_)
 ·(try dsimp only); first | exact Below.trans hHeld (Below.mono hb hHeld.size) | exact hHeld | exact Below.drew hHeld | exact bq2
 clear hK K hHeld; have hHeld := hHeld2; clear hHeld2; (try simp only [Act.put, zn1, zn2, zn3])
 refine tV 7 ?_ ?zq ?_; (case zq => rintro _ -; go_simp; try with_reducible rfl); try simp only [Act.put, zn1, zn2, zn3]
 refine wpAnyH_done (by kernel_rfl) ?_ _
 have HB7 := Lib.hid hHeld
 have h63b := Lib.hid (show (inR es u 1).length + (inR es u 4).length + (inR es u 5).length ≤ maxLen by unfold maxLen; omega)
 have hbyb := Lib.hid (show ((inR es u 1).length + (inR es u 4).length + (inR es u 5).length) * 16 ≤ 140737488355328 by omega)
 replace g0 := cellAt g0 hHeld (by omega)
 replace g1 := cellAt g1 hHeld (by omega)
 replace Hr := Lib.hid (Hr.out.at hHeld)
 replace n1 : w.heap.size < w7.heap.size := ltAt n1 hHeld
 clear hHeld
 go_wp2_with fail
 refine (In15o_any An Ae nn cn ce es u 5 w7 Hr.out (by omega)).mono ?_
 rintro e w8 ⟨A8, c8, rfl, ho8, hb⟩
 have HO8 := Lib.hid (own_on HO7.out hb)
 have HS8 := Lib.hid (own_rd' ho8)
 have HB8 := Lib.hid (lift HB7.out hb)
 have hz8 := HB8.out.size
 clear ho8 hb
 go_wp2_with (first
  | (at_builtin; refine wpList_append_rd _ (by rfl) (.tmp 13) (.tmp 16) 26 (by rfl) W1.heap.size 9 i0 _ 1 16 Tryz.underlying26 hi hz0 hz1 hz2 rfl (by decide) _ ((inR es u 1).length + (inR es u 4).length) (svs (inR es u 1) ++ svs (inR es u 4)) (by rfl) HO8.out _ A8 (inR es u 5).length c8 (svs (inR es u 5)) (by rfl) HS8.out (one_svs _) h63b.out hbyb.out hz8 ?_; intro A9 c9 w9 ho9 hg9 hat9)
  | fail)
 go_ret
 unfold OwnS
 rw [HE.out.1, HE.out.2.1, HE.out.2.2]
 refine ⟨A9, c9, by rw [List.length_append, List.length_append]; rfl, ?_, ?_⟩
 ·rw [List.length_append, List.length_append, svs_app, svs_app]
  exact own_base ho9 HB1.out.size
 ·exact lift HB1.out (HB8.out.grown hg9 hz8 (fun j hj => (HO8.out.lt j hj).1))
set_option maxRecDepth 100000 in
set_option maxHeartbeats 2000000 in
theorem out17_any (A : Option Addr) (c : Nat) (wo : List Pl) (s : Str) (t : Int) (w : World) (hr : Rd w w.heap.size 4 A wo.length (plsC wo)) (hl : wo.length ≤ 1000000) :
  Calls Tryz.prog 51 #[.slice A wo.length c, .agg #[sv s, .int .i64 t]] w fun e w' => e = .returned (.bool (outB wo (s, t))) ∧ Below w.heap.size w w' := by
 have Hr := Lib.hid hr
 clear hr
 go_enter Tryz.func51, Tryz.ntmps51
 go_wp2_with fail
 first | (refine wp_named ?_; intro W1 hW) | (refine calls_named ?_; intro W1 hW)
 have B1 : Below w.heap.size w W1 := by rw [hW]; exact bq2
 replace Hr := Lib.hid (Hr.out.at B1)
 have n1 : w.heap.size < W1.heap.size := by rw [hW]; simp <;> omega
 have g0 : W1.cell? ⟨w.heap.size, 0, none⟩ = some (sv s) := by rw [hW]; go_simp
 have g1 : W1.cell? ⟨w.heap.size, 1, none⟩ = some (.int .i64 t) := by rw [hW]; go_simp
 clear hW
 have HB1 := Lib.hid B1
 clear B1
 go_loopw [9] (fun i wr => ∃ k : Nat, k ≤ wo.length ∧ i = .int .i64 k ∧ Hid (outB (wo.take k) (s, t) = false) ∧ Hid (Below W1.heap.size W1 wr)) (fun i _ => wo.length - (intOf i).toNat)
 case atStart => exact ⟨0, Nat.zero_le _, rfl, rfl, Below.refl _ _⟩
 case round =>
  obtain ⟨k, hk, rfl, HK, HB⟩ := hrel
  have hz := HB.out.size
  by_cases hlt : k < wo.length
  ·obtain ⟨b, o, hA, hB, x0, x1, x2, x3⟩ := (Hr.out.at HB.out).pl hlt
   subst hA
   have hst : outB (wo.take (k + 1)) (s, t) = (wo[k].1 == s && wo[k].2.1 == t) := by
    have h1 := HK.out
    unfold outB at h1 ⊢
    rw [any_take_succ hlt, h1]; rfl
   have hhit : (wo[k].1 == s && wo[k].2.1 == t) = true → outB wo (s, t) = true := fun h => List.any_eq_true.2 ⟨wo[k], List.getElem_mem hlt, h⟩
   generalize wo[k] = p at x0 x1 x2 x3 hst hhit
   obtain ⟨sp, tp, np, bp⟩ := p
   simp only at x0 x1 x2 x3 hst hhit
   have HSt := Lib.hid hst
   have HHit := Lib.hid hhit
   have k0 := cellAt g0 HB.out n1
   have k1 := cellAt g1 HB.out n1
   have hnr := ltAt n1 HB.out
   have i1 : (0 : Int) ≤ (k : Int) := by omega
   have i2 : (k : Int) < (wo.length : Int) := by omega
   clear hst hhit
   cases e1 : (sp == s)
   ·skip
    go_wp2_with fail
    go_roundw
    case rel => exact ⟨k + 1, by omega, by go_num, by show _ = false; rw [HSt.out]; simp [e1], HB.out.alloc hz _⟩
    case measure => simp [intOf]; omega
   ·cases e2 : (tp == t)
    ·skip
     go_wp2_with fail
     go_roundw
     case rel => exact ⟨k + 1, by omega, by go_num, by show _ = false; rw [HSt.out]; simp [e2], HB.out.alloc hz _⟩
     case measure => simp [intOf]; omega
    ·have HO := Lib.hid (HHit.out (by rw [e1, e2]; rfl))
     have HB9 := Lib.hid (lift HB1.out (HB.out.alloc hz (.cells #[sv sp, .int .i64 tp, .bool np, sv bp] 37)))
     go_wp2_with fail
     go_ret
     exact ⟨by rw [HO.out]; rfl, HB9.out⟩
  ·obtain rfl : k = wo.length := by omega
   have hf := HK.out
   rw [List.take_length] at hf
   have HF := Lib.hid hf
   clear hf
   go_wp2_with fail
   go_ret
   exact ⟨by rw [HF.out]; rfl, lift HB1.out HB.out⟩
end Od
end Go.Proofs.YtbllehjhmfehbaaGreat
end

section
/- matinsref17.brings: what a job brings. (bel2) -/
namespace Go.Proofs.YtbllehjhmfehbaaGreat
open Go.RowKit Go.Sort
set_option linter.unusedSimpArgs false
namespace Od
theorem outR_le (es : List Ed) (u : Str) (rel : Int) : (outR es u rel).length ≤ es.length := by rw [← outR_eq]; exact outS_len es u rel
theorem inR_le (es : List Ed) (u : Str) (rel : Int) : (inR es u rel).length ≤ es.length := by rw [← inR_eq]; exact inwS_le es u rel
theorem bring_start {es : List Ed} {up half : List Str} {u : Str} : bringB es up half (u, 1) = eachB (outR es u 1) 1 true ++ (eachB (outR es u 4) 1 true ++ (eachB (outR es u 2) 1 false ++ (eachB (outR es u 6) 2 true ++ eachB (inR es u 6) 2 true))) := by
 rw [← outR_eq, ← outR_eq, ← outR_eq, ← outR_eq, ← inR_eq]; rfl
theorem bring_stop {es : List Ed} {up half : List Str} {u : Str} : bringB es up half (u, 2) = eachB (((inwS es u 1 ++ inwS es u 4) ++ inwS es u 5).filter (upB up half)) 2 true := by
 rw [← back_each]; rfl
theorem bring_again {es : List Ed} {up half : List Str} {u : Str} : bringB es up half (u, 3) = (eachB (outR es u 1) 1 true ++ (eachB (outR es u 4) 1 true ++ (eachB (outR es u 2) 1 false ++ (eachB (outR es u 6) 2 true ++ eachB (inR es u 6) 2 true)))) ++ eachB (((inwS es u 1 ++ inwS es u 4) ++ inwS es u 5).filter (upB up half)) 3 true := by
 rw [← back_each, ← outR_eq, ← outR_eq, ← outR_eq, ← outR_eq, ← inR_eq]; rfl
theorem bring_no {es : List Ed} {up half : List Str} {u : Str} {t : Int} (h1 : ¬ t = 1) (h2 : ¬ t = 2) (h3 : ¬ t = 3) : bringB es up half (u, t) = [] := by
 unfold bringB; rw [if_neg h1, if_neg h2, if_neg h3]
set_option maxRecDepth 100000 in
set_option maxHeartbeats 16000000 in
theorem brings17_any (An Ae Au Ah : Option Addr) (nn cn ce cu ch : Nat) (es : List Ed) (up half : List Str) (u : Str) (t : Int) (w : World) (hr : Rd w w.heap.size 3 Ae es.length (edsC es)) (hl : es.length ≤ 10000) (hu : SIn w Au up) (hh : SIn w Ah half) :
  Calls Tryz.prog 50 #[gV An nn cn Ae es.length ce, nowV Au up.length cu Ah half.length ch, .agg #[sv u, .int .i64 t]] w (OwnR (bringB es up half (u, t)) w) := by
 obtain ⟨i0, hi, hz0, hz1, hz2⟩ := info_parts infoBr17
 have Hr := Lib.hid hr
 have Hu := Lib.hid hu
 have Hh := Lib.hid hh
 have q1 := outR_le es u 1
 have q2 := outR_le es u 4
 have q3 := outR_le es u 2
 have q4 := outR_le es u 6
 have q5 := inR_le es u 6
 clear hr hu hh
 go_enter Tryz.func50, Tryz.ntmps50
 by_cases h1 : t = 1
 ·subst h1
  have HF := Lib.hid (bring_start (es := es) (up := up) (half := half) (u := u))
  go_wp2_with fail
  first | (refine wp_named ?_; intro W1 hW) | (refine calls_named ?_; intro W1 hW)
  have B1 : Below w.heap.size w W1 := by rw [hW]; exact bq2
  replace Hr := Lib.hid (Hr.out.at B1)
  replace Hu := Lib.hid (Hu.out.at B1)
  replace Hh := Lib.hid (Hh.out.at B1)
  have n1 : w.heap.size < W1.heap.size := by rw [hW]; simp <;> omega
  have n2 : (w.heap.size + 1) < W1.heap.size := by rw [hW]; simp <;> omega
  have n3 : (w.heap.size + 1 + 1) < W1.heap.size := by rw [hW]; simp <;> omega
  have g0 : W1.cell? ⟨w.heap.size, 0, none⟩ = some (.slice An nn cn) := by rw [hW]; go_simp
  have g1 : W1.cell? ⟨w.heap.size, 1, none⟩ = some (.slice Ae es.length ce) := by rw [hW]; go_simp
  have h0 : W1.cell? ⟨(w.heap.size + 1), 0, none⟩ = some (.slice Au up.length cu) := by rw [hW]; go_simp
  have h1 : W1.cell? ⟨(w.heap.size + 1), 1, none⟩ = some (.slice Ah half.length ch) := by rw [hW]; go_simp
  have j0 : W1.cell? ⟨(w.heap.size + 1 + 1), 0, none⟩ = some (sv u) := by rw [hW]; go_simp
  have j1 : W1.cell? ⟨(w.heap.size + 1 + 1), 1, none⟩ = some (.int .i64 1) := by rw [hW]; go_simp
  clear hW
  have HB1 := Lib.hid B1
  clear B1
  have HW1 := Lib.hid (Below.refl W1.heap.size W1)
  have HO0 := Lib.hid (show W1.ownsRow W1.heap.size 93 3 (.slice none 0 0) 0 [] from World.ownsRow_nil _ _ _ _)
  have p0 := cellAt g0 HW1.out n1; have p1 := cellAt g1 HW1.out n1; have p2 := cellAt h0 HW1.out n2; have p3 := cellAt h1 HW1.out n2; have p4 := cellAt j0 HW1.out n3; have p5 := cellAt j1 HW1.out n3; have pl1 := ltAt n1 HW1.out; have pl2 := ltAt n2 HW1.out; have pl3 := ltAt n3 HW1.out
  go_wp2_with fail
  refine (Out15_any An Ae nn cn ce es u 1 W1 (Hr.out.at HW1.out) (by omega)).mono ?_
  rintro e ya ⟨A1, c1, rfl, hc1, hr1, hb⟩
  have HSa := Lib.hid (hr1)
  have HOa := Lib.hid (own_on HO0.out hb)
  have HXa := Lib.hid (lift HW1.out hb)
  clear p0 p1 p2 p3 p4 p5 pl1 pl2 pl3 hb hc1 hr1
  go_wp2_with fail
  refine (each17_any A1 c1 (outR es u 1) 1 true ya HSa.out (by omega)).mono ?_
  have hel : (eachB (outR es u 1) 1 true).length ≤ es.length := by rw [eachB_len]; omega
  generalize eachB (outR es u 1) 1 true = E1 at *
  rintro e yb ⟨A2, c2, rfl, ho2, hb⟩
  have HS2 := Lib.hid (own_rd' ho2)
  have HOb := Lib.hid (own_on HOa.out hb)
  have HXb := Lib.hid (lift HXa.out hb)
  have hzb := HXb.out.size
  have h63 : 0 + E1.length ≤ maxLen := by unfold maxLen; omega
  have hby : (0 + E1.length) * 32 ≤ 140737488355328 := by omega
  have hm1 : 0 + E1.length ≤ 1 * es.length := by omega
  have H63 := Lib.hid (And.intro h63 hby)
  clear ho2 hb h63 hby HSa HOa HXa
  go_wp2_with (first
   | (at_builtin; refine wpList_append_rd _ (by rfl) (.tmp 16) (.tmp 21) 90 (by rfl) W1.heap.size 93 i0 _ 3 32 Tryz.underlying90 hi hz0 hz1 hz2 rfl (by decide) _ (0) (([] : List Value)) (by rfl) HOb.out _ A2 E1.length c2 (brsC E1) (by rfl) HS2.out (one_brsC _) H63.out.1 H63.out.2 hzb ?_; intro A7 c7 X1 ho7 hg7 hat7; have HX1 := Lib.hid (HXb.out.grown hg7 hzb (fun g hg => (HOb.out.lt g hg).1)); generalize hq7 : 0 + E1.length = m1 at *; have HM1 := Lib.hid hq7; have HO1 := Lib.hid ho7; clear ho7 hg7 hat7 hzb hq7 HOb HXb HS2 H63 hel; have p0 := cellAt g0 HX1.out n1; have p1 := cellAt g1 HX1.out n1; have p2 := cellAt h0 HX1.out n2; have p3 := cellAt h1 HX1.out n2; have p4 := cellAt j0 HX1.out n3; have p5 := cellAt j1 HX1.out n3; have pl1 := ltAt n1 HX1.out; have pl2 := ltAt n2 HX1.out; have pl3 := ltAt n3 HX1.out)
   | fail)
  go_wp2_with fail
  refine (Out15_any An Ae nn cn ce es u 4 X1 (Hr.out.at HX1.out) (by omega)).mono ?_
  rintro e ya ⟨A1, c1, rfl, hc1, hr1, hb⟩
  have HSa := Lib.hid (hr1)
  have HOa := Lib.hid (own_on HO1.out hb)
  have HXa := Lib.hid (lift HX1.out hb)
  clear p0 p1 p2 p3 p4 p5 pl1 pl2 pl3 hb hc1 hr1
  go_wp2_with fail
  refine (each17_any A1 c1 (outR es u 4) 1 true ya HSa.out (by omega)).mono ?_
  have hel : (eachB (outR es u 4) 1 true).length ≤ es.length := by rw [eachB_len]; omega
  generalize eachB (outR es u 4) 1 true = E2 at *
  rintro e yb ⟨A2, c2, rfl, ho2, hb⟩
  have HS2 := Lib.hid (own_rd' ho2)
  have HOb := Lib.hid (own_on HOa.out hb)
  have HXb := Lib.hid (lift HXa.out hb)
  have hzb := HXb.out.size
  have h63 : m1 + E2.length ≤ maxLen := by unfold maxLen; omega
  have hby : (m1 + E2.length) * 32 ≤ 140737488355328 := by omega
  have hm2 : m1 + E2.length ≤ 2 * es.length := by omega
  have H63 := Lib.hid (And.intro h63 hby)
  clear ho2 hb h63 hby HSa HOa HXa
  go_wp2_with (first
   | (at_builtin; refine wpList_append_rd _ (by rfl) (.tmp 23) (.tmp 28) 90 (by rfl) W1.heap.size 93 i0 _ 3 32 Tryz.underlying90 hi hz0 hz1 hz2 rfl (by decide) _ (m1) ((([] : List Value) ++ brsC E1)) (by rfl) HOb.out _ A2 E2.length c2 (brsC E2) (by rfl) HS2.out (one_brsC _) H63.out.1 H63.out.2 hzb ?_; intro A7 c7 X2 ho7 hg7 hat7; have HX2 := Lib.hid (HXb.out.grown hg7 hzb (fun g hg => (HOb.out.lt g hg).1)); generalize hq7 : m1 + E2.length = m2 at *; have HM2 := Lib.hid hq7; have HO2 := Lib.hid ho7; clear ho7 hg7 hat7 hzb hq7 HOb HXb HS2 H63 hel; have p0 := cellAt g0 HX2.out n1; have p1 := cellAt g1 HX2.out n1; have p2 := cellAt h0 HX2.out n2; have p3 := cellAt h1 HX2.out n2; have p4 := cellAt j0 HX2.out n3; have p5 := cellAt j1 HX2.out n3; have pl1 := ltAt n1 HX2.out; have pl2 := ltAt n2 HX2.out; have pl3 := ltAt n3 HX2.out)
   | fail)
  go_wp2_with fail
  refine (Out15_any An Ae nn cn ce es u 2 X2 (Hr.out.at HX2.out) (by omega)).mono ?_
  rintro e ya ⟨A1, c1, rfl, hc1, hr1, hb⟩
  have HSa := Lib.hid (hr1)
  have HOa := Lib.hid (own_on HO2.out hb)
  have HXa := Lib.hid (lift HX2.out hb)
  clear p0 p1 p2 p3 p4 p5 pl1 pl2 pl3 hb hc1 hr1
  go_wp2_with fail
  refine (each17_any A1 c1 (outR es u 2) 1 false ya HSa.out (by omega)).mono ?_
  have hel : (eachB (outR es u 2) 1 false).length ≤ es.length := by rw [eachB_len]; omega
  generalize eachB (outR es u 2) 1 false = E3 at *
  rintro e yb ⟨A2, c2, rfl, ho2, hb⟩
  have HS2 := Lib.hid (own_rd' ho2)
  have HOb := Lib.hid (own_on HOa.out hb)
  have HXb := Lib.hid (lift HXa.out hb)
  have hzb := HXb.out.size
  have h63 : m2 + E3.length ≤ maxLen := by unfold maxLen; omega
  have hby : (m2 + E3.length) * 32 ≤ 140737488355328 := by omega
  have hm3 : m2 + E3.length ≤ 3 * es.length := by omega
  have H63 := Lib.hid (And.intro h63 hby)
  clear ho2 hb h63 hby HSa HOa HXa
  go_wp2_with (first
   | (at_builtin; refine wpList_append_rd _ (by rfl) (.tmp 30) (.tmp 35) 90 (by rfl) W1.heap.size 93 i0 _ 3 32 Tryz.underlying90 hi hz0 hz1 hz2 rfl (by decide) _ (m2) (((([] : List Value) ++ brsC E1) ++ brsC E2)) (by rfl) HOb.out _ A2 E3.length c2 (brsC E3) (by rfl) HS2.out (one_brsC _) H63.out.1 H63.out.2 hzb ?_; intro A7 c7 X3 ho7 hg7 hat7; have HX3 := Lib.hid (HXb.out.grown hg7 hzb (fun g hg => (HOb.out.lt g hg).1)); generalize hq7 : m2 + E3.length = m3 at *; have HM3 := Lib.hid hq7; have HO3 := Lib.hid ho7; clear ho7 hg7 hat7 hzb hq7 HOb HXb HS2 H63 hel; have p0 := cellAt g0 HX3.out n1; have p1 := cellAt g1 HX3.out n1; have p2 := cellAt h0 HX3.out n2; have p3 := cellAt h1 HX3.out n2; have p4 := cellAt j0 HX3.out n3; have p5 := cellAt j1 HX3.out n3; have pl1 := ltAt n1 HX3.out; have pl2 := ltAt n2 HX3.out; have pl3 := ltAt n3 HX3.out)
   | fail)
  go_wp2_with fail
  refine (Out15_any An Ae nn cn ce es u 6 X3 (Hr.out.at HX3.out) (by omega)).mono ?_
  rintro e ya ⟨A1, c1, rfl, hc1, hr1, hb⟩
  have HSa := Lib.hid (hr1)
  have HOa := Lib.hid (own_on HO3.out hb)
  have HXa := Lib.hid (lift HX3.out hb)
  clear p0 p1 p2 p3 p4 p5 pl1 pl2 pl3 hb hc1 hr1
  go_wp2_with fail
  refine (each17_any A1 c1 (outR es u 6) 2 true ya HSa.out (by omega)).mono ?_
  have hel : (eachB (outR es u 6) 2 true).length ≤ es.length := by rw [eachB_len]; omega
  generalize eachB (outR es u 6) 2 true = E4 at *
  rintro e yb ⟨A2, c2, rfl, ho2, hb⟩
  have HS2 := Lib.hid (own_rd' ho2)
  have HOb := Lib.hid (own_on HOa.out hb)
  have HXb := Lib.hid (lift HXa.out hb)
  have hzb := HXb.out.size
  have h63 : m3 + E4.length ≤ maxLen := by unfold maxLen; omega
  have hby : (m3 + E4.length) * 32 ≤ 140737488355328 := by omega
  have hm4 : m3 + E4.length ≤ 4 * es.length := by omega
  have H63 := Lib.hid (And.intro h63 hby)
  clear ho2 hb h63 hby HSa HOa HXa
  go_wp2_with (first
   | (at_builtin; refine wpList_append_rd _ (by rfl) (.tmp 37) (.tmp 42) 90 (by rfl) W1.heap.size 93 i0 _ 3 32 Tryz.underlying90 hi hz0 hz1 hz2 rfl (by decide) _ (m3) ((((([] : List Value) ++ brsC E1) ++ brsC E2) ++ brsC E3)) (by rfl) HOb.out _ A2 E4.length c2 (brsC E4) (by rfl) HS2.out (one_brsC _) H63.out.1 H63.out.2 hzb ?_; intro A7 c7 X4 ho7 hg7 hat7; have HX4 := Lib.hid (HXb.out.grown hg7 hzb (fun g hg => (HOb.out.lt g hg).1)); generalize hq7 : m3 + E4.length = m4 at *; have HM4 := Lib.hid hq7; have HO4 := Lib.hid ho7; clear ho7 hg7 hat7 hzb hq7 HOb HXb HS2 H63 hel; have p0 := cellAt g0 HX4.out n1; have p1 := cellAt g1 HX4.out n1; have p2 := cellAt h0 HX4.out n2; have p3 := cellAt h1 HX4.out n2; have p4 := cellAt j0 HX4.out n3; have p5 := cellAt j1 HX4.out n3; have pl1 := ltAt n1 HX4.out; have pl2 := ltAt n2 HX4.out; have pl3 := ltAt n3 HX4.out)
   | fail)
  go_wp2_with fail
  refine (In15o_any An Ae nn cn ce es u 6 X4 (Hr.out.at HX4.out) (by omega)).mono ?_
  rintro e ya ⟨A1, c1, rfl, ho1, hb⟩
  have HSa := Lib.hid (own_rd' ho1)
  have HOa := Lib.hid (own_on HO4.out hb)
  have HXa := Lib.hid (lift HX4.out hb)
  clear p0 p1 p2 p3 p4 p5 pl1 pl2 pl3 hb ho1
  go_wp2_with fail
  refine (each17_any A1 c1 (inR es u 6) 2 true ya HSa.out (by omega)).mono ?_
  have hel : (eachB (inR es u 6) 2 true).length ≤ es.length := by rw [eachB_len]; omega
  generalize eachB (inR es u 6) 2 true = E5 at *
  rintro e yb ⟨A2, c2, rfl, ho2, hb⟩
  have HS2 := Lib.hid (own_rd' ho2)
  have HOb := Lib.hid (own_on HOa.out hb)
  have HXb := Lib.hid (lift HXa.out hb)
  have hzb := HXb.out.size
  have h63 : m4 + E5.length ≤ maxLen := by unfold maxLen; omega
  have hby : (m4 + E5.length) * 32 ≤ 140737488355328 := by omega
  have hm5 : m4 + E5.length ≤ 5 * es.length := by omega
  have H63 := Lib.hid (And.intro h63 hby)
  clear ho2 hb h63 hby HSa HOa HXa
  go_wp2_with (first
   | (at_builtin; refine wpList_append_rd _ (by rfl) (.tmp 44) (.tmp 49) 90 (by rfl) W1.heap.size 93 i0 _ 3 32 Tryz.underlying90 hi hz0 hz1 hz2 rfl (by decide) _ (m4) (((((([] : List Value) ++ brsC E1) ++ brsC E2) ++ brsC E3) ++ brsC E4)) (by rfl) HOb.out _ A2 E5.length c2 (brsC E5) (by rfl) HS2.out (one_brsC _) H63.out.1 H63.out.2 hzb ?_; intro A7 c7 X5 ho7 hg7 hat7; have HX5 := Lib.hid (HXb.out.grown hg7 hzb (fun g hg => (HOb.out.lt g hg).1)); generalize hq7 : m4 + E5.length = m5 at *; have HM5 := Lib.hid hq7; have HO5 := Lib.hid ho7; clear ho7 hg7 hat7 hzb hq7 HOb HXb HS2 H63 hel; have p0 := cellAt g0 HX5.out n1; have p1 := cellAt g1 HX5.out n1; have p2 := cellAt h0 HX5.out n2; have p3 := cellAt h1 HX5.out n2; have p4 := cellAt j0 HX5.out n3; have p5 := cellAt j1 HX5.out n3; have pl1 := ltAt n1 HX5.out; have pl2 := ltAt n2 HX5.out; have pl3 := ltAt n3 HX5.out)
   | fail)
  go_wp2_with fail
  go_ret
  unfold OwnR
  rw [HF.out]
  have hn5 : (E1 ++ (E2 ++ (E3 ++ (E4 ++ E5)))).length = m5 := by simp only [List.length_append]; have := HM1.out; have := HM2.out; have := HM3.out; have := HM4.out; have := HM5.out; omega
  have h5 := own_base HO5.out HB1.out.size
  rw [show (((([] ++ brsC E1) ++ brsC E2) ++ brsC E3) ++ brsC E4) ++ brsC E5 = brsC (E1 ++ (E2 ++ (E3 ++ (E4 ++ E5)))) by simp only [brsC_app, List.nil_append, List.append_assoc]] at h5
  rw [hn5]
  exact ⟨A7, c7, rfl, h5, lift HB1.out HX5.out⟩
 by_cases h2 : t = 2
 ·subst h2
  have HF := Lib.hid (bring_stop (es := es) (up := up) (half := half) (u := u))
  go_wp2_with fail
  first | (refine wp_named ?_; intro W1 hW) | (refine calls_named ?_; intro W1 hW)
  have B1 : Below w.heap.size w W1 := by rw [hW]; exact bq2
  replace Hr := Lib.hid (Hr.out.at B1)
  replace Hu := Lib.hid (Hu.out.at B1)
  replace Hh := Lib.hid (Hh.out.at B1)
  have n1 : w.heap.size < W1.heap.size := by rw [hW]; simp <;> omega
  have n2 : (w.heap.size + 1) < W1.heap.size := by rw [hW]; simp <;> omega
  have n3 : (w.heap.size + 1 + 1) < W1.heap.size := by rw [hW]; simp <;> omega
  have g0 : W1.cell? ⟨w.heap.size, 0, none⟩ = some (.slice An nn cn) := by rw [hW]; go_simp
  have g1 : W1.cell? ⟨w.heap.size, 1, none⟩ = some (.slice Ae es.length ce) := by rw [hW]; go_simp
  have h0 : W1.cell? ⟨(w.heap.size + 1), 0, none⟩ = some (.slice Au up.length cu) := by rw [hW]; go_simp
  have h1 : W1.cell? ⟨(w.heap.size + 1), 1, none⟩ = some (.slice Ah half.length ch) := by rw [hW]; go_simp
  have j0 : W1.cell? ⟨(w.heap.size + 1 + 1), 0, none⟩ = some (sv u) := by rw [hW]; go_simp
  have j1 : W1.cell? ⟨(w.heap.size + 1 + 1), 1, none⟩ = some (.int .i64 2) := by rw [hW]; go_simp
  clear hW
  have HB1 := Lib.hid B1
  clear B1
  have HW1 := Lib.hid (Below.refl W1.heap.size W1)
  have HO0 := Lib.hid (show W1.ownsRow W1.heap.size 93 3 (.slice none 0 0) 0 [] from World.ownsRow_nil _ _ _ _)
  have p0 := g0
  have p1 := g1
  have p2 := h0
  have p3 := h1
  have p4 := j0
  have p5 := j1
  have pl1 := n1
  have pl2 := n2
  have pl3 := n3
  go_wp2_with fail
  obtain ⟨ovr, hovr⟩ : ∃ v, v = (.slice none 0 0 : Value) := ⟨_, rfl⟩
  have hrb : ∀ b, ovr.ownBlock = some b → W1.heap.size ≤ b ∧ b < W1.heap.size := fun b hb => by rw [hovr] at hb; exact HO0.out.lt b hb
  have HT := Lib.hid (fun y (hk : Keeps (OffB W1 ovr) W1 y) => (HW1.out.trans (hk.below (B := W1.heap.size) (fun j hj => ⟨by have := HW1.out.size; omega, fun e => by have := (hrb _ e).1; omega⟩))))
  have o1 : ¬ ovr.ownBlock = some w.heap.size := fun e => by have := (hrb _ e).1; omega
  have o2 : ¬ ovr.ownBlock = some (w.heap.size + 1) := fun e => by have := (hrb _ e).1; omega
  have o3 : ¬ ovr.ownBlock = some (w.heap.size + 1 + 1) := fun e => by have := (hrb _ e).1; omega
  have HOv := Lib.hid hovr
  have hal : ((inwS es u 1 ++ inwS es u 4) ++ inwS es u 5).length ≤ 3 * es.length := by rw [List.length_append, List.length_append]; have := inwS_le es u 1; have := inwS_le es u 4; have := inwS_le es u 5; omega
  have HAl := Lib.hid (fun W hr => along17_any An Ae nn cn ce es u W hr hl)
  generalize ((inwS es u 1 ++ inwS es u 4) ++ inwS es u 5) = FF at *
  have hfl := List.length_filter_le (upB up half) FF
  have HTh := Lib.hid (fun A c W hr hu hh => there17_any A Au Ah c cu ch FF up half W hr (by omega) hu hh)
  generalize FF.filter (upB up half) = GG at *
  have hel : (eachB GG 2 true).length ≤ 3 * es.length := by rw [eachB_len]; omega
  have HEc := Lib.hid (fun A c W hr => each17_any A c GG 2 true W hr (by omega))
  generalize eachB GG 2 true = E6 at *
  have h63 : 0 + E6.length ≤ maxLen := by unfold maxLen; omega
  have hby : (0 + E6.length) * 32 ≤ 140737488355328 := by omega
  have H63 := Lib.hid (And.intro h63 hby)
  clear h63 hby hovr hrb hal hfl
  try go_wp2_with fail
  refine wp_region_held_drew (S := fun w' => Keeps (OffB W1 ovr) W1 w') (by kernel_rfl) (OffB.below (Below.drew (Below.refl _ _))) (fun hHeld => ?_)
  refine tV 0 ?_ ?zq ?_; (case zq => rintro _ -; go_simp; try with_reducible rfl); try simp only [Act.put, zn1, zn2, zn3]
  refine tV 1 ?_ ?zq ?_; (case zq => intro w' hSw; have hCell := fun (b o : Nat) (h : b < W1.heap.size) (h2 : ¬ ovr.ownBlock = some b) => World.cell?_of_block (a := ⟨b, o, none⟩) (hSw.block b ⟨h, h2⟩); clear hSw; go_simp; try with_reducible rfl); try simp only [Act.put, zn1, zn2, zn3]
  refine tV 2 ?_ ?zq ?_; (case zq => rintro _ -; go_simp; try with_reducible rfl); try simp only [Act.put, zn1, zn2, zn3]
  refine tV 3 ?_ ?zq ?_; (case zq => intro w' hSw; have hCell := fun (b o : Nat) (h : b < W1.heap.size) (h2 : ¬ ovr.ownBlock = some b) => World.cell?_of_block (a := ⟨b, o, none⟩) (hSw.block b ⟨h, h2⟩); clear hSw; go_simp; try with_reducible rfl); try simp only [Act.put, zn1, zn2, zn3]
  refine tV 5 ?_ ?zq ?_; (case zq => intro w' hSw; have hCell := fun (b o : Nat) (h : b < W1.heap.size) (h2 : ¬ ovr.ownBlock = some b) => World.cell?_of_block (a := ⟨b, o, none⟩) (hSw.block b ⟨h, h2⟩); clear hSw; go_simp; try with_reducible rfl); try simp only [Act.put, zn1, zn2, zn3]
  refine tV 7 ?_ ?zq ?_; (case zq => rintro _ -; go_simp; try with_reducible rfl); try simp only [Act.put, zn1, zn2, zn3]
  refine tV 8 ?_ ?zq ?_; (case zq => intro w' hSw; have hCell := fun (b o : Nat) (h : b < W1.heap.size) (h2 : ¬ ovr.ownBlock = some b) => World.cell?_of_block (a := ⟨b, o, none⟩) (hSw.block b ⟨h, h2⟩); clear hSw; go_simp; try with_reducible rfl); try simp only [Act.put, zn1, zn2, zn3]
  refine ready_one (i := 4) rfl (by kernel_rfl) (fun K hK => ?_)
  go_simp
  refine (HAl.out _ (Hr.out.at (HT.out _ hHeld))).mono ?_
  rintro e y1 ⟨A1, c1, rfl, ho1, hb⟩
  have HS1 := Lib.hid (own_rd' ho1)
  have HP1 := Lib.hid (own_on (w := W1.drew) HO0.out hb)
  have hS := hHeld.then (fun _ hj => hj.1) hb
  clear ho1 hb
  refine hK.out _ _ ?_ (fun hHeld2 => ?_)
  ·(try dsimp only); exact hS
  clear hK K hHeld; have hHeld := hHeld2; clear hHeld2; (try simp only [Act.put, zn1, zn2, zn3])
  refine ready_one (i := 6) rfl (by kernel_rfl) (fun K hK => ?_)
  go_simp
  refine (HTh.out A1 c1 _ HS1.out (Hu.out.at (HT.out _ hHeld)) (Hh.out.at (HT.out _ hHeld))).mono ?_
  rintro e y2 ⟨A2, c2, rfl, ho2, hb⟩
  have HS2 := Lib.hid (own_rd' ho2)
  have HP2 := Lib.hid (own_on HP1.out hb)
  have hS := hHeld.then (fun _ hj => hj.1) hb
  clear ho2 hb
  refine hK.out _ _ ?_ (fun hHeld2 => ?_)
  ·(try dsimp only); exact hS
  clear hK K hHeld; have hHeld := hHeld2; clear hHeld2; (try simp only [Act.put, zn1, zn2, zn3])
  refine ready_one (i := 9) rfl (by kernel_rfl) (fun K hK => ?_)
  go_simp
  refine (HEc.out A2 c2 _ HS2.out).mono ?_
  rintro e y3 ⟨A3, c3, rfl, ho3, hb⟩
  have HS3 := Lib.hid (own_rd' ho3)
  have HP3 := Lib.hid (own_on HP2.out hb)
  have hS := hHeld.then (fun _ hj => hj.1) hb
  have hz3 := Nat.le_trans (HT.out _ hS).size (Nat.le_refl _)
  clear ho3 hb
  refine hK.out _ _ ?_ (fun hHeld2 => ?_)
  ·(try dsimp only); exact hS
  clear hK K hHeld; have hHeld := hHeld2; clear hHeld2; (try simp only [Act.put, zn1, zn2, zn3])
  refine ready_one (i := 10) rfl (by kernel_rfl) (fun K hK => ?_)
  refine step_append_rd _ (by rfl) (.tmp 59) (.tmp 68) 90 (by rfl) W1.heap.size 93 i0 _ 3 32 Tryz.underlying90 hi hz0 hz1 hz2 rfl (by decide) _ (0) (([] : List Value)) (by rfl) HP3.out _ A3 E6.length c3 (brsC E6) (by rfl) HS3.out (one_brsC _) H63.out.1 H63.out.2 hz3 ?_
  intro A9 c9 w9 ho9 hg9 hat9
  rw [← HOv.out] at hg9
  have hS := OffB.grown hHeld hg9
  have HO9 := Lib.hid ho9
  clear ho9 hg9 hat9
  refine hK.out _ _ ?_ (fun hHeld2 => ?_)
  ·(try dsimp only); exact hS
  clear hK K hHeld; have hHeld := hHeld2; clear hHeld2; (try simp only [Act.put, zn1, zn2, zn3])
  refine tV 11 ?_ ?zq ?_; (case zq => rintro _ -; go_simp; try with_reducible rfl); try simp only [Act.put, zn1, zn2, zn3]
  refine wpAnyH_done (by kernel_rfl) ?_ _
  have HB9 := Lib.hid (lift HB1.out (HT.out _ hHeld))
  go_wp2_with fail
  go_ret
  unfold OwnR
  rw [HF.out]
  have h5 := own_base HO9.out HB1.out.size
  rw [Nat.zero_add, List.nil_append] at h5
  exact ⟨A9, c9, rfl, h5, HB9.out⟩
 by_cases h3 : t = 3
 ·subst h3
  have HF := Lib.hid (bring_again (es := es) (up := up) (half := half) (u := u))
  go_wp2_with fail
  first | (refine wp_named ?_; intro W1 hW) | (refine calls_named ?_; intro W1 hW)
  have B1 : Below w.heap.size w W1 := by rw [hW]; exact bq2
  replace Hr := Lib.hid (Hr.out.at B1)
  replace Hu := Lib.hid (Hu.out.at B1)
  replace Hh := Lib.hid (Hh.out.at B1)
  have n1 : w.heap.size < W1.heap.size := by rw [hW]; simp <;> omega
  have n2 : (w.heap.size + 1) < W1.heap.size := by rw [hW]; simp <;> omega
  have n3 : (w.heap.size + 1 + 1) < W1.heap.size := by rw [hW]; simp <;> omega
  have g0 : W1.cell? ⟨w.heap.size, 0, none⟩ = some (.slice An nn cn) := by rw [hW]; go_simp
  have g1 : W1.cell? ⟨w.heap.size, 1, none⟩ = some (.slice Ae es.length ce) := by rw [hW]; go_simp
  have h0 : W1.cell? ⟨(w.heap.size + 1), 0, none⟩ = some (.slice Au up.length cu) := by rw [hW]; go_simp
  have h1 : W1.cell? ⟨(w.heap.size + 1), 1, none⟩ = some (.slice Ah half.length ch) := by rw [hW]; go_simp
  have j0 : W1.cell? ⟨(w.heap.size + 1 + 1), 0, none⟩ = some (sv u) := by rw [hW]; go_simp
  have j1 : W1.cell? ⟨(w.heap.size + 1 + 1), 1, none⟩ = some (.int .i64 3) := by rw [hW]; go_simp
  clear hW
  have HB1 := Lib.hid B1
  clear B1
  have HW1 := Lib.hid (Below.refl W1.heap.size W1)
  have HO0 := Lib.hid (show W1.ownsRow W1.heap.size 93 3 (.slice none 0 0) 0 [] from World.ownsRow_nil _ _ _ _)
  have p0 := cellAt g0 HW1.out n1; have p1 := cellAt g1 HW1.out n1; have p2 := cellAt h0 HW1.out n2; have p3 := cellAt h1 HW1.out n2; have p4 := cellAt j0 HW1.out n3; have p5 := cellAt j1 HW1.out n3; have pl1 := ltAt n1 HW1.out; have pl2 := ltAt n2 HW1.out; have pl3 := ltAt n3 HW1.out
  go_wp2_with fail
  refine (Out15_any An Ae nn cn ce es u 1 W1 (Hr.out.at HW1.out) (by omega)).mono ?_
  rintro e ya ⟨A1, c1, rfl, hc1, hr1, hb⟩
  have HSa := Lib.hid (hr1)
  have HOa := Lib.hid (own_on HO0.out hb)
  have HXa := Lib.hid (lift HW1.out hb)
  clear p0 p1 p2 p3 p4 p5 pl1 pl2 pl3 hb hc1 hr1
  go_wp2_with fail
  refine (each17_any A1 c1 (outR es u 1) 1 true ya HSa.out (by omega)).mono ?_
  have hel : (eachB (outR es u 1) 1 true).length ≤ es.length := by rw [eachB_len]; omega
  generalize eachB (outR es u 1) 1 true = E1 at *
  rintro e yb ⟨A2, c2, rfl, ho2, hb⟩
  have HS2 := Lib.hid (own_rd' ho2)
  have HOb := Lib.hid (own_on HOa.out hb)
  have HXb := Lib.hid (lift HXa.out hb)
  have hzb := HXb.out.size
  have h63 : 0 + E1.length ≤ maxLen := by unfold maxLen; omega
  have hby : (0 + E1.length) * 32 ≤ 140737488355328 := by omega
  have hm1 : 0 + E1.length ≤ 1 * es.length := by omega
  have H63 := Lib.hid (And.intro h63 hby)
  clear ho2 hb h63 hby HSa HOa HXa
  go_wp2_with (first
   | (at_builtin; refine wpList_append_rd _ (by rfl) (.tmp 16) (.tmp 21) 90 (by rfl) W1.heap.size 93 i0 _ 3 32 Tryz.underlying90 hi hz0 hz1 hz2 rfl (by decide) _ (0) (([] : List Value)) (by rfl) HOb.out _ A2 E1.length c2 (brsC E1) (by rfl) HS2.out (one_brsC _) H63.out.1 H63.out.2 hzb ?_; intro A7 c7 X1 ho7 hg7 hat7; have HX1 := Lib.hid (HXb.out.grown hg7 hzb (fun g hg => (HOb.out.lt g hg).1)); generalize hq7 : 0 + E1.length = m1 at *; have HM1 := Lib.hid hq7; have HO1 := Lib.hid ho7; clear ho7 hg7 hat7 hzb hq7 HOb HXb HS2 H63 hel; have p0 := cellAt g0 HX1.out n1; have p1 := cellAt g1 HX1.out n1; have p2 := cellAt h0 HX1.out n2; have p3 := cellAt h1 HX1.out n2; have p4 := cellAt j0 HX1.out n3; have p5 := cellAt j1 HX1.out n3; have pl1 := ltAt n1 HX1.out; have pl2 := ltAt n2 HX1.out; have pl3 := ltAt n3 HX1.out)
   | fail)
  go_wp2_with fail
  refine (Out15_any An Ae nn cn ce es u 4 X1 (Hr.out.at HX1.out) (by omega)).mono ?_
  rintro e ya ⟨A1, c1, rfl, hc1, hr1, hb⟩
  have HSa := Lib.hid (hr1)
  have HOa := Lib.hid (own_on HO1.out hb)
  have HXa := Lib.hid (lift HX1.out hb)
  clear p0 p1 p2 p3 p4 p5 pl1 pl2 pl3 hb hc1 hr1
  go_wp2_with fail
  refine (each17_any A1 c1 (outR es u 4) 1 true ya HSa.out (by omega)).mono ?_
  have hel : (eachB (outR es u 4) 1 true).length ≤ es.length := by rw [eachB_len]; omega
  generalize eachB (outR es u 4) 1 true = E2 at *
  rintro e yb ⟨A2, c2, rfl, ho2, hb⟩
  have HS2 := Lib.hid (own_rd' ho2)
  have HOb := Lib.hid (own_on HOa.out hb)
  have HXb := Lib.hid (lift HXa.out hb)
  have hzb := HXb.out.size
  have h63 : m1 + E2.length ≤ maxLen := by unfold maxLen; omega
  have hby : (m1 + E2.length) * 32 ≤ 140737488355328 := by omega
  have hm2 : m1 + E2.length ≤ 2 * es.length := by omega
  have H63 := Lib.hid (And.intro h63 hby)
  clear ho2 hb h63 hby HSa HOa HXa
  go_wp2_with (first
   | (at_builtin; refine wpList_append_rd _ (by rfl) (.tmp 23) (.tmp 28) 90 (by rfl) W1.heap.size 93 i0 _ 3 32 Tryz.underlying90 hi hz0 hz1 hz2 rfl (by decide) _ (m1) ((([] : List Value) ++ brsC E1)) (by rfl) HOb.out _ A2 E2.length c2 (brsC E2) (by rfl) HS2.out (one_brsC _) H63.out.1 H63.out.2 hzb ?_; intro A7 c7 X2 ho7 hg7 hat7; have HX2 := Lib.hid (HXb.out.grown hg7 hzb (fun g hg => (HOb.out.lt g hg).1)); generalize hq7 : m1 + E2.length = m2 at *; have HM2 := Lib.hid hq7; have HO2 := Lib.hid ho7; clear ho7 hg7 hat7 hzb hq7 HOb HXb HS2 H63 hel; have p0 := cellAt g0 HX2.out n1; have p1 := cellAt g1 HX2.out n1; have p2 := cellAt h0 HX2.out n2; have p3 := cellAt h1 HX2.out n2; have p4 := cellAt j0 HX2.out n3; have p5 := cellAt j1 HX2.out n3; have pl1 := ltAt n1 HX2.out; have pl2 := ltAt n2 HX2.out; have pl3 := ltAt n3 HX2.out)
   | fail)
  go_wp2_with fail
  refine (Out15_any An Ae nn cn ce es u 2 X2 (Hr.out.at HX2.out) (by omega)).mono ?_
  rintro e ya ⟨A1, c1, rfl, hc1, hr1, hb⟩
  have HSa := Lib.hid (hr1)
  have HOa := Lib.hid (own_on HO2.out hb)
  have HXa := Lib.hid (lift HX2.out hb)
  clear p0 p1 p2 p3 p4 p5 pl1 pl2 pl3 hb hc1 hr1
  go_wp2_with fail
  refine (each17_any A1 c1 (outR es u 2) 1 false ya HSa.out (by omega)).mono ?_
  have hel : (eachB (outR es u 2) 1 false).length ≤ es.length := by rw [eachB_len]; omega
  generalize eachB (outR es u 2) 1 false = E3 at *
  rintro e yb ⟨A2, c2, rfl, ho2, hb⟩
  have HS2 := Lib.hid (own_rd' ho2)
  have HOb := Lib.hid (own_on HOa.out hb)
  have HXb := Lib.hid (lift HXa.out hb)
  have hzb := HXb.out.size
  have h63 : m2 + E3.length ≤ maxLen := by unfold maxLen; omega
  have hby : (m2 + E3.length) * 32 ≤ 140737488355328 := by omega
  have hm3 : m2 + E3.length ≤ 3 * es.length := by omega
  have H63 := Lib.hid (And.intro h63 hby)
  clear ho2 hb h63 hby HSa HOa HXa
  go_wp2_with (first
   | (at_builtin; refine wpList_append_rd _ (by rfl) (.tmp 30) (.tmp 35) 90 (by rfl) W1.heap.size 93 i0 _ 3 32 Tryz.underlying90 hi hz0 hz1 hz2 rfl (by decide) _ (m2) (((([] : List Value) ++ brsC E1) ++ brsC E2)) (by rfl) HOb.out _ A2 E3.length c2 (brsC E3) (by rfl) HS2.out (one_brsC _) H63.out.1 H63.out.2 hzb ?_; intro A7 c7 X3 ho7 hg7 hat7; have HX3 := Lib.hid (HXb.out.grown hg7 hzb (fun g hg => (HOb.out.lt g hg).1)); generalize hq7 : m2 + E3.length = m3 at *; have HM3 := Lib.hid hq7; have HO3 := Lib.hid ho7; clear ho7 hg7 hat7 hzb hq7 HOb HXb HS2 H63 hel; have p0 := cellAt g0 HX3.out n1; have p1 := cellAt g1 HX3.out n1; have p2 := cellAt h0 HX3.out n2; have p3 := cellAt h1 HX3.out n2; have p4 := cellAt j0 HX3.out n3; have p5 := cellAt j1 HX3.out n3; have pl1 := ltAt n1 HX3.out; have pl2 := ltAt n2 HX3.out; have pl3 := ltAt n3 HX3.out)
   | fail)
  go_wp2_with fail
  refine (Out15_any An Ae nn cn ce es u 6 X3 (Hr.out.at HX3.out) (by omega)).mono ?_
  rintro e ya ⟨A1, c1, rfl, hc1, hr1, hb⟩
  have HSa := Lib.hid (hr1)
  have HOa := Lib.hid (own_on HO3.out hb)
  have HXa := Lib.hid (lift HX3.out hb)
  clear p0 p1 p2 p3 p4 p5 pl1 pl2 pl3 hb hc1 hr1
  go_wp2_with fail
  refine (each17_any A1 c1 (outR es u 6) 2 true ya HSa.out (by omega)).mono ?_
  have hel : (eachB (outR es u 6) 2 true).length ≤ es.length := by rw [eachB_len]; omega
  generalize eachB (outR es u 6) 2 true = E4 at *
  rintro e yb ⟨A2, c2, rfl, ho2, hb⟩
  have HS2 := Lib.hid (own_rd' ho2)
  have HOb := Lib.hid (own_on HOa.out hb)
  have HXb := Lib.hid (lift HXa.out hb)
  have hzb := HXb.out.size
  have h63 : m3 + E4.length ≤ maxLen := by unfold maxLen; omega
  have hby : (m3 + E4.length) * 32 ≤ 140737488355328 := by omega
  have hm4 : m3 + E4.length ≤ 4 * es.length := by omega
  have H63 := Lib.hid (And.intro h63 hby)
  clear ho2 hb h63 hby HSa HOa HXa
  go_wp2_with (first
   | (at_builtin; refine wpList_append_rd _ (by rfl) (.tmp 37) (.tmp 42) 90 (by rfl) W1.heap.size 93 i0 _ 3 32 Tryz.underlying90 hi hz0 hz1 hz2 rfl (by decide) _ (m3) ((((([] : List Value) ++ brsC E1) ++ brsC E2) ++ brsC E3)) (by rfl) HOb.out _ A2 E4.length c2 (brsC E4) (by rfl) HS2.out (one_brsC _) H63.out.1 H63.out.2 hzb ?_; intro A7 c7 X4 ho7 hg7 hat7; have HX4 := Lib.hid (HXb.out.grown hg7 hzb (fun g hg => (HOb.out.lt g hg).1)); generalize hq7 : m3 + E4.length = m4 at *; have HM4 := Lib.hid hq7; have HO4 := Lib.hid ho7; clear ho7 hg7 hat7 hzb hq7 HOb HXb HS2 H63 hel; have p0 := cellAt g0 HX4.out n1; have p1 := cellAt g1 HX4.out n1; have p2 := cellAt h0 HX4.out n2; have p3 := cellAt h1 HX4.out n2; have p4 := cellAt j0 HX4.out n3; have p5 := cellAt j1 HX4.out n3; have pl1 := ltAt n1 HX4.out; have pl2 := ltAt n2 HX4.out; have pl3 := ltAt n3 HX4.out)
   | fail)
  go_wp2_with fail
  refine (In15o_any An Ae nn cn ce es u 6 X4 (Hr.out.at HX4.out) (by omega)).mono ?_
  rintro e ya ⟨A1, c1, rfl, ho1, hb⟩
  have HSa := Lib.hid (own_rd' ho1)
  have HOa := Lib.hid (own_on HO4.out hb)
  have HXa := Lib.hid (lift HX4.out hb)
  clear p0 p1 p2 p3 p4 p5 pl1 pl2 pl3 hb ho1
  go_wp2_with fail
  refine (each17_any A1 c1 (inR es u 6) 2 true ya HSa.out (by omega)).mono ?_
  have hel : (eachB (inR es u 6) 2 true).length ≤ es.length := by rw [eachB_len]; omega
  generalize eachB (inR es u 6) 2 true = E5 at *
  rintro e yb ⟨A2, c2, rfl, ho2, hb⟩
  have HS2 := Lib.hid (own_rd' ho2)
  have HOb := Lib.hid (own_on HOa.out hb)
  have HXb := Lib.hid (lift HXa.out hb)
  have hzb := HXb.out.size
  have h63 : m4 + E5.length ≤ maxLen := by unfold maxLen; omega
  have hby : (m4 + E5.length) * 32 ≤ 140737488355328 := by omega
  have hm5 : m4 + E5.length ≤ 5 * es.length := by omega
  have H63 := Lib.hid (And.intro h63 hby)
  clear ho2 hb h63 hby HSa HOa HXa
  go_wp2_with (first
   | (at_builtin; refine wpList_append_rd _ (by rfl) (.tmp 44) (.tmp 49) 90 (by rfl) W1.heap.size 93 i0 _ 3 32 Tryz.underlying90 hi hz0 hz1 hz2 rfl (by decide) _ (m4) (((((([] : List Value) ++ brsC E1) ++ brsC E2) ++ brsC E3) ++ brsC E4)) (by rfl) HOb.out _ A2 E5.length c2 (brsC E5) (by rfl) HS2.out (one_brsC _) H63.out.1 H63.out.2 hzb ?_; intro A7 c7 X5 ho7 hg7 hat7; have HX5 := Lib.hid (HXb.out.grown hg7 hzb (fun g hg => (HOb.out.lt g hg).1)); generalize hq7 : m4 + E5.length = m5 at *; have HM5 := Lib.hid hq7; have HO5 := Lib.hid ho7; clear ho7 hg7 hat7 hzb hq7 HOb HXb HS2 H63 hel; have p0 := cellAt g0 HX5.out n1; have p1 := cellAt g1 HX5.out n1; have p2 := cellAt h0 HX5.out n2; have p3 := cellAt h1 HX5.out n2; have p4 := cellAt j0 HX5.out n3; have p5 := cellAt j1 HX5.out n3; have pl1 := ltAt n1 HX5.out; have pl2 := ltAt n2 HX5.out; have pl3 := ltAt n3 HX5.out)
   | fail)
  go_wp2_with fail
  obtain ⟨ovr, hovr⟩ : ∃ v, v = (Value.slice A7 m5 c7) := ⟨_, rfl⟩
  have hrb : ∀ b, ovr.ownBlock = some b → W1.heap.size ≤ b ∧ b < X5.heap.size := fun b hb => by rw [hovr] at hb; exact HO5.out.lt b hb
  have HT := Lib.hid (fun y (hk : Keeps (OffB X5 ovr) X5 y) => (HX5.out.trans (hk.below (B := W1.heap.size) (fun j hj => ⟨by have := HX5.out.size; omega, fun e => by have := (hrb _ e).1; omega⟩))))
  have o1 : ¬ ovr.ownBlock = some w.heap.size := fun e => by have := (hrb _ e).1; omega
  have o2 : ¬ ovr.ownBlock = some (w.heap.size + 1) := fun e => by have := (hrb _ e).1; omega
  have o3 : ¬ ovr.ownBlock = some (w.heap.size + 1 + 1) := fun e => by have := (hrb _ e).1; omega
  have HOv := Lib.hid hovr
  have hal : ((inwS es u 1 ++ inwS es u 4) ++ inwS es u 5).length ≤ 3 * es.length := by rw [List.length_append, List.length_append]; have := inwS_le es u 1; have := inwS_le es u 4; have := inwS_le es u 5; omega
  have HAl := Lib.hid (fun W hr => along17_any An Ae nn cn ce es u W hr hl)
  generalize ((inwS es u 1 ++ inwS es u 4) ++ inwS es u 5) = FF at *
  have hfl := List.length_filter_le (upB up half) FF
  have HTh := Lib.hid (fun A c W hr hu hh => there17_any A Au Ah c cu ch FF up half W hr (by omega) hu hh)
  generalize FF.filter (upB up half) = GG at *
  have hel : (eachB GG 3 true).length ≤ 3 * es.length := by rw [eachB_len]; omega
  have HEc := Lib.hid (fun A c W hr => each17_any A c GG 3 true W hr (by omega))
  generalize eachB GG 3 true = E6 at *
  have h63 : m5 + E6.length ≤ maxLen := by unfold maxLen; omega
  have hby : (m5 + E6.length) * 32 ≤ 140737488355328 := by omega
  have H63 := Lib.hid (And.intro h63 hby)
  clear h63 hby hovr hrb hal hfl
  try go_wp2_with fail
  refine wp_region_held_drew (S := fun w' => Keeps (OffB X5 ovr) X5 w') (by kernel_rfl) (OffB.below (Below.drew (Below.refl _ _))) (fun hHeld => ?_)
  refine tV 0 ?_ ?zq ?_; (case zq => rintro _ -; go_simp; try with_reducible rfl); try simp only [Act.put, zn1, zn2, zn3]
  refine tV 1 ?_ ?zq ?_; (case zq => intro w' hSw; have hCell := fun (b o : Nat) (h : b < X5.heap.size) (h2 : ¬ ovr.ownBlock = some b) => World.cell?_of_block (a := ⟨b, o, none⟩) (hSw.block b ⟨h, h2⟩); clear hSw; go_simp; try with_reducible rfl); try simp only [Act.put, zn1, zn2, zn3]
  refine tV 2 ?_ ?zq ?_; (case zq => rintro _ -; go_simp; try with_reducible rfl); try simp only [Act.put, zn1, zn2, zn3]
  refine tV 3 ?_ ?zq ?_; (case zq => intro w' hSw; have hCell := fun (b o : Nat) (h : b < X5.heap.size) (h2 : ¬ ovr.ownBlock = some b) => World.cell?_of_block (a := ⟨b, o, none⟩) (hSw.block b ⟨h, h2⟩); clear hSw; go_simp; try with_reducible rfl); try simp only [Act.put, zn1, zn2, zn3]
  refine tV 5 ?_ ?zq ?_; (case zq => intro w' hSw; have hCell := fun (b o : Nat) (h : b < X5.heap.size) (h2 : ¬ ovr.ownBlock = some b) => World.cell?_of_block (a := ⟨b, o, none⟩) (hSw.block b ⟨h, h2⟩); clear hSw; go_simp; try with_reducible rfl); try simp only [Act.put, zn1, zn2, zn3]
  refine tV 7 ?_ ?zq ?_; (case zq => rintro _ -; go_simp; try with_reducible rfl); try simp only [Act.put, zn1, zn2, zn3]
  refine tV 8 ?_ ?zq ?_; (case zq => intro w' hSw; have hCell := fun (b o : Nat) (h : b < X5.heap.size) (h2 : ¬ ovr.ownBlock = some b) => World.cell?_of_block (a := ⟨b, o, none⟩) (hSw.block b ⟨h, h2⟩); clear hSw; go_simp; try with_reducible rfl); try simp only [Act.put, zn1, zn2, zn3]
  refine ready_one (i := 4) rfl (by kernel_rfl) (fun K hK => ?_)
  go_simp
  refine (HAl.out _ (Hr.out.at (HT.out _ hHeld))).mono ?_
  rintro e y1 ⟨A1, c1, rfl, ho1, hb⟩
  have HS1 := Lib.hid (own_rd' ho1)
  have HP1 := Lib.hid (own_on (w := X5.drew) HO5.out hb)
  have hS := hHeld.then (fun _ hj => hj.1) hb
  clear ho1 hb
  refine hK.out _ _ ?_ (fun hHeld2 => ?_)
  ·(try dsimp only); exact hS
  clear hK K hHeld; have hHeld := hHeld2; clear hHeld2; (try simp only [Act.put, zn1, zn2, zn3])
  refine ready_one (i := 6) rfl (by kernel_rfl) (fun K hK => ?_)
  go_simp
  refine (HTh.out A1 c1 _ HS1.out (Hu.out.at (HT.out _ hHeld)) (Hh.out.at (HT.out _ hHeld))).mono ?_
  rintro e y2 ⟨A2, c2, rfl, ho2, hb⟩
  have HS2 := Lib.hid (own_rd' ho2)
  have HP2 := Lib.hid (own_on HP1.out hb)
  have hS := hHeld.then (fun _ hj => hj.1) hb
  clear ho2 hb
  refine hK.out _ _ ?_ (fun hHeld2 => ?_)
  ·(try dsimp only); exact hS
  clear hK K hHeld; have hHeld := hHeld2; clear hHeld2; (try simp only [Act.put, zn1, zn2, zn3])
  refine ready_one (i := 9) rfl (by kernel_rfl) (fun K hK => ?_)
  go_simp
  refine (HEc.out A2 c2 _ HS2.out).mono ?_
  rintro e y3 ⟨A3, c3, rfl, ho3, hb⟩
  have HS3 := Lib.hid (own_rd' ho3)
  have HP3 := Lib.hid (own_on HP2.out hb)
  have hS := hHeld.then (fun _ hj => hj.1) hb
  have hz3 := Nat.le_trans (HT.out _ hS).size (Nat.le_refl _)
  clear ho3 hb
  refine hK.out _ _ ?_ (fun hHeld2 => ?_)
  ·(try dsimp only); exact hS
  clear hK K hHeld; have hHeld := hHeld2; clear hHeld2; (try simp only [Act.put, zn1, zn2, zn3])
  refine ready_one (i := 10) rfl (by kernel_rfl) (fun K hK => ?_)
  refine step_append_rd _ (by rfl) (.tmp 59) (.tmp 68) 90 (by rfl) W1.heap.size 93 i0 _ 3 32 Tryz.underlying90 hi hz0 hz1 hz2 rfl (by decide) _ (m5) ((((((([] : List Value) ++ brsC E1) ++ brsC E2) ++ brsC E3) ++ brsC E4) ++ brsC E5)) (by rfl) HP3.out _ A3 E6.length c3 (brsC E6) (by rfl) HS3.out (one_brsC _) H63.out.1 H63.out.2 hz3 ?_
  intro A9 c9 w9 ho9 hg9 hat9
  rw [← HOv.out] at hg9
  have hS := OffB.grown hHeld hg9
  have HO9 := Lib.hid ho9
  clear ho9 hg9 hat9
  refine hK.out _ _ ?_ (fun hHeld2 => ?_)
  ·(try dsimp only); exact hS
  clear hK K hHeld; have hHeld := hHeld2; clear hHeld2; (try simp only [Act.put, zn1, zn2, zn3])
  refine tV 11 ?_ ?zq ?_; (case zq => rintro _ -; go_simp; try with_reducible rfl); try simp only [Act.put, zn1, zn2, zn3]
  refine wpAnyH_done (by kernel_rfl) ?_ _
  have HB9 := Lib.hid (lift HB1.out (HT.out _ hHeld))
  go_wp2_with fail
  go_ret
  unfold OwnR
  rw [HF.out]
  have hn5 : ((E1 ++ (E2 ++ (E3 ++ (E4 ++ E5)))) ++ E6).length = m5 + E6.length := by simp only [List.length_append]; have := HM1.out; have := HM2.out; have := HM3.out; have := HM4.out; have := HM5.out; omega
  have h5 := own_base HO9.out HB1.out.size
  rw [show ((((([] ++ brsC E1) ++ brsC E2) ++ brsC E3) ++ brsC E4) ++ brsC E5) ++ brsC E6 = brsC ((E1 ++ (E2 ++ (E3 ++ (E4 ++ E5)))) ++ E6) by simp only [brsC_app, List.nil_append, List.append_assoc]] at h5
  rw [hn5]
  exact ⟨A9, c9, rfl, h5, HB9.out⟩
 ·have HF := Lib.hid (bring_no (es := es) (up := up) (half := half) (u := u) h1 h2 h3)
  have b1 : (t == 1) = false := by simpa using h1
  have b2 : (t == 2) = false := by simpa using h2
  have b3 : (t == 3) = false := by simpa using h3
  clear h1 h2 h3
  go_wp2_with fail
  go_ret
  unfold OwnR
  rw [HF.out]
  exact ⟨none, 0, rfl, World.ownsRow_nil _ _ _ _, bq2⟩
end Od
end Go.Proofs.YtbllehjhmfehbaaGreat
end
