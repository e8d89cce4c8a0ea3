/- My texts, joined for the claim: PullMoreProof. -/
import Derived.Test.YtbllehjhmfehbaaGreatZPullMoreUpto0

section
/- The statement PullMore: the law returns true at every input, and its arguments read behind the call as before. No conditions. -/
namespace Go.Proofs.YtbllehjhmfehbaaGreat.pullMore
open Go.ChangeShapes Go.WideShapes Go.ChangeAt Go.RowKit

theorem params (t : TypeId) (ht : t ∈ Tryz.f7.params.toList) : Tryz.prog.readableRec t = true ∧ t < Tryz.prog.types.size := by
  rw [Tryz.params7] at ht
  simp only [List.mem_cons, List.not_mem_nil, or_false] at ht
  rcases ht with rfl | rfl | rfl | rfl | rfl
  · exact ⟨by kernel_rfl, of_decide_eq_true (by kernel_rfl)⟩
  · exact ⟨by kernel_rfl, of_decide_eq_true (by kernel_rfl)⟩
  · exact ⟨by kernel_rfl, of_decide_eq_true (by kernel_rfl)⟩
  · exact ⟨by kernel_rfl, of_decide_eq_true (by kernel_rfl)⟩
  · exact ⟨by kernel_rfl, of_decide_eq_true (by kernel_rfl)⟩

set_option maxRecDepth 100000 in
theorem lifted (os : Os) (started : os.Started) (H : Type) (enc : TypeId × Value → H) (F : Stop.Interp) :
    ReturnsInHanded {} Tryz.checked os 7 .any ((Rows.OpenSpec.upto Rows.pullMoreSpec).pre6 enc Tryz.prog Tryz.f7 Rows.pullMoreUptoRow.domain false) (((Rows.OpenSpec.upto Rows.pullMoreSpec).at F).post enc Tryz.prog Tryz.f7 false true false false) := by
  refine returnsInHanded_of_cond_sized (C := Tryz.checked) (s := (Rows.OpenSpec.upto Rows.pullMoreSpec)) (k := Rows.uptoSmall) rfl own started (by kernel_rfl) Tryz.func7
    (OpenSpec.witness (enc := enc) (C := Tryz.checked) (s := (Rows.OpenSpec.upto Rows.pullMoreSpec)) (k := Rows.uptoSmall) rfl false ⟨#[], #[.agg #[.slice none 0 0, .slice none 0 0], .agg #[.slice none 0 0, .slice none 0 0], .slice none 0 0, .string ByteArray.empty, .int .i64 0], []⟩ 8 (by kernel_rfl) (by kernel_rfl) (by kernel_rfl)
      (x := ([.agg [.nil, .nil], .agg [.nil, .nil], .nil, .lit (.string []), .lit (.int .i64 0)], [], [])) (by kernel_rfl) rfl (by kernel_rfl)) ?_
  intro W base args ds gs before hval0 hW hcnd hbulk hsz0 _
  have hval : ∀ (j : Nat) t v, Tryz.f7.params[j]? = some t → args[j]? = some v → Value.okWide Tryz.prog W .any base t v := hval0
  have hW' := hW
  obtain ⟨p, q, hA0, hV, rfl, hfz, hnd⟩ := hW
  have hA : DataW.TrodAll enc Tryz.prog W 0 (fun _ => true) true Tryz.f7.params.toList args.toList ds p := hA0
  rw [Tryz.params7] at hA hval
  obtain ⟨v0, vs0, d0, ds0, p0, q0, hargs, rfl, rfl, h0, r0⟩ := trodAll_cons hA
  obtain ⟨v1, vs1, d1, ds1, p1, q1, rfl, rfl, rfl, h1, r1⟩ := trodAll_cons r0
  obtain ⟨v2, vs2, d2, ds2, p2, q2, rfl, rfl, rfl, h2, r2⟩ := trodAll_cons r1
  obtain ⟨v3, vs3, d3, ds3, p3, q3, rfl, rfl, rfl, h3, r3⟩ := trodAll_cons r2
  obtain ⟨v4, vs4, d4, ds4, p4, q4, rfl, rfl, rfl, h4, r4⟩ := trodAll_cons r3
  obtain ⟨rfl, rfl, rfl⟩ := trodAll_nil r4
  obtain rfl : args = #[v0, v1, v2, v3, v4] := by cases args; simp_all
  obtain ⟨rfl, rfl⟩ := trodVars_none hV
  have hpost := fun (W' : World) (hb : Below W.heap.size W W') => law_post (s := Rows.pullMoreSpec) (tb := 4) laid params rfl rfl Tryz.underlying4 hW' rfl hb
  have hsz : (DataW.weightsEach Tryz.prog [25, 28, 26, 9, 3] [d0, d1, d2, d3, d4]).all (· ≤ reachBytes) = true := hsz0
  obtain ⟨An0, Ae0, cn0, ce0, ns0, es0, rfl, hg0⟩ := open_gi (hval 0 25 v0 rfl rfl) h0 (light_arg hsz (j := 0) rfl rfl)
  have hv1 := hval 1 28 v1 rfl rfl
  obtain ⟨Au1, Ah1, cu1, ch1, up1, half1, rfl, hn1, ku1, kh1⟩ := open_now (hval 1 28 v1 rfl rfl) h1 (light_arg hsz (j := 1) rfl rfl)
  obtain ⟨A2, c2, a2, rfl, hc2, hr2, w2, hl2⟩ := open_strs (hval 2 26 v2 rfl rfl) h2 (light_arg hsz (j := 2) rfl rfl)
  obtain ⟨a3, rfl, w3⟩ := open_str_arg (hval 3 9 v3 rfl rfl) h3 (light_arg hsz (j := 3) rfl rfl)
  obtain ⟨a4, rfl, rfl, rfl, w4⟩ := open_int Tryz.underlying3 (hval 4 3 v4 rfl rfl) h4
  refine (Od.pullMore_any An0 Ae0 Au1 Ah1 A2 cn0 ce0 cu1 ch1 c2 ns0 es0 up1 half1 a2 a3 a4 W hg0 hn1 hr2 (Nat.le_trans (now_bulk hv1 h1) (bulk_small hbulk (by simp))) (Nat.le_trans (strs_bulk h2) (bulk_small hbulk (by simp))) (okJ_of w3 w4)).mono fun e W' ⟨he, hb⟩ => ?_
  subst he
  exact ⟨_, rfl, hpost W' hb⟩

theorem over : Rows.pullMoreUptoRow.holds Tryz.pinned (Rows.OpenSpec.upto Rows.pullMoreSpec) :=
  OpenClaim.holds_of_cond 7 Tryz.f7 rfl rfl rfl rfl rfl rfl rfl ⟨rfl, rfl, rfl, rfl, rfl⟩ rfl rfl rfl rfl rfl (by kernel_rfl) Tryz.func7 (by kernel_rfl)
    (of_decide_eq_true (by kernel_rfl)) (by unfold Func.isWrapper; first | (rw [if_pos (by decide +kernel)]; kernel_rfl) | (rw [if_neg (by decide +kernel)]; exact ⟨rfl, rfl⟩))
    (fun os started H enc _ F => lifted os started H enc F)

theorem proved : Rows.PullMoreUptoSaid := over
#print axioms proved
end Go.Proofs.YtbllehjhmfehbaaGreat.pullMore
end
