/- My texts, joined for the claim: TransAllProof. -/
import Derived.Test.YtbllehjhmfehbaaGreatZU16

section
/- The statement TransAll: the law returns true at every input, and its arguments read behind the call as before. No conditions. -/
namespace Go.Proofs.YtbllehjhmfehbaaGreat.transAll
open Go.ChangeShapes Go.WideShapes Go.ChangeAt Go.RowKit

theorem params (t : TypeId) (ht : t ∈ Tryz.f9.params.toList) : Tryz.prog.readableRec t = true ∧ t < Tryz.prog.types.size := by
  rw [Tryz.params9] at ht
  simp only [List.mem_cons, List.not_mem_nil, or_false] at ht
  rcases ht with rfl | rfl | rfl | rfl
  · exact ⟨by kernel_rfl, of_decide_eq_true (by kernel_rfl)⟩
  · exact ⟨by kernel_rfl, of_decide_eq_true (by kernel_rfl)⟩
  · exact ⟨by kernel_rfl, of_decide_eq_true (by kernel_rfl)⟩
  · exact ⟨by kernel_rfl, of_decide_eq_true (by kernel_rfl)⟩

set_option maxRecDepth 100000 in
theorem lifted (os : Os) (started : os.Started) (H : Type) (enc : TypeId × Value → H) :
    ReturnsInHanded {} Tryz.checked os 9 .any (Rows.transAllSpec.pre6 enc Tryz.prog Tryz.f9 Rows.transAllRow.domain false) (Rows.transAllSpec.post enc Tryz.prog Tryz.f9 false true false false) := by
  refine returnsInHanded_of_change_sized (C := Tryz.checked) own started (by kernel_rfl) Tryz.func9
    (ChangeSpec.witness6 (enc := enc) (C := Tryz.checked) false ⟨#[], #[.agg #[.slice none 0 0, .slice none 0 0], .agg #[.slice none 0 0, .slice none 0 0], .string ByteArray.empty, .int .i64 0], []⟩ 8 (by kernel_rfl) (by kernel_rfl) (by kernel_rfl) (by kernel_rfl)) ?_
  intro W base args ds gs before hval0 hW hcnd hsz0 _
  have hval : ∀ (j : Nat) t v, Tryz.f9.params[j]? = some t → args[j]? = some v → Value.okWide Tryz.prog W .any base t v := hval0
  have hW' := hW
  obtain ⟨p, q, hA0, hV, rfl, hfz, hnd⟩ := hW
  have hA : DataW.TrodAll enc Tryz.prog W 0 (fun _ => true) true Tryz.f9.params.toList args.toList ds p := hA0
  rw [Tryz.params9] at hA hval
  obtain ⟨v0, vs0, d0, ds0, p0, q0, hargs, rfl, rfl, h0, r0⟩ := trodAll_cons hA
  obtain ⟨v1, vs1, d1, ds1, p1, q1, rfl, rfl, rfl, h1, r1⟩ := trodAll_cons r0
  obtain ⟨v2, vs2, d2, ds2, p2, q2, rfl, rfl, rfl, h2, r2⟩ := trodAll_cons r1
  obtain ⟨v3, vs3, d3, ds3, p3, q3, rfl, rfl, rfl, h3, r3⟩ := trodAll_cons r2
  obtain ⟨rfl, rfl, rfl⟩ := trodAll_nil r3
  obtain rfl : args = #[v0, v1, v2, v3] := by cases args; simp_all
  obtain ⟨rfl, rfl⟩ := trodVars_none hV
  have hpost := fun (W' : World) (hb : Below W.heap.size W W') => law_post (s := Rows.transAllSpec) (tb := 4) laid params rfl rfl Tryz.underlying4 hW' rfl hb
  have hsz : (DataW.weightsEach Tryz.prog [25, 28, 9, 3] [d0, d1, d2, d3]).all (· ≤ reachBytes) = true := hsz0
  obtain ⟨An0, Ae0, cn0, ce0, ns0, es0, rfl, hg0⟩ := open_gi (hval 0 25 v0 rfl rfl) h0 (light_arg hsz (j := 0) rfl rfl)
  obtain ⟨Au1, Ah1, cu1, ch1, up1, half1, rfl, hn1, ku1, kh1⟩ := open_now (hval 1 28 v1 rfl rfl) h1 (light_arg hsz (j := 1) rfl rfl)
  obtain ⟨a2, rfl, w2⟩ := open_str_arg (hval 2 9 v2 rfl rfl) h2 (light_arg hsz (j := 2) rfl rfl)
  obtain ⟨a3, rfl, rfl, rfl, w3⟩ := open_int Tryz.underlying3 (hval 3 3 v3 rfl rfl) h3
  refine (Od.transAll_any An0 Ae0 Au1 Ah1 cn0 ce0 cu1 ch1 ns0 es0 up1 half1 a2 a3 W hg0 hn1 (okJ_of w2 w3)).mono fun e W' ⟨he, hb⟩ => ?_
  subst he
  exact ⟨_, rfl, hpost W' hb⟩

theorem over : Rows.transAllRow.holds Tryz.pinned (OpenSpec.ofChange Rows.transAllSpec) :=
  OpenClaim.holds_of_wide 9 Tryz.f9 rfl rfl rfl rfl rfl rfl rfl ⟨rfl, rfl, rfl, rfl, rfl⟩ rfl rfl rfl rfl rfl (by kernel_rfl) Tryz.func9 (by kernel_rfl)
    (of_decide_eq_true (by kernel_rfl)) (by unfold Func.isWrapper; first | (rw [if_pos (by decide +kernel)]; kernel_rfl) | (rw [if_neg (by decide +kernel)]; exact ⟨rfl, rfl⟩))
    (fun os started H enc _ => lifted os started H enc)

theorem proved : Rows.TransAllSaid := over
#print axioms proved
end Go.Proofs.YtbllehjhmfehbaaGreat.transAll
end
