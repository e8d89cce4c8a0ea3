/- My texts, joined for the claim: DiskTemplateProof. -/
import Derived.Test.YtgfdcmlmgeoimaaGreatZB14
import Derived.Test.YtgfdcmlmgeoimaaGreatZDiskTemplateUpto0

section
/- The statement DiskTemplate: the law returns true at every input, and its arguments read behind the call as before. No conditions. -/
namespace Go.Proofs.YtgfdcmlmgeoimaaGreat.diskTemplate
open Go.ChangeShapes Go.WideShapes Go.ChangeAt Go.RowKit

theorem params (t : TypeId) (ht : t ∈ Tryz.f7.params.toList) : Tryz.prog.readableRec t = true ∧ t < Tryz.prog.types.size := by
  rw [Tryz.params7] at ht
  simp only [List.mem_cons, List.not_mem_nil, or_false] at ht
  rcases ht with rfl | rfl | rfl | rfl
  · exact ⟨by kernel_rfl, of_decide_eq_true (by kernel_rfl)⟩
  · exact ⟨by kernel_rfl, of_decide_eq_true (by kernel_rfl)⟩
  · exact ⟨by kernel_rfl, of_decide_eq_true (by kernel_rfl)⟩
  · exact ⟨by kernel_rfl, of_decide_eq_true (by kernel_rfl)⟩

set_option maxRecDepth 100000 in
theorem lifted (os : Os) (started : os.Started) (H : Type) (enc : TypeId × Value → H) (F : Stop.Interp) :
    ReturnsInHanded {} Tryz.checked os 7 .any ((Rows.OpenSpec.upto Rows.diskTemplateSpec).pre6 enc Tryz.prog Tryz.f7 Rows.diskTemplateUptoRow.domain false) (((Rows.OpenSpec.upto Rows.diskTemplateSpec).at F).post enc Tryz.prog Tryz.f7 false true false false) := by
  refine returnsInHanded_of_cond_sized (C := Tryz.checked) (s := (Rows.OpenSpec.upto Rows.diskTemplateSpec)) (k := Rows.uptoSmall) rfl own started (by kernel_rfl) Tryz.func7
    (OpenSpec.witness (enc := enc) (C := Tryz.checked) (s := (Rows.OpenSpec.upto Rows.diskTemplateSpec)) (k := Rows.uptoSmall) rfl false ⟨#[], #[.slice none 0 0, .string ByteArray.empty, .string ByteArray.empty, .string ByteArray.empty], []⟩ 8 (by kernel_rfl) (by kernel_rfl) (by kernel_rfl)
      (x := ([.nil, .lit (.string []), .lit (.string []), .lit (.string [])], [], [])) (by kernel_rfl) rfl (by kernel_rfl)) ?_
  intro W base args ds gs before hval0 hW hcnd hbulk hsz0 _
  have hval : ∀ (j : Nat) t v, Tryz.f7.params[j]? = some t → args[j]? = some v → Value.okWide Tryz.prog W .any base t v := hval0
  have hW' := hW
  obtain ⟨p, q, hA0, hV, rfl, hfz, hnd⟩ := hW
  have hA : DataW.TrodAll enc Tryz.prog W 0 (fun _ => true) true Tryz.f7.params.toList args.toList ds p := hA0
  rw [Tryz.params7] at hA hval
  obtain ⟨v0, vs0, d0, ds0, p0, q0, hargs, rfl, rfl, h0, r0⟩ := trodAll_cons hA
  obtain ⟨v1, vs1, d1, ds1, p1, q1, rfl, rfl, rfl, h1, r1⟩ := trodAll_cons r0
  obtain ⟨v2, vs2, d2, ds2, p2, q2, rfl, rfl, rfl, h2, r2⟩ := trodAll_cons r1
  obtain ⟨v3, vs3, d3, ds3, p3, q3, rfl, rfl, rfl, h3, r3⟩ := trodAll_cons r2
  obtain ⟨rfl, rfl, rfl⟩ := trodAll_nil r3
  obtain rfl : args = #[v0, v1, v2, v3] := by cases args; simp_all
  obtain ⟨rfl, rfl⟩ := trodVars_none hV
  have hpost := fun (W' : World) (hb : Below W.heap.size W W') => law_post (s := Rows.diskTemplateSpec) (tb := 4) laid params rfl rfl Tryz.underlying4 hW' rfl hb
  have hsz : (DataW.weightsEach Tryz.prog [22, 9, 9, 9] [d0, d1, d2, d3]).all (· ≤ reachBytes) = true := hsz0
  obtain ⟨A0, c0, a0, rfl, hc0, hf0, hl0, hs0⟩ := open_fls_up (hval 0 22 v0 rfl rfl) h0 (light_arg hsz (j := 0) rfl rfl)
  obtain ⟨a1, rfl, w1⟩ := open_str_arg (hval 1 9 v1 rfl rfl) h1 (light_arg hsz (j := 1) rfl rfl)
  obtain ⟨a2, rfl, w2⟩ := open_str_arg (hval 2 9 v2 rfl rfl) h2 (light_arg hsz (j := 2) rfl rfl)
  obtain ⟨a3, rfl, w3⟩ := open_str_arg (hval 3 9 v3 rfl rfl) h3 (light_arg hsz (j := 3) rfl rfl)
  refine (Od.diskTemplate_any A0 c0 a0 a1 a2 a3 W hf0 (short_of hbulk (by simp) hs0) hl0 (by unfold okS47 at w1; omega) w2 w3).mono fun e W' ⟨he, hb⟩ => ?_
  subst he
  exact ⟨_, rfl, hpost W' hb⟩

theorem over : Rows.diskTemplateUptoRow.holds Tryz.pinned (Rows.OpenSpec.upto Rows.diskTemplateSpec) :=
  OpenClaim.holds_of_cond 7 Tryz.f7 rfl rfl rfl rfl rfl rfl rfl ⟨rfl, rfl, rfl, rfl, rfl⟩ rfl rfl rfl rfl rfl (by kernel_rfl) Tryz.func7 (by kernel_rfl)
    (of_decide_eq_true (by kernel_rfl)) (by unfold Func.isWrapper; first | (rw [if_pos (by decide +kernel)]; kernel_rfl) | (rw [if_neg (by decide +kernel)]; exact ⟨rfl, rfl⟩))
    (fun os started H enc _ F => lifted os started H enc F)

theorem proved : Rows.DiskTemplateUptoSaid := over
#print axioms proved
end Go.Proofs.YtgfdcmlmgeoimaaGreat.diskTemplate
end
