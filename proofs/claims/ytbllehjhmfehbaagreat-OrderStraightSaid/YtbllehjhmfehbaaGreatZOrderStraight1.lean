/- My texts, joined for the claim: OrderStraightProof. -/
import Derived.Test.YtbllehjhmfehbaaGreatZC5

section
/- The statement OrderStraight: the law returns true at every input, and its arguments read behind the call as before. No conditions. -/
namespace Go.Proofs.YtbllehjhmfehbaaGreat.orderStraight
open Go.ChangeShapes Go.WideShapes Go.ChangeAt Go.RowKit

theorem params (t : TypeId) (ht : t ∈ Tryz.f13.params.toList) : Tryz.prog.readableRec t = true ∧ t < Tryz.prog.types.size := by
  rw [Tryz.params13] at ht
  simp only [List.mem_cons, List.not_mem_nil, or_false] at ht
  rcases ht with rfl
  · exact ⟨by kernel_rfl, of_decide_eq_true (by kernel_rfl)⟩

set_option maxRecDepth 100000 in
theorem lifted (os : Os) (started : os.Started) (H : Type) (enc : TypeId × Value → H) :
    ReturnsInHanded {} Tryz.checked os 13 .any (Rows.orderStraightSpec.pre6 enc Tryz.prog Tryz.f13 Rows.orderStraightRow.domain false) (Rows.orderStraightSpec.post enc Tryz.prog Tryz.f13 false true false false) := by
  refine returnsInHanded_of_change_sized (C := Tryz.checked) own started (by kernel_rfl) Tryz.func13
    (ChangeSpec.witness6 (enc := enc) (C := Tryz.checked) false ⟨#[], #[.agg #[.slice none 0 0, .slice none 0 0]], []⟩ 8 (by kernel_rfl) (by kernel_rfl) (by kernel_rfl) (by kernel_rfl)) ?_
  intro W base args ds gs before hval0 hW hcnd hsz0 _
  have hval : ∀ (j : Nat) t v, Tryz.f13.params[j]? = some t → args[j]? = some v → Value.okWide Tryz.prog W .any base t v := hval0
  have hW' := hW
  obtain ⟨p, q, hA0, hV, rfl, hfz, hnd⟩ := hW
  have hA : DataW.TrodAll enc Tryz.prog W 0 (fun _ => true) true Tryz.f13.params.toList args.toList ds p := hA0
  rw [Tryz.params13] at hA hval
  obtain ⟨v0, vs0, d0, ds0, p0, q0, hargs, rfl, rfl, h0, r0⟩ := trodAll_cons hA
  obtain ⟨rfl, rfl, rfl⟩ := trodAll_nil r0
  obtain rfl : args = #[v0] := by cases args; simp_all
  obtain ⟨rfl, rfl⟩ := trodVars_none hV
  have hpost := fun (W' : World) (hb : Below W.heap.size W W') => law_post (s := Rows.orderStraightSpec) (tb := 4) laid params rfl rfl Tryz.underlying4 hW' rfl hb
  have hsz : (DataW.weightsEach Tryz.prog [25] [d0]).all (· ≤ reachBytes) = true := hsz0
  obtain ⟨ns0, es0, ⟨An0, cn0, Ae0, ce0, rfl, hcn0, hce0, hrn0, hre0⟩, kn0, ke0⟩ := open_graph (hval 0 25 v0 rfl rfl) h0 (light_arg hsz (j := 0) rfl rfl)
  refine (Od.orderStraight_any An0 Ae0 cn0 ce0 ns0 es0 W (gin_of hrn0 hre0 kn0 ke0)).mono fun e W' ⟨he, hb⟩ => ?_
  subst he
  exact ⟨_, rfl, hpost W' hb⟩

theorem over : Rows.orderStraightRow.holds Tryz.pinned (OpenSpec.ofChange Rows.orderStraightSpec) :=
  OpenClaim.holds_of_wide 13 Tryz.f13 rfl rfl rfl rfl rfl rfl rfl ⟨rfl, rfl, rfl, rfl, rfl⟩ rfl rfl rfl rfl rfl (by kernel_rfl) Tryz.func13 (by kernel_rfl)
    (of_decide_eq_true (by kernel_rfl)) (by unfold Func.isWrapper; first | (rw [if_pos (by decide +kernel)]; kernel_rfl) | (rw [if_neg (by decide +kernel)]; exact ⟨rfl, rfl⟩))
    (fun os started H enc _ => lifted os started H enc)

theorem proved : Rows.OrderStraightSaid := over
#print axioms proved
end Go.Proofs.YtbllehjhmfehbaaGreat.orderStraight
end
