/- My texts, joined for the claim: DiskDropsProof. -/
import Derived.Test.YtgfdcmlmgeoimaaGreatZB14
import Derived.Test.YtgfdcmlmgeoimaaGreatZDiskDrops0

section
/- The statement DiskDrops: the law returns true at every input, and its arguments read behind the call as before. No conditions. -/
namespace Go.Proofs.YtgfdcmlmgeoimaaGreat.diskDrops
open Go.ChangeShapes Go.WideShapes Go.ChangeAt Go.RowKit

theorem params (t : TypeId) (ht : t ∈ Tryz.f6.params.toList) : Tryz.prog.readableRec t = true ∧ t < Tryz.prog.types.size := by
  rw [Tryz.params6] at ht
  simp only [List.mem_cons, List.not_mem_nil, or_false] at ht
  rcases ht with rfl | rfl
  · exact ⟨by kernel_rfl, of_decide_eq_true (by kernel_rfl)⟩
  · exact ⟨by kernel_rfl, of_decide_eq_true (by kernel_rfl)⟩

set_option maxRecDepth 100000 in
theorem lifted (os : Os) (started : os.Started) (H : Type) (enc : TypeId × Value → H) :
    ReturnsInHanded {} Tryz.checked os 6 .any (Rows.diskDropsSpec.pre6 enc Tryz.prog Tryz.f6 Rows.diskDropsRow.domain false) (Rows.diskDropsSpec.post enc Tryz.prog Tryz.f6 false true false false) := by
  refine returnsInHanded_of_change_sized (C := Tryz.checked) own started (by kernel_rfl) Tryz.func6
    (ChangeSpec.witness6 (enc := enc) (C := Tryz.checked) false ⟨#[], #[.slice none 0 0, .string ByteArray.empty], []⟩ 8 (by kernel_rfl) (by kernel_rfl) (by kernel_rfl) (by kernel_rfl)) ?_
  intro W base args ds gs before hval0 hW hcnd hsz0 _
  have hval : ∀ (j : Nat) t v, Tryz.f6.params[j]? = some t → args[j]? = some v → Value.okWide Tryz.prog W .any base t v := hval0
  have hW' := hW
  obtain ⟨p, q, hA0, hV, rfl, hfz, hnd⟩ := hW
  have hA : DataW.TrodAll enc Tryz.prog W 0 (fun _ => true) true Tryz.f6.params.toList args.toList ds p := hA0
  rw [Tryz.params6] at hA hval
  obtain ⟨v0, vs0, d0, ds0, p0, q0, hargs, rfl, rfl, h0, r0⟩ := trodAll_cons hA
  obtain ⟨v1, vs1, d1, ds1, p1, q1, rfl, rfl, rfl, h1, r1⟩ := trodAll_cons r0
  obtain ⟨rfl, rfl, rfl⟩ := trodAll_nil r1
  obtain rfl : args = #[v0, v1] := by cases args; simp_all
  obtain ⟨rfl, rfl⟩ := trodVars_none hV
  have hpost := fun (W' : World) (hb : Below W.heap.size W W') => law_post (s := Rows.diskDropsSpec) (tb := 4) laid params rfl rfl Tryz.underlying4 hW' rfl hb
  have hsz : (DataW.weightsEach Tryz.prog [22, 9] [d0, d1]).all (· ≤ reachBytes) = true := hsz0
  obtain ⟨A0, c0, a0, rfl, hc0, hf0, hl0⟩ := open_fls (hval 0 22 v0 rfl rfl) h0 (light_arg hsz (j := 0) rfl rfl)
  obtain ⟨a1, rfl, w1⟩ := open_str_arg (hval 1 9 v1 rfl rfl) h1 (light_arg hsz (j := 1) rfl rfl)
  refine (Od.diskDrops_any A0 c0 a0 a1 W hf0 hl0 w1).mono fun e W' ⟨he, hb⟩ => ?_
  subst he
  exact ⟨_, rfl, hpost W' hb⟩

theorem over : Rows.diskDropsRow.holds Tryz.pinned (OpenSpec.ofChange Rows.diskDropsSpec) :=
  OpenClaim.holds_of_wide 6 Tryz.f6 rfl rfl rfl rfl rfl rfl rfl ⟨rfl, rfl, rfl, rfl, rfl⟩ rfl rfl rfl rfl rfl (by kernel_rfl) Tryz.func6 (by kernel_rfl)
    (of_decide_eq_true (by kernel_rfl)) (by unfold Func.isWrapper; first | (rw [if_pos (by decide +kernel)]; kernel_rfl) | (rw [if_neg (by decide +kernel)]; exact ⟨rfl, rfl⟩))
    (fun os started H enc _ => lifted os started H enc)

theorem proved : Rows.DiskDropsSaid := over
#print axioms proved
end Go.Proofs.YtgfdcmlmgeoimaaGreat.diskDrops
end
