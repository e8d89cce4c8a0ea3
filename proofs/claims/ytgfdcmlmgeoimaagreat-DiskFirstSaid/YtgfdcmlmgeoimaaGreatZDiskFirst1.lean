/- My texts, joined for the claim: DiskFirstProof. -/
import Derived.Test.YtgfdcmlmgeoimaaGreatZB14
import Derived.Test.YtgfdcmlmgeoimaaGreatZDiskFirst0

section
/- The statement DiskFirst: the law returns true at every input, and its arguments read behind the call as before. No conditions. -/
namespace Go.Proofs.YtgfdcmlmgeoimaaGreat.diskFirst
open Go.ChangeShapes Go.WideShapes Go.ChangeAt Go.RowKit

theorem params (t : TypeId) (ht : t ∈ Tryz.f5.params.toList) : Tryz.prog.readableRec t = true ∧ t < Tryz.prog.types.size := by
  rw [Tryz.params5] at ht
  simp only [List.mem_cons, List.not_mem_nil, or_false] at ht
  rcases ht with rfl | rfl | rfl | rfl
  · exact ⟨by kernel_rfl, of_decide_eq_true (by kernel_rfl)⟩
  · exact ⟨by kernel_rfl, of_decide_eq_true (by kernel_rfl)⟩
  · exact ⟨by kernel_rfl, of_decide_eq_true (by kernel_rfl)⟩
  · exact ⟨by kernel_rfl, of_decide_eq_true (by kernel_rfl)⟩

set_option maxRecDepth 100000 in
theorem lifted (os : Os) (started : os.Started) (H : Type) (enc : TypeId × Value → H) :
    ReturnsInHanded {} Tryz.checked os 5 .any (Rows.diskFirstSpec.pre6 enc Tryz.prog Tryz.f5 Rows.diskFirstRow.domain false) (Rows.diskFirstSpec.post enc Tryz.prog Tryz.f5 false true false false) := by
  refine returnsInHanded_of_change_sized (C := Tryz.checked) own started (by kernel_rfl) Tryz.func5
    (ChangeSpec.witness6 (enc := enc) (C := Tryz.checked) false ⟨#[], #[.slice none 0 0, .string ByteArray.empty, .string ByteArray.empty, .string ByteArray.empty], []⟩ 8 (by kernel_rfl) (by kernel_rfl) (by kernel_rfl) (by kernel_rfl)) ?_
  intro W base args ds gs before hval0 hW hcnd hsz0 _
  have hval : ∀ (j : Nat) t v, Tryz.f5.params[j]? = some t → args[j]? = some v → Value.okWide Tryz.prog W .any base t v := hval0
  have hW' := hW
  obtain ⟨p, q, hA0, hV, rfl, hfz, hnd⟩ := hW
  have hA : DataW.TrodAll enc Tryz.prog W 0 (fun _ => true) true Tryz.f5.params.toList args.toList ds p := hA0
  rw [Tryz.params5] at hA hval
  obtain ⟨v0, vs0, d0, ds0, p0, q0, hargs, rfl, rfl, h0, r0⟩ := trodAll_cons hA
  obtain ⟨v1, vs1, d1, ds1, p1, q1, rfl, rfl, rfl, h1, r1⟩ := trodAll_cons r0
  obtain ⟨v2, vs2, d2, ds2, p2, q2, rfl, rfl, rfl, h2, r2⟩ := trodAll_cons r1
  obtain ⟨v3, vs3, d3, ds3, p3, q3, rfl, rfl, rfl, h3, r3⟩ := trodAll_cons r2
  obtain ⟨rfl, rfl, rfl⟩ := trodAll_nil r3
  obtain rfl : args = #[v0, v1, v2, v3] := by cases args; simp_all
  obtain ⟨rfl, rfl⟩ := trodVars_none hV
  have hpost := fun (W' : World) (hb : Below W.heap.size W W') => law_post (s := Rows.diskFirstSpec) (tb := 4) laid params rfl rfl Tryz.underlying4 hW' rfl hb
  have hsz : (DataW.weightsEach Tryz.prog [22, 9, 9, 9] [d0, d1, d2, d3]).all (· ≤ reachBytes) = true := hsz0
  obtain ⟨A0, c0, a0, rfl, hc0, hf0, hl0⟩ := open_fls (hval 0 22 v0 rfl rfl) h0 (light_arg hsz (j := 0) rfl rfl)
  obtain ⟨a1, rfl, w1⟩ := open_str_arg (hval 1 9 v1 rfl rfl) h1 (light_arg hsz (j := 1) rfl rfl)
  obtain ⟨a2, rfl, w2⟩ := open_str_arg (hval 2 9 v2 rfl rfl) h2 (light_arg hsz (j := 2) rfl rfl)
  obtain ⟨a3, rfl, w3⟩ := open_str_arg (hval 3 9 v3 rfl rfl) h3 (light_arg hsz (j := 3) rfl rfl)
  refine (Od.diskFirst_any A0 c0 a0 a1 a2 a3 W hf0 hl0 w1 w2 w3).mono fun e W' ⟨he, hb⟩ => ?_
  subst he
  exact ⟨_, rfl, hpost W' hb⟩

theorem over : Rows.diskFirstRow.holds Tryz.pinned (OpenSpec.ofChange Rows.diskFirstSpec) :=
  OpenClaim.holds_of_wide 5 Tryz.f5 rfl rfl rfl rfl rfl rfl rfl ⟨rfl, rfl, rfl, rfl, rfl⟩ rfl rfl rfl rfl rfl (by kernel_rfl) Tryz.func5 (by kernel_rfl)
    (of_decide_eq_true (by kernel_rfl)) (by unfold Func.isWrapper; first | (rw [if_pos (by decide +kernel)]; kernel_rfl) | (rw [if_neg (by decide +kernel)]; exact ⟨rfl, rfl⟩))
    (fun os started H enc _ => lifted os started H enc)

theorem proved : Rows.DiskFirstSaid := over
#print axioms proved
end Go.Proofs.YtgfdcmlmgeoimaaGreat.diskFirst
end
