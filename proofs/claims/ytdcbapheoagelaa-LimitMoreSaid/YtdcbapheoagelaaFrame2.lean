/- A slice of numbers that came in, with its capacity. -/
import Derived.Test.YtdcbapheoagelaaFrame
namespace Go.Proofs.Ytdcbapheoagelaa
open Go.ChangeShapes Go.WideShapes Go.ChangeAt Go.RowKit
section
variable {H : Type} {enc : TypeId × Value → H} {P : Program}
/-- An argument that is a slice of numbers. -/
theorem open_rd_ints_cap {W : World} {base : Nat} {t e : TypeId} {v : Value} {d : DataW H} {p : List MemPlace} (ht : P.underlying t = some (.slice e)) (he : P.underlying e = some (.int .i64)) (hc : P.cellsOf e = 1)
    (hok : Value.okWide P W .any base t v) (h : DataW.Trod enc P W 0 (fun _ => true) true t v d p) : ∃ (A : Option Addr) (c : Nat) (xs : List Int), v = .slice A xs.length c ∧ Rd W W.heap.size 1 A xs.length (ints xs) ∧ xs.length ≤ c ∧ ∀ x ∈ xs, (Lit.int .i64 x).wf = true := by
  obtain ⟨a0, len, cap, rfl⟩ := okWide_slice ht hok
  obtain ⟨fuel, hf⟩ := h
  rcases open_ints ht he hc hf with ⟨hcs, _⟩ | ⟨a, len', cap', zs, hcs, _, hl, hm, hz, hx, hcell, hwz⟩
  · simp only [Value.cells, List.cons.injEq, and_true] at hcs
    injection hcs with h1 h2 h3
    subst h1 h2 h3
    exact ⟨none, 0, [], rfl, Rd.none_, Nat.le_refl _, fun x hx => by cases hx⟩
  · simp only [Value.cells, List.cons.injEq, and_true] at hcs
    injection hcs with h1 h2 h3
    subst h1 h2 h3
    have hz' : zs.length = cap := hz
    have hlen : (zs.take len).length = len := by simp; omega
    refine ⟨some a, cap, zs.take len, by rw [hlen], ⟨by simp, fun hn => ?_⟩, by omega, fun x hx => hwz x (List.mem_of_mem_take hx)⟩
    rw [hlen] at hn
    have hc0 := hcell 0 (by omega)
    have hb : a.block < W.heap.size := by simpa [Addr.add] using cell_lt hc0
    have hsp : a.spot = none := by
      cases hs : a.spot with
      | none => rfl
      | some s =>
        exfalso
        simp only [Addr.add, if_pos, World.cell?, hs] at hc0
        revert hc0
        split <;> simp
    refine ⟨a, rfl, hb, hsp, fun j hj => ?_⟩
    have hj' : j < len := by rw [hlen] at hj; omega
    have := hcell j (by omega)
    have hadd : a.add j = ⟨a.block, a.off + j, none⟩ := by
      unfold Addr.add
      split
      · rename_i h0; subst h0; cases a; simp_all
      · rfl
    rw [hadd] at this
    rw [this]
    simp [ints, hj', List.getD, show j < zs.length from by omega]
end

end Go.Proofs.Ytdcbapheoagelaa
