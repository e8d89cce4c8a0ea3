/- My texts, joined for the claim: PNeeds1 PNeedsW PAllM PAllA. -/
import Derived.Test.YtbllehjhmfehbaaGreatZB0
import Derived.Test.YtbllehjhmfehbaaGreatZB9
import Derived.Test.YtbllehjhmfehbaaGreatZB12
import Derived.StillTailTactics
import Derived.Test.YtbllehjhmfehbaaGreatZB8

section
/- The closure of (*closure).needs: who is needed and new is put behind the row. (bel2) -/
namespace Go.Proofs.YtbllehjhmfehbaaGreat
open Go.RowKit Go.Sort Go.Maps
set_option linter.unusedSimpArgs false
namespace Od
def inV (N : List Jp) (k : Jp) : Option Value := if N.contains k = true then some (.bool true) else none
theorem inV_get (N : List Jp) (k : Jp) : (inV N k).getD (.bool false) = .bool (N.contains k) := by
  unfold inV; cases h : N.contains k <;> simp
theorem inV_push (N : List Jp) (k : Jp) : (fun y => if y = k then some (Value.bool true) else inV N y) = inV (N ++ [k]) := by
  funext y
  unfold inV
  by_cases e : y = k
  · subst e; simp
  · rw [if_neg e]
    have : (N ++ [k]).contains y = N.contains y := by
      rw [Bool.eq_iff_iff]
      simp [e]
    rw [this]
structure NMid (first : Jp) (cand N : List Jp) : Prop where
  nd : N.Nodup
  inC : ∀ k ∈ N, k ∈ first :: cand
theorem NMid.len {first : Jp} {cand N : List Jp} (h : NMid first cand N) : N.length ≤ cand.length + 1 := by
  have := nodup_len h.nd h.inC
  simpa using this
theorem NMid.push {first : Jp} {cand N : List Jp} (h : NMid first cand N) {k : Jp} (hk : N.contains k = false) (hc : k ∈ cand) : NMid first cand (N ++ [k]) := by
  have hk' : k ∉ N := by simpa using hk
  refine ⟨?_, fun j hj => ?_⟩
  · rw [List.nodup_append]
    refine ⟨h.nd, by simp, fun a ha b hb e => ?_⟩
    rw [List.mem_singleton] at hb
    exact hk' (by rw [← hb, ← e]; exact ha)
  · rcases List.mem_append.1 hj with hj | hj
    · exact h.inC j hj
    · rw [List.mem_singleton.1 hj]; exact .tail _ hc
/-- What the taker of needs finds. -/
structure NdT (first : Jp) (cand : List Jp) (cB tB cb mw yB base : Nat) (N : List Jp) (i : Nat) (v : Value) (w : World) : Prop where
  cc : w.cell? ⟨cB, 0, none⟩ = some (.pointer (some ⟨cb, 0, none⟩))
  c6 : w.cell? ⟨cb, 6, none⟩ = some (.map (some yB))
  tc : w.cell? ⟨tB, 0, none⟩ = some v
  tf : w.frozen? ⟨tB, 0, none⟩ = false
  row : Tail w base 2 v (N.drop i).length (jpsC (N.drop i))
  mp : MapIs kindJ w yB N.length (inV N)
  mid : NMid first cand N
  le : i ≤ N.length
  sep : ∀ b, v.ownBlock = some b → b ≠ yB ∧ b ≠ tB ∧ b ≠ cB ∧ b ≠ cb ∧ b ≠ mw
structure NdA (cB tB cb mw yB : Nat) : Prop where
  a1 : yB ≠ cB
  a2 : yB ≠ tB
  a3 : yB ≠ cb
  a4 : tB ≠ cB
  a5 : tB ≠ cb
  a6 : tB ≠ mw
  a7 : yB ≠ mw
def NdF (yB tB : Nat) (v : Value) (k : Nat) : Prop := k = yB ∨ k = tB ∨ v.ownBlock = some k
section
variable {first : Jp} {cand : List Jp} {cB tB cb mw yB base i : Nat} {N : List Jp} {v : Value} {w w' : World}
theorem NdT.on (h : NdT first cand cB tB cb mw yB base N i v w) (hb : Below w.heap.size w w') : NdT first cand cB tB cb mw yB base N i v w' := by
  have c : ∀ {b o : Nat} {x : Value}, w.cell? ⟨b, o, none⟩ = some x → w'.cell? ⟨b, o, none⟩ = some x := fun c => cellAt c hb (cell_blk c)
  have hl := cell_blk h.tc
  exact ⟨c h.cc, c h.c6, c h.tc, froAt h.tf hb hl, h.row.on hb, h.mp.on hb, h.mid, h.le, h.sep⟩
theorem NdT.low (h : NdT first cand cB tB cb mw yB base N i v w) (ha : NdA cB tB cb mw yB) {B : Nat} (h1 : B ≤ yB) (h2 : B ≤ tB) (h3 : B ≤ base) : ∀ k, NdF yB tB v k → (B ≤ k ∧ k ≠ cb ∧ k ≠ mw) ∧ k < w.heap.size := by
  rintro k (rfl | rfl | hk)
  · exact ⟨⟨h1, ha.a3, ha.a7⟩, h.mp.lt⟩
  · exact ⟨⟨h2, ha.a5, ha.a6⟩, cell_blk h.tc⟩
  · have h5 := h.row.lt hk
    have h6 := h.sep k hk
    exact ⟨⟨by omega, h6.2.2.2.1, h6.2.2.2.2⟩, h5.2⟩
theorem NdT.put (h : NdT first cand cB tB cb mw yB base N i v w) (ha : NdA cB tB cb mw yB) {k : Jp} (hkn : N.contains k = false) (hc : k ∈ cand) {w5 w7 : World} {A8 : Option Addr} {c8 : Nat}
    (hm5 : MapIs kindJ w5 yB (N.length + 1) (fun y => if y = k then some (.bool true) else inV N y)) (hk5 : Keeps (But w yB) w w5)
    (hown : Tail w7 base 2 (.slice A8 ((N.drop i).length + 1) c8) ((N.drop i).length + 1) (jpsC (N.drop i) ++ jpC k)) (hg : w5.grownBy w7 v.ownBlock)
    (hat : (Value.slice A8 ((N.drop i).length + 1) c8).ownBlock = v.ownBlock ∨ (Value.slice A8 ((N.drop i).length + 1) c8).ownBlock = some (w5.heap.size + 1)) (hmw : mw < w.heap.size) :
    NdT first cand cB tB cb mw yB base (N ++ [k]) i (.slice A8 ((N.drop i).length + 1) c8) (w7.setCell ⟨tB, 0, none⟩ (.slice A8 ((N.drop i).length + 1) c8)) ∧
      TookB (NdF yB tB v) (NdF yB tB (.slice A8 ((N.drop i).length + 1) c8)) w (w7.setCell ⟨tB, 0, none⟩ (.slice A8 ((N.drop i).length + 1) c8)) := by
  have hl1 := cell_blk h.cc
  have hl2 := cell_blk h.c6
  have hl3 := cell_blk h.tc
  simp only at hl1 hl2 hl3
  have hly := h.mp.lt
  have hs5 := hk5.size
  have hs7 := hg.size
  have hsv := h.sep
  have hb : ∀ j, j < w.heap.size → j ≠ yB → j ≠ tB → v.ownBlock ≠ some j → (w7.setCell ⟨tB, 0, none⟩ (.slice A8 ((N.drop i).length + 1) c8)).heap[j]? = w.heap[j]? := fun j hj h1 h2 h3 => by
    rw [(grownBy_setCell w7 ⟨tB, 0, none⟩ (.slice A8 ((N.drop i).length + 1) c8)).block j (by omega) (fun e => h2 (by injection e)), hg.block j (by omega) (fun e => h3 e.symm), hk5.block j ⟨hj, h1⟩]
  have hc' : ∀ {b o : Nat} {x : Value}, w.cell? ⟨b, o, none⟩ = some x → b < w.heap.size → b ≠ yB → b ≠ tB → v.ownBlock ≠ some b → (w7.setCell ⟨tB, 0, none⟩ (.slice A8 ((N.drop i).length + 1) c8)).cell? ⟨b, o, none⟩ = some x := fun c h0 h1 h2 h3 => (World.cell?_of_block (a := ⟨_, _, none⟩) (hb _ h0 h1 h2 h3)).trans c
  have n1 : v.ownBlock ≠ some cB := fun e => (hsv _ e).2.2.1 rfl
  have n2 : v.ownBlock ≠ some cb := fun e => (hsv _ e).2.2.2.1 rfl
  have n3 : v.ownBlock ≠ some tB := fun e => (hsv _ e).2.1 rfl
  have n4 : v.ownBlock ≠ some yB := fun e => (hsv _ e).1 rfl
  have n5 : v.ownBlock ≠ some mw := fun e => (hsv _ e).2.2.2.2 rfl
  have c5 := cellK h.tc hk5 hl3 (fun e => ha.a2 e.symm)
  have f5 := froK h.tf hk5 hl3 (fun e => ha.a2 e.symm)
  have c7 := cell_kept c5 hg (by omega) n3
  have f7 := fro_kept f5 hg (by omega) n3
  have hnew : ∀ b, (Value.slice A8 ((N.drop i).length + 1) c8).ownBlock = some b → v.ownBlock = some b ∨ w.heap.size ≤ b := fun b hb => by
    rcases hat with h0 | h0
    · exact .inl (h0 ▸ hb)
    · rw [h0] at hb; injection hb with hb; exact .inr (by omega)
  have hne : (Value.slice A8 ((N.drop i).length + 1) c8).ownBlock ≠ some tB := fun e => by
    rcases hnew _ e with h0 | h0
    · exact n3 h0
    · omega
  have hdr : (N ++ [k]).drop i = N.drop i ++ [k] := by rw [List.drop_append_of_le_length h.le]
  refine ⟨⟨hc' h.cc hl1 (fun e => ha.a1 e.symm) (fun e => ha.a4 e.symm) n1, hc' h.c6 hl2 (fun e => ha.a3 e.symm) (fun e => ha.a5 e.symm) n2, World.cell?_setCell_same _ _ _ c7, by rw [World.frozen?_setCell]; exact f7, ?_, ?_, h.mid.push hkn hc, by rw [List.length_append]; have := h.le; omega, fun b hb => ?_⟩, ?_, ?_⟩
  · have h0 := hown.kept (grownBy_setCell w7 ⟨tB, 0, none⟩ (.slice A8 ((N.drop i).length + 1) c8)) (fun g h1 h2 => hne (h1.trans h2))
    rw [hdr, List.length_append, jpsC_app, jpsC_one]
    exact h0
  · rw [inV_push] at hm5
    have h0 := (hm5.kept hg (fun e => n4 e.symm)).kept (grownBy_setCell w7 ⟨tB, 0, none⟩ (.slice A8 ((N.drop i).length + 1) c8)) (fun e => ha.a2 (by injection e))
    rw [List.length_append]
    exact h0
  · rcases hnew _ hb with h0 | h0
    · exact hsv _ h0
    · exact ⟨by omega, by omega, by omega, by omega, by omega⟩
  · refine ⟨?_, ?_, ?_, ?_, fun j hj => hb j hj.1 (fun e => hj.2 (.inl e)) (fun e => hj.2 (.inr (.inl e))) (fun e => hj.2 (.inr (.inr e)))⟩
    · exact hg.os.trans hk5.os
    · exact hg.tape.trans hk5.tape
    · exact hg.output.trans hk5.output
    · simp only [World.size_setCell]; omega
  · rintro b (h0 | h0 | h0)
    · exact .inl (.inl h0)
    · exact .inl (.inr (.inl h0))
    · rcases hnew _ h0 with h1 | h1
      · exact .inl (.inr (.inr h1))
      · exact .inr h1
end
theorem addN_skip {N : List Jp} {b : Bg} (h : b.2 = false ∨ N.contains b.1 = true) : addN noO N b = N := by
  unfold addN noO
  rw [if_neg]
  rcases h with h | h
  · rw [h]; simp
  · rw [h]; simp
theorem addN_take {N : List Jp} {b : Bg} (h1 : b.2 = true) (h2 : N.contains b.1 = false) : addN noO N b = N ++ [b.1] := by
  unfold addN noO
  rw [h1, h2]; rfl
set_option maxRecDepth 100000 in
set_option maxHeartbeats 8000000 in
theorem needs1_any (first : Jp) (cand : List Jp) (cB tB cb mw yB base i : Nat) (N : List Jp) (v : Value) (s : Str) (t : Int) (n : Bool) (w : World)
    (h : NdT first cand cB tB cb mw yB base N i v w) (ha : NdA cB tB cb mw yB) (hc : (s, t) ∈ cand) (hok : okJ (s, t)) (hcl : cand.length ≤ 1000000) (hmw : mw < w.heap.size) (hbase : base ≤ w.heap.size) :
    Calls Tryz.prog 90 #[.agg #[sv s, .int .i64 t, .bool n], .pointer (some ⟨cB, 0, none⟩), .pointer (some ⟨tB, 0, none⟩)] w
      fun e w' => e = .returned (.tuple #[]) ∧ ∃ v', NdT first cand cB tB cb mw yB base (addN noO N ((s, t), n)) i v' w' ∧ TookB (NdF yB tB v) (NdF yB tB v') w w' := by
  obtain ⟨i0, hi, hz0, hz1, hz2⟩ := info_parts infoJp
  have hml := h.mid.len
  have hdl : (N.drop i).length ≤ N.length := by rw [List.length_drop]; omega
  have hlen : N.length < maxLen := by unfold maxLen; omega
  have h63 : (N.drop i).length + 1 ≤ maxLen := by unfold maxLen; omega
  have hby : ((N.drop i).length + 1) * 24 ≤ 140737488355328 := by omega
  have HL := Lib.hid (And.intro hlen (And.intro h63 hby))
  have HT := Lib.hid h
  have e0 := h.cc
  have e6 := h.c6
  have et := h.tc
  have l1 := cell_blk h.cc
  have l2 := cell_blk h.c6
  have l3 := cell_blk h.tc
  have ly := h.mp.lt
  simp only at l1 l2 l3
  have a1 : ¬ cB = yB := fun e => ha.a1 e.symm
  have a2 : ¬ cb = yB := fun e => ha.a3 e.symm
  have a3 : ¬ tB = yB := fun e => ha.a2 e.symm
  have hsz := Nat.le_refl w.heap.size
  have hyw := h.mp.lt
  clear h hlen h63 hby hml hdl
  go_enter Tryz.func90, Tryz.ntmps90
  go_wp2_with fail
  first | (refine wp_named ?_; intro W1 hW) | (refine calls_named ?_; intro W1 hW)
  have B1 : Below w.heap.size w W1 := by rw [hW]; exact (by repeat (first | exact Below.refl _ _ | assumption | refine Below.alloc ?_ (by first | omega | (simp <;> omega)) _ | refine Below.setCell ?_ (by first | omega | (simp <;> omega)) _ | refine Below.drew ?_))
  replace e0 := cellAt e0 B1 (by omega)
  replace e6 := cellAt e6 B1 (by omega)
  replace et := cellAt et B1 (by omega)
  replace HT := Lib.hid (HT.out.on B1)
  replace l1 : cB < W1.heap.size := ltAt l1 B1
  replace l2 : cb < W1.heap.size := ltAt l2 B1
  replace l3 : tB < W1.heap.size := ltAt l3 B1
  replace ly : yB < W1.heap.size := ltAt ly B1
  have n1 : w.heap.size < W1.heap.size := by rw [hW]; simp <;> omega
  have y0 : W1.cell? ⟨w.heap.size, 0, none⟩ = some (sv s) := by rw [hW]; go_simp
  have y1 : W1.cell? ⟨w.heap.size, 1, none⟩ = some (.int .i64 t) := by rw [hW]; go_simp
  have y2 : W1.cell? ⟨w.heap.size, 2, none⟩ = some (.bool n) := by rw [hW]; go_simp
  clear hW
  have HB1 := Lib.hid B1
  have hz1w := B1.size
  clear B1
  have a5 : ¬ w.heap.size = yB := by omega
  cases n
  · skip
    try go_wp2_with fail
    refine wp_region_held_drew (S := fun w' => Below W1.heap.size W1 w') (by kernel_rfl) (Below.drew (Below.refl _ _)) (fun hHeld => ?_)
    refine tY (i := 0) (v := ?_) rfl ?_ hHeld ?_; rotate_left 1; focus (intro w' hSw; clear hSw; go_simp; try with_reducible rfl)
    (try simp only [Act.put, zn1, zn2, zn3])
    refine tY (i := 1) (v := ?_) rfl ?_ hHeld ?_; rotate_left 1; focus (intro w' hSw; have hCell := fun (b o : Nat) (h : b < W1.heap.size) => hSw.cell (p := ⟨b, o, none⟩) h; clear hSw; go_simp; try with_reducible rfl)
    (try simp only [Act.put, zn1, zn2, zn3])
    refine tY (i := 2) (v := ?_) rfl ?_ hHeld ?_; rotate_left 1; focus (intro w' hSw; clear hSw; go_simp; try with_reducible rfl)
    (try simp only [Act.put, zn1, zn2, zn3])
    refine tS (i := 3) rfl hHeld ?_; (try simp only [Act.put, zn1, zn2, zn3])
    refine tS (i := 4) rfl hHeld ?_; (try simp only [Act.put, zn1, zn2, zn3])
    refine tS (i := 5) rfl hHeld ?_; (try simp only [Act.put, zn1, zn2, zn3])
    refine tS (i := 6) rfl hHeld ?_; (try simp only [Act.put, zn1, zn2, zn3])
    refine tS (i := 7) rfl hHeld ?_; (try simp only [Act.put, zn1, zn2, zn3])
    refine tS (i := 8) rfl hHeld ?_; (try simp only [Act.put, zn1, zn2, zn3])
    refine tS (i := 9) rfl hHeld ?_; (try simp only [Act.put, zn1, zn2, zn3])
    refine tS (i := 10) rfl hHeld ?_; (try simp only [Act.put, zn1, zn2, zn3])
    refine tY (i := 11) (v := ?_) rfl ?_ hHeld ?_; rotate_left 1; focus (intro w' hSw; clear hSw; go_simp; try with_reducible rfl)
    (try simp only [Act.put, zn1, zn2, zn3])
    refine wpAnyH_done (by kernel_rfl) ?_ _
    go_wp2_with fail
    refine bodyPost_end (results_none rfl _ _ _) rfl ?_
    have hb9 := lift HB1.out hHeld
    refine ⟨rfl, v, ?_, TookB.below hb9⟩
    rw [addN_skip (.inl rfl)]
    exact HT.out.on hHeld
  · cases hkn : N.contains (s, t)
    · skip
      try go_wp2_with fail
      refine wp_region_held_drew (S := fun w' => Below W1.heap.size W1 w') (by kernel_rfl) (Below.drew (Below.refl _ _)) (fun hHeld => ?_)
      refine tY (i := 0) (v := ?_) rfl ?_ hHeld ?_; rotate_left 1; focus (intro w' hSw; clear hSw; go_simp; try with_reducible rfl)
      (try simp only [Act.put, zn1, zn2, zn3])
      refine tY (i := 1) (v := ?_) rfl ?_ hHeld ?_; rotate_left 1; focus (intro w' hSw; have hCell := fun (b o : Nat) (h : b < W1.heap.size) => hSw.cell (p := ⟨b, o, none⟩) h; clear hSw; go_simp; try with_reducible rfl)
      (try simp only [Act.put, zn1, zn2, zn3])
      refine tY (i := 2) (v := ?_) rfl ?_ hHeld ?_; rotate_left 1; focus (intro w' hSw; clear hSw; go_simp; try with_reducible rfl)
      (try simp only [Act.put, zn1, zn2, zn3])
      refine tY (i := 3) (v := ?_) rfl ?_ hHeld ?_; rotate_left 1; focus (intro w' hSw; have hCell := fun (b o : Nat) (h : b < W1.heap.size) => hSw.cell (p := ⟨b, o, none⟩) h; clear hSw; go_simp; try with_reducible rfl)
      (try simp only [Act.put, zn1, zn2, zn3])
      refine tY (i := 4) (v := ?_) rfl ?_ hHeld ?_; rotate_left 1; focus (intro w' hSw; clear hSw; go_simp; try with_reducible rfl)
      (try simp only [Act.put, zn1, zn2, zn3])
      refine tY (i := 5) (v := ?_) rfl ?_ hHeld ?_; rotate_left 1; focus (intro w' hSw; clear hSw; go_simp; try with_reducible rfl)
      (try simp only [Act.put, zn1, zn2, zn3])
      refine tY (i := 6) (v := ?_) rfl ?_ hHeld ?_; rotate_left 1; focus (intro w' hSw; have hCell := fun (b o : Nat) (h : b < W1.heap.size) => hSw.cell (p := ⟨b, o, none⟩) h; clear hSw; go_simp; try with_reducible rfl)
      (try simp only [Act.put, zn1, zn2, zn3])
      refine tY (i := 7) (v := ?_) rfl ?_ hHeld ?_; rotate_left 1; focus (intro w' hSw; clear hSw; go_simp; try with_reducible rfl)
      (try simp only [Act.put, zn1, zn2, zn3])
      refine tY (i := 8) (v := ?_) rfl ?_ hHeld ?_; rotate_left 1; focus (intro w' hSw; have hCell := fun (b o : Nat) (h : b < W1.heap.size) => hSw.cell (p := ⟨b, o, none⟩) h; clear hSw; go_simp; try with_reducible rfl)
      (try simp only [Act.put, zn1, zn2, zn3])
      refine ready_one (i := 9) rfl (by kernel_rfl) (fun K hK => ?_)
      refine step_lookup_is _ (by rfl) (.tmp 10) (.tmp 12) 77 (by rfl) 4 Tryz.underlying77 (.bool false) (zeroB _) yB _ _ (by rfl) (HT.out.mp.on hHeld) (s, t) (by rfl) hok ?_
      rw [inV_get, hkn]
      refine hK.out _ _ ?_ (fun hHeld2 => ?_)
      · (try dsimp only); first | exact Below.trans hHeld (Below.mono hb hHeld.size) | exact hHeld | exact Below.drew hHeld | exact (by repeat (first | exact Below.refl _ _ | assumption | refine Below.alloc ?_ (by first | omega | (simp <;> omega)) _ | refine Below.setCell ?_ (by first | omega | (simp <;> omega)) _ | refine Below.drew ?_))
      clear hK K hHeld; have hHeld := hHeld2; clear hHeld2; (try simp only [Act.put, zn1, zn2, zn3])
      refine tY (i := 10) (v := ?_) rfl ?_ hHeld ?_; rotate_left 1; focus (intro w' hSw; clear hSw; go_simp; try with_reducible rfl)
      (try simp only [Act.put, zn1, zn2, zn3])
      refine tY (i := 11) (v := ?_) rfl ?_ hHeld ?_; rotate_left 1; focus (intro w' hSw; clear hSw; go_simp; try with_reducible rfl)
      (try simp only [Act.put, zn1, zn2, zn3])
      refine wpAnyH_done (by kernel_rfl) ?_ _
      go_wp2_with fail
      first | (refine wp_named ?_; intro W2 hW) | (refine calls_named ?_; intro W2 hW)
      have B2 : Below W1.heap.size W1 W2 := by rw [hW]; exact (by repeat (first | exact Below.refl _ _ | assumption | refine Below.alloc ?_ (by first | omega | (simp <;> omega)) _ | refine Below.setCell ?_ (by first | omega | (simp <;> omega)) _ | refine Below.drew ?_))
      replace e0 := cellAt e0 B2 (by omega)
      replace e6 := cellAt e6 B2 (by omega)
      replace et := cellAt et B2 (by omega)
      replace y0 := cellAt y0 B2 (by omega)
      replace y1 := cellAt y1 B2 (by omega)
      replace y2 := cellAt y2 B2 (by omega)
      replace HT := Lib.hid (HT.out.on B2)
      replace l1 : cB < W2.heap.size := ltAt l1 B2
      replace l2 : cb < W2.heap.size := ltAt l2 B2
      replace l3 : tB < W2.heap.size := ltAt l3 B2
      replace ly : yB < W2.heap.size := ltAt ly B2
      replace n1 : w.heap.size < W2.heap.size := ltAt n1 B2
      clear hW
      have HB2 := Lib.hid (lift HB1.out B2)
      clear B2 hHeld
      have HMp := Lib.hid HT.out.mp
      try go_wp2_with fail
      refine wp_region_held_drew (S := fun w' => Keeps (But W2 yB) W2 w') (by kernel_rfl) (But.below (Below.drew (Below.refl _ _))) (fun hHeld => ?_)
      refine tY (i := 0) (v := ?_) rfl ?_ hHeld ?_; rotate_left 1; focus (intro w' hSw; have hCell := fun (b o : Nat) (h : b < W2.heap.size) (h2 : ¬ b = yB) => World.cell?_of_block (a := ⟨b, o, none⟩) (hSw.block b ⟨h, h2⟩); clear hSw; go_simp; try with_reducible rfl)
      (try simp only [Act.put, zn1, zn2, zn3])
      refine tY (i := 1) (v := ?_) rfl ?_ hHeld ?_; rotate_left 1; focus (intro w' hSw; clear hSw; go_simp; try with_reducible rfl)
      (try simp only [Act.put, zn1, zn2, zn3])
      refine tY (i := 2) (v := ?_) rfl ?_ hHeld ?_; rotate_left 1; focus (intro w' hSw; clear hSw; go_simp; try with_reducible rfl)
      (try simp only [Act.put, zn1, zn2, zn3])
      refine tY (i := 3) (v := ?_) rfl ?_ hHeld ?_; rotate_left 1; focus (intro w' hSw; have hCell := fun (b o : Nat) (h : b < W2.heap.size) (h2 : ¬ b = yB) => World.cell?_of_block (a := ⟨b, o, none⟩) (hSw.block b ⟨h, h2⟩); clear hSw; go_simp; try with_reducible rfl)
      (try simp only [Act.put, zn1, zn2, zn3])
      refine tY (i := 4) (v := ?_) rfl ?_ hHeld ?_; rotate_left 1; focus (intro w' hSw; clear hSw; go_simp; try with_reducible rfl)
      (try simp only [Act.put, zn1, zn2, zn3])
      refine tY (i := 5) (v := ?_) rfl ?_ hHeld ?_; rotate_left 1; focus (intro w' hSw; have hCell := fun (b o : Nat) (h : b < W2.heap.size) (h2 : ¬ b = yB) => World.cell?_of_block (a := ⟨b, o, none⟩) (hSw.block b ⟨h, h2⟩); clear hSw; go_simp; try with_reducible rfl)
      (try simp only [Act.put, zn1, zn2, zn3])
      refine ready_one (i := 6) rfl (by kernel_rfl) (fun K hK => ?_)
      refine step_update_is _ (by rfl) (.tmp 19) (.tmp 21) (.const (.bool true)) 77 (by rfl) 4 Tryz.underlying77 yB _ _ (by rfl) HMp.out HL.out.1 (s, t) (.bool true) (by rfl) (by rfl) hok ?_
      intro w5 hm5 hg5
      have hS := But.trans hHeld (But.grown hg5)
      have HM5 := Lib.hid (MapIs.if_ hm5)
      clear hm5 hg5
      refine hK.out _ _ ?_ (fun hHeld2 => ?_)
      · (try dsimp only); exact hS
      clear hK K hHeld; have hHeld := hHeld2; clear hHeld2; (try simp only [Act.put, zn1, zn2, zn3])
      refine wpAnyH_done (by kernel_rfl) ?_ _
      have HT2 := Lib.hid HT.out
      have hs5 := hHeld.size
      have m3 := l3
      replace e0 := cellK e0 hHeld (by omega) (by omega)
      replace e6 := cellK e6 hHeld (by omega) (by omega)
      replace et := cellK et hHeld (by omega) (by omega)
      replace y0 := cellK y0 hHeld (by omega) (by omega)
      replace y1 := cellK y1 hHeld (by omega) (by omega)
      replace y2 := cellK y2 hHeld (by omega) (by omega)
      clear HT
      replace l1 : cB < w5.heap.size := Nat.lt_of_lt_of_le l1 (Keeps.size hHeld)
      replace l2 : cb < w5.heap.size := Nat.lt_of_lt_of_le l2 (Keeps.size hHeld)
      replace l3 : tB < w5.heap.size := Nat.lt_of_lt_of_le l3 (Keeps.size hHeld)
      replace ly : yB < w5.heap.size := Nat.lt_of_lt_of_le ly (Keeps.size hHeld)
      replace n1 : w.heap.size < w5.heap.size := Nat.lt_of_lt_of_le n1 (Keeps.size hHeld)
      have HK5 := Lib.hid hS
      have hvy : v.ownBlock ≠ some yB := fun e => (HT2.out.sep _ e).1 rfl
      have hvn : v.ownBlock ≠ some tB := fun e => (HT2.out.sep _ e).2.1 rfl
      have HO5 := Lib.hid (HT2.out.row.same hS.size (fun g hg => hS.block g ⟨(HT2.out.row.lt hg).2, fun e => hvy (by rw [hg, e])⟩))
      have f5 := froK HT2.out.tf hS m3 a3
      have hb5 : base ≤ w5.heap.size := by have := HB2.out.size; omega
      have HF := Lib.hid (And.intro hvn f5)
      have HV := Lib.hid hvy
      have hrd5 : Rd (w5.alloc (.cells #[sv s, .int .i64 t] 73)) (w5.alloc (.cells #[sv s, .int .i64 t] 73)).heap.size 2 (some ⟨w5.heap.size, 0, none⟩) 1 (jpC (s, t)) := Rd.lit w5 (jpC (s, t)) 73 2 1 rfl
      have HR5 := Lib.hid hrd5
      have HO6 := Lib.hid (HO5.out.alloc (.cells #[sv s, .int .i64 t] 73))
      have hb6 : base ≤ (w5.alloc (.cells #[sv s, .int .i64 t] 73)).heap.size := by simp; omega
      have HB6 := Lib.hid hb6
      clear hS hHeld hvy hvn f5 hrd5 hb6
      go_wp2_with (first
        | (at_builtin; refine wpList_append_tail (w5.alloc (.cells #[sv s, .int .i64 t] 73)) (by rfl) (.tmp 22) (.tmp 25) 141 (by rfl) base 73 i0 _ 2 24 Tryz.underlying141 hi hz0 hz1 hz2 rfl _ _ _ (by rfl) HO6.out _ 1 (jpC (s, t)) (by rfl) (src_rd (c := 1) Tryz.underlying141 HR5.out (one_jpC (s, t)) (fun e => by cases e)) HL.out.2.1 HL.out.2.2 HB6.out ?_; intro A8 c8 w7 hown7 hg7 hat7; have hg6 := World.grownBy.trans (World.grownBy_alloc w5 (.cells #[sv s, .int .i64 t] 73) _) hg7; have c7 := cell_kept et hg6 l3 HF.out.1; have f7 := fro_kept HF.out.2 hg6 l3 HF.out.1; have HO7 := Lib.hid hown7; have HG7 := Lib.hid (And.intro hg6 hat7); clear hown7 hg6 hg7 hat7)
        | fail)
      refine bodyPost_end (results_none rfl _ _ _) rfl ?_
      have hput := HT2.out.put ha hkn hc HM5.out HK5.out HO7.out HG7.out.1 (by simpa using HG7.out.2) (Nat.lt_of_lt_of_le hmw HB2.out.size)
      simp only [List.length_drop] at hput
      rw [addN_take rfl hkn]
      exact ⟨rfl, _, hput.1, (TookB.below HB2.out).trans hput.2⟩
    · skip
      try go_wp2_with fail
      refine wp_region_held_drew (S := fun w' => Below W1.heap.size W1 w') (by kernel_rfl) (Below.drew (Below.refl _ _)) (fun hHeld => ?_)
      refine tY (i := 0) (v := ?_) rfl ?_ hHeld ?_; rotate_left 1; focus (intro w' hSw; clear hSw; go_simp; try with_reducible rfl)
      (try simp only [Act.put, zn1, zn2, zn3])
      refine tY (i := 1) (v := ?_) rfl ?_ hHeld ?_; rotate_left 1; focus (intro w' hSw; have hCell := fun (b o : Nat) (h : b < W1.heap.size) => hSw.cell (p := ⟨b, o, none⟩) h; clear hSw; go_simp; try with_reducible rfl)
      (try simp only [Act.put, zn1, zn2, zn3])
      refine tY (i := 2) (v := ?_) rfl ?_ hHeld ?_; rotate_left 1; focus (intro w' hSw; clear hSw; go_simp; try with_reducible rfl)
      (try simp only [Act.put, zn1, zn2, zn3])
      refine tY (i := 3) (v := ?_) rfl ?_ hHeld ?_; rotate_left 1; focus (intro w' hSw; have hCell := fun (b o : Nat) (h : b < W1.heap.size) => hSw.cell (p := ⟨b, o, none⟩) h; clear hSw; go_simp; try with_reducible rfl)
      (try simp only [Act.put, zn1, zn2, zn3])
      refine tY (i := 4) (v := ?_) rfl ?_ hHeld ?_; rotate_left 1; focus (intro w' hSw; clear hSw; go_simp; try with_reducible rfl)
      (try simp only [Act.put, zn1, zn2, zn3])
      refine tY (i := 5) (v := ?_) rfl ?_ hHeld ?_; rotate_left 1; focus (intro w' hSw; clear hSw; go_simp; try with_reducible rfl)
      (try simp only [Act.put, zn1, zn2, zn3])
      refine tY (i := 6) (v := ?_) rfl ?_ hHeld ?_; rotate_left 1; focus (intro w' hSw; have hCell := fun (b o : Nat) (h : b < W1.heap.size) => hSw.cell (p := ⟨b, o, none⟩) h; clear hSw; go_simp; try with_reducible rfl)
      (try simp only [Act.put, zn1, zn2, zn3])
      refine tY (i := 7) (v := ?_) rfl ?_ hHeld ?_; rotate_left 1; focus (intro w' hSw; clear hSw; go_simp; try with_reducible rfl)
      (try simp only [Act.put, zn1, zn2, zn3])
      refine tY (i := 8) (v := ?_) rfl ?_ hHeld ?_; rotate_left 1; focus (intro w' hSw; have hCell := fun (b o : Nat) (h : b < W1.heap.size) => hSw.cell (p := ⟨b, o, none⟩) h; clear hSw; go_simp; try with_reducible rfl)
      (try simp only [Act.put, zn1, zn2, zn3])
      refine ready_one (i := 9) rfl (by kernel_rfl) (fun K hK => ?_)
      refine step_lookup_is _ (by rfl) (.tmp 10) (.tmp 12) 77 (by rfl) 4 Tryz.underlying77 (.bool false) (zeroB _) yB _ _ (by rfl) (HT.out.mp.on hHeld) (s, t) (by rfl) hok ?_
      rw [inV_get, hkn]
      refine hK.out _ _ ?_ (fun hHeld2 => ?_)
      · (try dsimp only); first | exact Below.trans hHeld (Below.mono hb hHeld.size) | exact hHeld | exact Below.drew hHeld | exact (by repeat (first | exact Below.refl _ _ | assumption | refine Below.alloc ?_ (by first | omega | (simp <;> omega)) _ | refine Below.setCell ?_ (by first | omega | (simp <;> omega)) _ | refine Below.drew ?_))
      clear hK K hHeld; have hHeld := hHeld2; clear hHeld2; (try simp only [Act.put, zn1, zn2, zn3])
      refine tY (i := 10) (v := ?_) rfl ?_ hHeld ?_; rotate_left 1; focus (intro w' hSw; clear hSw; go_simp; try with_reducible rfl)
      (try simp only [Act.put, zn1, zn2, zn3])
      refine tY (i := 11) (v := ?_) rfl ?_ hHeld ?_; rotate_left 1; focus (intro w' hSw; clear hSw; go_simp; try with_reducible rfl)
      (try simp only [Act.put, zn1, zn2, zn3])
      refine wpAnyH_done (by kernel_rfl) ?_ _
      go_wp2_with fail
      refine bodyPost_end (results_none rfl _ _ _) rfl ?_
      have hb9 := lift HB1.out hHeld
      refine ⟨rfl, v, ?_, TookB.below hb9⟩
      rw [addN_skip (.inr hkn)]
      exact HT.out.on hHeld
end Od
end Go.Proofs.YtbllehjhmfehbaaGreat
end

section
/- (*closure).needs: what is needed. (bel2) -/
namespace Go.Proofs.YtbllehjhmfehbaaGreat
open Go.RowKit Go.Sort Go.Maps
set_option linter.unusedSimpArgs false
namespace Od
theorem tailJ_head {w : World} {base c : Nat} {A : Option Addr} {j : Jp} {T : List Jp} (h : Tail w base 2 (.slice A (j :: T).length c) (j :: T).length (jpsC (j :: T))) :
    ∃ g o, A = some ⟨g, o, none⟩ ∧ base ≤ g ∧ g < w.heap.size ∧ w.cell? ⟨g, o, none⟩ = some (sv j.1) ∧ w.cell? ⟨g, o + 1, none⟩ = some (.int .i64 j.2) := by
  rcases h.2 with ⟨_, h2⟩ | ⟨g, off, cap, h1, h3, h4, _, _, h7, _⟩
  · simp at h2
  · injection h1 with e1 _ e3
    subst e1
    refine ⟨g, off, rfl, h3, h4, ?_, ?_⟩
    · have := h7 0 (by simp); simpa [jpsC, jpC] using this
    · have := h7 1 (by simp; omega); simpa [jpsC, jpC] using this
theorem tailJ_next {w : World} {base c g o : Nat} {j : Jp} {T : List Jp} (h : Tail w base 2 (.slice (some ⟨g, o, none⟩) (j :: T).length c) (j :: T).length (jpsC (j :: T))) :
    Tail w base 2 (.slice (some ⟨g, o + 2, none⟩) T.length (c - 1)) T.length (jpsC T) := by
  rcases h.2 with ⟨_, h2⟩ | ⟨g, off, cap, h1, h3, h4, h5, h6, h7, h8⟩
  · simp at h2
  · injection h1 with e1 _ e3
    injection e1 with e1
    injection e1 with e1 e2
    subst e1 e2 e3
    simp only [List.length_cons] at h5 h7
    refine ⟨jpsC_len T, .inr ⟨_, o + 2, c - 1, rfl, h3, h4, by omega, by omega, fun i hi => ?_, fun i hi => ?_⟩⟩
    · have := h7 (i + 2) (by omega)
      rw [show o + 2 + i = o + (i + 2) by omega, this]
      simp [jpsC, jpC]
    · have := h8 (i + 2) (by omega)
      rwa [show o + (i + 2) = o + 2 + i by omega] at this
theorem tailJ_next0 {w : World} {base c g o : Nat} {j : Jp} {T : List Jp} (h : Tail w base 2 (.slice (some ⟨g, o, none⟩) (j :: T).length c) (j :: T).length (jpsC (j :: T))) (hc : c = 1) :
    Tail w base 2 (.slice (some ⟨g, o, none⟩) T.length 0) T.length (jpsC T) := by
  subst hc
  rcases h.2 with ⟨_, h2⟩ | ⟨g, off, cap, h1, h3, h4, h5, h6, h7, h8⟩
  · simp at h2
  · injection h1 with e1 _ e3
    injection e1 with e1
    injection e1 with e1 e2
    subst e1 e2 e3
    simp only [List.length_cons] at h5
    exact ⟨jpsC_len T, .inr ⟨_, o, 0, rfl, h3, h4, by omega, by omega, fun i hi => by omega, fun i hi => by omega⟩⟩
theorem NdT.next {first : Jp} {cand : List Jp} {cB tB tB' cb mw yB base i : Nat} {N T : List Jp} {j : Jp} {A A2 : Option Addr} {c c2 : Nat} {w w' : World} (h : NdT first cand cB tB cb mw yB base N i (.slice A (j :: T).length c) w) (hd : N.drop i = j :: T) (hb : Below w.heap.size w w')
    (hrow : Tail w base 2 (.slice A2 T.length c2) T.length (jpsC T)) (hown : (Value.slice A2 T.length c2).ownBlock = (Value.slice A (j :: T).length c).ownBlock) (hc : w'.cell? ⟨tB', 0, none⟩ = some (.slice A2 T.length c2)) (hf : w'.frozen? ⟨tB', 0, none⟩ = false) (htB : w.heap.size ≤ tB') :
    NdT first cand cB tB' cb mw yB base N (i + 1) (.slice A2 T.length c2) w' := by
  have h1 := h.on hb
  have hd2 : N.drop (i + 1) = T := by rw [← List.drop_drop, hd]; rfl
  have hi : i < N.length := by
    have := congrArg List.length hd
    rw [List.length_drop] at this
    simp only [List.length_cons] at this
    omega
  refine ⟨h1.cc, h1.c6, hc, hf, by rw [hd2]; exact hrow.on hb, h1.mp, h1.mid, hi, fun b hbk => ?_⟩
  rw [hown] at hbk
  have h2 := h.sep b hbk
  have h3 := (h.row.lt hbk).2
  exact ⟨h2.1, by omega, h2.2.2⟩
/-- What needs$1 keeps of what it has taken. -/
def NdS (first : Jp) (cand : List Jp) (cB tB cb mw yB base i : Nat) (N0 : List Jp) (D : List Bg) (F : Nat → Prop) (w : World) : Prop :=
  ∃ v, NdT first cand cB tB cb mw yB base (D.foldl (addN noO) N0) i v w ∧ F = NdF yB tB v ∧ mw < w.heap.size ∧ base ≤ w.heap.size
theorem needs_takes {first : Jp} {cand : List Jp} {cB tB cb mw yB base i B : Nat} {N0 : List Jp} (ha : NdA cB tB cb mw yB) (hok : ∀ k ∈ cand, okJ k) (hcl : cand.length ≤ 1000000) (h1 : B ≤ yB) (h2 : B ≤ tB) (h3 : B ≤ base) :
    TakesB 90 #[.pointer (some ⟨cB, 0, none⟩), .pointer (some ⟨tB, 0, none⟩)] cb mw B cand (NdS first cand cB tB cb mw yB base i N0) where
  enters := enters_of Tryz.func90 (by kernel_rfl) rfl
  on := by
    rintro D F W W' ⟨v, hT, rfl, hm, hb⟩ hbel
    exact ⟨v, hT.on hbel, rfl, Nat.lt_of_lt_of_le hm hbel.size, Nat.le_trans hb hbel.size⟩
  low := by
    rintro D F W ⟨v, hT, rfl, hm, hb⟩
    exact hT.low ha h1 h2 h3
  says := by
    rintro D F W s t n ⟨v, hT, rfl, hm, hb⟩ hca
    refine (needs1_any first cand cB tB cb mw yB base i _ v s t n W hT ha hca (hok _ hca) hcl hm hb).mono ?_
    rintro e w' ⟨rfl, v', hT', hk⟩
    refine ⟨rfl, NdF yB tB v', ⟨v', ?_, rfl, Nat.lt_of_lt_of_le hm hk.1.size, Nat.le_trans hb hk.1.size⟩, hk⟩
    rw [List.foldl_append]
    exact hT'
theorem addN_no {out : Jp → Bool} : ∀ (l : List Bg) (s : List Jp), (l.filter (fun b => !out b.1)).foldl (addN noO) s = l.foldl (addN out) s
  | [], _ => rfl
  | p :: l, s => by
    rw [List.filter_cons]
    by_cases h : out p.1 = true
    · have e : addN out s p = s := by unfold addN; rw [h]; simp
      rw [show (!out p.1) = false by rw [h]; rfl, if_neg (by simp), List.foldl_cons, e]
      exact addN_no l s
    · have h' : out p.1 = false := by simpa using h
      have e : addN noO s p = addN out s p := by unfold addN noO; rw [h']
      rw [show (!out p.1) = true by rw [h']; rfl, if_pos rfl, List.foldl_cons, List.foldl_cons, e]
      exact addN_no l _
theorem NeedQ.mid {E : Jp → List Bg} {out : Jp → Bool} {first : Jp} {N cand : List Jp} {i : Nat} (h : NeedQ E out first N i) (hc : ∀ j b, b ∈ E j → b.1 ∈ cand) : NMid first cand N :=
  ⟨h.nd, fun k hk => by
    cases h.all k hk with
    | one => exact .head _
    | more _ hb _ => exact .tail _ (hc _ _ (List.mem_filter.1 hb).1)⟩
set_option maxRecDepth 100000 in
set_option maxHeartbeats 16000000 in
theorem needs_any (cb mw yB B : Nat) (An Ae Au Ah : Option Addr) (nn cn ce cu ch : Nat) (es : List Ed) (up half : List Str) (out : Jp → Bool) (u : Str) (t : Int) (w : World)
    (hcl : ClosAt w cb mw B An Ae Au Ah nn cn ce cu ch es up half out) (c6 : w.cell? ⟨cb, 6, none⟩ = some (.map (some yB))) (hy : MapIs kindJ w yB 0 (fun _ => none)) (ha1 : yB ≠ cb) (ha2 : yB ≠ mw) (hBy : B ≤ yB) (hok : ∀ k ∈ candB es, okJ k) (hof : okJ (u, t)) :
    Calls Tryz.prog 45 #[.pointer (some ⟨cb, 0, none⟩), .agg #[sv u, .int .i64 t]] w fun e w' => e = .returned (.tuple #[]) ∧
      (∃ N, NeedQ (bringB es up half) out (u, t) N N.length ∧ MapIs kindJ w' yB N.length (inV N)) ∧ Keeps (But w yB) w w' := by
  have HC := Lib.hid hcl
  have HY := Lib.hid hy
  have HK := Lib.hid hok
  have hcl0 := hcl.lt
  have hml0 := hcl.mlt
  have hy0 := hy.lt
  have hyw := hy.lt
  have hcw := hcl.lt
  have hBw := hcl.lb
  have hmw := hcl.mlt
  have hel := hcl.el
  have hlb := hcl.lb
  clear hcl hy hok
  have hcand : (candB es).length = 6 * es.length := candB_len es
  have HCd := Lib.hid (show ∀ j b, b ∈ bringB es up half j → b.1 ∈ candB es from bring_cand)
  have hcl6 : (candB es).length ≤ 60000 := by omega
  have HCl := Lib.hid hcl6
  clear hcl6
  have HCdl := Lib.hid hcand
  clear hcand
  have HQ0 := Lib.hid (NeedQ.zero (E := bringB es up half) (out := out) (first := (u, t)))
  generalize hE : bringB es up half = E at HCd HQ0
  have HE := Lib.hid hE
  clear hE
  go_enter Tryz.func45, Tryz.ntmps45
  go_wp2_with fail
  first | (refine wp_named ?_; intro W1 hW) | (refine calls_named ?_; intro W1 hW)
  have B1 : Below w.heap.size w W1 := by rw [hW]; exact (by repeat (first | exact Below.refl _ _ | assumption | refine Below.alloc ?_ (by first | omega | (simp <;> omega)) _ | refine Below.setCell ?_ (by first | omega | (simp <;> omega)) _ | refine Below.drew ?_))
  replace c6 := cellAt c6 B1 (by omega)
  replace HC := Lib.hid (HC.out.on B1)
  replace HY := Lib.hid (HY.out.on B1)
  replace hcl0 : cb < W1.heap.size := ltAt hcl0 B1
  replace hml0 : mw < W1.heap.size := ltAt hml0 B1
  replace hy0 : yB < W1.heap.size := ltAt hy0 B1
  replace hlb : B ≤ W1.heap.size := leAt hlb B1
  have n1 : w.heap.size < W1.heap.size := by rw [hW]; simp <;> omega
  have n2 : (w.heap.size + 1) < W1.heap.size := by rw [hW]; simp <;> omega
  have p0 : W1.cell? ⟨w.heap.size, 0, none⟩ = some (.pointer (some ⟨cb, 0, none⟩)) := by rw [hW]; go_simp
  have q0 : W1.cell? ⟨(w.heap.size + 1), 0, none⟩ = some (sv u) := by rw [hW]; go_simp
  have q1 : W1.cell? ⟨(w.heap.size + 1), 1, none⟩ = some (.int .i64 t) := by rw [hW]; go_simp
  have hzz : w.heap.size + 2 ≤ W1.heap.size := by rw [hW]; simp
  clear hW
  have HB1 := Lib.hid B1
  clear B1
  have x1 : ¬ w.heap.size = yB := by omega
  have x2 : ¬ w.heap.size + 1 = yB := by omega
  have x3 : ¬ cb = yB := fun e => ha1 e.symm
  have HC1 := Lib.hid HC.out
  have k6 := c6
  have l1 := n1
  have lc := hcl0
  have k0 := p0
  try go_wp2_with fail
  refine wp_region_held_drew (S := fun w' => Keeps (But W1 yB) W1 w') (by kernel_rfl) (But.below (Below.drew (Below.refl _ _))) (fun hHeld => ?_)
  refine tY (i := 0) (v := ?_) rfl ?_ hHeld ?_; rotate_left 1; focus (intro w' hSw; have hCell := fun (b o : Nat) (h : b < W1.heap.size) (h2 : ¬ b = yB) => World.cell?_of_block (a := ⟨b, o, none⟩) (hSw.block b ⟨h, h2⟩); clear hSw; go_simp; try with_reducible rfl)
  (try simp only [Act.put, zn1, zn2, zn3])
  refine tY (i := 1) (v := ?_) rfl ?_ hHeld ?_; rotate_left 1; focus (intro w' hSw; clear hSw; go_simp; try with_reducible rfl)
  (try simp only [Act.put, zn1, zn2, zn3])
  refine tY (i := 2) (v := ?_) rfl ?_ hHeld ?_; rotate_left 1; focus (intro w' hSw; clear hSw; go_simp; try with_reducible rfl)
  (try simp only [Act.put, zn1, zn2, zn3])
  refine tY (i := 3) (v := ?_) rfl ?_ hHeld ?_; rotate_left 1; focus (intro w' hSw; have hCell := fun (b o : Nat) (h : b < W1.heap.size) (h2 : ¬ b = yB) => World.cell?_of_block (a := ⟨b, o, none⟩) (hSw.block b ⟨h, h2⟩); clear hSw; go_simp; try with_reducible rfl)
  (try simp only [Act.put, zn1, zn2, zn3])
  refine tY (i := 4) (v := ?_) rfl ?_ hHeld ?_; rotate_left 1; focus (intro w' hSw; have hCell := fun (b o : Nat) (h : b < W1.heap.size) (h2 : ¬ b = yB) => World.cell?_of_block (a := ⟨b, o, none⟩) (hSw.block b ⟨h, h2⟩); clear hSw; go_simp; try with_reducible rfl)
  (try simp only [Act.put, zn1, zn2, zn3])
  refine ready_one (i := 5) rfl (by kernel_rfl) (fun K hK => ?_)
  refine step_update_is _ (by rfl) (.tmp 8) (.tmp 9) (.const (.bool true)) 77 (by rfl) 4 Tryz.underlying77 yB 0 _ (by rfl) HY.out (by decide) (u, t) (.bool true) (by rfl) (by rfl) hof ?_
  intro w5 hm5 hg5
  have hS := But.trans hHeld (But.grown hg5)
  have HM5 := Lib.hid (MapIs.if_ hm5)
  clear hm5 hg5
  refine hK.out _ _ ?_ (fun hHeld2 => ?_)
  · (try dsimp only); exact hS
  clear hK K hHeld; have hHeld := hHeld2; clear hHeld2; (try simp only [Act.put, zn1, zn2, zn3])
  refine wpAnyH_done (by kernel_rfl) ?_ _
  replace c6 := cellK c6 hHeld (by omega) (by omega)
  replace p0 := cellK p0 hHeld (by omega) (by omega)
  replace q0 := cellK q0 hHeld (by omega) (by omega)
  replace q1 := cellK q1 hHeld (by omega) (by omega)
  replace HC := Lib.hid ((HC.out.but hHeld hBy ha1 ha2))
  clear HY
  replace hcl0 : cb < w5.heap.size := Nat.lt_of_lt_of_le hcl0 (Keeps.size hHeld)
  replace hml0 : mw < w5.heap.size := Nat.lt_of_lt_of_le hml0 (Keeps.size hHeld)
  replace hy0 : yB < w5.heap.size := Nat.lt_of_lt_of_le hy0 (Keeps.size hHeld)
  replace hlb : B ≤ w5.heap.size := Nat.le_trans hlb (Keeps.size hHeld)
  replace n1 : w.heap.size < w5.heap.size := Nat.lt_of_lt_of_le n1 (Keeps.size hHeld)
  replace n2 : (w.heap.size + 1) < w5.heap.size := Nat.lt_of_lt_of_le n2 (Keeps.size hHeld)
  have HK5 := Lib.hid hHeld
  have hz5 := hHeld.size
  clear hHeld
  have HM6 := Lib.hid (show MapIs kindJ w5 yB 1 (inV [(u, t)]) by
    have h0 := HM5.out
    have e0 : (fun y => if y = (u, t) then some (Value.bool true) else inV [] y) = inV ([] ++ [(u, t)]) := inV_push [] (u, t)
    have h1 : MapIs kindJ w5 yB 1 (inV ([] ++ [(u, t)])) := by rw [← e0]; exact h0
    exact h1)
  clear HM5
  go_wp2_with fail
  first | (refine wp_named ?_; intro W6 hW) | (refine calls_named ?_; intro W6 hW)
  have B6 : Below w5.heap.size w5 W6 := by rw [hW]; exact (by repeat (first | exact Below.refl _ _ | assumption | refine Below.alloc ?_ (by first | omega | (simp <;> omega)) _ | refine Below.setCell ?_ (by first | omega | (simp <;> omega)) _ | refine Below.drew ?_))
  replace c6 := cellAt c6 B6 (by omega)
  replace p0 := cellAt p0 B6 (by omega)
  replace q0 := cellAt q0 B6 (by omega)
  replace q1 := cellAt q1 B6 (by omega)
  replace HC := Lib.hid (HC.out.on B6)
  replace hcl0 : cb < W6.heap.size := ltAt hcl0 B6
  replace hml0 : mw < W6.heap.size := ltAt hml0 B6
  replace hy0 : yB < W6.heap.size := ltAt hy0 B6
  replace hlb : B ≤ W6.heap.size := leAt hlb B6
  replace n1 : w.heap.size < W6.heap.size := ltAt n1 B6
  replace n2 : (w.heap.size + 1) < W6.heap.size := ltAt n2 B6
  replace HM6 := Lib.hid (HM6.out.on B6)
  replace HK5 := Lib.hid (But.two HK5.out B6)
  have n6 : (w5.heap.size + 1) < W6.heap.size := by rw [hW]; simp <;> omega
  have z0 : W6.cell? ⟨(w5.heap.size + 1), 0, none⟩ = some (.slice (some ⟨w5.heap.size, 0, none⟩) 1 1) := by rw [hW]; go_simp
  have zf : W6.frozen? ⟨(w5.heap.size + 1), 0, none⟩ = false := by rw [hW]; go_simp
  have ho6 : W6.ownsRow W1.heap.size 73 2 (.slice (some ⟨w5.heap.size, 0, none⟩) 1 1) 1 (jpsC [(u, t)]) := by
    rw [hW]
    exact (own_base (own_lit [sv u, .int .i64 t] rfl (by decide)) hz5).alloc _
  clear hW
  clear B6
  have hnd0 : NdT (u, t) (candB es) w.heap.size (w5.heap.size + 1) cb mw yB W1.heap.size [(u, t)] 0 (.slice (some ⟨w5.heap.size, 0, none⟩) 1 1) W6 :=
    ⟨p0, c6, z0, zf, Tail.own ho6, HM6.out, ⟨by simp, fun k hk => by rw [List.mem_singleton.1 hk]; exact .head _⟩, by simp, fun b hb => by
      have h1 : w5.heap.size = b := by simpa [Value.ownBlock] using hb
      exact ⟨by omega, by omega, by omega, by omega, by omega⟩⟩
  have HNd0 := Lib.hid hnd0
  clear hnd0 ho6 p0 q0 q1 c6 z0 zf hS
  go_loopg [4] (6 * es.length + 2) (fun g s4 wr => ∃ (N : List Jp) (i tB : Nat) (T : List Jp) (A : Option Addr) (c : Nat), s4 = .pointer (some ⟨tB, 0, none⟩) ∧ 6 * es.length + 2 ≤ g + i ∧ W1.heap.size ≤ tB ∧ Hid (N.drop i = T) ∧ Hid (NdT (u, t) (candB es) w.heap.size tB cb mw yB W1.heap.size N i (.slice A (List.length T) c) wr) ∧ Hid (NeedQ E out (u, t) N i) ∧ Hid (Keeps (But W1 yB) W1 wr))
  case atStart => exact ⟨[(u, t)], 0, w5.heap.size + 1, [(u, t)], _, _, rfl, by omega, by omega, rfl, HNd0, HQ0, HK5⟩
  case round =>
    obtain ⟨N, i, tB, T, A, c, rfl, hgi, htB, HT, HN, HQ, HKr⟩ := hrel
    have hz9 := HKr.out.size
    have hz8 : w.heap.size + 2 ≤ wr.heap.size := by omega
    have e0 := HN.out.cc
    have et := HN.out.tc
    have l0 : w.heap.size < wr.heap.size := by omega
    have lt := cell_blk et
    simp only at lt
    have HC9 := Lib.hid (HC1.out.but HKr.out hBy ha1 ha2)
    have hNl := HQ.out.len HCd.out
    rw [HCdl.out] at hNl
    cases T with
    | nil =>
      have hi : i = N.length := by
        have h1 := List.drop_eq_nil_iff.1 HT.out
        have h2 := HQ.out.le
        omega
      subst hi
      clear hNl hgi
      go_wp2_with fail
      refine bodyPost_end (results_none rfl _ _ _) rfl ?_
      have hk := HKr.out
      refine ⟨rfl, ⟨N, HQ.out, HN.out.mp⟩, ⟨hk.os.trans HB1.out.os, hk.tape.trans HB1.out.tape, hk.output.trans HB1.out.output, Nat.le_trans HB1.out.size hk.size, fun j hj => (hk.block j ⟨Nat.lt_of_lt_of_le hj.1 HB1.out.size, hj.2⟩).trans (HB1.out.block j hj.1)⟩⟩
    | cons j T =>
      have hiN : i < N.length := by
        have := congrArg List.length HT.out
        rw [List.length_drop] at this
        simp only [List.length_cons] at this
        omega
      have hj : N[i] = j := by
        have h1 := HT.out
        rw [List.drop_eq_getElem_cons hiN] at h1
        injection h1
      have hrow : Tail wr W1.heap.size 2 (.slice A (j :: T).length c) (j :: T).length (jpsC (j :: T)) := by
        have h1 := HN.out.row
        rw [HT.out] at h1
        exact h1
      obtain ⟨g0, o0, hA, hg0, hg1, x0, x1⟩ := tailJ_head hrow
      subst hA
      have hcap := hrow.cap
      obtain ⟨xs, hfold, hq'⟩ := HQ.out.step hiN
      rw [hj] at hfold
      obtain ⟨s', t'⟩ := j
      simp only at x0 x1
      have HFold := Lib.hid hfold
      have HQ' := Lib.hid hq'
      obtain ⟨g', rfl⟩ : ∃ g', gk = g' + 1 := ⟨gk - 1, by omega⟩
      have hlen' : (N ++ xs).length ≤ 6 * es.length + 1 := by have := hq'.len HCd.out; rw [HCdl.out] at this; exact this
      have HLn := Lib.hid hlen'
      have HNi := Lib.hid (And.intro hNl hiN)
      have HGi := Lib.hid hgi
      clear hrow hfold hq' hj hlen' hNl hiN hgi
      go_wp2_with fail
      go_still_tail 5, (by kernel_rfl)
      go_wp2_with fail
      first | (refine wp_named ?_; intro W4 hW) | (refine calls_named ?_; intro W4 hW)
      have B4 : Below wr.heap.size wr W4 := by rw [hW]; exact (by repeat (first | exact Below.refl _ _ | assumption | refine Below.alloc ?_ (by first | omega | (simp <;> omega)) _ | refine Below.setCell ?_ (by first | omega | (simp <;> omega)) _ | refine Below.drew ?_))
      replace HN := Lib.hid (HN.out.on B4)
      replace HC9 := Lib.hid (HC9.out.on B4)
      replace HKr := Lib.hid (But.two HKr.out B4)
      replace l0 : w.heap.size < W4.heap.size := ltAt l0 B4
      replace lt : tB < W4.heap.size := ltAt lt B4
      clear hW
      have hz4 := B4.size
      clear B4 x0 x1 e0 et
      have hsa : NdA w.heap.size tB cb mw yB := ⟨by omega, by omega, ha1, by omega, by omega, by omega, ha2⟩
      have HSa := Lib.hid hsa
      have htk := needs_takes (first := (u, t)) (cand := candB es) (cB := w.heap.size) (tB := tB) (base := W1.heap.size) (i := i) (B := B) (N0 := N) hsa HK.out (by have := HCl.out; omega) hBy (by omega) (by omega)
      have HTk := Lib.hid htk
      have hS0 : NdS (u, t) (candB es) w.heap.size tB cb mw yB W1.heap.size i N [] (NdF yB tB (.slice (some ⟨g0, o0, none⟩) ((s', t') :: T).length c)) W4 :=
        ⟨_, HN.out, rfl, by omega, by omega⟩
      have HS0 := Lib.hid hS0
      have HF0 := Lib.hid (HN.out.low hsa hBy (Nat.le_trans (by omega) htB) (show B ≤ W1.heap.size by omega))
      clear htk hS0 hsa
      refine (each_any _ _ _ cb mw B An Ae Au Ah nn cn ce cu ch es up half out s' t' [] _ W4 HTk.out HS0.out HC9.out HK.out).mono ?_
      rintro e W5 ⟨rfl, F', ⟨v', hT', rfl, -, -⟩, hk5⟩
      rw [List.nil_append, HE.out, addN_no, HFold.out] at hT'
      obtain ⟨A2, c2, hv2⟩ := hT'.row.shape
      subst hv2
      have hdr : (N ++ xs).drop i = (s', t') :: (T ++ xs) := by rw [List.drop_append_of_le_length (by have := HNi.out.2; omega), HT.out]; rfl
      rw [hdr] at hT'
      have HT5 := Lib.hid hT'
      have HD5 := Lib.hid hdr
      have hkk : Keeps (But W1 yB) W1 W5 := by
        have h1 := HKr.out
        have h2 := hk5.1
        refine ⟨h2.os.trans h1.os, h2.tape.trans h1.tape, h2.output.trans h1.output, Nat.le_trans h1.size h2.size, fun j hj => (h2.block j ⟨Nat.lt_of_lt_of_le hj.1 h1.size, ?_⟩).trans (h1.block j hj)⟩
        rintro (h | h | h)
        · exact hj.2 h
        · have := hj.1; omega
        · have h3 : g0 = j := by simpa [Value.ownBlock] using h
          have := hj.1; omega
      have HK5' := Lib.hid hkk
      have hrow2 : Tail W5 W1.heap.size 2 (.slice A2 ((s', t') :: (T ++ xs)).length c2) ((s', t') :: (T ++ xs)).length (jpsC ((s', t') :: (T ++ xs))) := by
        have h1 := hT'.row
        rw [hdr] at h1
        exact h1
      have hcap2 := hrow2.cap
      obtain ⟨g2, o2, hA2, hg2, hg3, -, -⟩ := tailJ_head hrow2
      subst hA2
      have HR2 := Lib.hid hrow2
      have et := hT'.tc
      have tf := hT'.tf
      have lt5 := cell_blk et
      simp only at lt5
      have hcc : ((T ++ xs).length : Int) + 1 ≤ c2 := by have := hcap2.1; simp only [List.length_cons] at this; omega
      clear hT' hk5 hkk hrow2 hdr hcap hcap2 HN HKr
      generalize T ++ xs = T2 at *
      go_wp2_with fail
      all_goals
        go_roundg g'
        case measure => omega
        case rel =>
          have hb7 := fun o => (Below.refl W5.heap.size W5).alloc (Nat.le_refl _) o
          have hT2 : (N ++ xs).drop (i + 1) = T2 := by rw [← List.drop_drop, HD5.out]; rfl
          first
            | exact ⟨N ++ xs, i + 1, W5.heap.size, T2, some ⟨g2, o2, none⟩, 0, rfl, by have := HGi.out; omega, by omega, hT2, HT5.out.next HD5.out (hb7 _) (tailJ_next0 HR2.out (by assumption)) rfl (by go_simp) (by go_simp) (Nat.le_refl _), HQ', But.two HK5'.out (hb7 _)⟩
            | exact ⟨N ++ xs, i + 1, W5.heap.size, T2, some ⟨g2, o2 + 2, none⟩, c2 - 1, rfl, by have := HGi.out; omega, by omega, hT2, HT5.out.next HD5.out (hb7 _) (tailJ_next HR2.out) rfl (by go_simp) (by go_simp) (Nat.le_refl _), HQ', But.two HK5'.out (hb7 _)⟩
end Od
end Go.Proofs.YtbllehjhmfehbaaGreat
end

section
/- The rows that All sorts. No program. -/
namespace Go.Proofs.YtbllehjhmfehbaaGreat
set_option linter.unusedSimpArgs false
namespace Od
theorem keyP_plOf (m n : Ms) (k : Jp) : keyP (plOf m n k) = k := rfl
/-- Whatever the order in which the map gave them: sorted by unit and type they are all. -/
theorem sort_all {m n : Ms} {L S : List Pl} (hm : (keysP m).Nodup) (hL : L.Perm ((keysP m).map (plOf m n))) (hS : S.Perm L) (hle : S.Pairwise (fun a b => ltJ (keyP b) (keyP a) = false)) :
    S = (canon ltJ (keysP m)).map (plOf m n) := by
  have hp := hS.trans hL
  have hk : (S.map keyP).Perm (keysP m) := by
    have := hp.map keyP
    rw [List.map_map] at this
    have e : (keyP ∘ plOf m n) = id := by funext k; rfl
    rw [e, List.map_id] at this
    exact this
  have hn : (S.map keyP).Nodup := hk.nodup_iff.2 hm
  have hss : SS ltJ (S.map keyP) := by
    refine List.pairwise_map.2 ?_
    have h2 : S.Pairwise (fun a b => keyP a ≠ keyP b) := List.pairwise_map.1 hn
    refine (hle.and h2).imp fun {a b} h => ?_
    cases h3 : ltJ (keyP a) (keyP b)
    · exact absurd (toJ.total h3 h.1) h.2
    · rfl
  have hc : S.map keyP = canon ltJ (keysP m) := SS.eq_canon toJ hss fun _ => hk.mem_iff
  rw [← hc, List.map_map]
  symm
  calc S.map (plOf m n ∘ keyP) = S.map id := List.map_congr_left fun s hs => by
        obtain ⟨k, _, e⟩ := List.mem_map.1 (hp.mem_iff.1 hs)
        show plOf m n (keyP s) = s
        rw [← e, keyP_plOf]
    _ = S := List.map_id _
end Od
end Go.Proofs.YtbllehjhmfehbaaGreat
end

section
/- The words of pull.All: three maps of the call's own, what is left out, a delete at a step of a region. No program. (bel2) -/
namespace Go.Proofs.YtbllehjhmfehbaaGreat
open Go.RowKit Go.Sort Go.Maps
set_option linter.unusedSimpArgs false
section
variable {P : Program} {k : TypeId} {α : Type} {κ : KeyKind P k α} {ops : Array Oper} {o : Oper} {a : Act} {K : Act → World → Prop} {Q : Exit → Act → World → Prop} {E : Prop} (w : World)
open Classical in
theorem step_drop_is (hw : Region.wanted o (yielded ops a.tmps) = true) (m x : Operand) (t : TypeId) (hop : o.op = Op.call { callee := Callee.builtin Builtin.delete, args := #[m, x], argTypes := #[t, k] }) (e : TypeId) (ht : P.underlying t = some (.map k e))
    (b n : Nat) (f : α → Option Value) (hm : a.eval m = .map (some b)) (h : MapIs κ w b n f) (key : α) (hx : a.eval x = κ.val key) (hk : κ.ok key)
    (hK : ∀ w', MapIs κ w' b n (fun y => if y = key then none else f y) → w.grownBy w' (some b) → K (a.put o.dst (.tuple #[])) w') : if Region.wanted o (yielded ops a.tmps) = true then Oper.wp P o a w K Q else E := by
  rw [if_pos hw]
  obtain ⟨w', hrun, h1, h2⟩ := h.drop ht hk o.type
  unfold Oper.wp execOp
  simp only [hop, resolve, invoke, builtin, Sem.run_bind, Sem.run_pure, Result.andThen_ok, List.map_toArray, List.map_cons, List.map_nil, hm, hx, hrun]
  exact hK w' h1 h2
end
namespace Od
theorem three_maps {k : TypeId} {α : Type} (κ : KeyKind Tryz.prog k α) (w : World) (n : Nat) (o : Obj) (h : w.heap.size = n) :
    MapIs κ ((((w.alloc (.map #[] 0)).alloc (.map #[] 0)).alloc (.map #[] 0)).alloc o) n 0 (fun _ => none) ∧ MapIs κ ((((w.alloc (.map #[] 0)).alloc (.map #[] 0)).alloc (.map #[] 0)).alloc o) (n + 1) 0 (fun _ => none) ∧
      MapIs κ ((((w.alloc (.map #[] 0)).alloc (.map #[] 0)).alloc (.map #[] 0)).alloc o) (n + 1 + 1) 0 (fun _ => none) := by
  subst h
  have h1 := MapIs.made κ w
  have h2 := MapIs.made κ (w.alloc (.map #[] 0))
  have h3 := MapIs.made κ ((w.alloc (.map #[] 0)).alloc (.map #[] 0))
  simp only [World.size_alloc] at h2 h3
  exact ⟨((h1.alloc _).alloc _).alloc _, (h2.alloc _).alloc _, h3.alloc _⟩
theorem outB_snoc (l : List Pl) (p : Pl) (k : Jp) : outB (l ++ [p]) k = (outB l k || (p.1 == k.1 && p.2.1 == k.2)) := by
  unfold outB; rw [List.any_append]; simp
theorem outV_put (l : List Pl) (p : Pl) : (fun y => if y = (p.1, p.2.1) then some (Value.bool true) else outV (outB l) y) = outV (outB (l ++ [p])) := by
  funext y
  unfold outV
  rw [outB_snoc]
  by_cases e : y = (p.1, p.2.1)
  · subst e; simp
  · rw [if_neg e]
    have h : (p.1 == y.1 && p.2.1 == y.2) = false := by
      rw [Bool.and_eq_false_iff]
      by_cases h1 : p.1 = y.1
      · refine .inr ?_
        simpa using fun h2 : p.2.1 = y.2 => e (Prod.ext h1.symm h2.symm)
      · exact .inl (by simpa using h1)
    rw [h, Bool.or_false]
theorem outV_nil : (fun _ => none : Jp → Option Value) = outV (outB []) := by
  funext y; simp [outV, outB]
theorem outV_drop (out : Jp → Bool) (first : Jp) : (fun y => if y = first then none else outV out y) = outV (outF out first) := by
  funext y
  unfold outV outF
  by_cases e : y = first
  · subst e; simp
  · have h : (y == first) = false := by simpa using e
    rw [if_neg e, h]; simp
def OwnPl (l : List Pl) (w : World) (e : Ending) (w' : World) : Prop := ∃ A c, e = .returned (.slice A l.length c) ∧ w'.ownsRow w.heap.size 37 4 (.slice A l.length c) l.length (plsC l) ∧ Below w.heap.size w w'
theorem infoPl : (Tryz.prog.info? 37).map (fun i => (i.zero, i.size, i.bytes)) = some (some (.agg #[.string ⟨#[]⟩, .int .i64 0, .bool false, .string ⟨#[]⟩]), 4, 48) := by kernel_rfl
abbrev nowV (Au : Option Addr) (nu cu : Nat) (Ah : Option Addr) (nh ch : Nat) : Value := .agg #[.slice Au nu cu, .slice Ah nh ch]
theorem okJ_cand {es : List Ed} (h : OkE es) : ∀ k ∈ candB es, okJ k := by
  intro k hk
  obtain ⟨e, he, h1⟩ := List.mem_flatMap.1 hk
  have h2 := h e he
  have hw : ∀ n : Int, n = 1 ∨ n = 2 ∨ n = 3 → (Lit.int .i64 n).wf = true := by
    rintro n (rfl | rfl | rfl) <;> decide
  simp only [List.mem_cons, List.not_mem_nil, or_false] at h1
  rcases h1 with rfl | rfl | rfl | rfl | rfl | rfl
  · exact ⟨h2.1, hw _ (.inl rfl)⟩
  · exact ⟨h2.1, hw _ (.inr (.inl rfl))⟩
  · exact ⟨h2.1, hw _ (.inr (.inr rfl))⟩
  · exact ⟨h2.2, hw _ (.inl rfl)⟩
  · exact ⟨h2.2, hw _ (.inr (.inl rfl))⟩
  · exact ⟨h2.2, hw _ (.inr (.inr rfl))⟩
end Od
end Go.Proofs.YtbllehjhmfehbaaGreat
end
