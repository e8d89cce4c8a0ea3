/- My texts, joined for the claim: PSteps1 OwnG PDel PClear GIns. -/
import Derived.Test.YtbllehjhmfehbaaGreatZB0
import Derived.Test.YtbllehjhmfehbaaGreatZB9
import Derived.Test.YtbllehjhmfehbaaGreatZB2
import Derived.Lib.SliceRun
import Derived.Laws.AppendOwn
import Derived.Laws.IdiomCopy
import Derived.Test.YtbllehjhmfehbaaGreatZB7

section
/- The closure of (*closure).steps: who is new is told by whom, and put behind the next row. (bel2) -/
namespace Go.Proofs.YtbllehjhmfehbaaGreat
open Go.RowKit Go.Sort Go.Maps
set_option linter.unusedSimpArgs false
namespace Od
/-- What the taker of steps finds: the closure's pointer in block cB, its map by in block yB, the row that grows in the cell of block nB. -/
structure StT (first : Jp) (cand : List Jp) (cB nB cb mw yB base : Nat) (s : Ms × List Jp) (v : Value) (w : World) : Prop where
  cc : w.cell? ⟨cB, 0, none⟩ = some (.pointer (some ⟨cb, 0, none⟩))
  c5 : w.cell? ⟨cb, 5, none⟩ = some (.map (some yB))
  nc : w.cell? ⟨nB, 0, none⟩ = some v
  nf : w.frozen? ⟨nB, 0, none⟩ = false
  own : w.ownsRow base 73 2 v s.2.length (jpsC s.2)
  mp : MapIs kindJ w yB s.1.length (byV s.1)
  mid : Mid first cand s
  sep : ∀ b, v.ownBlock = some b → b ≠ yB ∧ b ≠ nB ∧ b ≠ cB ∧ b ≠ cb ∧ b ≠ mw
/-- No two of these blocks are one. -/
structure StA (cB nB cb mw yB : Nat) : Prop where
  a1 : yB ≠ cB
  a2 : yB ≠ nB
  a3 : yB ≠ cb
  a4 : nB ≠ cB
  a5 : nB ≠ cb
  a6 : nB ≠ mw
  a7 : yB ≠ mw
/-- The blocks that it may turn. -/
def StF (yB nB : Nat) (v : Value) (k : Nat) : Prop := k = yB ∨ k = nB ∨ v.ownBlock = some k
section
variable {first : Jp} {cand : List Jp} {cB nB cb mw yB base : Nat} {s : Ms × List Jp} {v : Value} {w w' : World}
theorem StT.on (h : StT first cand cB nB cb mw yB base s v w) (hb : Below w.heap.size w w') : StT first cand cB nB cb mw yB base s v w' := by
  have c : ∀ {b o : Nat} {x : Value}, w.cell? ⟨b, o, none⟩ = some x → w'.cell? ⟨b, o, none⟩ = some x := fun c => cellAt c hb (cell_blk c)
  have hl := cell_blk h.nc
  exact ⟨c h.cc, c h.c5, c h.nc, froAt h.nf hb hl, own_on h.own hb, h.mp.on hb, h.mid, h.sep⟩
theorem StT.low (h : StT first cand cB nB cb mw yB base s v w) (ha : StA cB nB cb mw yB) {B : Nat} (h1 : B ≤ yB) (h2 : B ≤ nB) (h3 : B ≤ base) : ∀ k, StF yB nB v k → (B ≤ k ∧ k ≠ cb ∧ k ≠ mw) ∧ k < w.heap.size := by
  rintro k (rfl | rfl | hk)
  · exact ⟨⟨h1, ha.a3, ha.a7⟩, h.mp.lt⟩
  · exact ⟨⟨h2, ha.a5, ha.a6⟩, cell_blk h.nc⟩
  · have h5 := h.own.lt k hk
    have h6 := h.sep k hk
    exact ⟨⟨by omega, h6.2.2.2.1, h6.2.2.2.2⟩, h5.2⟩
/-- What the taker's turn comes to. -/
theorem StT.put (h : StT first cand cB nB cb mw yB base s v w) (ha : StA cB nB cb mw yB) {k : Jp} {u : Str} (hkn : knownP s.1 k = false) (hc : k ∈ cand) {w5 w7 : World} {A8 : Option Addr} {c8 : Nat}
    (hm5 : MapIs kindJ w5 yB (s.1.length + 1) (fun y => if y = k then some (sv u) else byV s.1 y)) (hk5 : Keeps (But w yB) w w5)
    (hown : w7.ownsRow base 73 2 (.slice A8 (s.2.length + 1) c8) (s.2.length + 1) (jpsC s.2 ++ jpC k)) (hg : w5.grownBy w7 v.ownBlock)
    (hat : (Value.slice A8 (s.2.length + 1) c8).ownBlock = v.ownBlock ∨ (Value.slice A8 (s.2.length + 1) c8).ownBlock = some (w5.heap.size + 1)) (hmw : mw < w.heap.size) :
    StT first cand cB nB cb mw yB base (addP noO s (k, u)) (.slice A8 (s.2.length + 1) c8) (w7.setCell ⟨nB, 0, none⟩ (.slice A8 (s.2.length + 1) c8)) ∧
      TookB (StF yB nB v) (StF yB nB (.slice A8 (s.2.length + 1) c8)) w (w7.setCell ⟨nB, 0, none⟩ (.slice A8 (s.2.length + 1) c8)) := by
  have e : addP noO s (k, u) = (s.1 ++ [(k, u)], s.2 ++ [k]) := by unfold addP noO; rw [hkn]; rfl
  have hmid : Mid first cand (addP noO s (k, u)) := h.mid.add hc
  rw [e] at hmid ⊢
  have hl1 := cell_blk h.cc
  have hl2 := cell_blk h.c5
  have hl3 := cell_blk h.nc
  simp only at hl1 hl2 hl3
  have hly := h.mp.lt
  have hs5 := hk5.size
  have hs7 := hg.size
  have hsv := h.sep
  have hb : ∀ j, j < w.heap.size → j ≠ yB → j ≠ nB → v.ownBlock ≠ some j → (w7.setCell ⟨nB, 0, none⟩ (.slice A8 (s.2.length + 1) c8)).heap[j]? = w.heap[j]? := fun j hj h1 h2 h3 => by
    rw [(grownBy_setCell w7 ⟨nB, 0, none⟩ (.slice A8 (s.2.length + 1) c8)).block j (by omega) (fun e => h2 (by injection e)), hg.block j (by omega) (fun e => h3 e.symm), hk5.block j ⟨hj, h1⟩]
  have hc' : ∀ {b o : Nat} {x : Value}, w.cell? ⟨b, o, none⟩ = some x → b < w.heap.size → b ≠ yB → b ≠ nB → v.ownBlock ≠ some b → (w7.setCell ⟨nB, 0, none⟩ (.slice A8 (s.2.length + 1) c8)).cell? ⟨b, o, none⟩ = some x := fun c h0 h1 h2 h3 => (World.cell?_of_block (a := ⟨_, _, none⟩) (hb _ h0 h1 h2 h3)).trans c
  have n1 : v.ownBlock ≠ some cB := fun e => (hsv _ e).2.2.1 rfl
  have n2 : v.ownBlock ≠ some cb := fun e => (hsv _ e).2.2.2.1 rfl
  have n3 : v.ownBlock ≠ some nB := fun e => (hsv _ e).2.1 rfl
  have n4 : v.ownBlock ≠ some yB := fun e => (hsv _ e).1 rfl
  have n5 : v.ownBlock ≠ some mw := fun e => (hsv _ e).2.2.2.2 rfl
  have c5 := cellK h.nc hk5 hl3 (fun e => ha.a2 e.symm)
  have f5 := froK h.nf hk5 hl3 (fun e => ha.a2 e.symm)
  have c7 := cell_kept c5 hg (by omega) n3
  have f7 := fro_kept f5 hg (by omega) n3
  have hnew : ∀ b, (Value.slice A8 (s.2.length + 1) c8).ownBlock = some b → v.ownBlock = some b ∨ w.heap.size ≤ b := fun b hb => by
    rcases hat with h0 | h0
    · exact .inl (h0 ▸ hb)
    · rw [h0] at hb; injection hb with hb; exact .inr (by omega)
  have hne : (Value.slice A8 (s.2.length + 1) c8).ownBlock ≠ some nB := fun e => by
    rcases hnew _ e with h0 | h0
    · exact n3 h0
    · omega
  refine ⟨⟨hc' h.cc hl1 (fun e => ha.a1 e.symm) (fun e => ha.a4 e.symm) n1, hc' h.c5 hl2 (fun e => ha.a3 e.symm) (fun e => ha.a5 e.symm) n2, World.cell?_setCell_same _ _ _ c7, by rw [World.frozen?_setCell]; exact f7, ?_, ?_, hmid, fun b hb => ?_⟩, ?_, ?_⟩
  · have h0 := hown.kept (grownBy_setCell w7 ⟨nB, 0, none⟩ (.slice A8 (s.2.length + 1) c8)) (.inr hne)
    simpa [jpsC_app, jpsC_one] using h0
  · rw [byV_push hkn] at hm5
    have h0 := (hm5.kept hg (fun e => n4 e.symm)).kept (grownBy_setCell w7 ⟨nB, 0, none⟩ (.slice A8 (s.2.length + 1) c8)) (fun e => ha.a2 (by injection e))
    simpa using h0
  · rcases hnew _ hb with h0 | h0
    · exact hsv _ h0
    · exact ⟨by omega, by omega, by omega, by omega, by omega⟩
  · refine ⟨?_, ?_, ?_, ?_, fun j hj => hb j hj.1 (fun e => hj.2 (.inl e)) (fun e => hj.2 (.inr (.inl e))) (fun e => hj.2 (.inr (.inr e)))⟩
    · exact hg.os.trans hk5.os
    · exact hg.tape.trans hk5.tape
    · exact hg.output.trans hk5.output
    · simp only [World.size_setCell]; omega
  · rintro b (h0 | h0 | h0)
    · exact .inl (.inl h0)
    · exact .inl (.inr (.inl h0))
    · rcases hnew _ h0 with h1 | h1
      · exact .inl (.inr (.inr h1))
      · exact .inr h1
end
set_option maxRecDepth 100000 in
set_option maxHeartbeats 8000000 in
theorem steps1_any (first : Jp) (cand : List Jp) (cB jB nB cb mw yB base : Nat) (u : Str) (s0 : Ms × List Jp) (v : Value) (s : Str) (t : Int) (n : Bool) (w : World)
    (h : StT first cand cB nB cb mw yB base s0 v w) (ha : StA cB nB cb mw yB) (hj : w.cell? ⟨jB, 0, none⟩ = some (sv u)) (hj1 : jB ≠ yB ∧ jB ≠ nB ∧ v.ownBlock ≠ some jB) (hc : (s, t) ∈ cand) (hok : okJ (s, t)) (hcl : cand.length ≤ 1000000) (hmw : mw < w.heap.size) (hbase : base ≤ w.heap.size) :
    Calls Tryz.prog 89 #[.agg #[sv s, .int .i64 t, .bool n], .pointer (some ⟨cB, 0, none⟩), .pointer (some ⟨jB, 0, none⟩), .pointer (some ⟨nB, 0, none⟩)] w
      fun e w' => e = .returned (.tuple #[]) ∧ ∃ v', StT first cand cB nB cb mw yB base (addP noO s0 ((s, t), u)) v' w' ∧ TookB (StF yB nB v) (StF yB nB v') w w' := by
  obtain ⟨i0, hi, hz0, hz1, hz2⟩ := info_parts infoJp
  have hml := h.mid.len
  have hnl := h.mid.nl
  have hlen : s0.1.length < maxLen := by unfold maxLen; omega
  have h63 : s0.2.length + 1 ≤ maxLen := by unfold maxLen; omega
  have hby : (s0.2.length + 1) * 24 ≤ 140737488355328 := by omega
  have HL := Lib.hid (And.intro hlen (And.intro h63 hby))
  have HT := Lib.hid h
  have e0 := h.cc
  have e5 := h.c5
  have en := h.nc
  have l1 := cell_blk h.cc
  have l2 := cell_blk h.c5
  have l3 := cell_blk h.nc
  have l4 := cell_blk hj
  have ly := h.mp.lt
  simp only at l1 l2 l3 l4
  obtain ⟨j1, j2, j3⟩ := hj1
  have a1 : ¬ cB = yB := fun e => ha.a1 e.symm
  have a2 : ¬ cb = yB := fun e => ha.a3 e.symm
  have a3 : ¬ nB = yB := fun e => ha.a2 e.symm
  have a4 : ¬ jB = yB := j1
  have hsz := Nat.le_refl w.heap.size
  have hyw := h.mp.lt
  clear h hlen h63 hby hml hnl
  go_enter Tryz.func89, Tryz.ntmps89
  go_wp2_with fail
  first | (refine wp_named ?_; intro W1 hW) | (refine calls_named ?_; intro W1 hW)
  have B1 : Below w.heap.size w W1 := by rw [hW]; exact (by repeat (first | exact Below.refl _ _ | assumption | refine Below.alloc ?_ (by first | omega | (simp <;> omega)) _ | refine Below.setCell ?_ (by first | omega | (simp <;> omega)) _ | refine Below.drew ?_))
  replace e0 := cellAt e0 B1 (by omega)
  replace e5 := cellAt e5 B1 (by omega)
  replace en := cellAt en B1 (by omega)
  replace hj := cellAt hj B1 (by omega)
  replace HT := Lib.hid (HT.out.on B1)
  replace l1 : cB < W1.heap.size := ltAt l1 B1
  replace l2 : cb < W1.heap.size := ltAt l2 B1
  replace l3 : nB < W1.heap.size := ltAt l3 B1
  replace l4 : jB < W1.heap.size := ltAt l4 B1
  replace ly : yB < W1.heap.size := ltAt ly B1
  have n1 : w.heap.size < W1.heap.size := by rw [hW]; simp <;> omega
  have y0 : W1.cell? ⟨w.heap.size, 0, none⟩ = some (sv s) := by rw [hW]; go_simp
  have y1 : W1.cell? ⟨w.heap.size, 1, none⟩ = some (.int .i64 t) := by rw [hW]; go_simp
  clear hW
  have HB1 := Lib.hid B1
  have hz1w := B1.size
  clear B1
  have a5 : ¬ w.heap.size = yB := by omega
  cases hkn : knownP s0.1 (s, t)
  · have hfk : byV s0.1 (s, t) = none := by unfold byV; rw [byF_none hkn]; rfl
    try go_wp2_with fail
    refine wp_region_held_drew (S := fun w' => Below W1.heap.size W1 w') (by kernel_rfl) (Below.drew (Below.refl _ _)) (fun hHeld => ?_)
    refine tY (i := 0) (v := ?_) rfl ?_ hHeld ?_; rotate_left 1; focus (intro w' hSw; have hCell := fun (b o : Nat) (h : b < W1.heap.size) => hSw.cell (p := ⟨b, o, none⟩) h; clear hSw; go_simp; try with_reducible rfl)
    (try simp only [Act.put, zn1, zn2, zn3])
    refine tY (i := 1) (v := ?_) rfl ?_ hHeld ?_; rotate_left 1; focus (intro w' hSw; clear hSw; go_simp; try with_reducible rfl)
    (try simp only [Act.put, zn1, zn2, zn3])
    refine tY (i := 2) (v := ?_) rfl ?_ hHeld ?_; rotate_left 1; focus (intro w' hSw; clear hSw; go_simp; try with_reducible rfl)
    (try simp only [Act.put, zn1, zn2, zn3])
    refine tY (i := 3) (v := ?_) rfl ?_ hHeld ?_; rotate_left 1; focus (intro w' hSw; have hCell := fun (b o : Nat) (h : b < W1.heap.size) => hSw.cell (p := ⟨b, o, none⟩) h; clear hSw; go_simp; try with_reducible rfl)
    (try simp only [Act.put, zn1, zn2, zn3])
    refine tY (i := 4) (v := ?_) rfl ?_ hHeld ?_; rotate_left 1; focus (intro w' hSw; clear hSw; go_simp; try with_reducible rfl)
    (try simp only [Act.put, zn1, zn2, zn3])
    refine tY (i := 5) (v := ?_) rfl ?_ hHeld ?_; rotate_left 1; focus (intro w' hSw; have hCell := fun (b o : Nat) (h : b < W1.heap.size) => hSw.cell (p := ⟨b, o, none⟩) h; clear hSw; go_simp; try with_reducible rfl)
    (try simp only [Act.put, zn1, zn2, zn3])
    refine ready_one (i := 6) rfl (by kernel_rfl) (fun K hK => ?_)
    refine step_lookOk_is _ (by rfl) (.tmp 11) (.tmp 13) 78 (by rfl) 9 Tryz.underlying78 (.string ⟨#[]⟩) (zeroS _) yB _ _ (by rfl) (HT.out.mp.on hHeld) (s, t) (by rfl) hok ?_
    rw [hfk]
    refine hK.out _ _ ?_ (fun hHeld2 => ?_)
    · (try dsimp only); first | exact Below.trans hHeld (Below.mono hb hHeld.size) | exact hHeld | exact Below.drew hHeld | exact (by repeat (first | exact Below.refl _ _ | assumption | refine Below.alloc ?_ (by first | omega | (simp <;> omega)) _ | refine Below.setCell ?_ (by first | omega | (simp <;> omega)) _ | refine Below.drew ?_))
    clear hK K hHeld; have hHeld := hHeld2; clear hHeld2; (try simp only [Act.put, zn1, zn2, zn3])
    refine tY (i := 7) (v := ?_) rfl ?_ hHeld ?_; rotate_left 1; focus (intro w' hSw; clear hSw; go_simp; try with_reducible rfl)
    (try simp only [Act.put, zn1, zn2, zn3])
    refine tY (i := 8) (v := ?_) rfl ?_ hHeld ?_; rotate_left 1; focus (intro w' hSw; clear hSw; go_simp; try with_reducible rfl)
    (try simp only [Act.put, zn1, zn2, zn3])
    refine tY (i := 9) (v := ?_) rfl ?_ hHeld ?_; rotate_left 1; focus (intro w' hSw; clear hSw; go_simp; try with_reducible rfl)
    (try simp only [Act.put, zn1, zn2, zn3])
    refine tY (i := 10) (v := ?_) rfl ?_ hHeld ?_; rotate_left 1; focus (intro w' hSw; clear hSw; go_simp; try with_reducible rfl)
    (try simp only [Act.put, zn1, zn2, zn3])
    refine tY (i := 11) (v := ?_) rfl ?_ hHeld ?_; rotate_left 1; focus (intro w' hSw; clear hSw; go_simp; try with_reducible rfl)
    (try simp only [Act.put, zn1, zn2, zn3])
    refine wpAnyH_done (by kernel_rfl) ?_ _
    go_wp2_with fail
    first | (refine wp_named ?_; intro W2 hW) | (refine calls_named ?_; intro W2 hW)
    have B2 : Below W1.heap.size W1 W2 := by rw [hW]; exact (by repeat (first | exact Below.refl _ _ | assumption | refine Below.alloc ?_ (by first | omega | (simp <;> omega)) _ | refine Below.setCell ?_ (by first | omega | (simp <;> omega)) _ | refine Below.drew ?_))
    replace e0 := cellAt e0 B2 (by omega)
    replace e5 := cellAt e5 B2 (by omega)
    replace en := cellAt en B2 (by omega)
    replace hj := cellAt hj B2 (by omega)
    replace y0 := cellAt y0 B2 (by omega)
    replace y1 := cellAt y1 B2 (by omega)
    replace HT := Lib.hid (HT.out.on B2)
    replace l1 : cB < W2.heap.size := ltAt l1 B2
    replace l2 : cb < W2.heap.size := ltAt l2 B2
    replace l3 : nB < W2.heap.size := ltAt l3 B2
    replace l4 : jB < W2.heap.size := ltAt l4 B2
    replace ly : yB < W2.heap.size := ltAt ly B2
    replace n1 : w.heap.size < W2.heap.size := ltAt n1 B2
    clear hW
    have HB2 := Lib.hid (lift HB1.out B2)
    clear B2 hHeld
    have HMp := Lib.hid HT.out.mp
    try go_wp2_with fail
    refine wp_region_held_drew (S := fun w' => Keeps (But W2 yB) W2 w') (by kernel_rfl) (But.below (Below.drew (Below.refl _ _))) (fun hHeld => ?_)
    refine tY (i := 0) (v := ?_) rfl ?_ hHeld ?_; rotate_left 1; focus (intro w' hSw; have hCell := fun (b o : Nat) (h : b < W2.heap.size) (h2 : ¬ b = yB) => World.cell?_of_block (a := ⟨b, o, none⟩) (hSw.block b ⟨h, h2⟩); clear hSw; go_simp; try with_reducible rfl)
    (try simp only [Act.put, zn1, zn2, zn3])
    refine tY (i := 1) (v := ?_) rfl ?_ hHeld ?_; rotate_left 1; focus (intro w' hSw; clear hSw; go_simp; try with_reducible rfl)
    (try simp only [Act.put, zn1, zn2, zn3])
    refine tY (i := 2) (v := ?_) rfl ?_ hHeld ?_; rotate_left 1; focus (intro w' hSw; clear hSw; go_simp; try with_reducible rfl)
    (try simp only [Act.put, zn1, zn2, zn3])
    refine tY (i := 3) (v := ?_) rfl ?_ hHeld ?_; rotate_left 1; focus (intro w' hSw; have hCell := fun (b o : Nat) (h : b < W2.heap.size) (h2 : ¬ b = yB) => World.cell?_of_block (a := ⟨b, o, none⟩) (hSw.block b ⟨h, h2⟩); clear hSw; go_simp; try with_reducible rfl)
    (try simp only [Act.put, zn1, zn2, zn3])
    refine tY (i := 4) (v := ?_) rfl ?_ hHeld ?_; rotate_left 1; focus (intro w' hSw; clear hSw; go_simp; try with_reducible rfl)
    (try simp only [Act.put, zn1, zn2, zn3])
    refine tY (i := 5) (v := ?_) rfl ?_ hHeld ?_; rotate_left 1; focus (intro w' hSw; have hCell := fun (b o : Nat) (h : b < W2.heap.size) (h2 : ¬ b = yB) => World.cell?_of_block (a := ⟨b, o, none⟩) (hSw.block b ⟨h, h2⟩); clear hSw; go_simp; try with_reducible rfl)
    (try simp only [Act.put, zn1, zn2, zn3])
    refine tY (i := 6) (v := ?_) rfl ?_ hHeld ?_; rotate_left 1; focus (intro w' hSw; clear hSw; go_simp; try with_reducible rfl)
    (try simp only [Act.put, zn1, zn2, zn3])
    refine tY (i := 7) (v := ?_) rfl ?_ hHeld ?_; rotate_left 1; focus (intro w' hSw; have hCell := fun (b o : Nat) (h : b < W2.heap.size) (h2 : ¬ b = yB) => World.cell?_of_block (a := ⟨b, o, none⟩) (hSw.block b ⟨h, h2⟩); clear hSw; go_simp; try with_reducible rfl)
    (try simp only [Act.put, zn1, zn2, zn3])
    refine ready_one (i := 8) rfl (by kernel_rfl) (fun K hK => ?_)
    refine step_update_is _ (by rfl) (.tmp 22) (.tmp 24) (.tmp 26) 78 (by rfl) 9 Tryz.underlying78 yB _ _ (by rfl) HMp.out HL.out.1 (s, t) (sv u) (by rfl) (by rfl) hok ?_
    intro w5 hm5 hg5
    have hS := But.trans hHeld (But.grown hg5)
    have HM5 := Lib.hid (MapIs.if_ hm5)
    clear hm5 hg5
    refine hK.out _ _ ?_ (fun hHeld2 => ?_)
    · (try dsimp only); exact hS
    clear hK K hHeld; have hHeld := hHeld2; clear hHeld2; (try simp only [Act.put, zn1, zn2, zn3])
    refine wpAnyH_done (by kernel_rfl) ?_ _
    have HT2 := Lib.hid HT.out
    have hs5 := hHeld.size
    have m3 := l3
    replace e0 := cellK e0 hHeld (by omega) (by omega)
    replace e5 := cellK e5 hHeld (by omega) (by omega)
    replace en := cellK en hHeld (by omega) (by omega)
    replace y0 := cellK y0 hHeld (by omega) (by omega)
    replace y1 := cellK y1 hHeld (by omega) (by omega)
    replace hj := cellK hj hHeld (by omega) (by omega)
    clear HT
    replace l1 : cB < w5.heap.size := Nat.lt_of_lt_of_le l1 (Keeps.size hHeld)
    replace l2 : cb < w5.heap.size := Nat.lt_of_lt_of_le l2 (Keeps.size hHeld)
    replace l3 : nB < w5.heap.size := Nat.lt_of_lt_of_le l3 (Keeps.size hHeld)
    replace l4 : jB < w5.heap.size := Nat.lt_of_lt_of_le l4 (Keeps.size hHeld)
    replace ly : yB < w5.heap.size := Nat.lt_of_lt_of_le ly (Keeps.size hHeld)
    replace n1 : w.heap.size < w5.heap.size := Nat.lt_of_lt_of_le n1 (Keeps.size hHeld)
    have HK5 := Lib.hid hS
    have hvy : v.ownBlock ≠ some yB := fun e => (HT2.out.sep _ e).1 rfl
    have hvn : v.ownBlock ≠ some nB := fun e => (HT2.out.sep _ e).2.1 rfl
    have HO5 := Lib.hid (hS.own HT2.out.own (fun g hg => ⟨(HT2.out.own.lt g hg).2, fun e => hvy (by rw [hg, e])⟩))
    have f5 := froK HT2.out.nf hS m3 a3
    have hb5 : base ≤ w5.heap.size := by have := HB2.out.size; omega
    have HF := Lib.hid (And.intro hvn f5)
    have HV := Lib.hid hvy
    clear hS hHeld hvy hvn f5
    go_wp2_with (first
      | (at_builtin; refine wpList_pushm w5 w5 (by rfl) (.tmp 27) (.tmp 30) 141 (by rfl) base 73 i0 _ 2 24 Tryz.underlying141 hi hz0 hz1 hz2 rfl (by decide) _ _ _ (by rfl) HO5.out (jpC (s, t)) (w5.heap.size) rfl (by rfl) rfl (one_jpC (s, t)) HL.out.2.1 HL.out.2.2 hb5 (Below.refl _ _) ?_; intro A8 c8 w7 hown7 hbel7 hg7 hat7; have c7 := cell_kept en hg7 l3 HF.out.1; have f7 := fro_kept HF.out.2 hg7 l3 HF.out.1; have HO7 := Lib.hid hown7; have HG7 := Lib.hid (And.intro hg7 hat7); clear hown7 hbel7 hg7 hat7)
      | fail)
    refine bodyPost_end (results_none rfl _ _ _) rfl ?_
    have hput := HT2.out.put ha (u := u) hkn hc HM5.out HK5.out HO7.out HG7.out.1 HG7.out.2 (Nat.lt_of_lt_of_le hmw HB2.out.size)
    exact ⟨rfl, _, hput.1, (TookB.below HB2.out).trans hput.2⟩
  · have hfk : ∃ x, byV s0.1 (s, t) = some (sv x) := by
      have h0 := byF_some s0.1 (s, t)
      rw [hkn] at h0
      obtain ⟨x, hx⟩ := Option.isSome_iff_exists.1 h0
      exact ⟨x, by unfold byV; rw [hx]; rfl⟩
    obtain ⟨x, hfk⟩ := hfk
    try go_wp2_with fail
    refine wp_region_held_drew (S := fun w' => Below W1.heap.size W1 w') (by kernel_rfl) (Below.drew (Below.refl _ _)) (fun hHeld => ?_)
    refine tY (i := 0) (v := ?_) rfl ?_ hHeld ?_; rotate_left 1; focus (intro w' hSw; have hCell := fun (b o : Nat) (h : b < W1.heap.size) => hSw.cell (p := ⟨b, o, none⟩) h; clear hSw; go_simp; try with_reducible rfl)
    (try simp only [Act.put, zn1, zn2, zn3])
    refine tY (i := 1) (v := ?_) rfl ?_ hHeld ?_; rotate_left 1; focus (intro w' hSw; clear hSw; go_simp; try with_reducible rfl)
    (try simp only [Act.put, zn1, zn2, zn3])
    refine tY (i := 2) (v := ?_) rfl ?_ hHeld ?_; rotate_left 1; focus (intro w' hSw; clear hSw; go_simp; try with_reducible rfl)
    (try simp only [Act.put, zn1, zn2, zn3])
    refine tY (i := 3) (v := ?_) rfl ?_ hHeld ?_; rotate_left 1; focus (intro w' hSw; have hCell := fun (b o : Nat) (h : b < W1.heap.size) => hSw.cell (p := ⟨b, o, none⟩) h; clear hSw; go_simp; try with_reducible rfl)
    (try simp only [Act.put, zn1, zn2, zn3])
    refine tY (i := 4) (v := ?_) rfl ?_ hHeld ?_; rotate_left 1; focus (intro w' hSw; clear hSw; go_simp; try with_reducible rfl)
    (try simp only [Act.put, zn1, zn2, zn3])
    refine tY (i := 5) (v := ?_) rfl ?_ hHeld ?_; rotate_left 1; focus (intro w' hSw; have hCell := fun (b o : Nat) (h : b < W1.heap.size) => hSw.cell (p := ⟨b, o, none⟩) h; clear hSw; go_simp; try with_reducible rfl)
    (try simp only [Act.put, zn1, zn2, zn3])
    refine ready_one (i := 6) rfl (by kernel_rfl) (fun K hK => ?_)
    refine step_lookOk_is _ (by rfl) (.tmp 11) (.tmp 13) 78 (by rfl) 9 Tryz.underlying78 (.string ⟨#[]⟩) (zeroS _) yB _ _ (by rfl) (HT.out.mp.on hHeld) (s, t) (by rfl) hok ?_
    rw [hfk]
    refine hK.out _ _ ?_ (fun hHeld2 => ?_)
    · (try dsimp only); first | exact Below.trans hHeld (Below.mono hb hHeld.size) | exact hHeld | exact Below.drew hHeld | exact (by repeat (first | exact Below.refl _ _ | assumption | refine Below.alloc ?_ (by first | omega | (simp <;> omega)) _ | refine Below.setCell ?_ (by first | omega | (simp <;> omega)) _ | refine Below.drew ?_))
    clear hK K hHeld; have hHeld := hHeld2; clear hHeld2; (try simp only [Act.put, zn1, zn2, zn3])
    refine tY (i := 7) (v := ?_) rfl ?_ hHeld ?_; rotate_left 1; focus (intro w' hSw; clear hSw; go_simp; try with_reducible rfl)
    (try simp only [Act.put, zn1, zn2, zn3])
    refine tY (i := 8) (v := ?_) rfl ?_ hHeld ?_; rotate_left 1; focus (intro w' hSw; clear hSw; go_simp; try with_reducible rfl)
    (try simp only [Act.put, zn1, zn2, zn3])
    refine tY (i := 9) (v := ?_) rfl ?_ hHeld ?_; rotate_left 1; focus (intro w' hSw; clear hSw; go_simp; try with_reducible rfl)
    (try simp only [Act.put, zn1, zn2, zn3])
    refine tY (i := 10) (v := ?_) rfl ?_ hHeld ?_; rotate_left 1; focus (intro w' hSw; clear hSw; go_simp; try with_reducible rfl)
    (try simp only [Act.put, zn1, zn2, zn3])
    refine tY (i := 11) (v := ?_) rfl ?_ hHeld ?_; rotate_left 1; focus (intro w' hSw; clear hSw; go_simp; try with_reducible rfl)
    (try simp only [Act.put, zn1, zn2, zn3])
    refine wpAnyH_done (by kernel_rfl) ?_ _
    go_wp2_with fail
    refine bodyPost_end (results_none rfl _ _ _) rfl ?_
    have hb9 := lift HB1.out hHeld
    refine ⟨rfl, v, ?_, TookB.below hb9⟩
    have e : addP noO s0 ((s, t), u) = s0 := by unfold addP; rw [hkn]; rfl
    rw [e]
    exact HT.out.on hHeld
end Od
end Go.Proofs.YtbllehjhmfehbaaGreat
end

section
/- Rows of the call's own written into. (bel2) -/
namespace Go.Proofs.YtbllehjhmfehbaaGreat
open Go.RowKit Go.Sort
set_option linter.unusedSimpArgs false

section
variable {w : World} {base e k n c : Nat} {xs : List Value} {g : Nat}
theorem own_open {A : Option Addr} (h : w.ownsRow base e k (.slice A n c) n xs) (hn : 0 < n) : ∃ g, A = some ⟨g, 0, none⟩ ∧ base ≤ g ∧ g < w.heap.size ∧ n ≤ c := by
  have h' := h
  obtain ⟨_, ⟨_, h0⟩ | ⟨g, cap, cur, hv, hg, hh, h1, _⟩⟩ := h
  · omega
  · injection hv with h2 h3 h4
    subst h2 h4
    exact ⟨g, rfl, hg, (h'.lt g rfl).2, h1⟩
theorem own_fro (h : w.ownsRow base e k (.slice (some ⟨g, 0, none⟩) n c) n xs) {j : Nat} : w.frozen? ⟨g, j, none⟩ = false := by
  obtain ⟨_, ⟨hv, _⟩ | ⟨g', cap, cur, hv, hg, hh, _⟩⟩ := h
  · injection hv with h1; cases h1
  · injection hv with h1 _ _
    injection h1 with h1
    injection h1 with h1
    subst h1
    simp [World.frozen?, hh]
theorem own_cell (h : w.ownsRow base e k (.slice (some ⟨g, 0, none⟩) n c) n xs) {j : Nat} (hj : j < xs.length) : w.cell? ⟨g, j, none⟩ = some xs[j] := by
  have := h.cellAt (g := g) (cap := c) j (by rw [← h.1]; exact hj)
  simpa [hj] using this
/-- A cell of it turned. -/
theorem own_set (h : w.ownsRow base e k (.slice (some ⟨g, 0, none⟩) n c) n xs) {j : Nat} (u : Value) : (w.setCell ⟨g, j, none⟩ u).ownsRow base e k (.slice (some ⟨g, 0, none⟩) n c) n (xs.set j u) := by
  obtain ⟨hl, ⟨hv, _⟩ | ⟨g', cap, cur, hv, hg, hh, h1, h2, h3, h4⟩⟩ := h
  · injection hv with h1; cases h1
  · injection hv with e1 _ e3
    injection e1 with e1
    injection e1 with e1
    subst e1 e3
    refine ⟨by simpa using hl, .inr ⟨g, c, cur.setIfInBounds j u, rfl, hg, ?_, h1, h2, by simpa using h3, ?_⟩⟩
    · simp [World.setCell, Array.getElem?_modify, hh]
    · rw [Array.toList_setIfInBounds, List.take_set, h4]
end
theorem flat_set {α : Type} (c : α → List Value) (k : Nat) (hc : ∀ x, (c x).length = k) (u : Nat) (y : α) (v : Value) (hu : u < k) : ∀ (l : List α) (i : Nat) (hi : i < l.length), c y = (c l[i]).set u v → (l.flatMap c).set (i * k + u) v = (l.set i y).flatMap c
  | x :: l, 0, _, h => by
    simp only [List.getElem_cons_zero] at h
    simp only [List.flatMap_cons, Nat.zero_mul, Nat.zero_add, List.set_cons_zero]
    rw [List.set_append_left _ _ (by rw [hc]; exact hu), h]
  | x :: l, i + 1, hi, h => by
    simp only [List.getElem_cons_succ] at h
    simp only [List.flatMap_cons, List.set_cons_succ]
    rw [List.set_append_right _ _ (by rw [hc, Nat.add_mul]; omega), hc, show (i + 1) * k + u - k = i * k + u from by rw [Nat.add_mul]; omega]
    rw [flat_set c k hc u y v hu l i (by simpa using hi) h]
section
variable {w : World} {base e k n c : Nat} {xs : List Value} {g : Nat}
/-- What is left of it when its end is cut. -/
theorem own_cut (h : w.ownsRow base e k (.slice (some ⟨g, 0, none⟩) n c) n xs) {i : Nat} (hi : i ≤ n) : w.ownsRow base e k (.slice (some ⟨g, 0, none⟩) i c) i (xs.take (i * k)) := by
  obtain ⟨hl, ⟨hv, _⟩ | ⟨g', cap, cur, hv, hg, hh, h1, h2, h3, h4⟩⟩ := h
  · injection hv with h1; cases h1
  · injection hv with e1 _ e3
    injection e1 with e1
    injection e1 with e1
    subst e1 e3
    have hik : i * k ≤ n * k := Nat.mul_le_mul_right k hi
    exact ⟨by rw [List.length_take, hl, Nat.min_eq_left hik], .inr ⟨g, c, cur, rfl, hg, hh, by omega, h2, h3, by rw [← h4, List.take_take, Nat.min_eq_left hik]⟩⟩
theorem own_setCells {i : Nat} : ∀ (vs : List Value) (o : Nat) (w : World) (xs : List Value), i ≤ o → w.ownsRow base e k (.slice (some ⟨g, 0, none⟩) n c) n xs →
    ∃ xs', (w.setCells g o vs).ownsRow base e k (.slice (some ⟨g, 0, none⟩) n c) n xs' ∧ xs'.take i = xs.take i
  | [], _, _, xs, _, h => ⟨xs, h, rfl⟩
  | v :: r, o, _, xs, ho, h => by
    obtain ⟨xs', h1, h2⟩ := own_setCells (i := i) r (o + 1) _ _ (by omega) (own_set h (j := o) v)
    exact ⟨xs', h1, by rw [h2, List.take_set_of_le ho]⟩
theorem below_setCells {B : Nat} {w0 : World} : ∀ (vs : List Value) (o : Nat) (w : World), B ≤ g → Below B w0 w → Below B w0 (w.setCells g o vs)
  | [], _, _, _, h => h
  | v :: r, o, _, hg, h => below_setCells r (o + 1) _ hg (h.setCell hg v)
end
end Go.Proofs.YtbllehjhmfehbaaGreat
end

section
/- slices.IndexFunc and DeleteFunc at jobs that are brought. (bel2) -/
namespace Go.Proofs.YtbllehjhmfehbaaGreat
open Go.RowKit Go.Sort
set_option linter.unusedSimpArgs false
namespace Od
structure SaysBr (g : Nat) (caps : Array Value) (p : Bg → Bool) (base : Nat) (w0 : World) : Prop where
  enters : ∀ (args : Array Value) (W : World), (callFunc g args).run Tryz.prog W = .ok (.enter g args) W
  says : ∀ (W : World) (s : Str) (t : Int) (n : Bool), Below base w0 W → Calls Tryz.prog g (#[.agg #[sv s, .int .i64 t, .bool n]] ++ caps) W fun e w' => e = .returned (.bool (p ((s, t), n))) ∧ Below W.heap.size W w'
set_option maxRecDepth 100000 in
set_option maxHeartbeats 1000000 in
theorem IndexFuncB (A : Option Addr) (c : Nat) (ss : List Bg) (g : Nat) (caps : Array Value) (p : Bg → Bool) (base : Nat) (w0 w : World) (hr : Rd w w.heap.size 3 A ss.length (brsC ss)) (hl : ss.length ≤ 1000000) (hp : SaysBr g caps p base w0) (hb0 : Below base w0 w) (hbase : base ≤ w.heap.size) :
    Calls Tryz.prog 234 #[.slice A ss.length c, .func (.func g) #[] caps] w (FindIdx ss p w) := by
  have Hr := Lib.hid hr
  have Hp := Lib.hid hp
  have Hb0 := Lib.hid hb0
  have eg := hp.enters
  clear hr hp hb0
  go_enter Tryz.func234, Tryz.ntmps234
  go_wp2_with fail
  go_loopw [8] (fun i wr => ∃ k : Nat, k ≤ ss.length ∧ i = .int .i64 k ∧ Hid ((ss.take k).any p = false) ∧ Below w.heap.size w wr) (fun i _ => ss.length - (intOf i).toNat)
  case atStart => exact ⟨0, Nat.zero_le _, rfl, by simp [Hid], Below.refl _ _⟩
  case round =>
    obtain ⟨k, hk, rfl, hall, hbel⟩ := hrel
    by_cases hlt : k < ss.length
    · obtain ⟨b, o, rfl, hB, hc0, hc1, hc2⟩ := (Hr.out.on (Nat.le_refl _) hbel).br hlt
      have Hbel := Lib.hid hbel
      clear hbel
      generalize hx : ss[k] = x at hc0 hc1 hc2
      obtain ⟨⟨s, t⟩, n⟩ := x
      have Hx := Lib.hid hx
      clear hx
      simp only at hc0 hc1 hc2
      have hcall := Hp.out.says wr s t n (Hb0.out.trans (Hbel.out.mono hbase))
      have Hcall := Lib.hid hcall
      clear hcall
      go_wp2_with fail
      refine Hcall.out.mono ?_
      rintro e w2 ⟨rfl, hb2⟩
      have Hb2 := Lib.hid (Hbel.out.trans (hb2.mono Hbel.out.size))
      clear hb2
      cases hpx : p ((s, t), n)
      · have Hpx := Lib.hid hpx
        go_wp2_with fail
        go_roundw
        case rel => exact ⟨k + 1, by omega, by go_num, by show _ = false; rw [any_take_succ hlt, hall.out, Hx.out, Hpx.out]; rfl, Hb2.out⟩
        case measure => simp [intOf]; omega
      · have Hpx := Lib.hid hpx
        go_wp2_with fail
        go_ret
        exact ⟨k, rfl, .inr ⟨k, hlt, rfl, find_at hlt hall.out (by rw [Hx.out]; exact Hpx.out), by rw [Hx.out]; exact Hpx.out, fun j hj => take_any_at hk hall.out hj⟩, Hb2.out⟩
    · have ha := hall.out
      rw [List.take_of_length_le (by omega)] at ha
      have Ha := Lib.hid ha
      clear ha
      go_wp2_with fail
      go_ret
      exact ⟨-1, rfl, .inl ⟨rfl, find_none_take Ha.out⟩, hbel⟩
set_option maxHeartbeats 1000000 in
theorem back1_any (An Ae Au Ah : Option Addr) (nn cn ne ce cu ch : Nat) (up half : List Str) (bb : Nat) (s : Str) (t : Int) (n : Bool) (w : World) (hu : SIn w Au up) (hh : SIn w Ah half)
    (h0 : w.cell? ⟨bb, 0, none⟩ = some (.slice An nn cn)) (h1 : w.cell? ⟨bb, 1, none⟩ = some (.slice Ae ne ce)) (h2 : w.cell? ⟨bb, 2, none⟩ = some (.slice Au up.length cu)) (h3 : w.cell? ⟨bb, 3, none⟩ = some (.slice Ah half.length ch)) :
    Calls Tryz.prog 213 #[.agg #[sv s, .int .i64 t, .bool n], .pointer (some ⟨bb, 0, none⟩)] w fun e w' => e = .returned (.bool (!upB up half s)) ∧ Below w.heap.size w w' := by
  have Hu := Lib.hid hu
  have Hh := Lib.hid hh
  have hbk := cell_blk h0
  simp only at hbk
  clear hu hh
  go_enter Tryz.func213, Tryz.ntmps213
  go_wp2_with fail
  first | (refine wp_named ?_; intro W1 hW) | (refine calls_named ?_; intro W1 hW)
  have B1 : Below w.heap.size w W1 := by rw [hW]; exact (by repeat (first | exact Below.refl _ _ | assumption | refine Below.alloc ?_ (by first | omega | (simp <;> omega)) _ | refine Below.setCell ?_ (by first | omega | (simp <;> omega)) _ | refine Below.drew ?_))
  replace h0 := cellAt h0 B1 (by omega)
  replace h1 := cellAt h1 B1 (by omega)
  replace h2 := cellAt h2 B1 (by omega)
  replace h3 := cellAt h3 B1 (by omega)
  replace Hu := Lib.hid (Hu.out.at B1)
  replace Hh := Lib.hid (Hh.out.at B1)
  replace hbk : bb < W1.heap.size := ltAt hbk B1
  clear hW
  have HB1 := Lib.hid B1
  clear B1
  refine (there_any An Ae Au Ah nn cn ne ce cu ch up half s W1 Hu.out Hh.out).mono ?_
  rintro e w2 ⟨rfl, hb2⟩
  have HB2 := Lib.hid (lift HB1.out hb2)
  clear hb2
  go_wp2_with fail
  go_ret
  exact ⟨rfl, HB2.out⟩
end Od
end Go.Proofs.YtbllehjhmfehbaaGreat
end

section
/- clear of a slice whose elements have several cells. No program. -/
namespace Go.Proofs.YtbllehjhmfehbaaGreat
open Go.RowKit
theorem run_clear_rows {P : Program} {n : Nat} (w : World) (t e ty : TypeId) (z : Value) (ht : P.underlying t = some (.slice e)) (hv : ∀ w, (zeroValue e).run P w = .ok z w) (h1 : ∀ v ∈ (Builtin.zeroCells z.cells n).toList, v.oneCell' = true) (b o c : Nat) (hn : 0 < n)
    (hc : ∀ j, j < n * z.cells.size → (w.cell? ⟨b, o + j, none⟩).isSome = true) (hf : ∀ j, j < n * z.cells.size → w.frozen? ⟨b, o + j, none⟩ = false) :
    (Builtin.clear_ #[t] ty #[.slice (some ⟨b, o, none⟩) n c]).run P w = .ok (.tuple #[]) (w.setCells b o (Builtin.zeroCells z.cells n).toList) := by
  have hl : (Builtin.zeroCells z.cells n).toList.length = n * z.cells.size := by rw [Array.length_toList, size_zeroCells]
  have hst := run_storeCells_cells (P := P) b o (Builtin.zeroCells z.cells n).toList 0 w (by rw [hl]; simpa using hc) (by rw [hl]; simpa using hf) h1
  simp only [Nat.add_zero] at hst
  obtain ⟨m, rfl⟩ : ∃ m, n = m + 1 := ⟨n - 1, by omega⟩
  simp [Builtin.clear_, run_underlying ht, hv, hst]
end Go.Proofs.YtbllehjhmfehbaaGreat
end

section
/- Appends to slices whose capacity is full ('l[:k:k]', a literal), cuts of slices that read as lists: what 'append(l[:k:k], append([]T{x}, l[k:]...)...)' is made of. No program. -/
namespace Go.Proofs.YtbllehjhmfehbaaGreat
open Go.RowKit

/-- 'l[k:]' as a place. -/
def dropA (A : Option Addr) (c k size : Nat) : Option Addr := if c = k then A else A.map (·.add (k * size))
/-- 'l[:k:k]' as a place. -/
def takeA (A : Option Addr) (k size : Nat) : Option Addr := if k = 0 then A else A.map (·.add (0 * size))
section
variable {P : Program}
theorem run_slice_tail {t e : TypeId} {i : TypeInfo} (ht : P.underlying t = some (.slice e)) (hi : P.info? e = some i) (A : Option Addr) (n c k : Nat) (hk : k ≤ n) (w : World) :
    (Instr.slice t (.slice A n c) (some (.int .i64 k)) none none).run P w = .ok (.slice (dropA A c k i.size) (n - k) (c - k)) w := by
  simp [Instr.slice, run_underlying ht, Instr.sliceBounds, Instr.sliceBound, asIntOf, sizeOf, typeInfo, hi, dropA]
  intro h; omega
theorem run_slice_full {t e : TypeId} {i : TypeInfo} (ht : P.underlying t = some (.slice e)) (hi : P.info? e = some i) (A : Option Addr) (n c k : Nat) (hk : k ≤ c) (w : World) :
    (Instr.slice t (.slice A n c) none (some (.int .i64 k)) (some (.int .i64 k))).run P w = .ok (.slice (takeA A k i.size) k k) w := by
  simp [Instr.slice, run_underlying ht, Instr.sliceBounds, Instr.sliceBound, asIntOf, sizeOf, typeInfo, hi, takeA]
  intro h; omega
theorem Addr.add_zero (a : Addr) : a.add 0 = a := by simp [Addr.add]
theorem Rd.dropA {w : World} {B k n m c : Nat} {A : Option Addr} {xs : List Value} (h : Rd w B k A n xs) (hm : m ≤ n) (hc : n ≤ c) : Rd w B k (dropA A c m k) (n - m) (xs.drop (m * k)) := h.drop hm hc
theorem Rd.takeA {w : World} {B k n m : Nat} {A : Option Addr} {xs : List Value} (h : Rd w B k A n xs) (hm : m ≤ n) : Rd w B k (takeA A m k) m (xs.take (m * k)) := by
  have h' := h.take hm
  unfold Go.Proofs.YtbllehjhmfehbaaGreat.takeA
  split
  · exact h'
  · simp only [Nat.zero_mul]
    rw [show (fun x : Addr => x.add 0) = id from funext Addr.add_zero]
    simpa using h'

theorem run_append_full (w : World) (t ty e : TypeId) (i : TypeInfo) (z : Value) (size bytes : Nat) (ht : P.underlying t = some (.slice e)) (hi : P.info? e = some i) (hz : i.zero = some z)
    (hsize : i.size = size) (hby : i.bytes = bytes) (hzs : z.cells.size = size) (B : Nat) (A : Option Addr) (n : Nat) (xs : List Value) (hr : Rd w B size A n xs) (hB : B ≤ w.heap.size)
    (B2 : Nat) (A2 : Option Addr) (m c : Nat) (news : List Value) (hr2 : Rd w B2 size A2 m news) (h1 : ∀ u ∈ news, u.oneCell' = true) (h63 : n + m ≤ maxLen) (hbytes : (n + m) * bytes ≤ 140737488355328) :
    ∃ A' c' w', (Builtin.append_ #[t, t] ty #[.slice A n n, .slice A2 m c]).run P w = .ok (.slice A' (n + m) c') w' ∧ n + m ≤ c' ∧ Rd w' w'.heap.size size A' (n + m) (xs ++ news) ∧ Below w.heap.size w w' ∧ (0 < m → ∀ ad, A' = some ad → w.heap.size ≤ ad.block) := by
  subst hsize
  subst hby
  have hs : Src P i.size t (.slice A2 m c) m news w := src_rd ht hr2 h1 fun e => by
    rcases Nat.eq_zero_or_pos m with h0 | h0
    · exact h0
    · obtain ⟨ad, h, _⟩ := hr2.2 h0; rw [e] at h; cases h
  have hnl := hs.newsLen
  rcases Nat.eq_zero_or_pos m with h0 | h0
  · subst h0
    have hn : news = [] := List.eq_nil_of_length_eq_zero (by simpa using hnl)
    subst hn
    exact ⟨A, n, w, run_append_nothing (P := P) w t t ty e i ht hi A n n (Nat.le_refl _) _ hs, by omega, by simpa using hr.more hB, Below.refl _ _, fun h => absurd h (by omega)⟩
  · have hlen : (xs ++ news).length = (n + m) * i.size := by rw [List.length_append, hr.1, hnl, Nat.add_mul]
    have hold : (Builtin.firstCells i.size n (.slice A n n)).run P w.drew = .ok xs.toArray w.drew := by
      cases A with
      | none =>
        have hn : n = 0 := by
          rcases Nat.eq_zero_or_pos n with h | h
          · exact h
          · obtain ⟨ad, h, _⟩ := hr.2 h; cases h
        subst hn
        have hx : xs = [] := List.eq_nil_of_length_eq_zero (by simpa using hr.1)
        subst hx
        exact run_firstCells_none w.drew i.size 0 0 0
      | some ad =>
        refine run_firstCells_some w.drew i.size n ad n n xs hr.1 (fun j u hu => ?_)
        have hj : j < n * i.size := by
          have := (List.getElem?_eq_some_iff.1 hu).1
          rw [hr.1] at this
          exact this
        have hn0 : 0 < n := by
          rcases Nat.eq_zero_or_pos n with h | h
          · rw [h, Nat.zero_mul] at hj; omega
          · exact h
        obtain ⟨ad', he, _, hsp, hc⟩ := hr.2 hn0
        injection he with he
        subst he
        have hadd : ad.add j = ⟨ad.block, ad.off + j, none⟩ := by
          unfold Addr.add
          split
          · rename_i h0; subst h0; cases ad; simp_all
          · rfl
        rw [hadd]
        exact (hc j hj).trans hu
    have hm2 : n + m ≤ 9223372036854775807 := by simp only [maxLen] at h63; omega
    have hg : n < n + m := by omega
    have hrun := run_append_grow_src (P := P) w t t ty e i z ht hi hz A n n xs hold (.slice A2 m c) m news hs hg (by omega) (growslice_fits hg hbytes)
    have hge := grownCap_ge w (n + m) n e
    refine ⟨_, _, _, hrun, by omega, ⟨hlen, fun _ => ⟨_, rfl, by simp, rfl, fun j hj => ?_⟩⟩, ⟨rfl, rfl, rfl, by simp, fun k hk => Below.heap_alloc w.drew _ k hk⟩, fun _ ad e => by injection e with e; rw [← e]; exact Nat.le_refl _⟩
    show (w.drew.alloc _).cell? ⟨w.heap.size, 0 + j, none⟩ = _
    rw [Nat.zero_add]
    refine (World.cell?_alloc_new w.drew _ _ j).trans ?_
    rw [Array.getElem?_append_left (by simp only [List.size_toArray]; rw [hlen]; exact hj), List.getElem?_toArray]

/-- At a step of a region that draws its order. -/
theorem step_append_full {w : World} {ops : Array Oper} {o : Oper} {a : Act} {K : Act → World → Prop} {Q : Exit → Act → World → Prop} {E : Prop} (hw : Region.wanted o (yielded ops a.tmps) = true) (s x : Operand) (t : TypeId)
    (ho : o.op = .call { callee := .builtin .append, args := #[s, x], argTypes := #[t, t] })
    (e : TypeId) (i : TypeInfo) (z : Value) (size bytes : Nat) (ht : P.underlying t = some (.slice e)) (hi : P.info? e = some i) (hz : i.zero = some z)
    (hsize : i.size = size) (hby : i.bytes = bytes) (hzs : z.cells.size = size) (B : Nat) (A : Option Addr) (n : Nat) (xs : List Value) (hs : a.eval s = .slice A n n) (hr : Rd w B size A n xs) (hB : B ≤ w.heap.size)
    (B2 : Nat) (A2 : Option Addr) (m c : Nat) (news : List Value) (hx : a.eval x = .slice A2 m c) (hr2 : Rd w B2 size A2 m news) (h1 : ∀ u ∈ news, u.oneCell' = true) (h63 : n + m ≤ maxLen) (hbytes : (n + m) * bytes ≤ 140737488355328)
    (h : ∀ A' c' w', n + m ≤ c' → Rd w' w'.heap.size size A' (n + m) (xs ++ news) → Below w.heap.size w w' → K (a.put o.dst (.slice A' (n + m) c')) w') :
    if Region.wanted o (yielded ops a.tmps) = true then Oper.wp P o a w K Q else E := by
  rw [if_pos hw]
  obtain ⟨A', c', w', hrun, hc, h2, h3, h4⟩ := run_append_full (P := P) w t o.type e i z size bytes ht hi hz hsize hby hzs B A n xs hr hB B2 A2 m c news hr2 h1 h63 hbytes
  unfold Oper.wp execOp
  simp only [ho, resolve, invoke, builtin, Sem.run_bind, Sem.run_pure, Result.andThen_ok, List.map_toArray, List.map_cons, List.map_nil, hs, hx, hrun]
  exact h A' c' w' hc h2 h3
/-- The same, and where it lies. -/
theorem step_append_fresh {w : World} {ops : Array Oper} {o : Oper} {a : Act} {K : Act → World → Prop} {Q : Exit → Act → World → Prop} {E : Prop} (hw : Region.wanted o (yielded ops a.tmps) = true) (s x : Operand) (t : TypeId)
    (ho : o.op = .call { callee := .builtin .append, args := #[s, x], argTypes := #[t, t] })
    (e : TypeId) (i : TypeInfo) (z : Value) (size bytes : Nat) (ht : P.underlying t = some (.slice e)) (hi : P.info? e = some i) (hz : i.zero = some z)
    (hsize : i.size = size) (hby : i.bytes = bytes) (hzs : z.cells.size = size) (B : Nat) (A : Option Addr) (n : Nat) (xs : List Value) (hs : a.eval s = .slice A n n) (hr : Rd w B size A n xs) (hB : B ≤ w.heap.size)
    (B2 : Nat) (A2 : Option Addr) (m c : Nat) (news : List Value) (hx : a.eval x = .slice A2 m c) (hr2 : Rd w B2 size A2 m news) (h1 : ∀ u ∈ news, u.oneCell' = true) (h63 : n + m ≤ maxLen) (hbytes : (n + m) * bytes ≤ 140737488355328)
    (h : ∀ A' c' w', n + m ≤ c' → Rd w' w'.heap.size size A' (n + m) (xs ++ news) → Below w.heap.size w w' → (0 < m → ∀ ad, A' = some ad → w.heap.size ≤ ad.block) → K (a.put o.dst (.slice A' (n + m) c')) w') :
    if Region.wanted o (yielded ops a.tmps) = true then Oper.wp P o a w K Q else E := by
  rw [if_pos hw]
  obtain ⟨A', c', w', hrun, hc, h2, h3, h4⟩ := run_append_full (P := P) w t o.type e i z size bytes ht hi hz hsize hby hzs B A n xs hr hB B2 A2 m c news hr2 h1 h63 hbytes
  unfold Oper.wp execOp
  simp only [ho, resolve, invoke, builtin, Sem.run_bind, Sem.run_pure, Result.andThen_ok, List.map_toArray, List.map_cons, List.map_nil, hs, hx, hrun]
  exact h A' c' w' hc h2 h3 h4
/-- In a walk. -/
theorem wpList_append_full (w : World) {ops : Array Oper} {rest : List Oper} {o : Oper} {a : Act} {Q : Exit → Act → World → Prop} (hgd : o.guard = none) (s x : Operand) (t : TypeId)
    (ho : o.op = .call { callee := .builtin .append, args := #[s, x], argTypes := #[t, t] })
    (e : TypeId) (i : TypeInfo) (z : Value) (size bytes : Nat) (ht : P.underlying t = some (.slice e)) (hi : P.info? e = some i) (hz : i.zero = some z)
    (hsize : i.size = size) (hby : i.bytes = bytes) (hzs : z.cells.size = size) (B : Nat) (A : Option Addr) (n : Nat) (xs : List Value) (hs : a.eval s = .slice A n n) (hr : Rd w B size A n xs) (hB : B ≤ w.heap.size)
    (B2 : Nat) (A2 : Option Addr) (m c : Nat) (news : List Value) (hx : a.eval x = .slice A2 m c) (hr2 : Rd w B2 size A2 m news) (h1 : ∀ u ∈ news, u.oneCell' = true) (h63 : n + m ≤ maxLen) (hbytes : (n + m) * bytes ≤ 140737488355328)
    (h : ∀ A' c' w', n + m ≤ c' → Rd w' w'.heap.size size A' (n + m) (xs ++ news) → Below w.heap.size w w' → wpList P ops Q rest (a.put o.dst (.slice A' (n + m) c')) w') : wpList P ops Q (o :: rest) a w := by
  refine wpList_plain hgd fun K hK => ?_
  obtain ⟨A', c', w', hrun, hc, h2, h3, h4⟩ := run_append_full (P := P) w t o.type e i z size bytes ht hi hz hsize hby hzs B A n xs hr hB B2 A2 m c news hr2 h1 h63 hbytes
  unfold Oper.wp execOp
  simp only [ho, resolve, invoke, builtin, Sem.run_bind, Sem.run_pure, Result.andThen_ok, List.map_toArray, List.map_cons, List.map_nil, hs, hx, hrun]
  exact hK _ _ (h A' c' w' hc h2 h3)
/-- The same, and where it lies. -/
theorem wpList_append_fresh (w : World) {ops : Array Oper} {rest : List Oper} {o : Oper} {a : Act} {Q : Exit → Act → World → Prop} (hgd : o.guard = none) (s x : Operand) (t : TypeId)
    (ho : o.op = .call { callee := .builtin .append, args := #[s, x], argTypes := #[t, t] })
    (e : TypeId) (i : TypeInfo) (z : Value) (size bytes : Nat) (ht : P.underlying t = some (.slice e)) (hi : P.info? e = some i) (hz : i.zero = some z)
    (hsize : i.size = size) (hby : i.bytes = bytes) (hzs : z.cells.size = size) (B : Nat) (A : Option Addr) (n : Nat) (xs : List Value) (hs : a.eval s = .slice A n n) (hr : Rd w B size A n xs) (hB : B ≤ w.heap.size)
    (B2 : Nat) (A2 : Option Addr) (m c : Nat) (news : List Value) (hx : a.eval x = .slice A2 m c) (hr2 : Rd w B2 size A2 m news) (h1 : ∀ u ∈ news, u.oneCell' = true) (h63 : n + m ≤ maxLen) (hbytes : (n + m) * bytes ≤ 140737488355328)
    (h : ∀ A' c' w', n + m ≤ c' → Rd w' w'.heap.size size A' (n + m) (xs ++ news) → Below w.heap.size w w' → (0 < m → ∀ ad, A' = some ad → w.heap.size ≤ ad.block) → wpList P ops Q rest (a.put o.dst (.slice A' (n + m) c')) w') : wpList P ops Q (o :: rest) a w := by
  refine wpList_plain hgd fun K hK => ?_
  obtain ⟨A', c', w', hrun, hc, h2, h3, h4⟩ := run_append_full (P := P) w t o.type e i z size bytes ht hi hz hsize hby hzs B A n xs hr hB B2 A2 m c news hr2 h1 h63 hbytes
  unfold Oper.wp execOp
  simp only [ho, resolve, invoke, builtin, Sem.run_bind, Sem.run_pure, Result.andThen_ok, List.map_toArray, List.map_cons, List.map_nil, hs, hx, hrun]
  exact hK _ _ (h A' c' w' hc h2 h3 h4)
end

/-- A call hands back a slice that reads as xs (k cells an element), and has turned nothing of what was there. -/
def RdIs (k n : Nat) (xs : List Value) (w : World) (e : Ending) (w' : World) : Prop := ∃ A c, e = .returned (.slice A n c) ∧ n ≤ c ∧ Rd w' w'.heap.size k A n xs ∧ Below w.heap.size w w'
/-- From block B on, if there is anything. -/
def FreshA (B : Nat) (A : Option Addr) (n : Nat) : Prop := 0 < n → ∀ ad, A = some ad → B ≤ ad.block
theorem FreshA.low {B B' n : Nat} {A : Option Addr} (h : FreshA B A n) (hB : B' ≤ B) : FreshA B' A n := fun hn ad e => Nat.le_trans hB (h hn ad e)
theorem own_fresh {w : World} {base e k n m c : Nat} {A : Option Addr} {xs : List Value} (h : w.ownsRow base e k (.slice A m c) n xs) : FreshA base A n := by
  intro hn ad hA
  subst hA
  rcases h.2 with ⟨hv, h0⟩ | ⟨g, cap, cur, hv, hg, _⟩
  · omega
  · injection hv with h1; injection h1 with h1; subst h1; exact hg
theorem Rd.setCellF {w : World} {B k n : Nat} {A : Option Addr} {xs : List Value} (h : Rd w B k A n xs) {p : Addr} (hp : ∀ ad, 0 < n → A = some ad → p.block ≠ ad.block) (u : Value) : Rd (w.setCell p u) B k A n xs :=
  ⟨h.1, fun hn => by
    obtain ⟨ad, e, hb, hs, hc⟩ := h.2 hn
    exact ⟨ad, e, hb, hs, fun j hj => (World.cell?_setCell_other w p _ u (fun h' => hp ad hn e (by subst h'; rfl))).trans (hc j hj)⟩⟩
/-- A call hands back a slice of what it has made. -/
def RdNew (k n : Nat) (xs : List Value) (w : World) (e : Ending) (w' : World) : Prop := ∃ A c, e = .returned (.slice A n c) ∧ n ≤ c ∧ Rd w' w'.heap.size k A n xs ∧ FreshA w.heap.size A n ∧ Below w.heap.size w w'
theorem RdNew.is {k n : Nat} {xs : List Value} {w w' : World} {e : Ending} (h : RdNew k n xs w e w') : RdIs k n xs w e w' := by obtain ⟨A, c, h1, h2, h3, _, h4⟩ := h; exact ⟨A, c, h1, h2, h3, h4⟩
theorem RdIs.of {k n n' : Nat} {xs xs' : List Value} {w w' : World} {A : Option Addr} {c : Nat} (hc : n' ≤ c) (h : Rd w' w'.heap.size k A n' xs') (hb : Below w.heap.size w w') (hn : n' = n) (hx : xs' = xs) : RdIs k n xs w (.returned (.slice A n' c)) w' := by
  subst hn hx; exact ⟨A, c, rfl, hc, h, hb⟩
theorem one_drop {l : List Value} (h : ∀ u ∈ l, u.oneCell' = true) (n : Nat) : ∀ u ∈ l.drop n, u.oneCell' = true := fun u hu => h u (List.mem_of_mem_drop hu)
theorem one_app {l l' : List Value} (h : ∀ u ∈ l, u.oneCell' = true) (h' : ∀ u ∈ l', u.oneCell' = true) : ∀ u ∈ l ++ l', u.oneCell' = true := fun u hu => (List.mem_append.1 hu).elim (h u) (h' u)
theorem one_svs (l : List Str) : ∀ u ∈ svs l, u.oneCell' = true := fun u hu => by
  obtain ⟨s, _, rfl⟩ := List.mem_map.1 hu; rfl
theorem one_sv (s : Str) : ∀ u ∈ [sv s], u.oneCell' = true := fun u hu => by rw [List.mem_singleton.1 hu]; rfl
theorem insL_cut {α : Type} [DecidableEq α] {lt : α → α → Bool} {x : α} : ∀ (l : List α) (k : Nat), k ≤ l.length → (∀ y ∈ l.take k, lt y x = true) → (∀ h : k < l.length, lt l[k] x = false) →
    insL lt x l = if l[k]? = some x then l else l.take k ++ x :: l.drop k
  | [], k, hk, _, _ => by
    have : k = 0 := by simpa using hk
    subst this; simp [insL]
  | y :: r, 0, _, _, h => by
    have h0 : lt y x = false := h (by simp)
    unfold insL
    rw [h0]
    by_cases e : y = x <;> simp [e]
  | y :: r, k + 1, hk, h1, h2 => by
    have h0 : lt y x = true := h1 y (by simp)
    have ih := insL_cut r k (by simpa using hk) (fun z hz => h1 z (by simp [hz])) (fun h => by have := h2 (by simpa using h); simpa using this)
    unfold insL
    rw [if_pos h0, ih]
    simp only [List.getElem?_cons_succ]
    split <;> simp
end Go.Proofs.YtbllehjhmfehbaaGreat
end
