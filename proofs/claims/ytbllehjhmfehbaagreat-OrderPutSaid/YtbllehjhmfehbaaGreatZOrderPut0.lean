/- My texts, joined for the claim: Frame5 GBox GBox2 NodeB LwPutP FrameT. -/
import Derived.Test.YtbllehjhmfehbaaGreatZC0
import Derived.Test.YtbllehjhmfehbaaGreatZC4
import Derived.Test.YtbllehjhmfehbaaGreatZC1
import Derived.Test.YtbllehjhmfehbaaGreatZC5

section
/- The length of a graph's nodes, an argument. -/
namespace Go.Proofs.YtbllehjhmfehbaaGreat
open Go.ChangeShapes Go.WideShapes Go.ChangeAt Go.RowKit Go.Deep

section
variable {H : Type} {enc : TypeId × Value → H} {P : Program}
theorem open_rd_len {W : World} {t e : TypeId} {fuel : Nat} {A : Option Addr} {len c : Nat} {y : DataW H × List MemPlace} (ht : P.underlying t = some (.slice e)) (hB : 0 < P.bytesOf e)
    (h : DataW.trod enc P W 0 (fun _ => true) true fuel t [.slice A len c] = some y) (hs : Light P t y.1) : len ≤ reachBytes := by
  rcases open_slice ht h with ⟨hcs, _⟩ | ⟨a, len', cap, m, n, D, Pl, hcs, _, hl, hm, hmm, hx, hi⟩
  · simp only [List.cons.injEq, and_true, Value.slice.injEq] at hcs
    omega
  · simp only [List.cons.injEq, and_true, Value.slice.injEq] at hcs
    obtain ⟨_, rfl, _⟩ := hcs
    have h1 := hs _ (by rw [hx, DataW.weights, ht]; exact List.mem_cons_self)
    simp only [List.length_map, List.length_range] at h1
    refine Nat.le_trans ?_ h1
    exact Nat.le_trans (Nat.le_add_right _ _) (Nat.le_mul_of_pos_right _ hB)
end
section
variable {H : Type} {enc : TypeId × Value → H} {W : World}
set_option maxRecDepth 100000 in
theorem graph_len {r : Reach} {b0 : Nat} {v : Value} {d : DataW H} {p : List MemPlace} {An Ae : Option Addr} {n cn m ce : Nat} (hv : Value.okWide Tryz.prog W r b0 25 v) (h : DataW.Trod enc Tryz.prog W 0 (fun _ => true) true 25 v d p) (hs : Light Tryz.prog 25 d)
    (he : v = .agg #[.slice An n cn, .slice Ae m ce]) : n ≤ reachBytes ∧ m ≤ reachBytes := by
  have hu := Tryz.underlying25
  obtain ⟨v0, v1, y0, y1, k, hvv, rfl, rfl, h0, h1⟩ := Joins.open_agg2 hu (by kernel_rfl) (by kernel_rfl) hv h
  have l0 := light_part (j := 0) (d := y0.1) hu hs rfl rfl
  have l1 := light_part (j := 1) (d := y1.1) hu hs rfl rfl
  rw [he] at hvv
  simp only [Value.agg.injEq, Array.mk.injEq, List.cons.injEq, and_true] at hvv
  obtain ⟨rfl, rfl⟩ := hvv
  exact ⟨open_rd_len Tryz.underlying22 (by decide +kernel) h0 l0, open_rd_len Tryz.underlying23 (by decide +kernel) h1 l1⟩
end
end Go.Proofs.YtbllehjhmfehbaaGreat
end

section
/- A struct of the call's own that holds nodes and a row of edges that grows. No program. -/
namespace Go.Proofs.YtbllehjhmfehbaaGreat
open Go.RowKit
namespace Od
/-- Block pb holds a graph: its first cell is nv, its second one a slice of the call's own, made behind pb, with the edges L; what lay ahead of pb is as it was in w0. -/
structure Boxed (w0 w : World) (pb : Nat) (nv : Value) (A : Option Addr) (c : Nat) (L : List Ed) : Prop where
  c0 : w.cell? ⟨pb, 0, none⟩ = some nv
  c1 : w.cell? ⟨pb, 1, none⟩ = some (.slice A L.length c)
  own : w.ownsRow (pb + 1) 45 3 (.slice A L.length c) L.length (edsC L)
  fro : w.frozen? ⟨pb, 1, none⟩ = false
  lt : pb < w.heap.size
  bel : Below pb w0 w
section
variable {w0 w w' : World} {pb c : Nat} {nv : Value} {A : Option Addr} {L : List Ed}
theorem Boxed.at (h : Boxed w0 w pb nv A c L) (hb : Below w.heap.size w w') : Boxed w0 w' pb nv A c L :=
  ⟨cellAt h.c0 hb h.lt, cellAt h.c1 hb h.lt, own_on h.own hb, froAt h.fro hb h.lt, ltAt h.lt hb, h.bel.trans (hb.mono (Nat.le_of_lt h.lt))⟩
theorem Boxed.off (h : Boxed w0 w pb nv A c L) : (Value.slice A L.length c).ownBlock ≠ some pb := fun e => by have := (h.own.lt pb e).1; omega
theorem Boxed.rd (h : Boxed w0 w pb nv A c L) : Rd w w.heap.size 3 A L.length (edsC L) := own_rd' h.own
theorem Boxed.push {A' : Option Addr} {c' : Nat} {x : Ed} (h : Boxed w0 w pb nv A c L) (ho : w'.ownsRow (pb + 1) 45 3 (.slice A' (L.length + 1) c') (L.length + 1) (edsC L ++ edC x))
    (hg : w.grownBy w' (Value.slice A L.length c).ownBlock) : Boxed w0 (w'.setCell ⟨pb, 1, none⟩ (.slice A' (L.length + 1) c')) pb nv A' c' (L ++ [x]) := by
  have k0 := cell_kept h.c0 hg h.lt h.off
  have k1 := cell_kept h.c1 hg h.lt h.off
  have kf := fro_kept h.fro hg h.lt h.off
  have hlt : pb < w'.heap.size := Nat.lt_of_lt_of_le h.lt hg.size
  have hlen : (L ++ [x]).length = L.length + 1 := by simp
  refine ⟨?_, ?_, ?_, by simpa using kf, by simpa using hlt, ?_⟩
  · rw [World.cell?_setCell_other]
    · exact k0
    · simp
  · rw [hlen]; exact World.cell?_setCell_same _ _ _ k1
  · rw [hlen, edsC_app]
    exact ho.kept (grownBy_setCell _ _ _) (.inr (fun e => by have := (ho.lt pb e).1; omega))
  · exact (h.bel.grown hg (Nat.le_of_lt h.lt) (fun g hg => by have := (h.own.lt g hg).1; omega)).setCell (Nat.le_refl _) _
theorem Boxed.new (w : World) (nv : Value) (t : TypeId) : Boxed w (w.alloc (.cells #[nv, .slice none 0 0] t)) w.heap.size nv none 0 [] := by
  refine ⟨?_, ?_, World.ownsRow_nil _ _ _ _, ?_, by simp, (Below.refl _ _).alloc (Nat.le_refl _) _⟩
  · simp
  · simp
  · simp
end
end Od
end Go.Proofs.YtbllehjhmfehbaaGreat
end

section
/- A struct of the call's own that holds nodes and a row of edges that grows, and behind it one edge. No program. -/
namespace Go.Proofs.YtbllehjhmfehbaaGreat
open Go.RowKit
namespace Od
/-- Block pb holds a graph, block pb + 1 an edge; the graph's edges L are the call's own, made behind both. -/
structure Boxed2 (w0 w : World) (pb : Nat) (nv u0 u1 u2 : Value) (A : Option Addr) (c : Nat) (L : List Ed) : Prop where
  c0 : w.cell? ⟨pb, 0, none⟩ = some nv
  c1 : w.cell? ⟨pb, 1, none⟩ = some (.slice A L.length c)
  e0 : w.cell? ⟨pb + 1, 0, none⟩ = some u0
  e1 : w.cell? ⟨pb + 1, 1, none⟩ = some u1
  e2 : w.cell? ⟨pb + 1, 2, none⟩ = some u2
  own : w.ownsRow (pb + 2) 45 3 (.slice A L.length c) L.length (edsC L)
  fro : w.frozen? ⟨pb, 1, none⟩ = false
  lt : pb + 1 < w.heap.size
  bel : Below pb w0 w
section
variable {w0 w w' : World} {pb c n : Nat} {nv u0 u1 u2 : Value} {A : Option Addr} {L : List Ed}
theorem Boxed2.lt0 (h : Boxed2 w0 w pb nv u0 u1 u2 A c L) : pb < w.heap.size := Nat.lt_of_succ_lt h.lt
theorem Boxed2.at (h : Boxed2 w0 w pb nv u0 u1 u2 A c L) (hb : Below w.heap.size w w') : Boxed2 w0 w' pb nv u0 u1 u2 A c L :=
  ⟨cellAt h.c0 hb h.lt0, cellAt h.c1 hb h.lt0, cellAt h.e0 hb h.lt, cellAt h.e1 hb h.lt, cellAt h.e2 hb h.lt, own_on h.own hb, froAt h.fro hb h.lt0, ltAt h.lt hb, h.bel.trans (hb.mono (Nat.le_of_lt h.lt0))⟩
theorem Boxed2.off (h : Boxed2 w0 w pb nv u0 u1 u2 A c L) (hn : L.length = n) : (Value.slice A n c).ownBlock ≠ some pb := fun e => by subst hn; have := (h.own.lt pb e).1; omega
theorem Boxed2.off1 (h : Boxed2 w0 w pb nv u0 u1 u2 A c L) (hn : L.length = n) : (Value.slice A n c).ownBlock ≠ some (pb + 1) := fun e => by subst hn; have := (h.own.lt _ e).1; omega
theorem Boxed2.offAt (h : Boxed2 w0 w pb nv u0 u1 u2 A c L) (hn : L.length = n) {g : Nat} (hg : w.heap.size ≤ g) : (Value.slice A n c).ownBlock ≠ some g := fun e => by subst hn; have := (h.own.lt _ e).2; omega
theorem Boxed2.rd (h : Boxed2 w0 w pb nv u0 u1 u2 A c L) : Rd w w.heap.size 3 A L.length (edsC L) := own_rd' h.own
theorem Boxed2.ownN (h : Boxed2 w0 w pb nv u0 u1 u2 A c L) (hn : L.length = n) : w.ownsRow (pb + 2) 45 3 (.slice A n c) n (edsC L) := hn ▸ h.own
theorem Boxed2.c1N (h : Boxed2 w0 w pb nv u0 u1 u2 A c L) (hn : L.length = n) : w.cell? ⟨pb, 1, none⟩ = some (.slice A n c) := hn ▸ h.c1
theorem Boxed2.push {A' : Option Addr} {c' : Nat} {x : Ed} (h : Boxed2 w0 w pb nv u0 u1 u2 A c L) (hn : L.length = n) (ho : w'.ownsRow (pb + 2) 45 3 (.slice A' (n + 1) c') (n + 1) (edsC L ++ edC x))
    (hg : w.grownBy w' (Value.slice A n c).ownBlock) : Boxed2 w0 (w'.setCell ⟨pb, 1, none⟩ (.slice A' (n + 1) c')) pb nv u0 u1 u2 A' c' (L ++ [x]) := by
  have k0 := cell_kept h.c0 hg h.lt0 (h.off hn)
  have k1 := cell_kept h.c1 hg h.lt0 (h.off hn)
  have j0 := cell_kept h.e0 hg h.lt (h.off1 hn)
  have j1 := cell_kept h.e1 hg h.lt (h.off1 hn)
  have j2 := cell_kept h.e2 hg h.lt (h.off1 hn)
  have kf := fro_kept h.fro hg h.lt0 (h.off hn)
  have hlt : pb + 1 < w'.heap.size := Nat.lt_of_lt_of_le h.lt hg.size
  have hlen : (L ++ [x]).length = n + 1 := by simp [hn]
  refine ⟨?_, ?_, ?_, ?_, ?_, ?_, by simpa using kf, by simpa using hlt, ?_⟩
  · rw [World.cell?_setCell_other]
    · exact k0
    · simp
  · rw [hlen]; exact World.cell?_setCell_same _ _ _ k1
  · rw [World.cell?_setCell_other]
    · exact j0
    · simp
  · rw [World.cell?_setCell_other]
    · exact j1
    · simp
  · rw [World.cell?_setCell_other]
    · exact j2
    · simp
  · rw [hlen, edsC_app]
    exact ho.kept (grownBy_setCell _ _ _) (.inr (fun e => by have := (ho.lt pb e).1; omega))
  · exact (h.bel.grown hg (Nat.le_of_lt h.lt0) (fun g hg => by have := ((h.ownN hn).lt g hg).1; omega)).setCell (Nat.le_refl _) _
theorem Boxed2.new (w : World) (nv u0 u1 u2 : Value) (t t' : TypeId) : Boxed2 w ((w.alloc (.cells #[nv, .slice none 0 0] t)).alloc (.cells #[u0, u1, u2] t')) w.heap.size nv u0 u1 u2 none 0 [] := by
  have h1 : w.heap.size + 1 = (w.alloc (.cells #[nv, .slice none 0 0] t)).heap.size := by simp
  have hB : Below (w.alloc (.cells #[nv, .slice none 0 0] t)).heap.size (w.alloc (.cells #[nv, .slice none 0 0] t)) ((w.alloc (.cells #[nv, .slice none 0 0] t)).alloc (.cells #[u0, u1, u2] t')) := (Below.refl _ _).alloc (Nat.le_refl _) _
  have h2 : w.heap.size < (w.alloc (.cells #[nv, .slice none 0 0] t)).heap.size := by simp
  refine ⟨cellAt (by simp) hB h2, cellAt (by simp) hB h2, ?_, ?_, ?_, World.ownsRow_nil _ _ _ _, froAt (by simp) hB h2, by simp, ((Below.refl _ _).alloc (Nat.le_refl _) _).alloc (by simp) _⟩
  · rw [h1]; simp
  · rw [h1]; simp
  · rw [h1]; simp
theorem cell_put {w : World} {b o : Nat} {v u : Value} {pb : Nat} (c : w.cell? ⟨b, o, none⟩ = some v) (hne : b ≠ pb) : (w.setCell ⟨pb, 1, none⟩ u).cell? ⟨b, o, none⟩ = some v := by
  rw [World.cell?_setCell_other]
  · exact c
  · first | (simp; done) | (simp; omega)
end
end Od
end Go.Proofs.YtbllehjhmfehbaaGreat
end

section
/- graph.Node of a graph of any size that a machine has. -/
namespace Go.Proofs.YtbllehjhmfehbaaGreat
open Go.RowKit Go.Sort
namespace Od
set_option maxRecDepth 100000 in
set_option maxHeartbeats 400000 in
theorem IndexFuncNB (A : Option Addr) (c : Nat) (ns : List Nd) (g : Nat) (caps : Array Value) (p : Nd → Bool) (w : World) (hr : Rd w w.heap.size 3 A ns.length (ndsC ns)) (hl : ns.length ≤ 140737488355328) (hp : SaysN g caps p w) :
    Calls Tryz.prog 53 #[.slice A ns.length c, .func (.func g) #[] caps] w (FindIdx ns p w) := by
  have Hr := Lib.hid hr
  have Hp := Lib.hid hp
  have eg := hp.enters
  clear hr hp
  go_enter Tryz.func53, Tryz.ntmps53
  go_wp2_with fail
  go_loopw [8] (fun i wr => ∃ k : Nat, k ≤ ns.length ∧ i = .int .i64 k ∧ Hid ((ns.take k).any p = false) ∧ Below w.heap.size w wr) (fun i _ => ns.length - (intOf i).toNat)
  case atStart => exact ⟨0, Nat.zero_le _, rfl, by simp [Hid], Below.refl _ _⟩
  case round =>
    obtain ⟨k, hk, rfl, hall, hbel⟩ := hrel
    by_cases hlt : k < ns.length
    · obtain ⟨b, o, rfl, hB, hc0, hc1, hc2⟩ := (Hr.out.on (Nat.le_refl _) hbel).node hlt
      have Hbel := Lib.hid hbel
      clear hbel
      generalize hx : ns[k] = x at hc0 hc1 hc2
      obtain ⟨s, d, r⟩ := x
      have Hx := Lib.hid hx
      clear hx
      simp only at hc0 hc1 hc2
      have hcall := Hp.out.says wr s d r Hbel.out
      cases hpx : p (s, d, r)
      · rw [hpx] at hcall
        have Hpx := Lib.hid hpx
        have Hcall := Lib.hid hcall
        clear hpx hcall
        go_wp2_with fail
        refine Hcall.out.mono ?_
        rintro e w2 ⟨rfl, hb2⟩
        have Hb2 := Lib.hid hb2
        clear hb2
        go_wp2_with fail
        go_roundw
        case rel => exact ⟨k + 1, by omega, by go_num, by show _ = false; rw [any_take_succ hlt, hall.out, Hx.out, Hpx.out]; rfl, Hbel.out.trans (Hb2.out.mono Hbel.out.size)⟩
        case measure => simp [intOf]; omega
      · rw [hpx] at hcall
        have Hpx := Lib.hid hpx
        have Hcall := Lib.hid hcall
        clear hpx hcall
        go_wp2_with fail
        refine Hcall.out.mono ?_
        rintro e w2 ⟨rfl, hb2⟩
        have Hb2 := Lib.hid hb2
        clear hb2
        go_wp2_with fail
        go_ret
        exact ⟨k, rfl, .inr ⟨k, hlt, rfl, find_at hlt hall.out (by rw [Hx.out]; exact Hpx.out), by rw [Hx.out]; exact Hpx.out, fun j hj => take_any_at hk hall.out hj⟩, Hbel.out.trans (Hb2.out.mono Hbel.out.size)⟩
    · have hkl : k = ns.length := by omega
      have ha := hall.out
      rw [List.take_of_length_le (by omega)] at ha
      have Ha := Lib.hid ha
      clear ha hkl
      go_wp2_with fail
      go_ret
      exact ⟨-1, rfl, .inl ⟨rfl, find_none_take Ha.out⟩, hbel⟩
set_option maxRecDepth 100000 in
set_option maxHeartbeats 400000 in
theorem NodeB_any (An Ae : Option Addr) (ne cn ce : Nat) (ns : List Nd) (s : Str) (w : World) (hr : Rd w w.heap.size 3 An ns.length (ndsC ns)) (hl : ns.length ≤ 140737488355328) :
    Calls Tryz.prog 20 #[gV An ns.length cn Ae ne ce, sv s] w fun e w' => e = .returned (nodeV (nodeOf ns s)) ∧ Below w.heap.size w w' := by
  have Hr := Lib.hid hr
  clear hr
  go_enter Tryz.func20, Tryz.ntmps20
  go_wp2_with fail
  refine (IndexFuncNB An cn ns _ _ (fun n => n.1 == s) _ ?hr hl (says_node s _ _ ?ha)).mono ?_
  case ha => go_simp
  case hr => exact ((((Hr.out.alloc (Nat.le_refl _) _).alloc (by simp) _).alloc (by simp; omega) _)).more (by simp; omega)
  rintro e w2 ⟨r, rfl, ⟨rfl, hnone⟩ | ⟨k, hk, rfl, hsome, _, _⟩, hb2⟩
  · have ⟨hc, hf⟩ := bcell hb2
    have hz := hb2.size
    simp only [World.size_alloc] at hz hc hf
    have c0 : w2.cell? ⟨w.heap.size + 1 + 1, 0, none⟩ = some (sv []) := by rw [hc _ _ (by omega)]; go_simp
    have c1 : w2.cell? ⟨w.heap.size + 1 + 1, 1, none⟩ = some (.int .i64 0) := by rw [hc _ _ (by omega)]; go_simp
    have c2 : w2.cell? ⟨w.heap.size + 1 + 1, 2, none⟩ = some (.int .i64 0) := by rw [hc _ _ (by omega)]; go_simp
    have f0 : w2.frozen? ⟨w.heap.size + 1 + 1, 0, none⟩ = false := by rw [hf _ _ (by omega)]; go_simp
    have f1 : w2.frozen? ⟨w.heap.size + 1 + 1, 1, none⟩ = false := by rw [hf _ _ (by omega)]; go_simp
    have f2 : w2.frozen? ⟨w.heap.size + 1 + 1, 2, none⟩ = false := by rw [hf _ _ (by omega)]; go_simp
    have Hb2 := Lib.hid hb2
    have Hn := Lib.hid hnone
    clear hc hf hb2 hnone
    go_wp2_with fail
    have hB : Below w.heap.size w w2 := below_alloc (Nat.le_refl _) (below_alloc (Nat.le_refl _) (below_alloc (Nat.le_refl _) Hb2.out))
    refine bodyPost_ret (v := .tuple #[ndV ([], 0, 0), .bool false]) ?_ rfl ⟨by rw [show nodeOf ns s = none from Hn.out]; rfl, ((hB.setCell (by simp; omega) _).setCell (by simp; omega) _).setCell (by simp; omega) _⟩
    simp [results, Tryz.results20, go_sem, c0, c1, c2]
  · have ⟨hc, hf⟩ := bcell hb2
    have hz := hb2.size
    simp only [World.size_alloc] at hz hc hf
    have c0 : w2.cell? ⟨w.heap.size + 1 + 1, 0, none⟩ = some (sv []) := by rw [hc _ _ (by omega)]; go_simp
    have c1 : w2.cell? ⟨w.heap.size + 1 + 1, 1, none⟩ = some (.int .i64 0) := by rw [hc _ _ (by omega)]; go_simp
    have c2 : w2.cell? ⟨w.heap.size + 1 + 1, 2, none⟩ = some (.int .i64 0) := by rw [hc _ _ (by omega)]; go_simp
    have f0 : w2.frozen? ⟨w.heap.size + 1 + 1, 0, none⟩ = false := by rw [hf _ _ (by omega)]; go_simp
    have f1 : w2.frozen? ⟨w.heap.size + 1 + 1, 1, none⟩ = false := by rw [hf _ _ (by omega)]; go_simp
    have f2 : w2.frozen? ⟨w.heap.size + 1 + 1, 2, none⟩ = false := by rw [hf _ _ (by omega)]; go_simp
    have g0 : w2.cell? ⟨w.heap.size, 0, none⟩ = some (.slice An ns.length cn) := by rw [hc _ _ (by omega)]; go_simp
    have hB : Below w.heap.size w w2 := below_alloc (Nat.le_refl _) (below_alloc (Nat.le_refl _) (below_alloc (Nat.le_refl _) hb2))
    obtain ⟨b, o, rfl, hB1, hc0, hc1, hc2⟩ := (Hr.out.on (Nat.le_refl _) hB).node hk
    have k1 : (0 : Int) ≤ (k : Int) := by omega
    have k2 : (k : Int) < (ns.length : Int) := by omega
    have k4 : IntKind.i64.wrap (k : Int) = k := IntWalk.i64_in _ (by omega)
    generalize hx : ns[k] = x at hc0 hc1 hc2
    obtain ⟨s', d', r'⟩ := x
    have Hx := Lib.hid hx
    have HB := Lib.hid hB
    have Hn := Lib.hid hsome
    simp only at hc0 hc1 hc2
    clear hc hf hb2 hsome hx hB
    go_wp2_with fail
    refine bodyPost_ret (v := .tuple #[ndV (s', d', r'), .bool true]) ?_ rfl ⟨by rw [show nodeOf ns s = some (s', d', r') from Hn.out.trans (congrArg some Hx.out)]; rfl, ((HB.out.setCell (by simp; omega) _).setCell (by simp; omega) _).setCell (by simp; omega) _⟩
    simp [results, Tryz.results20, go_sem, c0, c1, c2]
end Od
end Go.Proofs.YtbllehjhmfehbaaGreat
end

section
/- The walk of the law OrderPut. (bel2) -/
namespace Go.Proofs.YtbllehjhmfehbaaGreat
open Go.RowKit Go.Sort

namespace Od
theorem reach_len (es : List Ed) (a : Str) : (reachL (prsL es) a).length ≤ es.length := by
  have h1 := reached_len (reachL_ok (prsL es) a).1 (fun s hs => mem_reachL.1 hs)
  have h2 := prsL_len es
  omega
section
variable {a b s d : Str} {r : Int} {n : Nat}
theorem put_by1 (h : n ≤ 301) : (n + 1) * 40 ≤ 140737488355328 := by omega
theorem put_by2 (h : n ≤ 301) : (n + 1 + 1) * 40 ≤ 140737488355328 := by omega
theorem put_ml1 (h : n ≤ 301) : n + 1 ≤ maxLen := by unfold maxLen; omega
theorem put_ml2 (h : n ≤ 301) : n + 1 + 1 ≤ maxLen := by unfold maxLen; omega
theorem bl_yes (h0 : Op.bytesLess s b = false) (h2 : (s == b) = false) : Op.bytesLess b s = true := by
  cases h : Op.bytesLess b s
  · have e : s = b := toS.total (show ltS s b = false from h0) (show ltS b s = false from h)
    rw [e] at h2; simp at h2
  · rfl
theorem bl_no (h0 : Op.bytesLess s b = true) : Op.bytesLess b s = false := by
  cases h : Op.bytesLess b s
  · rfl
  · have e := toS.trans (show ltS s b = true from h0) (show ltS b s = true from h)
    rw [toS.irrefl] at e; cases e
theorem bl_eq (h2 : (s == b) = true) : Op.bytesLess s b = false := by
  rw [beq_iff_eq] at h2; subst h2; exact toS.irrefl _
theorem bl_eq2 (h2 : (s == b) = true) : Op.bytesLess b s = false := by
  rw [beq_iff_eq] at h2; subst h2; exact toS.irrefl _
theorem lt_no1 (h1 : Op.bytesLess b s = false) (h2 : (s == b) = false) : ltE (b, a, 8) (s, d, r) = false := by
  have : ¬ b = s := fun e => by simp [e] at h2
  simp [ltE, ltS, h1, this]
theorem lt_no2 (h1 : Op.bytesLess b s = false) (h3 : Op.bytesLess a d = false) (h4 : (d == a) = false) : ltE (b, a, 8) (s, d, r) = false := by
  have : ¬ a = d := fun e => by simp [e] at h4
  simp [ltE, ltS, h1, h3, this]
theorem lt_no3 (h1 : Op.bytesLess b s = false) (h3 : Op.bytesLess a d = false) (h5 : ¬ 8 < r) : ltE (b, a, 8) (s, d, r) = false := by
  simp [ltE, ltS, h1, h3]; intros; omega
theorem lt_yes1 (h1 : Op.bytesLess b s = true) : ltE (b, a, 8) (s, d, r) = true := by simp [ltE, ltS, h1]
theorem lt_yes2 (h2 : (s == b) = true) (h3 : Op.bytesLess a d = true) : ltE (b, a, 8) (s, d, r) = true := by
  have : b = s := by simpa using (beq_iff_eq.1 h2).symm
  simp [ltE, ltS, this, h3]
theorem lt_yes3 (h2 : (s == b) = true) (h4 : (d == a) = true) (h5 : 8 < r) : ltE (b, a, 8) (s, d, r) = true := by
  have e1 : b = s := by simpa using (beq_iff_eq.1 h2).symm
  have e2 : a = d := by simpa using (beq_iff_eq.1 h4).symm
  simp [ltE, ltS, e1, e2, h5]
theorem put_one {L : List Ed} (h : ltE (b, a, 8) (s, d, r) = false) : putF (b, a, 8) (false, L) (s, d, r) = (false, L ++ [(s, d, r)]) := by simp [putF, h]
theorem put_two {L : List Ed} (h : ltE (b, a, 8) (s, d, r) = true) : putF (b, a, 8) (false, L) (s, d, r) = (true, L ++ [(b, a, 8)] ++ [(s, d, r)]) := by simp [putF, h]
theorem put_was {L : List Ed} : putF (b, a, 8) (true, L) (s, d, r) = (true, L ++ [(s, d, r)]) := by simp [putF]
end
set_option maxRecDepth 100000 in
set_option maxHeartbeats 4000000 in
theorem orderPut_any (An Ae : Option Addr) (cn ce : Nat) (ns : List Nd) (es : List Ed) (a b : Str) (w : World) (hg : GIn w An Ae cn ce ns es) (ha : okS a) (hb0 : okS b) (hnl : ns.length ≤ 140737488355328) :
    Calls Tryz.prog 14 #[gV An ns.length cn Ae es.length ce, sv a, sv b] w fun e w' => e = .returned (.bool true) ∧ Below w.heap.size w w' := by
  have HG := Lib.hid hg
  clear hg
  obtain ⟨i0, hi, hz0, hz1, hz2⟩ := info_parts inE
  go_enter Tryz.func14, Tryz.ntmps14
  go_wp2_with fail
  first | (refine wp_named ?_; intro W1 hW) | (refine calls_named ?_; intro W1 hW)
  have B1 : Below w.heap.size w W1 := by rw [hW]; exact (by repeat (first | exact Below.refl _ _ | assumption | refine Below.alloc ?_ (by first | omega | (simp <;> omega)) _ | refine Below.setCell ?_ (by first | omega | (simp <;> omega)) _ | refine Below.drew ?_))
  replace HG := Lib.hid (HG.out.at B1)
  have n1 : w.heap.size < W1.heap.size := by rw [hW]; simp <;> omega
  have c0 : W1.cell? ⟨w.heap.size, 0, none⟩ = some (.slice An ns.length cn) := by rw [hW]; go_simp
  have c1 : W1.cell? ⟨w.heap.size, 1, none⟩ = some (.slice Ae es.length ce) := by rw [hW]; go_simp
  clear hW
  have HB := Lib.hid B1
  clear B1
  refine (shown_any W1).mono ?_
  rintro e w2 ⟨rfl, hb⟩
  replace c0 := cellAt c0 hb (by omega)
  replace c1 := cellAt c1 hb (by omega)
  replace HG := Lib.hid (HG.out.at hb)
  replace n1 : w.heap.size < w2.heap.size := ltAt n1 hb
  replace HB := Lib.hid (lift HB.out hb)
  clear hb
  go_wp2_with fail
  refine (NodeB_any An Ae es.length cn ce ns a w2 HG.out.rn hnl).mono ?_
  rintro e w3 ⟨rfl, hb⟩
  replace c0 := cellAt c0 hb (by omega)
  replace c1 := cellAt c1 hb (by omega)
  replace HG := Lib.hid (HG.out.at hb)
  replace n1 : w.heap.size < w3.heap.size := ltAt n1 hb
  replace HB := Lib.hid (lift HB.out hb)
  clear hb
  obtain ⟨qa, hqa⟩ : ∃ q, nodeOf ns a = q := ⟨_, rfl⟩
  rw [hqa]
  obtain ⟨na, ka, sa, hna⟩ : ∃ n k s, qa.getD ([], 0, 0) = (n, k, s) := ⟨_, _, _, rfl⟩
  obtain ⟨ia, hia⟩ : ∃ i, qa.isSome = i := ⟨_, rfl⟩
  simp only [nodeV, ndV, hna, hia]
  go_wp2_with fail
  first | (refine wp_named ?_; intro W4 hW) | (refine calls_named ?_; intro W4 hW)
  have B4 : Below w3.heap.size w3 W4 := by rw [hW]; exact (by repeat (first | exact Below.refl _ _ | assumption | refine Below.alloc ?_ (by first | omega | (simp <;> omega)) _ | refine Below.setCell ?_ (by first | omega | (simp <;> omega)) _ | refine Below.drew ?_))
  replace c0 := cellAt c0 B4 (by omega)
  replace c1 := cellAt c1 B4 (by omega)
  replace HG := Lib.hid (HG.out.at B4)
  replace n1 : w.heap.size < W4.heap.size := ltAt n1 B4
  replace HB := Lib.hid (lift HB.out B4)
  have n4 : w3.heap.size < W4.heap.size := by rw [hW]; simp <;> omega
  clear hW
  clear B4
  refine (NodeB_any An Ae es.length cn ce ns b W4 HG.out.rn hnl).mono ?_
  rintro e w5 ⟨rfl, hb⟩
  replace c0 := cellAt c0 hb (by omega)
  replace c1 := cellAt c1 hb (by omega)
  replace HG := Lib.hid (HG.out.at hb)
  replace n1 : w.heap.size < w5.heap.size := ltAt n1 hb
  replace HB := Lib.hid (lift HB.out hb)
  replace n4 : w3.heap.size < w5.heap.size := ltAt n4 hb
  clear hb
  obtain ⟨qb, hqb⟩ : ∃ q, nodeOf ns b = q := ⟨_, rfl⟩
  rw [hqb]
  obtain ⟨nb, kb, sb, hnb⟩ : ∃ n k s, qb.getD ([], 0, 0) = (n, k, s) := ⟨_, _, _, rfl⟩
  obtain ⟨ib, hib⟩ : ∃ i, qb.isSome = i := ⟨_, rfl⟩
  simp only [nodeV, ndV, hnb, hib]
  have HNa := Lib.hid (show (nodeOf ns a).isSome = ia by rw [hqa, hia])
  have HNb := Lib.hid (show (nodeOf ns b).isSome = ib by rw [hqb, hib])
  have HNs := Lib.hid (show ((nodeOf ns b).getD ([], 0, 0)).2.2 = sb by rw [hqb, hnb])
  clear hqa hqb hna hnb hia hib
  go_wp2_with fail
  first | (refine wp_named ?_; intro W6 hW) | (refine calls_named ?_; intro W6 hW)
  have B6 : Below w5.heap.size w5 W6 := by rw [hW]; exact (by repeat (first | exact Below.refl _ _ | assumption | refine Below.alloc ?_ (by first | omega | (simp <;> omega)) _ | refine Below.setCell ?_ (by first | omega | (simp <;> omega)) _ | refine Below.drew ?_))
  replace c0 := cellAt c0 B6 (by omega)
  replace c1 := cellAt c1 B6 (by omega)
  replace HG := Lib.hid (HG.out.at B6)
  replace n1 : w.heap.size < W6.heap.size := ltAt n1 B6
  replace HB := Lib.hid (lift HB.out B6)
  replace n4 : w3.heap.size < W6.heap.size := ltAt n4 B6
  have n6 : w5.heap.size < W6.heap.size := by rw [hW]; simp <;> omega
  have b2 : W6.cell? ⟨w5.heap.size, 2, none⟩ = some (.int .i64 sb) := by rw [hW]; go_simp
  clear hW
  clear B6
  refine (small_any An Ae cn ce ns es W6).mono ?_
  rintro e w7 ⟨rfl, hb⟩
  replace c0 := cellAt c0 hb (by omega)
  replace c1 := cellAt c1 hb (by omega)
  replace b2 := cellAt b2 hb (by omega)
  replace HG := Lib.hid (HG.out.at hb)
  replace n1 : w.heap.size < w7.heap.size := ltAt n1 hb
  replace HB := Lib.hid (lift HB.out hb)
  replace n4 : w3.heap.size < w7.heap.size := ltAt n4 hb
  replace n6 : w5.heap.size < w7.heap.size := ltAt n6 hb
  clear hb
  cases hsm : smallB ns es
  · go_wp2_with fail
    go_ret
    exact ⟨rfl, HB.out⟩
  · have hs2 := smallB_iff.1 hsm
    have hl1 := hs2.1
    have hl2 := hs2.2
    clear hs2
    go_wp2_with fail
    refine (MayG_any An Ae cn ce ns es w7 HG.out.rn HG.out.re (by omega) (by omega) HG.out.okn).mono ?_
    rintro e w8 ⟨rfl, hb⟩
    replace c0 := cellAt c0 hb (by omega)
    replace c1 := cellAt c1 hb (by omega)
    replace b2 := cellAt b2 hb (by omega)
    replace HG := Lib.hid (HG.out.at hb)
    replace n1 : w.heap.size < w8.heap.size := ltAt n1 hb
    replace HB := Lib.hid (lift HB.out hb)
    replace n4 : w3.heap.size < w8.heap.size := ltAt n4 hb
    replace n6 : w5.heap.size < w8.heap.size := ltAt n6 hb
    clear hb
    cases hm : mayG ns es
    · go_wp2_with fail
      go_ret
      exact ⟨rfl, HB.out⟩
    · have HM := Lib.hid hm
      clear hm
      go_wp2_with fail
      refine (Is_any An Ae ns.length cn ce es w8 HG.out.re HG.out.oke (by omega)).mono ?_
      rintro e w9 ⟨rfl, hb⟩
      replace c0 := cellAt c0 hb (by omega)
      replace c1 := cellAt c1 hb (by omega)
      replace b2 := cellAt b2 hb (by omega)
      replace HG := Lib.hid (HG.out.at hb)
      replace n1 : w.heap.size < w9.heap.size := ltAt n1 hb
      replace HB := Lib.hid (lift HB.out hb)
      replace n4 : w3.heap.size < w9.heap.size := ltAt n4 hb
      replace n6 : w5.heap.size < w9.heap.size := ltAt n6 hb
      clear hb
      cases his : isB es
      · go_wp2_with fail
        go_ret
        exact ⟨rfl, HB.out⟩
      · have HIs := Lib.hid his
        clear his
        cases ia with
        | false =>
          go_wp2_with fail
          go_ret
          exact ⟨rfl, HB.out⟩
        | true =>
          cases ib with
          | false =>
            go_wp2_with fail
            go_ret
            exact ⟨rfl, HB.out⟩
          | true =>
            cases hab : (a == b)
            · have Hab := Lib.hid (show a ≠ b by simpa using hab)
              by_cases hst : sb = 1
              · subst hst
                go_wp2_with fail
                refine (Behind_any An Ae ns.length cn ce es b w9 HG.out.re HG.out.oke hb0 (by omega)).mono ?_
                rintro e w10 ⟨A6, c6, rfl, ho6, hb⟩
                have HR6 := Lib.hid (own_rd' ho6)
                replace c0 := cellAt c0 hb (by omega)
                replace c1 := cellAt c1 hb (by omega)
                replace b2 := cellAt b2 hb (by omega)
                replace HG := Lib.hid (HG.out.at hb)
                replace n1 : w.heap.size < w10.heap.size := ltAt n1 hb
                replace HB := Lib.hid (lift HB.out hb)
                replace n4 : w3.heap.size < w10.heap.size := ltAt n4 hb
                replace n6 : w5.heap.size < w10.heap.size := ltAt n6 hb
                clear hb ho6
                have hl6 := reach_len es b
                go_wp2_with fail
                refine (HasS_any A6 c6 (reachL (prsL es) b) a w10 HR6.out (by omega)).mono ?_
                rintro e w11 ⟨rfl, rfl⟩
                cases hhs : hasB (reachL (prsL es) b) a
                · have HNr := Lib.hid (show a ∉ reachL (prsL es) b from fun hm => by rw [(hasB_iff _ a).2 hm] at hhs; cases hhs)
                  clear hhs
                  go_wp2_with fail
                  refine (Has_any An Ae ns.length cn ce es b a 8 w10 HG.out.re (by omega)).mono ?_
                  rintro e w12 ⟨rfl, hb⟩
                  replace c0 := cellAt c0 hb (by omega)
                  replace c1 := cellAt c1 hb (by omega)
                  replace b2 := cellAt b2 hb (by omega)
                  replace HG := Lib.hid (HG.out.at hb)
                  replace n1 : w.heap.size < w12.heap.size := ltAt n1 hb
                  replace HB := Lib.hid (lift HB.out hb)
                  replace n4 : w3.heap.size < w12.heap.size := ltAt n4 hb
                  replace n6 : w5.heap.size < w12.heap.size := ltAt n6 hb
                  clear hb
                  cases hin : es.any (· == (b, a, (8 : Int)))
                  · have HNi := Lib.hid (show (b, a, (8 : Int)) ∉ es from fun hm => by rw [List.any_eq_true.2 ⟨_, hm, by simp⟩] at hin; cases hin)
                    clear hin
                    go_wp2_with fail
                    refine wp_named ?_
                    intro W13 hW
                    have hbx0 : Boxed2 w12 W13 w12.heap.size (.slice An ns.length cn) (sv b) (sv a) (.int .i64 8) none 0 [] := by rw [hW]; exact Boxed2.new w12 _ _ _ _ _ _
                    clear hW
                    have HG12 := HG
                    have HB12 := HB
                    have HP := Lib.hid (PutOk.mk HM.out HIs.out HNa.out HNb.out Hab.out HNs.out HNr.out)
                    go_loopw [12, 83] (fun pv i wr => ∃ (k : Nat) (pt : Bool) (A : Option Addr) (c : Nat) (L : List Ed), k ≤ es.length ∧ pv = .bool pt ∧ i = .int .i64 k ∧ (es.take k).foldl (putF (b, a, 8)) (false, []) = (pt, L) ∧ L.length ≤ k + pt.toNat ∧ Boxed2 w12 wr w12.heap.size (.slice An ns.length cn) (sv b) (sv a) (.int .i64 8) A c L) (fun _ i _ => es.length - (intOf i).toNat)
                    case atStart => exact ⟨0, false, none, 0, [], Nat.zero_le _, rfl, rfl, by simp, by simp, hbx0⟩
                    case round =>
                      clear hbx0
                      obtain ⟨k, pt, A9, c9, L, hk, rfl, rfl, hfd, hLl, hbx⟩ := hrel
                      replace c0 := cellAt c0 hbx.bel (by omega)
                      replace c1 := cellAt c1 hbx.bel (by omega)
                      replace b2 := cellAt b2 hbx.bel (by omega)
                      replace HG := Lib.hid (HG.out.at hbx.bel)
                      replace n1 : w.heap.size < wr.heap.size := ltAt n1 hbx.bel
                      replace HB := Lib.hid (lift HB.out hbx.bel)
                      replace n4 : w3.heap.size < wr.heap.size := ltAt n4 hbx.bel
                      replace n6 : w5.heap.size < wr.heap.size := ltAt n6 hbx.bel
                      have HX := Lib.hid hbx
                      have x0 := hbx.c0
                      have x1 := hbx.c1
                      have u0 := hbx.e0
                      have u1 := hbx.e1
                      have u2 := hbx.e2
                      have xl := hbx.lt0
                      have xl2 := hbx.lt
                      clear hbx
                      have hpt := Bool.toNat_le pt
                      have hL3 : L.length ≤ 301 := by omega
                      clear hpt
                      have hby := Lib.hid (put_by1 hL3)
                      have hbyb := Lib.hid (put_by2 hL3)
                      have h63 := Lib.hid (put_ml1 hL3)
                      have h63b := Lib.hid (put_ml2 hL3)
                      by_cases hlt : k < es.length
                      · obtain ⟨b1, o1, hA1, hB1, z0, z1, z2⟩ := HG.out.re.edge hlt
                        have hft : (es.take (k + 1)).foldl (putF (b, a, 8)) (false, []) = putF (b, a, 8) (pt, L) es[k] := by
                          rw [List.take_succ_eq_append_getElem hlt, List.foldl_append, hfd]; rfl
                        generalize es[k] = p at z0 z1 z2 hft
                        obtain ⟨s, d, r⟩ := p
                        simp only at z0 z1 z2
                        have HFt := Lib.hid hft
                        clear hft hfd
                        have k1 : (0 : Int) ≤ (k : Int) := by omega
                        have k2 : (k : Int) < (es.length : Int) := by omega
                        subst hA1
                        have B14 : Below wr.heap.size wr (wr.alloc (.cells #[sv s, sv d, .int .i64 r] 45)) := (Below.refl _ _).alloc (Nat.le_refl _) _
                        have n14 : wr.heap.size < (wr.alloc (.cells #[sv s, sv d, .int .i64 r] 45)).heap.size := by simp
                        have y0 : (wr.alloc (.cells #[sv s, sv d, .int .i64 r] 45)).cell? ⟨wr.heap.size, 0, none⟩ = some (sv s) := by go_simp
                        have y1 : (wr.alloc (.cells #[sv s, sv d, .int .i64 r] 45)).cell? ⟨wr.heap.size, 1, none⟩ = some (sv d) := by go_simp
                        have y2 : (wr.alloc (.cells #[sv s, sv d, .int .i64 r] 45)).cell? ⟨wr.heap.size, 2, none⟩ = some (.int .i64 r) := by go_simp
                        have HY := Lib.hid (And.intro y0 (And.intro y1 y2))
                        have hofy := HX.out.offAt rfl (Nat.le_refl wr.heap.size)
                        have HOy := Lib.hid hofy
                        have HXw := HX
                        have HX := Lib.hid (HXw.out.at B14)
                        have N14 := Lib.hid n14
                        clear hofy B14 y0 y1 y2 n14
                        have hpz := Lib.hid (show w12.heap.size + 2 ≤ (wr.alloc (.cells #[sv s, sv d, .int .i64 r] 45)).heap.size from HX.out.lt)
                        cases pt with
                        | true =>
                          replace hLl : L.length ≤ k + 1 := hLl
                          have HPf := Lib.hid (show putF (b, a, 8) (true, L) (s, d, r) = (true, L ++ [(s, d, r)]) from put_was)
                          go_wp2_with (first | (at_builtin; refine wpList_pushm (wr.alloc (.cells #[sv s, sv d, .int .i64 r] 45)) (wr.alloc (.cells #[sv s, sv d, .int .i64 r] 45)) (by rfl) (.tmp 125) (.tmp 127) 23 (by rfl) (w12.heap.size + 2) 45 i0 _ 3 40 Tryz.underlying23 hi hz0 hz1 hz2 rfl (by decide) _ _ _ (by rfl) HX.out.own (edC (s, d, r)) (wr.heap.size + 1) (by simp) (by rfl) rfl (one_edC _) h63.out hby.out hpz.out (Below.refl _ _) ?_; intro A22 c22 w22 hown hbel hg hat; have HX3 := Lib.hid (HX.out.push rfl (x := (s, d, r)) hown hg); have e22 := cell_kept HX.out.c1 hg HX.out.lt0 (HX.out.off rfl); have f22 := fro_kept HX.out.fro hg HX.out.lt0 (HX.out.off rfl); have l22 : w12.heap.size < w22.heap.size := Nat.lt_of_lt_of_le HX.out.lt0 hg.size; clear hown hbel hg hat) | fail)
                          go_roundw
                          case rel => exact ⟨k + 1, true, A22, c22, L ++ [(s, d, r)], by omega, rfl, by go_num, by rw [HFt.out, HPf.out], by show _ ≤ k + 1 + 1; simp only [List.length_append, List.length_singleton]; omega, HX3.out⟩
                          case measure => simp [intOf]; omega
                        | false =>
                          replace hLl : L.length ≤ k := hLl
                          cases h2 : (s == b)
                          · cases h0 : Op.bytesLess s b
                            · have h1 := bl_yes h0 h2
                              have HPf := Lib.hid (show putF (b, a, 8) (false, L) (s, d, r) = (true, L ++ [(b, a, 8)] ++ [(s, d, r)]) from put_two (lt_yes1 h1))
                              go_wp2_with (first | (at_builtin; refine wpList_pushm (wr.alloc (.cells #[sv s, sv d, .int .i64 r] 45)) (wr.alloc (.cells #[sv s, sv d, .int .i64 r] 45)) (by rfl) (.tmp 119) (.tmp 121) 23 (by rfl) (w12.heap.size + 2) 45 i0 _ 3 40 Tryz.underlying23 hi hz0 hz1 hz2 rfl (by decide) _ _ _ (by rfl) HX.out.own (edC (b, a, 8)) (wr.heap.size + 1) (by simp) (by rfl) rfl (one_edC _) h63.out hby.out hpz.out (Below.refl _ _) ?_; intro A21 c21 w21 hown hbel hg hat; have HX2 := Lib.hid (HX.out.push rfl (x := (b, a, 8)) hown hg); have e21 := cell_kept HX.out.c1 hg HX.out.lt0 (HX.out.off rfl); have f21 := fro_kept HX.out.fro hg HX.out.lt0 (HX.out.off rfl); have l21 : w12.heap.size < w21.heap.size := Nat.lt_of_lt_of_le HX.out.lt0 hg.size; have v0 := cell_kept HY.out.1 hg N14.out HOy.out; have v1 := cell_kept HY.out.2.1 hg N14.out HOy.out; have v2 := cell_kept HY.out.2.2 hg N14.out HOy.out; have hpz2 : w12.heap.size + 2 ≤ (w21.setCell ⟨w12.heap.size, 1, none⟩ (.slice A21 (L.length + 1) c21)).heap.size := HX2.out.lt; have m21 : wr.heap.size < w21.heap.size := Nat.lt_of_lt_of_le N14.out hg.size; clear hown hbel hg hat) | (at_builtin; refine wpList_pushm (w21.setCell ⟨w12.heap.size, 1, none⟩ (.slice A21 (L.length + 1) c21)) (w21.setCell ⟨w12.heap.size, 1, none⟩ (.slice A21 (L.length + 1) c21)) (by rfl) (.tmp 125) (.tmp 127) 23 (by rfl) (w12.heap.size + 2) 45 i0 _ 3 40 Tryz.underlying23 hi hz0 hz1 hz2 rfl (by decide) _ _ _ (by rfl) (HX2.out.ownN (by simp)) (edC (s, d, r)) w21.heap.size (by simp) (by rfl) rfl (one_edC _) h63b.out hbyb.out hpz2 (Below.refl _ _) ?_; intro A22 c22 w22 hown hbel hg hat; have HX3 := Lib.hid (HX2.out.push (by simp) (x := (s, d, r)) hown hg); have e22 := cell_kept (HX2.out.c1N (n := L.length + 1) (by simp)) hg HX2.out.lt0 (HX2.out.off (by simp)); have f22 := fro_kept HX2.out.fro hg HX2.out.lt0 (HX2.out.off (by simp)); have l22 : w12.heap.size < w22.heap.size := Nat.lt_of_lt_of_le HX2.out.lt0 hg.size; clear hown hbel hg hat) | fail)
                              go_roundw
                              case rel => exact ⟨k + 1, true, A22, c22, L ++ [(b, a, 8)] ++ [(s, d, r)], by omega, rfl, by go_num, by rw [HFt.out, HPf.out], by show _ ≤ k + 1 + 1; simp only [List.length_append, List.length_singleton]; omega, HX3.out⟩
                              case measure => simp [intOf]; omega
                            · have h1 := bl_no h0
                              have HPf := Lib.hid (show putF (b, a, 8) (false, L) (s, d, r) = (false, L ++ [(s, d, r)]) from put_one (lt_no1 h1 h2))
                              go_wp2_with (first | (at_builtin; refine wpList_pushm (wr.alloc (.cells #[sv s, sv d, .int .i64 r] 45)) (wr.alloc (.cells #[sv s, sv d, .int .i64 r] 45)) (by rfl) (.tmp 125) (.tmp 127) 23 (by rfl) (w12.heap.size + 2) 45 i0 _ 3 40 Tryz.underlying23 hi hz0 hz1 hz2 rfl (by decide) _ _ _ (by rfl) HX.out.own (edC (s, d, r)) (wr.heap.size + 1) (by simp) (by rfl) rfl (one_edC _) h63.out hby.out hpz.out (Below.refl _ _) ?_; intro A22 c22 w22 hown hbel hg hat; have HX3 := Lib.hid (HX.out.push rfl (x := (s, d, r)) hown hg); have e22 := cell_kept HX.out.c1 hg HX.out.lt0 (HX.out.off rfl); have f22 := fro_kept HX.out.fro hg HX.out.lt0 (HX.out.off rfl); have l22 : w12.heap.size < w22.heap.size := Nat.lt_of_lt_of_le HX.out.lt0 hg.size; clear hown hbel hg hat) | fail)
                              go_roundw
                              case rel => exact ⟨k + 1, false, A22, c22, L ++ [(s, d, r)], by omega, rfl, by go_num, by rw [HFt.out, HPf.out], by show _ ≤ k + 1 + 0; simp only [List.length_append, List.length_singleton]; omega, HX3.out⟩
                              case measure => simp [intOf]; omega
                          · have h0 := bl_eq h2
                            have h1 := bl_eq2 h2
                            cases h4 : (d == a)
                            · cases h6 : Op.bytesLess d a
                              · have h3 := bl_yes h6 h4
                                have HPf := Lib.hid (show putF (b, a, 8) (false, L) (s, d, r) = (true, L ++ [(b, a, 8)] ++ [(s, d, r)]) from put_two (lt_yes2 h2 h3))
                                go_wp2_with (first | (at_builtin; refine wpList_pushm (wr.alloc (.cells #[sv s, sv d, .int .i64 r] 45)) (wr.alloc (.cells #[sv s, sv d, .int .i64 r] 45)) (by rfl) (.tmp 119) (.tmp 121) 23 (by rfl) (w12.heap.size + 2) 45 i0 _ 3 40 Tryz.underlying23 hi hz0 hz1 hz2 rfl (by decide) _ _ _ (by rfl) HX.out.own (edC (b, a, 8)) (wr.heap.size + 1) (by simp) (by rfl) rfl (one_edC _) h63.out hby.out hpz.out (Below.refl _ _) ?_; intro A21 c21 w21 hown hbel hg hat; have HX2 := Lib.hid (HX.out.push rfl (x := (b, a, 8)) hown hg); have e21 := cell_kept HX.out.c1 hg HX.out.lt0 (HX.out.off rfl); have f21 := fro_kept HX.out.fro hg HX.out.lt0 (HX.out.off rfl); have l21 : w12.heap.size < w21.heap.size := Nat.lt_of_lt_of_le HX.out.lt0 hg.size; have v0 := cell_kept HY.out.1 hg N14.out HOy.out; have v1 := cell_kept HY.out.2.1 hg N14.out HOy.out; have v2 := cell_kept HY.out.2.2 hg N14.out HOy.out; have hpz2 : w12.heap.size + 2 ≤ (w21.setCell ⟨w12.heap.size, 1, none⟩ (.slice A21 (L.length + 1) c21)).heap.size := HX2.out.lt; have m21 : wr.heap.size < w21.heap.size := Nat.lt_of_lt_of_le N14.out hg.size; clear hown hbel hg hat) | (at_builtin; refine wpList_pushm (w21.setCell ⟨w12.heap.size, 1, none⟩ (.slice A21 (L.length + 1) c21)) (w21.setCell ⟨w12.heap.size, 1, none⟩ (.slice A21 (L.length + 1) c21)) (by rfl) (.tmp 125) (.tmp 127) 23 (by rfl) (w12.heap.size + 2) 45 i0 _ 3 40 Tryz.underlying23 hi hz0 hz1 hz2 rfl (by decide) _ _ _ (by rfl) (HX2.out.ownN (by simp)) (edC (s, d, r)) w21.heap.size (by simp) (by rfl) rfl (one_edC _) h63b.out hbyb.out hpz2 (Below.refl _ _) ?_; intro A22 c22 w22 hown hbel hg hat; have HX3 := Lib.hid (HX2.out.push (by simp) (x := (s, d, r)) hown hg); have e22 := cell_kept (HX2.out.c1N (n := L.length + 1) (by simp)) hg HX2.out.lt0 (HX2.out.off (by simp)); have f22 := fro_kept HX2.out.fro hg HX2.out.lt0 (HX2.out.off (by simp)); have l22 : w12.heap.size < w22.heap.size := Nat.lt_of_lt_of_le HX2.out.lt0 hg.size; clear hown hbel hg hat) | fail)
                                go_roundw
                                case rel => exact ⟨k + 1, true, A22, c22, L ++ [(b, a, 8)] ++ [(s, d, r)], by omega, rfl, by go_num, by rw [HFt.out, HPf.out], by show _ ≤ k + 1 + 1; simp only [List.length_append, List.length_singleton]; omega, HX3.out⟩
                                case measure => simp [intOf]; omega
                              · have h3 := bl_no h6
                                have HPf := Lib.hid (show putF (b, a, 8) (false, L) (s, d, r) = (false, L ++ [(s, d, r)]) from put_one (lt_no2 h1 h3 h4))
                                go_wp2_with (first | (at_builtin; refine wpList_pushm (wr.alloc (.cells #[sv s, sv d, .int .i64 r] 45)) (wr.alloc (.cells #[sv s, sv d, .int .i64 r] 45)) (by rfl) (.tmp 125) (.tmp 127) 23 (by rfl) (w12.heap.size + 2) 45 i0 _ 3 40 Tryz.underlying23 hi hz0 hz1 hz2 rfl (by decide) _ _ _ (by rfl) HX.out.own (edC (s, d, r)) (wr.heap.size + 1) (by simp) (by rfl) rfl (one_edC _) h63.out hby.out hpz.out (Below.refl _ _) ?_; intro A22 c22 w22 hown hbel hg hat; have HX3 := Lib.hid (HX.out.push rfl (x := (s, d, r)) hown hg); have e22 := cell_kept HX.out.c1 hg HX.out.lt0 (HX.out.off rfl); have f22 := fro_kept HX.out.fro hg HX.out.lt0 (HX.out.off rfl); have l22 : w12.heap.size < w22.heap.size := Nat.lt_of_lt_of_le HX.out.lt0 hg.size; clear hown hbel hg hat) | fail)
                                go_roundw
                                case rel => exact ⟨k + 1, false, A22, c22, L ++ [(s, d, r)], by omega, rfl, by go_num, by rw [HFt.out, HPf.out], by show _ ≤ k + 1 + 0; simp only [List.length_append, List.length_singleton]; omega, HX3.out⟩
                                case measure => simp [intOf]; omega
                            · have h6 := bl_eq h4
                              have h3 := bl_eq2 h4
                              by_cases h5 : 8 < r
                              · have h5' : decide ((8 : Int) < r) = true := by simpa using h5
                                have HPf := Lib.hid (show putF (b, a, 8) (false, L) (s, d, r) = (true, L ++ [(b, a, 8)] ++ [(s, d, r)]) from put_two (lt_yes3 h2 h4 h5))
                                go_wp2_with (first | (at_builtin; refine wpList_pushm (wr.alloc (.cells #[sv s, sv d, .int .i64 r] 45)) (wr.alloc (.cells #[sv s, sv d, .int .i64 r] 45)) (by rfl) (.tmp 119) (.tmp 121) 23 (by rfl) (w12.heap.size + 2) 45 i0 _ 3 40 Tryz.underlying23 hi hz0 hz1 hz2 rfl (by decide) _ _ _ (by rfl) HX.out.own (edC (b, a, 8)) (wr.heap.size + 1) (by simp) (by rfl) rfl (one_edC _) h63.out hby.out hpz.out (Below.refl _ _) ?_; intro A21 c21 w21 hown hbel hg hat; have HX2 := Lib.hid (HX.out.push rfl (x := (b, a, 8)) hown hg); have e21 := cell_kept HX.out.c1 hg HX.out.lt0 (HX.out.off rfl); have f21 := fro_kept HX.out.fro hg HX.out.lt0 (HX.out.off rfl); have l21 : w12.heap.size < w21.heap.size := Nat.lt_of_lt_of_le HX.out.lt0 hg.size; have v0 := cell_kept HY.out.1 hg N14.out HOy.out; have v1 := cell_kept HY.out.2.1 hg N14.out HOy.out; have v2 := cell_kept HY.out.2.2 hg N14.out HOy.out; have hpz2 : w12.heap.size + 2 ≤ (w21.setCell ⟨w12.heap.size, 1, none⟩ (.slice A21 (L.length + 1) c21)).heap.size := HX2.out.lt; have m21 : wr.heap.size < w21.heap.size := Nat.lt_of_lt_of_le N14.out hg.size; clear hown hbel hg hat) | (at_builtin; refine wpList_pushm (w21.setCell ⟨w12.heap.size, 1, none⟩ (.slice A21 (L.length + 1) c21)) (w21.setCell ⟨w12.heap.size, 1, none⟩ (.slice A21 (L.length + 1) c21)) (by rfl) (.tmp 125) (.tmp 127) 23 (by rfl) (w12.heap.size + 2) 45 i0 _ 3 40 Tryz.underlying23 hi hz0 hz1 hz2 rfl (by decide) _ _ _ (by rfl) (HX2.out.ownN (by simp)) (edC (s, d, r)) w21.heap.size (by simp) (by rfl) rfl (one_edC _) h63b.out hbyb.out hpz2 (Below.refl _ _) ?_; intro A22 c22 w22 hown hbel hg hat; have HX3 := Lib.hid (HX2.out.push (by simp) (x := (s, d, r)) hown hg); have e22 := cell_kept (HX2.out.c1N (n := L.length + 1) (by simp)) hg HX2.out.lt0 (HX2.out.off (by simp)); have f22 := fro_kept HX2.out.fro hg HX2.out.lt0 (HX2.out.off (by simp)); have l22 : w12.heap.size < w22.heap.size := Nat.lt_of_lt_of_le HX2.out.lt0 hg.size; clear hown hbel hg hat) | fail)
                                go_roundw
                                case rel => exact ⟨k + 1, true, A22, c22, L ++ [(b, a, 8)] ++ [(s, d, r)], by omega, rfl, by go_num, by rw [HFt.out, HPf.out], by show _ ≤ k + 1 + 1; simp only [List.length_append, List.length_singleton]; omega, HX3.out⟩
                                case measure => simp [intOf]; omega
                              · have h5' : decide ((8 : Int) < r) = false := by simpa using h5
                                have HPf := Lib.hid (show putF (b, a, 8) (false, L) (s, d, r) = (false, L ++ [(s, d, r)]) from put_one (lt_no3 h1 h3 h5))
                                go_wp2_with (first | (at_builtin; refine wpList_pushm (wr.alloc (.cells #[sv s, sv d, .int .i64 r] 45)) (wr.alloc (.cells #[sv s, sv d, .int .i64 r] 45)) (by rfl) (.tmp 125) (.tmp 127) 23 (by rfl) (w12.heap.size + 2) 45 i0 _ 3 40 Tryz.underlying23 hi hz0 hz1 hz2 rfl (by decide) _ _ _ (by rfl) HX.out.own (edC (s, d, r)) (wr.heap.size + 1) (by simp) (by rfl) rfl (one_edC _) h63.out hby.out hpz.out (Below.refl _ _) ?_; intro A22 c22 w22 hown hbel hg hat; have HX3 := Lib.hid (HX.out.push rfl (x := (s, d, r)) hown hg); have e22 := cell_kept HX.out.c1 hg HX.out.lt0 (HX.out.off rfl); have f22 := fro_kept HX.out.fro hg HX.out.lt0 (HX.out.off rfl); have l22 : w12.heap.size < w22.heap.size := Nat.lt_of_lt_of_le HX.out.lt0 hg.size; clear hown hbel hg hat) | fail)
                                go_roundw
                                case rel => exact ⟨k + 1, false, A22, c22, L ++ [(s, d, r)], by omega, rfl, by go_num, by rw [HFt.out, HPf.out], by show _ ≤ k + 1 + 0; simp only [List.length_append, List.length_singleton]; omega, HX3.out⟩
                                case measure => simp [intOf]; omega
                      · rw [List.take_of_length_le (by omega)] at hfd
                        have hins := putF_ins (b, a, 8) es [] HNi.out
                        rw [hfd, List.nil_append] at hins
                        have hil := put_len es (b, a, 8)
                        have HOk := Lib.hid (show OkE (insL ltE (b, a, 8) es) from fun e he => by
                          rcases mem_insL.1 he with h | h
                          · rw [h]; exact ⟨hb0, ha⟩
                          · exact HG.out.oke e h)
                        clear hfd
                        have hpz : w12.heap.size + 2 ≤ wr.heap.size := HX.out.lt
                        cases pt with
                        | true =>
                          have hins' : L = insL ltE (b, a, 8) es := hins
                          have HX20 := HX
                          rw [hins'] at HX20 x1
                          clear hins
                          subst hins'
                          go_wp2_with fail
                          have HG20 := Lib.hid (HG12.out.at HX20.out.bel)
                          have HB20 := Lib.hid (lift HB12.out HX20.out.bel)
                          have q0 := HX20.out.c0
                          have q1 := HX20.out.c1
                          have ql := HX20.out.lt0
                          try go_wp2_with fail
                          refine wp_region_held_drew (S := fun w' => Below wr.heap.size wr w') (by kernel_rfl) (Below.drew (Below.refl _ _)) (fun hHeld => ?_)
                          refine tY (i := 0) (v := ?_) rfl ?_ hHeld ?_; rotate_left 1; focus (intro w' hSw; have hCell := fun (b o : Nat) (h : b < wr.heap.size) => hSw.cell (p := ⟨b, o, none⟩) h; clear hSw; go_simp; try with_reducible rfl)
                          (try simp only [Act.put, zn1, zn2, zn3])
                          refine ready_one (i := 1) rfl (by kernel_rfl) (fun K hK => ?_)
                          go_simp
                          refine (MayG_any An A9 cn c9 ns (insL ltE (b, a, 8) es) _ (HG20.out.at hHeld).rn (HX20.out.at hHeld).rd (by omega) (by omega) HG20.out.okn).mono ?_
                          rw [put_may HP.out]
                          rintro e t1 ⟨rfl, hb⟩
                          refine hK.out _ _ ?_ (fun hHeld2 => ?_)
                          · (try dsimp only); first | exact Below.trans hHeld (Below.mono hb hHeld.size) | exact hHeld | exact Below.drew hHeld | exact (by repeat (first | exact Below.refl _ _ | assumption | refine Below.alloc ?_ (by first | omega | (simp <;> omega)) _ | refine Below.setCell ?_ (by first | omega | (simp <;> omega)) _ | refine Below.drew ?_))
                          clear hK K hHeld; have hHeld := hHeld2; clear hHeld2; (try simp only [Act.put, zn1, zn2, zn3])
                          refine tY (i := 2) (v := ?_) rfl ?_ hHeld ?_; rotate_left 1; focus (intro w' hSw; clear hSw; go_simp; try with_reducible rfl)
                          (try simp only [Act.put, zn1, zn2, zn3])
                          refine tY (i := 3) (v := ?_) rfl ?_ hHeld ?_; rotate_left 1; focus (intro w' hSw; have hCell := fun (b o : Nat) (h : b < wr.heap.size) => hSw.cell (p := ⟨b, o, none⟩) h; clear hSw; go_simp; try with_reducible rfl)
                          (try simp only [Act.put, zn1, zn2, zn3])
                          refine ready_one (i := 4) rfl (by kernel_rfl) (fun K hK => ?_)
                          go_simp
                          refine (Is_any An A9 ns.length cn c9 (insL ltE (b, a, 8) es) _ (HX20.out.at hHeld).rd HOk.out (by omega)).mono ?_
                          rw [put_is HP.out]
                          rintro e t2 ⟨rfl, hb⟩
                          refine hK.out _ _ ?_ (fun hHeld2 => ?_)
                          · (try dsimp only); first | exact Below.trans hHeld (Below.mono hb hHeld.size) | exact hHeld | exact Below.drew hHeld | exact (by repeat (first | exact Below.refl _ _ | assumption | refine Below.alloc ?_ (by first | omega | (simp <;> omega)) _ | refine Below.setCell ?_ (by first | omega | (simp <;> omega)) _ | refine Below.drew ?_))
                          clear hK K hHeld; have hHeld := hHeld2; clear hHeld2; (try simp only [Act.put, zn1, zn2, zn3])
                          refine tY (i := 5) (v := ?_) rfl ?_ hHeld ?_; rotate_left 1; focus (intro w' hSw; clear hSw; go_simp; try with_reducible rfl)
                          (try simp only [Act.put, zn1, zn2, zn3])
                          refine tY (i := 6) (v := ?_) rfl ?_ hHeld ?_; rotate_left 1; focus (intro w' hSw; clear hSw; go_simp; try with_reducible rfl)
                          (try simp only [Act.put, zn1, zn2, zn3])
                          refine tY (i := 7) (v := ?_) rfl ?_ hHeld ?_; rotate_left 1; focus (intro w' hSw; have hCell := fun (b o : Nat) (h : b < wr.heap.size) => hSw.cell (p := ⟨b, o, none⟩) h; clear hSw; go_simp; try with_reducible rfl)
                          (try simp only [Act.put, zn1, zn2, zn3])
                          refine tY (i := 9) (v := ?_) rfl ?_ hHeld ?_; rotate_left 1; focus (intro w' hSw; have hCell := fun (b o : Nat) (h : b < wr.heap.size) => hSw.cell (p := ⟨b, o, none⟩) h; clear hSw; go_simp; try with_reducible rfl)
                          (try simp only [Act.put, zn1, zn2, zn3])
                          refine ready_one (i := 8) rfl (by kernel_rfl) (fun K hK => ?_)
                          go_simp
                          refine (Straight_any An A9 cn c9 ns (insL ltE (b, a, 8) es) _ (HG20.out.at hHeld).rn (HX20.out.at hHeld).rd HOk.out (by omega) (by omega)).mono ?_
                          rw [put_straight HP.out]
                          rintro e t3 ⟨Dn, fn, De, fe, rfl, hfn, hfe, htn, hte, hb⟩
                          have HTN := Lib.hid htn
                          have HTE := Lib.hid hte
                          clear htn hte
                          refine hK.out _ _ ?_ (fun hHeld2 => ?_)
                          · (try dsimp only); first | exact Below.trans hHeld (Below.mono hb hHeld.size) | exact hHeld | exact Below.drew hHeld | exact (by repeat (first | exact Below.refl _ _ | assumption | refine Below.alloc ?_ (by first | omega | (simp <;> omega)) _ | refine Below.setCell ?_ (by first | omega | (simp <;> omega)) _ | refine Below.drew ?_))
                          clear hK K hHeld; have hHeld := hHeld2; clear hHeld2; (try simp only [Act.put, zn1, zn2, zn3])
                          refine ready_one (i := 10) rfl (by kernel_rfl) (fun K hK => ?_)
                          go_simp
                          refine (Same15_any Dn De An A9 fn fe cn c9 ns ns (insL ltE (b, a, 8) es) (insL ltE (b, a, 8) es) _ HTN.out HTE.out (HG20.out.at hHeld).rn (HX20.out.at hHeld).rd ⟨by omega, by omega, by omega, by omega⟩).mono ?_
                          rw [show sameG ns ns (insL ltE (b, a, 8) es) (insL ltE (b, a, 8) es) = true from by simp [sameG]]
                          rintro e t4 ⟨rfl, hb⟩
                          refine hK.out _ _ ?_ (fun hHeld2 => ?_)
                          · (try dsimp only); first | exact Below.trans hHeld (Below.mono hb hHeld.size) | exact hHeld | exact Below.drew hHeld | exact (by repeat (first | exact Below.refl _ _ | assumption | refine Below.alloc ?_ (by first | omega | (simp <;> omega)) _ | refine Below.setCell ?_ (by first | omega | (simp <;> omega)) _ | refine Below.drew ?_))
                          clear hK K hHeld; have hHeld := hHeld2; clear hHeld2; (try simp only [Act.put, zn1, zn2, zn3])
                          refine tY (i := 11) (v := ?_) rfl ?_ hHeld ?_; rotate_left 1; focus (intro w' hSw; clear hSw; go_simp; try with_reducible rfl)
                          (try simp only [Act.put, zn1, zn2, zn3])
                          refine tY (i := 12) (v := ?_) rfl ?_ hHeld ?_; rotate_left 1; focus (intro w' hSw; clear hSw; go_simp; try with_reducible rfl)
                          (try simp only [Act.put, zn1, zn2, zn3])
                          refine tY (i := 13) (v := ?_) rfl ?_ hHeld ?_; rotate_left 1; focus (intro w' hSw; have hCell := fun (b o : Nat) (h : b < wr.heap.size) => hSw.cell (p := ⟨b, o, none⟩) h; clear hSw; go_simp; try with_reducible rfl)
                          (try simp only [Act.put, zn1, zn2, zn3])
                          refine tY (i := 14) (v := ?_) rfl ?_ hHeld ?_; rotate_left 1; focus (intro w' hSw; clear hSw; go_simp; try with_reducible rfl)
                          (try simp only [Act.put, zn1, zn2, zn3])
                          refine tY (i := 15) (v := ?_) rfl ?_ hHeld ?_; rotate_left 1; focus (intro w' hSw; clear hSw; go_simp; try with_reducible rfl)
                          (try simp only [Act.put, zn1, zn2, zn3])
                          refine ready_one (i := 16) rfl (by kernel_rfl) (fun K hK => ?_)
                          go_simp
                          refine (Ahead_any An A9 ns.length cn c9 (insL ltE (b, a, 8) es) a b _ (HX20.out.at hHeld).rd (by omega)).mono ?_
                          rw [put_ahead]
                          rintro e t5 ⟨rfl, hb⟩
                          refine hK.out _ _ ?_ (fun hHeld2 => ?_)
                          · (try dsimp only); first | exact Below.trans hHeld (Below.mono hb hHeld.size) | exact hHeld | exact Below.drew hHeld | exact (by repeat (first | exact Below.refl _ _ | assumption | refine Below.alloc ?_ (by first | omega | (simp <;> omega)) _ | refine Below.setCell ?_ (by first | omega | (simp <;> omega)) _ | refine Below.drew ?_))
                          clear hK K hHeld; have hHeld := hHeld2; clear hHeld2; (try simp only [Act.put, zn1, zn2, zn3])
                          refine tY (i := 17) (v := ?_) rfl ?_ hHeld ?_; rotate_left 1; focus (intro w' hSw; clear hSw; go_simp; try with_reducible rfl)
                          (try simp only [Act.put, zn1, zn2, zn3])
                          refine tY (i := 18) (v := ?_) rfl ?_ hHeld ?_; rotate_left 1; focus (intro w' hSw; clear hSw; go_simp; try with_reducible rfl)
                          (try simp only [Act.put, zn1, zn2, zn3])
                          refine wpAnyH_done (by kernel_rfl) ?_ _
                          go_wp2_with fail
                          go_ret
                          exact ⟨rfl, lift HB20.out hHeld⟩
                        | false =>
                          have hins' : L ++ [(b, a, 8)] = insL ltE (b, a, 8) es := hins
                          have HI := Lib.hid hins'
                          clear hins hins'
                          go_wp2_with (first | (at_builtin; refine wpList_pushm wr wr (by rfl) (.tmp 134) (.tmp 136) 23 (by rfl) (w12.heap.size + 2) 45 i0 _ 3 40 Tryz.underlying23 hi hz0 hz1 hz2 rfl (by decide) _ _ _ (by rfl) HX.out.own (edC (b, a, 8)) wr.heap.size rfl (by rfl) rfl (one_edC _) h63.out hby.out hpz (Below.refl _ _) ?_; intro A21 c21 w21 hown hbel hg hat; have HX2 := Lib.hid (HX.out.push rfl (x := (b, a, 8)) hown hg); have e21 := cell_kept HX.out.c1 hg HX.out.lt0 (HX.out.off rfl); have f21 := fro_kept HX.out.fro hg HX.out.lt0 (HX.out.off rfl); have l21 : w12.heap.size < w21.heap.size := Nat.lt_of_lt_of_le HX.out.lt0 hg.size; clear hown hbel hg hat) | fail)
                          refine wp_named ?_
                          intro W20 hW
                          have hx20 : Boxed2 w12 W20 w12.heap.size (.slice An ns.length cn) (sv b) (sv a) (.int .i64 8) A21 c21 (insL ltE (b, a, 8) es) := by rw [hW, ← HI.out]; exact HX2.out
                          have HX20 := Lib.hid hx20
                          clear hW hx20 e21 f21 l21
                          have HG20 := Lib.hid (HG12.out.at HX20.out.bel)
                          have HB20 := Lib.hid (lift HB12.out HX20.out.bel)
                          have q0 := HX20.out.c0
                          have q1 := HX20.out.c1
                          have ql := HX20.out.lt0
                          try go_wp2_with fail
                          refine wp_region_held_drew (S := fun w' => Below W20.heap.size W20 w') (by kernel_rfl) (Below.drew (Below.refl _ _)) (fun hHeld => ?_)
                          refine tY (i := 0) (v := ?_) rfl ?_ hHeld ?_; rotate_left 1; focus (intro w' hSw; have hCell := fun (b o : Nat) (h : b < W20.heap.size) => hSw.cell (p := ⟨b, o, none⟩) h; clear hSw; go_simp; try with_reducible rfl)
                          (try simp only [Act.put, zn1, zn2, zn3])
                          refine ready_one (i := 1) rfl (by kernel_rfl) (fun K hK => ?_)
                          go_simp
                          refine (MayG_any An A21 cn c21 ns (insL ltE (b, a, 8) es) _ (HG20.out.at hHeld).rn (HX20.out.at hHeld).rd (by omega) (by omega) HG20.out.okn).mono ?_
                          rw [put_may HP.out]
                          rintro e t1 ⟨rfl, hb⟩
                          refine hK.out _ _ ?_ (fun hHeld2 => ?_)
                          · (try dsimp only); first | exact Below.trans hHeld (Below.mono hb hHeld.size) | exact hHeld | exact Below.drew hHeld | exact (by repeat (first | exact Below.refl _ _ | assumption | refine Below.alloc ?_ (by first | omega | (simp <;> omega)) _ | refine Below.setCell ?_ (by first | omega | (simp <;> omega)) _ | refine Below.drew ?_))
                          clear hK K hHeld; have hHeld := hHeld2; clear hHeld2; (try simp only [Act.put, zn1, zn2, zn3])
                          refine tY (i := 2) (v := ?_) rfl ?_ hHeld ?_; rotate_left 1; focus (intro w' hSw; clear hSw; go_simp; try with_reducible rfl)
                          (try simp only [Act.put, zn1, zn2, zn3])
                          refine tY (i := 3) (v := ?_) rfl ?_ hHeld ?_; rotate_left 1; focus (intro w' hSw; have hCell := fun (b o : Nat) (h : b < W20.heap.size) => hSw.cell (p := ⟨b, o, none⟩) h; clear hSw; go_simp; try with_reducible rfl)
                          (try simp only [Act.put, zn1, zn2, zn3])
                          refine ready_one (i := 4) rfl (by kernel_rfl) (fun K hK => ?_)
                          go_simp
                          refine (Is_any An A21 ns.length cn c21 (insL ltE (b, a, 8) es) _ (HX20.out.at hHeld).rd HOk.out (by omega)).mono ?_
                          rw [put_is HP.out]
                          rintro e t2 ⟨rfl, hb⟩
                          refine hK.out _ _ ?_ (fun hHeld2 => ?_)
                          · (try dsimp only); first | exact Below.trans hHeld (Below.mono hb hHeld.size) | exact hHeld | exact Below.drew hHeld | exact (by repeat (first | exact Below.refl _ _ | assumption | refine Below.alloc ?_ (by first | omega | (simp <;> omega)) _ | refine Below.setCell ?_ (by first | omega | (simp <;> omega)) _ | refine Below.drew ?_))
                          clear hK K hHeld; have hHeld := hHeld2; clear hHeld2; (try simp only [Act.put, zn1, zn2, zn3])
                          refine tY (i := 5) (v := ?_) rfl ?_ hHeld ?_; rotate_left 1; focus (intro w' hSw; clear hSw; go_simp; try with_reducible rfl)
                          (try simp only [Act.put, zn1, zn2, zn3])
                          refine tY (i := 6) (v := ?_) rfl ?_ hHeld ?_; rotate_left 1; focus (intro w' hSw; clear hSw; go_simp; try with_reducible rfl)
                          (try simp only [Act.put, zn1, zn2, zn3])
                          refine tY (i := 7) (v := ?_) rfl ?_ hHeld ?_; rotate_left 1; focus (intro w' hSw; have hCell := fun (b o : Nat) (h : b < W20.heap.size) => hSw.cell (p := ⟨b, o, none⟩) h; clear hSw; go_simp; try with_reducible rfl)
                          (try simp only [Act.put, zn1, zn2, zn3])
                          refine tY (i := 9) (v := ?_) rfl ?_ hHeld ?_; rotate_left 1; focus (intro w' hSw; have hCell := fun (b o : Nat) (h : b < W20.heap.size) => hSw.cell (p := ⟨b, o, none⟩) h; clear hSw; go_simp; try with_reducible rfl)
                          (try simp only [Act.put, zn1, zn2, zn3])
                          refine ready_one (i := 8) rfl (by kernel_rfl) (fun K hK => ?_)
                          go_simp
                          refine (Straight_any An A21 cn c21 ns (insL ltE (b, a, 8) es) _ (HG20.out.at hHeld).rn (HX20.out.at hHeld).rd HOk.out (by omega) (by omega)).mono ?_
                          rw [put_straight HP.out]
                          rintro e t3 ⟨Dn, fn, De, fe, rfl, hfn, hfe, htn, hte, hb⟩
                          have HTN := Lib.hid htn
                          have HTE := Lib.hid hte
                          clear htn hte
                          refine hK.out _ _ ?_ (fun hHeld2 => ?_)
                          · (try dsimp only); first | exact Below.trans hHeld (Below.mono hb hHeld.size) | exact hHeld | exact Below.drew hHeld | exact (by repeat (first | exact Below.refl _ _ | assumption | refine Below.alloc ?_ (by first | omega | (simp <;> omega)) _ | refine Below.setCell ?_ (by first | omega | (simp <;> omega)) _ | refine Below.drew ?_))
                          clear hK K hHeld; have hHeld := hHeld2; clear hHeld2; (try simp only [Act.put, zn1, zn2, zn3])
                          refine ready_one (i := 10) rfl (by kernel_rfl) (fun K hK => ?_)
                          go_simp
                          refine (Same15_any Dn De An A21 fn fe cn c21 ns ns (insL ltE (b, a, 8) es) (insL ltE (b, a, 8) es) _ HTN.out HTE.out (HG20.out.at hHeld).rn (HX20.out.at hHeld).rd ⟨by omega, by omega, by omega, by omega⟩).mono ?_
                          rw [show sameG ns ns (insL ltE (b, a, 8) es) (insL ltE (b, a, 8) es) = true from by simp [sameG]]
                          rintro e t4 ⟨rfl, hb⟩
                          refine hK.out _ _ ?_ (fun hHeld2 => ?_)
                          · (try dsimp only); first | exact Below.trans hHeld (Below.mono hb hHeld.size) | exact hHeld | exact Below.drew hHeld | exact (by repeat (first | exact Below.refl _ _ | assumption | refine Below.alloc ?_ (by first | omega | (simp <;> omega)) _ | refine Below.setCell ?_ (by first | omega | (simp <;> omega)) _ | refine Below.drew ?_))
                          clear hK K hHeld; have hHeld := hHeld2; clear hHeld2; (try simp only [Act.put, zn1, zn2, zn3])
                          refine tY (i := 11) (v := ?_) rfl ?_ hHeld ?_; rotate_left 1; focus (intro w' hSw; clear hSw; go_simp; try with_reducible rfl)
                          (try simp only [Act.put, zn1, zn2, zn3])
                          refine tY (i := 12) (v := ?_) rfl ?_ hHeld ?_; rotate_left 1; focus (intro w' hSw; clear hSw; go_simp; try with_reducible rfl)
                          (try simp only [Act.put, zn1, zn2, zn3])
                          refine tY (i := 13) (v := ?_) rfl ?_ hHeld ?_; rotate_left 1; focus (intro w' hSw; have hCell := fun (b o : Nat) (h : b < W20.heap.size) => hSw.cell (p := ⟨b, o, none⟩) h; clear hSw; go_simp; try with_reducible rfl)
                          (try simp only [Act.put, zn1, zn2, zn3])
                          refine tY (i := 14) (v := ?_) rfl ?_ hHeld ?_; rotate_left 1; focus (intro w' hSw; clear hSw; go_simp; try with_reducible rfl)
                          (try simp only [Act.put, zn1, zn2, zn3])
                          refine tY (i := 15) (v := ?_) rfl ?_ hHeld ?_; rotate_left 1; focus (intro w' hSw; clear hSw; go_simp; try with_reducible rfl)
                          (try simp only [Act.put, zn1, zn2, zn3])
                          refine ready_one (i := 16) rfl (by kernel_rfl) (fun K hK => ?_)
                          go_simp
                          refine (Ahead_any An A21 ns.length cn c21 (insL ltE (b, a, 8) es) a b _ (HX20.out.at hHeld).rd (by omega)).mono ?_
                          rw [put_ahead]
                          rintro e t5 ⟨rfl, hb⟩
                          refine hK.out _ _ ?_ (fun hHeld2 => ?_)
                          · (try dsimp only); first | exact Below.trans hHeld (Below.mono hb hHeld.size) | exact hHeld | exact Below.drew hHeld | exact (by repeat (first | exact Below.refl _ _ | assumption | refine Below.alloc ?_ (by first | omega | (simp <;> omega)) _ | refine Below.setCell ?_ (by first | omega | (simp <;> omega)) _ | refine Below.drew ?_))
                          clear hK K hHeld; have hHeld := hHeld2; clear hHeld2; (try simp only [Act.put, zn1, zn2, zn3])
                          refine tY (i := 17) (v := ?_) rfl ?_ hHeld ?_; rotate_left 1; focus (intro w' hSw; clear hSw; go_simp; try with_reducible rfl)
                          (try simp only [Act.put, zn1, zn2, zn3])
                          refine tY (i := 18) (v := ?_) rfl ?_ hHeld ?_; rotate_left 1; focus (intro w' hSw; clear hSw; go_simp; try with_reducible rfl)
                          (try simp only [Act.put, zn1, zn2, zn3])
                          refine wpAnyH_done (by kernel_rfl) ?_ _
                          go_wp2_with fail
                          go_ret
                          exact ⟨rfl, lift HB20.out hHeld⟩
                  · go_wp2_with fail
                    go_ret
                    exact ⟨rfl, HB.out⟩
                · go_wp2_with fail
                  go_ret
                  exact ⟨rfl, HB.out⟩
              · have hst' : ((sb : Int) != 1) = true := by simpa using hst
                clear hst
                go_wp2_with fail
                go_ret
                exact ⟨rfl, HB.out⟩
            · go_wp2_with fail
              go_ret
              exact ⟨rfl, HB.out⟩
end Od
end Go.Proofs.YtbllehjhmfehbaaGreat
end

section
/- A law's arguments opened for its walk: a graph, texts. -/
namespace Go.Proofs.YtbllehjhmfehbaaGreat
open Go.ChangeShapes Go.WideShapes Go.ChangeAt Go.RowKit

section
variable {H : Type} {enc : TypeId × Value → H} {W : World} {r : Reach} {b0 : Nat} {v : Value} {d : DataW H} {p : List MemPlace}
set_option maxRecDepth 100000 in
theorem open_str_arg (hv : Value.okWide Tryz.prog W r b0 9 v) (h : DataW.Trod enc Tryz.prog W 0 (fun _ => true) true 9 v d p) (hs : Light Tryz.prog 9 d) : ∃ s : Str, v = sv s ∧ okS47 s := by
  obtain ⟨s, rfl⟩ := okWide_string Tryz.underlying9 hv
  obtain ⟨fuel, hf⟩ := h
  obtain ⟨s', h1, h2⟩ := open_str (cs := [.string s]) hf hs
  simp only [List.cons.injEq, and_true] at h1
  exact ⟨s', h1, h2⟩
end
end Go.Proofs.YtbllehjhmfehbaaGreat
end
