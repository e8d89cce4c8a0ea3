/- My texts, joined for the claim: NChars GMap DKit0. -/
import Derived.Test.YtgfdcmlmgeoimaaRows
import Derived.Test.YtgfdcmlmgeoimaaZB1
import Derived.Test.YtgfdcmlmgeoimaaZB0
import Derived.Shelf.Abstract
import Derived.Maps.OwnSet
import Derived.Maps.RangeWalk
import Derived.WalkKit
import Derived.Deep.QuietTactic
import Derived.BigQuiet
import Derived.OwnWalk

section
/- The walks of package chars that names ask: kinds of bytes. -/
namespace Go.Proofs.Ytgfdcmlmgeoimaa
open Go.RowKit

namespace Od
set_option maxHeartbeats 1000000 in
theorem Letter_any (c : Int) (w : World) : Calls Try.prog 40 #[.int .u8 c] w fun e w' => e = .returned (.bool (letterB c)) ∧ w = w' := by
  by_cases h1 : (97 : Int) ≤ c
  · have d1 : decide ((97 : Int) ≤ c) = true := by simpa using h1
    have e3 : decide ((65 : Int) ≤ c) = true := by simp; omega
    by_cases h2 : c ≤ (122 : Int)
    · have d2 : decide (c ≤ (122 : Int)) = true := by simpa using h2
      go_enter Try.func40, Try.ntmps40
      go_wp2
      go_ret
      exact ⟨ret_bool (by simp [letterB, d1, d2]), rfl⟩
    · have d2 : decide (c ≤ (122 : Int)) = false := by simpa using h2
      have d4 : decide (c ≤ (90 : Int)) = false := by simp; omega
      go_enter Try.func40, Try.ntmps40
      go_wp2
      go_ret
      exact ⟨ret_bool (by simp [letterB, d1, d2, e3, d4]), rfl⟩
  · have d1 : decide ((97 : Int) ≤ c) = false := by simpa using h1
    by_cases h3 : (65 : Int) ≤ c
    · have d3 : decide ((65 : Int) ≤ c) = true := by simpa using h3
      go_enter Try.func40, Try.ntmps40
      go_wp2
      go_ret
      exact ⟨ret_bool (by simp [letterB, d1, d3]), rfl⟩
    · have d3 : decide ((65 : Int) ≤ c) = false := by simpa using h3
      go_enter Try.func40, Try.ntmps40
      go_wp2
      go_ret
      exact ⟨ret_bool (by simp [letterB, d1, d3]), rfl⟩
set_option maxHeartbeats 1000000 in
theorem Digit_any (c : Int) (w : World) : Calls Try.prog 41 #[.int .u8 c] w fun e w' => e = .returned (.bool (digitB c)) ∧ w = w' := by
  by_cases h1 : (48 : Int) ≤ c
  · have d1 : decide ((48 : Int) ≤ c) = true := by simpa using h1
    go_enter Try.func41, Try.ntmps41
    go_wp2
    go_ret
    exact ⟨ret_bool (by simp [digitB, d1]), rfl⟩
  · have d1 : decide ((48 : Int) ≤ c) = false := by simpa using h1
    go_enter Try.func41, Try.ntmps41
    go_wp2
    go_ret
    exact ⟨ret_bool (by simp [digitB, d1]), rfl⟩
set_option maxHeartbeats 1000000 in
theorem In1_any (c : Int) (p : Nat) (t : Str) (w : World) (hp : w.cell? ⟨p, 0, none⟩ = some (sv t)) : Calls Try.prog 56 #[.int .u8 c, .pointer (some ⟨p, 0, none⟩)] w fun e w' => e = .returned (.bool (inB t c)) ∧ w = w' := by
  go_enter Try.func56, Try.ntmps56
  go_wp2_with fail
  refine (Try.strings_IndexByte _ c w).mono ?_
  rintro e w1 ⟨rfl, rfl⟩
  go_wp2_with fail
  go_ret
  exact ⟨ret_bool (by simp [inB]), rfl⟩
set_option maxHeartbeats 1000000 in
theorem In_any (t : Str) (w : World) : Calls Try.prog 42 #[sv t] w fun e w' => e = .returned (.func (.func 56) #[] #[.pointer (some ⟨w.heap.size, 0, none⟩)]) ∧ w' = w.alloc (.cells #[sv t] 9) := by
  go_enter Try.func42, Try.ntmps42
  go_wp2_with fail
  go_ret
  exact ⟨rfl, rfl⟩

/-- A function value that says of a byte whether p, whatever has been made since. -/
structure SaysB (g : Nat) (caps : Array Value) (p : Int → Bool) (w : World) : Prop where
  enters : ∀ (args : Array Value) (W : World), (callFunc g args).run Try.prog W = .ok (.enter g args) W
  says : ∀ (W : World) (c : Int), Below w.heap.size w W → Calls Try.prog g (#[.int .u8 c] ++ caps) W fun e w' => e = .returned (.bool (p c)) ∧ Below W.heap.size W w'
theorem says_letter (w : World) : SaysB 40 #[] letterB w where
  enters := enters_of Try.func40 (by kernel_rfl) rfl
  says := fun W c _ => (Letter_any c W).mono fun e w' ⟨h1, h2⟩ => ⟨h1, h2 ▸ Below.refl _ _⟩
theorem says_digit (w : World) : SaysB 41 #[] digitB w where
  enters := enters_of Try.func41 (by kernel_rfl) rfl
  says := fun W c _ => (Digit_any c W).mono fun e w' ⟨h1, h2⟩ => ⟨h1, h2 ▸ Below.refl _ _⟩
theorem says_in (p : Nat) (t : Str) (w : World) (hp : w.cell? ⟨p, 0, none⟩ = some (sv t)) : SaysB 56 #[.pointer (some ⟨p, 0, none⟩)] (inB t) w where
  enters := enters_of Try.func56 (by kernel_rfl) rfl
  says := fun W c h => (In1_any c p t W ((h.cell (p := ⟨p, 0, none⟩) (cell_blk hp)).trans hp)).mono fun e w' ⟨h1, h2⟩ => ⟨h1, h2 ▸ Below.refl _ _⟩

set_option maxRecDepth 100000 in
set_option maxHeartbeats 4000000 in
theorem All_any (s : Str) (g : Nat) (caps : Array Value) (p : Int → Bool) (w : World) (hl : s.length ≤ maxLen) (hp : SaysB g caps p w) :
    Calls Try.prog 54 #[sv s, .func (.func g) #[] caps] w fun e w' => e = .returned (.bool (allB p s)) ∧ Below w.heap.size w w' := by
  unfold maxLen at hl
  have Hp := Lib.hid hp
  have eg := hp.enters
  clear hp
  go_enter Try.func54, Try.ntmps54
  go_wp2_with fail
  go_loopw [8] (fun i wr => ∃ k : Nat, k ≤ s.length ∧ i = .int .i64 k ∧ Hid (allB p (s.take k) = true) ∧ Below w.heap.size w wr) (fun i _ => s.length - (intOf i).toNat)
  case atStart => exact ⟨0, Nat.zero_le _, rfl, by simp [Hid, allB], Below.refl _ _⟩
  case round =>
    obtain ⟨k, hk, rfl, hall, hb⟩ := hrel
    have HB := Lib.hid hb
    clear hb
    by_cases hlt : k < s.length
    · have hcall := Hp.out.says wr (s[k].toNat : Int) HB.out
      have h1 : allB p (s.take (k + 1)) = (allB p (s.take k) && p (s[k].toNat : Int)) := by
        unfold allB; rw [List.take_succ_eq_append_getElem hlt, List.all_append]; simp
      have h2 : p (s[k].toNat : Int) = false → allB p s = false := fun h => by
        unfold allB; rw [List.all_eq_false]; exact ⟨s[k], List.getElem_mem hlt, by simp [h]⟩
      have Hcall := Lib.hid hcall
      have H1 := Lib.hid h1
      have H2 := Lib.hid h2
      clear hcall h1 h2
      go_wp2_with fail
      refine Hcall.out.mono ?_
      rintro e w2 ⟨rfl, hb2⟩
      have HB2 := Lib.hid (HB.out.trans (hb2.mono HB.out.size))
      clear hb2
      cases hpc : p (s[k].toNat : Int)
      · have H3 := Lib.hid (H2.out hpc)
        go_wp2_with fail
        go_ret
        exact ⟨ret_bool H3.out.symm, HB2.out⟩
      · have H3 := Lib.hid hpc
        go_wp2_with fail
        go_roundw
        case rel => exact ⟨k + 1, by omega, by go_num, by show _ = true; rw [H1.out, hall.out, H3.out]; rfl, HB2.out⟩
        case measure => simp [intOf]; omega
    · have hkn : k = s.length := by omega
      subst hkn
      go_wp2_with fail
      go_ret
      have h := hall.out
      rw [List.take_length] at h
      exact ⟨ret_bool h.symm, HB.out⟩
end Od
end Go.Proofs.Ytgfdcmlmgeoimaa
end

section
/- Maps of the call's own, as functions from keys (over the library's ownsMap and ranges, each element held as it is). -/
namespace Go.Proofs.Ytgfdcmlmgeoimaa
open Go.RowKit Go.Maps

/-- An element read as the value that it is. -/
def idR (v : Value) : Option (DataW Value × List MemPlace) := some (.held v, [])

/-- Keys of a type in Lean, as keys in the program. -/
structure KeyKind (P : Program) (k : TypeId) (α : Type) where
  val : α → Value
  ok : α → Prop
  kl : α → Lit
  law : Keyed P k
  key : ∀ x, ok x → keyOf P k (val x) = some (kl x)
  inj : ∀ x y, val x = val y → x = y
  inv : ∀ v l, keyOf P k v = some l → ∃ x, ok x ∧ v = val x

variable {P : Program} {k : TypeId} {α : Type} {κ : KeyKind P k α} {w w' : World} {b n : Nat} {f : α → Option Value}

theorem KeyKind.kl_inj (κ : KeyKind P k α) {x y : α} (hx : κ.ok x) (hy : κ.ok y) (h : κ.kl x = κ.kl y) : x = y :=
  κ.inj _ _ (κ.law.inj (κ.key x hx) (h ▸ κ.key y hy))
theorem KeyKind.kl_key (κ : KeyKind P k α) {x : α} (hx : κ.ok x) : WideAt.IsKeyLit (κ.kl x) := κ.law.key (κ.key x hx)

/-- What a datum says at each key. -/
def SaysF (κ : KeyKind P k α) (D : DataW Value) (f : α → Option Value) : Prop :=
  ∀ x, κ.ok x → Maps.has D (κ.kl x) = (f x).isSome ∧ ∀ z, D.atKey (κ.kl x) z = ((f x).map DataW.held).getD z

/-- Block b is a map of at most n entries that holds f x at the key x. -/
def MapIs (κ : KeyKind P k α) (w : World) (b n : Nat) (f : α → Option Value) : Prop :=
  ∃ D : DataW Value, w.ownsMap P k idR b n D ∧ SaysF κ D f

theorem MapIs.made (κ : KeyKind P k α) (w : World) : MapIs κ (w.alloc (.map #[] 0)) w.heap.size 0 (fun _ => none) :=
  ⟨.map [], World.ownsMap_made w P k idR, fun _ _ => ⟨rfl, fun z => Maps.atKey_of_not_has (by rfl) z⟩⟩
theorem MapIs.lt (h : MapIs κ w b n f) : b < w.heap.size := by obtain ⟨D, h, _⟩ := h; exact h.lt
theorem MapIs.mono (h : MapIs κ w b n f) {n' : Nat} (hn : n ≤ n') : MapIs κ w b n' f := by obtain ⟨D, h, hf⟩ := h; exact ⟨D, h.mono hn, hf⟩
theorem MapIs.same (h : MapIs κ w b n f) (he : w'.heap[b]? = w.heap[b]?) : MapIs κ w' b n f := by
  obtain ⟨D, ⟨es, c, hb, r⟩, hf⟩ := h
  exact ⟨D, ⟨es, c, he.trans hb, r⟩, hf⟩
theorem MapIs.on (h : MapIs κ w b n f) (hb : Below w.heap.size w w') : MapIs κ w' b n f := h.same (hb.block b h.lt)
theorem MapIs.alloc (h : MapIs κ w b n f) (o : Obj) : MapIs κ (w.alloc o) b n f := by obtain ⟨D, h, hf⟩ := h; exact ⟨D, h.alloc o, hf⟩
theorem MapIs.drew (h : MapIs κ w b n f) : MapIs κ w.drew b n f := h
theorem MapIs.kept {row : Option Nat} (h : MapIs κ w b n f) (hg : w.grownBy w' row) (hne : some b ≠ row) : MapIs κ w' b n f := by obtain ⟨D, h, hf⟩ := h; exact ⟨D, h.kept hg hne, hf⟩

theorem MapIs.lookup {t e : TypeId} {z : Value} (h : MapIs κ w b n f) (ht : P.underlying t = some (.map k e)) (hz : (zeroValue e).run P w = .ok z w) {x : α} (hx : κ.ok x) :
    (Instr.lookup t (.map (some b)) (κ.val x) false).run P w = .ok ((f x).getD z) w := by
  obtain ⟨D, h, hf⟩ := h
  obtain ⟨v, ps, hrun, hv⟩ := h.lookup κ.law ht hz (zd := .held z) (zp := []) rfl (κ.key x hx)
  rw [(hf x hx).2] at hv
  rw [hrun]
  cases hfx : f x
  · rw [hfx] at hv
    simp only [idR, Option.map_none, Option.getD_none, Option.some.injEq, Prod.mk.injEq, DataW.held.injEq] at hv
    rw [hv.1]; rfl
  · rw [hfx] at hv
    simp only [idR, Option.map_some, Option.getD_some, Option.some.injEq, Prod.mk.injEq, DataW.held.injEq] at hv
    rw [hv.1]; rfl

open Classical in
theorem MapIs.update {t e : TypeId} (h : MapIs κ w b n f) (ht : P.underlying t = some (.map k e)) (hn : n < maxLen) {x : α} (hx : κ.ok x) (v : Value) :
    ∃ w', (Instr.mapUpdate t (.map (some b)) (κ.val x) v).run P w = .ok () w' ∧ MapIs κ w' b (n + 1) (fun y => if y = x then some v else f y) ∧ w.grownBy w' (some b) := by
  obtain ⟨D, h, hf⟩ := h
  have him := h.isMap
  obtain ⟨w', hrun, h', hg⟩ := h.update κ.law ht hn (key := κ.val x) (val := v) (d := .held v) (ps := []) (κ.key x hx) rfl
  refine ⟨w', hrun, ⟨_, h', fun y hy => ?_⟩, hg⟩
  by_cases hyx : y = x
  · subst hyx
    exact ⟨by rw [Maps.has_put_same him (κ.kl_key hy)]; simp, fun z => by rw [Maps.atKey_put_same him (κ.kl_key hy)]; simp⟩
  · have hne : κ.kl y ≠ κ.kl x := fun e => hyx (κ.kl_inj hy hx e)
    have hkx := κ.kl_key hx
    exact ⟨by rw [Maps.has_put_other hne]; simp [hyx, hf y hy], fun z => by rw [Maps.atKey_put_other hne]; simp [hyx, hf y hy]⟩

/-- 'for k := range m' under way: f: what the map holds; left: which keys are still to come. -/
def RangeIs (κ : KeyKind P k α) (w : World) (b r n : Nat) (f : α → Option Value) (left : α → Bool) (cnt : Nat) : Prop :=
  ∃ (D : DataW Value) (L : Lit → Bool), w.ranges P k idR b r n D L cnt ∧ SaysF κ D f ∧ ∀ x, κ.ok x → L (κ.kl x) = left x

variable {r cnt : Nat} {left : α → Bool}
theorem RangeIs.map (h : RangeIs κ w b r n f left cnt) : MapIs κ w b n f := by obtain ⟨D, L, h, hf, _⟩ := h; exact ⟨D, h.owns, hf⟩
theorem RangeIs.left_eq (h : RangeIs κ w b r n f left cnt) : w.rangeLeft b r = cnt := by obtain ⟨D, L, h, _⟩ := h; exact h.left_eq
theorem RangeIs.lt (h : RangeIs κ w b r n f left cnt) : r < w.heap.size := by obtain ⟨D, L, h, _⟩ := h; exact h.lt
theorem RangeIs.ne (h : RangeIs κ w b r n f left cnt) : r ≠ b := by obtain ⟨D, L, h, _⟩ := h; exact h.ne
theorem RangeIs.same (h : RangeIs κ w b r n f left cnt) (hb : w'.heap[b]? = w.heap[b]?) (hr : w'.heap[r]? = w.heap[r]?) : RangeIs κ w' b r n f left cnt := by
  obtain ⟨D, L, ⟨es, clock, since, seen, c0, h1, h2, h3, h4, h5, h6⟩, hf, hl⟩ := h
  exact ⟨D, L, ⟨es, clock, since, seen, c0, hb.trans h1, h2, h3, h4, hr.trans h5, h6⟩, hf, hl⟩
theorem RangeIs.on (h : RangeIs κ w b r n f left cnt) (hb : Below w.heap.size w w') : RangeIs κ w' b r n f left cnt := h.same (hb.block b h.map.lt) (hb.block r h.lt)
theorem RangeIs.kept {row : Option Nat} (h : RangeIs κ w b r n f left cnt) (hg : w.grownBy w' row) (hb : some b ≠ row) (hr : some r ≠ row) : RangeIs κ w' b r n f left cnt := by
  obtain ⟨D, L, h, hf, hl⟩ := h
  exact ⟨D, L, h.kept hg hb hr, hf, hl⟩

theorem MapIs.range {t e : TypeId} (h : MapIs κ w b n f) (ht : P.underlying t = some (.map k e)) :
    ∃ w', (Instr.range t (.map (some b))).run P w = .ok (.pointer (some ⟨w.heap.size, 0, none⟩)) w' ∧ (∃ cnt, RangeIs κ w' b w.heap.size n f (fun x => (f x).isSome) cnt) ∧ w.grownBy w' none ∧ w'.heap.size = w.heap.size + 1 := by
  obtain ⟨D, h, hf⟩ := h
  obtain ⟨w', hrun, h1, h2, h3⟩ := h.range κ.law ht
  exact ⟨w', hrun, ⟨_, D, _, h1, hf, fun x hx => (hf x hx).1⟩, h2, h3⟩

open Classical in
theorem RangeIs.next (h : RangeIs κ w b r n f left cnt) (ty : TypeId) :
    (cnt = 0 ∧ (∀ x, κ.ok x → left x = false) ∧ (Instr.next (.pointer (some ⟨r, 0, none⟩)) false ty).run P w = .ok (.tuple #[.bool false]) w) ∨
    ∃ x v w' cnt', κ.ok x ∧ left x = true ∧ f x = some v ∧ (Instr.next (.pointer (some ⟨r, 0, none⟩)) false ty).run P w = .ok (.tuple #[.bool true, κ.val x, v]) w' ∧
      RangeIs κ w' b r n f (fun y => left y && decide (y ≠ x)) cnt' ∧ cnt' < cnt ∧ w.grownBy w' (some r) ∧ w'.heap.size = w.heap.size ∧ (Instr.entry (.pointer (some ⟨r, 0, none⟩))).run P w' = .ok (.tuple #[κ.val x, v]) w' := by
  obtain ⟨D, L, h, hf, hl⟩ := h
  rcases h.next κ.law ty with ⟨h0, hL, hrun⟩ | ⟨key, v, kl, y, w', cnt', hkey, hLk, hv, hat, hrun, hrg, hlt, hgr, hsz, hen⟩
  · exact .inl ⟨h0, fun x hx => by rw [← hl x hx]; exact hL _, hrun⟩
  · obtain ⟨x, hx, rfl⟩ := κ.inv key kl hkey
    have hkl : κ.kl x = kl := Option.some.inj ((κ.key x hx).symm.trans hkey)
    subst hkl
    have hy : y = (.held v, []) := (Option.some.inj hv).symm
    subst hy
    have hfx : f x = some v := by
      have h1 := hat .nil
      rw [(hf x hx).2] at h1
      cases hfx : f x with
      | none => rw [hfx] at h1; cases h1
      | some v' => rw [hfx] at h1; cases h1; rfl
    refine .inr ⟨x, v, w', cnt', hx, by rw [← hl x hx]; exact hLk, hfx, hrun, ⟨D, _, hrg, hf, fun z hz => ?_⟩, hlt, hgr, hsz, hen⟩
    show (L (κ.kl z) && !(κ.kl z).sameKey (κ.kl x)) = _
    rw [hl z hz]
    by_cases hzx : z = x
    · subst hzx
      rw [WideAt.sameKey_self (κ.kl_key hz)]
      simp
    · rw [Maps.sameKey_ne (fun e => hzx (κ.kl_inj hz hx e))]
      simp [hzx]

section
variable {ops : Array Oper} {rest : List Oper} {o : Oper} {a : Act} {Q : Exit → Act → World → Prop} (w : World)

theorem wpList_lookup_is (hg : o.guard = none) (m x : Operand) (t : TypeId) (hop : o.op = Op.lookup t m x false) (e : TypeId) (ht : P.underlying t = some (.map k e)) (z : Value) (hz : (zeroValue e).run P w = .ok z w)
    (b n : Nat) (f : α → Option Value) (hm : a.eval m = .map (some b)) (h : MapIs κ w b n f) (key : α) (hx : a.eval x = κ.val key) (hk : κ.ok key)
    (hK : wpList P ops Q rest (a.put o.dst ((f key).getD z)) w) : wpList P ops Q (o :: rest) a w := by
  refine wpList_plain hg fun K' hK' => ?_
  have hrun := h.lookup ht hz hk
  unfold Oper.wp
  simp [execOp, hop, hm, hx, hrun, Result.andThen]
  exact hK' _ _ hK

open Classical in
theorem wpList_update_is (hg : o.guard = none) (m x v : Operand) (t : TypeId) (hop : o.op = Op.mapUpdate t m x v) (e : TypeId) (ht : P.underlying t = some (.map k e))
    (b n : Nat) (f : α → Option Value) (hm : a.eval m = .map (some b)) (h : MapIs κ w b n f) (hn : n < maxLen) (key : α) (val : Value) (hx : a.eval x = κ.val key) (hv : a.eval v = val) (hk : κ.ok key)
    (hK : ∀ w', MapIs κ w' b (n + 1) (fun y => if y = key then some val else f y) → w.grownBy w' (some b) → wpList P ops Q rest (a.put o.dst undef) w') : wpList P ops Q (o :: rest) a w := by
  refine wpList_plain hg fun K' hK' => ?_
  obtain ⟨w', hrun, h1, h2⟩ := h.update ht hn hk val
  unfold Oper.wp
  simp [execOp, hop, hm, hx, hv, hrun, Result.andThen]
  exact hK' _ _ (hK w' h1 h2)

theorem wpList_range_is (hg : o.guard = none) (m : Operand) (t : TypeId) (hop : o.op = Op.range t m) (e : TypeId) (ht : P.underlying t = some (.map k e)) (b n : Nat) (f : α → Option Value)
    (hm : a.eval m = .map (some b)) (h : MapIs κ w b n f)
    (hK : ∀ w' cnt, RangeIs κ w' b w.heap.size n f (fun x => (f x).isSome) cnt → w.grownBy w' none → w'.heap.size = w.heap.size + 1 → wpList P ops Q rest (a.put o.dst (.pointer (some ⟨w.heap.size, 0, none⟩))) w') :
    wpList P ops Q (o :: rest) a w := by
  refine wpList_plain hg fun K' hK' => ?_
  obtain ⟨w', hrun, ⟨cnt, r1⟩, r2, r3⟩ := h.range (t := t) ht
  unfold Oper.wp
  simp [execOp, hop, hm, hrun, Result.andThen]
  exact hK' _ _ (hK w' cnt r1 r2 r3)

open Classical in
theorem wpList_next_is (hg : o.guard = none) (it : Operand) (hop : o.op = Op.next it false) (b r n : Nat) (f : α → Option Value) (left : α → Bool) (cnt : Nat) (hit : a.eval it = .pointer (some ⟨r, 0, none⟩)) (h : RangeIs κ w b r n f left cnt)
    (hDone : (∀ x, κ.ok x → left x = false) → wpList P ops Q rest (a.put o.dst (.tuple #[.bool false])) w)
    (hMore : ∀ (x : α) (v : Value) (w' : World) (cnt' : Nat), κ.ok x → left x = true → f x = some v → RangeIs κ w' b r n f (fun y => left y && decide (y ≠ x)) cnt' → cnt' < cnt → w.grownBy w' (some r) → w'.heap.size = w.heap.size →
      (Instr.entry (.pointer (some ⟨r, 0, none⟩))).run P w' = .ok (.tuple #[κ.val x, v]) w' → wpList P ops Q rest (a.put o.dst (.tuple #[.bool true, κ.val x, v])) w') :
    wpList P ops Q (o :: rest) a w := by
  refine wpList_plain hg fun K' hK' => ?_
  unfold Oper.wp
  rcases h.next o.type with ⟨_, hl, hrun⟩ | ⟨x, v, w', cnt', hx, hlx, hfx, hrun, hrg, hlt, hgr, hsz, hen⟩
  · simp [execOp, hop, hit, hrun, Result.andThen]
    exact hK' _ _ (hDone hl)
  · simp [execOp, hop, hit, hrun, Result.andThen]
    exact hK' _ _ (hMore x v w' cnt' hx hlx hfx hrg hlt hgr hsz hen)
end

/-- Texts as keys. -/
def strKind {P : Program} {k : TypeId} (hk : P.underlying k = some .string) : KeyKind P k Str where
  val := sv
  ok s := s.length ≤ maxLen
  kl s := .string s
  law := string_keyed hk
  key s hs := by
    have h : (⟨s.toArray⟩ : ByteArray).size ≤ maxLen := by simpa [ByteArray.size] using hs
    simp [keyOf, hk, mapKey, h]
  inj x y h := by simpa using h
  inv v l h := by
    cases v <;> simp [keyOf, hk, mapKey] at h
    rename_i s
    refine ⟨s.data.toList, by simpa using h.1, by simp⟩
end Go.Proofs.Ytgfdcmlmgeoimaa
end

section
/- What Disk needs of older texts, first part: lists, appends. (bel2) -/
namespace Go.Proofs.Ytgfdcmlmgeoimaa
open Go.RowKit
set_option linter.unusedSimpArgs false
/-- The same, the new block's number in the walk's own spelling. -/
theorem wpList_pushm {P : Program} (w0 w : World) {ops : Array Oper} {rest : List Oper} {o : Oper} {a : Act} {Q : Exit → Act → World → Prop} (hgd : o.guard = none) (s x : Operand) (t : TypeId)
    (ho : o.op = .call { callee := .builtin .append, args := #[s, x], argTypes := #[t, t] })
    (base : Nat) (e : TypeId) (i : TypeInfo) (z : Value) (size bytes : Nat) (ht : P.underlying t = some (.slice e)) (hi : P.info? e = some i) (hz : i.zero = some z)
    (hsize : i.size = size) (hby : i.bytes = bytes) (hzs : z.cells.size = size) (hsz : 0 < size)
    (v : Value) (n : Nat) (xs : List Value) (hs : a.eval s = v) (hown : w.ownsRow base e size v n xs)
    (news : List Value) (m : Nat) (hm : w.heap.size = m) (hx : a.eval x = .slice (some ⟨m, 0, none⟩) 1 1) (hl : news.length = size) (h1 : ∀ u ∈ news, u.oneCell' = true)
    (h63 : n + 1 ≤ maxLen) (hbytes : (n + 1) * bytes ≤ 140737488355328) (hbase : base ≤ w.heap.size) (hbel : Below base w0 w)
    (h : ∀ A' c' w', w'.ownsRow base e size (.slice A' (n + 1) c') (n + 1) (xs ++ news) → Below base w0 w' → w.grownBy w' v.ownBlock →
      ((Value.slice A' (n + 1) c').ownBlock = v.ownBlock ∨ (Value.slice A' (n + 1) c').ownBlock = some (w.heap.size + 1)) → wpList P ops Q rest (a.put o.dst (.slice A' (n + 1) c')) w') :
    wpList P ops Q (o :: rest) a (w.alloc (.cells news.toArray e)) := by
  subst hm
  exact wpList_push w0 w hgd s x t ho base e i z size bytes ht hi hz hsize hby hzs hsz v n xs hs hown news hx hl h1 h63 hbytes hbase hbel h
namespace Od
theorem below_box {w w' : World} {B : Nat} (h : Below B w w') (hB : B ≤ w'.heap.size) (o : Obj) : Below B w (w'.alloc o) := h.alloc hB o
theorem any_take_succ {α : Type} {p : α → Bool} {l : List α} {k : Nat} (hk : k < l.length) : (l.take (k + 1)).any p = ((l.take k).any p || p l[k]) := by
  rw [List.take_succ_eq_append_getElem hk]; simp only [List.any_append, List.any_cons, List.any_nil, Bool.or_false]
theorem any_of_at {α : Type} {p : α → Bool} {l : List α} {k : Nat} (hk : k < l.length) (h : p l[k] = true) : l.any p = true := List.any_eq_true.2 ⟨l[k], List.getElem_mem hk, h⟩
theorem eq_of_at {α : Type} {xs ys : List α} (hl : xs.length = ys.length) (h : ∀ j (h1 : j < xs.length) (h2 : j < ys.length), xs[j] = ys[j]) : xs = ys := List.ext_getElem hl h
theorem at_ne {α : Type} {xs ys : List α} {k : Nat} (hx : k < xs.length) (hy : k < ys.length) (h : xs[k] ≠ ys[k]) : xs ≠ ys := fun e => by subst e; exact h rfl
theorem find_none_take {α : Type} {p : α → Bool} {xs : List α} (h : xs.any p = false) : xs.find? p = none := by
  rw [List.find?_eq_none]
  intro x hx hp
  have := List.any_eq_false.1 h x hx
  exact this hp
theorem find_at {α : Type} {p : α → Bool} {xs : List α} {k : Nat} (hk : k < xs.length) (h0 : (xs.take k).any p = false) (hp : p xs[k] = true) : xs.find? p = some xs[k] := by
  have e : xs = xs.take k ++ (xs[k] :: xs.drop (k + 1)) := by rw [List.getElem_cons_drop, List.take_append_drop]
  have h : (xs.take k ++ (xs[k] :: xs.drop (k + 1))).find? p = some xs[k] := by
    rw [List.find?_append, find_none_take h0, Option.none_or, List.find?_cons_of_pos hp]
  rw [← e] at h
  exact h
theorem take_any_at {α : Type} {p : α → Bool} {xs : List α} {k j : Nat} (hk : k ≤ xs.length) (h0 : (xs.take k).any p = false) (hj : j < k) : p (xs[j]'(by omega)) = false := by
  have := List.any_eq_false.1 h0 (xs[j]'(by omega)) (List.mem_take_iff_getElem.2 ⟨j, by omega, rfl⟩)
  simpa using this
theorem filter_take_succ {α : Type} {p : α → Bool} {xs : List α} {k : Nat} (hk : k < xs.length) : (xs.take (k + 1)).filter p = (xs.take k).filter p ++ (if p xs[k] then [xs[k]] else []) := by
  rw [List.take_succ_eq_append_getElem hk, List.filter_append]
  congr 1
  by_cases h : p xs[k] = true
  · simp only [List.filter_cons, h, if_true, List.filter_nil]
  · simp only [List.filter_cons, h, if_false, List.filter_nil, Bool.false_eq_true]
theorem filter_take_le {α : Type} {p : α → Bool} {xs : List α} {k : Nat} : ((xs.take k).filter p).length ≤ xs.length :=
  Nat.le_trans (List.length_filter_le _ _) (by simp; omega)
theorem infoS : (Try.prog.info? 9).map (fun i => (i.zero, i.size, i.bytes)) = some (some (.string ⟨#[]⟩), 1, 16) := by kernel_rfl
theorem infoFl : (Try.prog.info? 38).map (fun i => (i.zero, i.size, i.bytes)) = some (some (.agg #[.string ⟨#[]⟩, .string ⟨#[]⟩, .string ⟨#[]⟩]), 3, 48) := by kernel_rfl
abbrev okS (s : Str) : Prop := s.length ≤ maxLen
noncomputable def strK : KeyKind Try.prog 9 Str := strKind Try.underlying9
open Classical in
/-- What a set of texts holds. -/
noncomputable def setF (D : List Str) (s : Str) : Option Value := if s ∈ D then some (.bool true) else none
theorem setF_cons (b : Str) (D : List Str) (f : Str → Option Value) (ha : f b = some (.bool true)) (ho : ∀ s, s ≠ b → f s = setF D s) : f = setF (b :: D) := by
  funext s
  by_cases h : s = b
  · subst h; rw [ha]; simp [setF]
  · rw [ho s h]; simp [setF, h]
theorem set_put {w : World} {m n : Nat} {b : Str} {D : List Str} {f : Str → Option Value} (h : MapIs strK w m n f) (h1 : f b = some (.bool true)) (h2 : ∀ s, s ≠ b → f s = setF D s) : MapIs strK w m n (setF (b :: D)) := by
  rw [setF_cons b D f h1 h2] at h; exact h
theorem zeroB (w : World) : (zeroValue 4).run Try.prog w = .ok (.bool false) w := Try.zeroValue4 w
theorem setS_if {w : World} {b n : Nat} {k : Str} {a : Option Value} {f : Str → Option Value} (h : MapIs strK w b n (fun y => @ite (Option Value) (y = k) (Classical.propDecidable _) a (f y))) : MapIs strK w b n (fun y => if y = k then a else f y) := by
  have e : (fun y => @ite (Option Value) (y = k) (Classical.propDecidable _) a (f y)) = (fun y => if y = k then a else f y) := by
    funext y
    by_cases e : y = k <;> simp [e]
  rwa [e] at h
theorem one_svs (l : List Str) : ∀ u ∈ svs l, u.oneCell' = true := fun u hu => by
  obtain ⟨s, _, rfl⟩ := List.mem_map.1 hu; rfl
theorem one_sv (s : Str) : ∀ u ∈ [sv s], u.oneCell' = true := fun u hu => by rw [List.mem_singleton.1 hu]; rfl
theorem svs_app (a b : List Str) : svs (a ++ b) = svs a ++ svs b := by simp [svs]
end Od
end Go.Proofs.Ytgfdcmlmgeoimaa
end
