/- My texts, joined for the claim: Shelf2 NChars GMap DKit0 NKind GMath DKit DKN. -/
import Derived.Shelf.Small.Bits
import Derived.Shelf.Small.Strs
import Derived.Shelf.Small.Wraps
import Derived.Shelf.Strconv.Itoa0
import Derived.Shelf.Strings.Search1
import Derived.Shelf.Strings.Search2
import Derived.Shelf.Strings.Cut
import Derived.Shelf.LaysM
import Derived.Shelf.Strings.Shaped
import Derived.Shelf.Sort.Plain
import Derived.Shelf.Strings.LastIndex
import Derived.Shelf.Strings.LastIndexAll
import Derived.Shelf.Strings.Prefix
import Derived.Shelf.Slices.Turned
import Derived.Shelf.Slices.CompactS
import Derived.Shelf.Slices.Cells
import Derived.Shelf.Slices.In.SortNone
import Derived.Ground.PaProg
import Derived.Shelf.Path.Small
import Derived.Test.YtgfdcmlmgeoimaaGreatProg
import Derived.Test.YtgfdcmlmgeoimaaGreatRows
import Derived.Test.YtgfdcmlmgeoimaaGreatZB0
import Derived.Shelf.Abstract
import Derived.Maps.OwnSet
import Derived.Maps.RangeWalk
import Derived.WalkKit
import Derived.Deep.QuietTactic
import Derived.BigQuiet
import Derived.OwnWalk
import Derived.Lib.SlicesCompact
import Derived.Sort.Walk0
import Derived.Sort.OwnSorted

section
/-
  DERIVED: THE SHELF's CONTRACTS AT THIS DUMP, IN PLAIN WORDS (tools/lay-plain.mjs out of 'TryzShelf.lean', which tools/lay-shelf.mjs wrote): THE SAME DECLARATIONS UNDER THE SAME NAMES: 'import', 'namespace', 'open', 'def', 'theorem' AND NOTHING ELSE: no command of the shelf's: FOR A HAND-IN. Each laying: the table of numbers ('.._ren') and one theorem, a field a fact of the dump's own or the kernel's comparison; each contract: ONE APPLICATION.
-/
namespace Go.Proofs.YtgfdcmlmgeoimaaGreat
open Go.Shelf
def Tryz.lays217_ren : Go.Shelf.Ren := ⟨fun | 217 => 103 | 266 => 122 | n => n, fun | 9 => 9 | 5 => 5 | 3 => 3 | n => n, fun | n => n⟩
theorem Tryz.lays217 : Go.Proofs.Lays.n217 Tryz.prog Tryz.lays217_ren := {
  mixed := by kernel_rfl
  f217 := Tryz.func103.trans (congrArg some (by kernel_rfl))
  f266 := Tryz.func122.trans (congrArg some (by kernel_rfl))
  t3 := Tryz.underlying3
  a3 := Tryz.isAgg3
  z3 := Tryz.sizeOf3
  v3 := Tryz.zeroValue3
  t5 := Tryz.underlying5
  a5 := Tryz.isAgg5
  z5 := Tryz.sizeOf5
  v5 := Tryz.zeroValue5
  t9 := Tryz.underlying9
  a9 := Tryz.isAgg9
  z9 := Tryz.sizeOf9
  v9 := Tryz.zeroValue9 }
open Go.RowKit Go.Lib in
/-- internal/stringslite.IndexByte (what strings.IndexByte calls): IT RETURNS 'Lib.indexByte s c'; the world is as it was. (LAID: no walk: one application.) -/
theorem Tryz.stringslite_IndexByte (s : ByteArray) (c : Int) (w : World) :
    Calls Tryz.prog 103 #[.string s, .int .u8 c] w fun e w' => e = .returned (.int .i64 (Lib.indexByte s.data.toList c.toNat.toUInt8)) ∧ w' = w := Any.stringslite_IndexByte Tryz.lays217 s c w
end Go.Proofs.YtgfdcmlmgeoimaaGreat
end

section
/- The walks of package chars that names ask: kinds of bytes. -/
namespace Go.Proofs.YtgfdcmlmgeoimaaGreat
open Go.RowKit

namespace Od
set_option maxHeartbeats 1000000 in
theorem Letter_any (c : Int) (w : World) : Calls Tryz.prog 64 #[.int .u8 c] w fun e w' => e = .returned (.bool (letterB c)) ∧ w = w' := by
  by_cases h1 : (97 : Int) ≤ c
  · have d1 : decide ((97 : Int) ≤ c) = true := by simpa using h1
    have e3 : decide ((65 : Int) ≤ c) = true := by simp; omega
    by_cases h2 : c ≤ (122 : Int)
    · have d2 : decide (c ≤ (122 : Int)) = true := by simpa using h2
      go_enter Tryz.func64, Tryz.ntmps64
      go_wp2
      go_ret
      exact ⟨ret_bool (by simp [letterB, d1, d2]), rfl⟩
    · have d2 : decide (c ≤ (122 : Int)) = false := by simpa using h2
      have d4 : decide (c ≤ (90 : Int)) = false := by simp; omega
      go_enter Tryz.func64, Tryz.ntmps64
      go_wp2
      go_ret
      exact ⟨ret_bool (by simp [letterB, d1, d2, e3, d4]), rfl⟩
  · have d1 : decide ((97 : Int) ≤ c) = false := by simpa using h1
    by_cases h3 : (65 : Int) ≤ c
    · have d3 : decide ((65 : Int) ≤ c) = true := by simpa using h3
      go_enter Tryz.func64, Tryz.ntmps64
      go_wp2
      go_ret
      exact ⟨ret_bool (by simp [letterB, d1, d3]), rfl⟩
    · have d3 : decide ((65 : Int) ≤ c) = false := by simpa using h3
      go_enter Tryz.func64, Tryz.ntmps64
      go_wp2
      go_ret
      exact ⟨ret_bool (by simp [letterB, d1, d3]), rfl⟩
set_option maxHeartbeats 1000000 in
theorem Digit_any (c : Int) (w : World) : Calls Tryz.prog 65 #[.int .u8 c] w fun e w' => e = .returned (.bool (digitB c)) ∧ w = w' := by
  by_cases h1 : (48 : Int) ≤ c
  · have d1 : decide ((48 : Int) ≤ c) = true := by simpa using h1
    go_enter Tryz.func65, Tryz.ntmps65
    go_wp2
    go_ret
    exact ⟨ret_bool (by simp [digitB, d1]), rfl⟩
  · have d1 : decide ((48 : Int) ≤ c) = false := by simpa using h1
    go_enter Tryz.func65, Tryz.ntmps65
    go_wp2
    go_ret
    exact ⟨ret_bool (by simp [digitB, d1]), rfl⟩
set_option maxHeartbeats 1000000 in
theorem In1_any (c : Int) (p : Nat) (t : Str) (w : World) (hp : w.cell? ⟨p, 0, none⟩ = some (sv t)) : Calls Tryz.prog 83 #[.int .u8 c, .pointer (some ⟨p, 0, none⟩)] w fun e w' => e = .returned (.bool (inB t c)) ∧ w = w' := by
  go_enter Tryz.func83, Tryz.ntmps83
  go_wp2_with fail
  refine (Tryz.strings_IndexByte _ c w).mono ?_
  rintro e w1 ⟨rfl, rfl⟩
  go_wp2_with fail
  go_ret
  exact ⟨ret_bool (by simp [inB]), rfl⟩
set_option maxHeartbeats 1000000 in
theorem In_any (t : Str) (w : World) : Calls Tryz.prog 66 #[sv t] w fun e w' => e = .returned (.func (.func 83) #[] #[.pointer (some ⟨w.heap.size, 0, none⟩)]) ∧ w' = w.alloc (.cells #[sv t] 9) := by
  go_enter Tryz.func66, Tryz.ntmps66
  go_wp2_with fail
  go_ret
  exact ⟨rfl, rfl⟩

/-- A function value that says of a byte whether p, whatever has been made since. -/
structure SaysB (g : Nat) (caps : Array Value) (p : Int → Bool) (w : World) : Prop where
  enters : ∀ (args : Array Value) (W : World), (callFunc g args).run Tryz.prog W = .ok (.enter g args) W
  says : ∀ (W : World) (c : Int), Below w.heap.size w W → Calls Tryz.prog g (#[.int .u8 c] ++ caps) W fun e w' => e = .returned (.bool (p c)) ∧ Below W.heap.size W w'
theorem says_letter (w : World) : SaysB 64 #[] letterB w where
  enters := enters_of Tryz.func64 (by kernel_rfl) rfl
  says := fun W c _ => (Letter_any c W).mono fun e w' ⟨h1, h2⟩ => ⟨h1, h2 ▸ Below.refl _ _⟩
theorem says_digit (w : World) : SaysB 65 #[] digitB w where
  enters := enters_of Tryz.func65 (by kernel_rfl) rfl
  says := fun W c _ => (Digit_any c W).mono fun e w' ⟨h1, h2⟩ => ⟨h1, h2 ▸ Below.refl _ _⟩
theorem says_in (p : Nat) (t : Str) (w : World) (hp : w.cell? ⟨p, 0, none⟩ = some (sv t)) : SaysB 83 #[.pointer (some ⟨p, 0, none⟩)] (inB t) w where
  enters := enters_of Tryz.func83 (by kernel_rfl) rfl
  says := fun W c h => (In1_any c p t W ((h.cell (p := ⟨p, 0, none⟩) (cell_blk hp)).trans hp)).mono fun e w' ⟨h1, h2⟩ => ⟨h1, h2 ▸ Below.refl _ _⟩

set_option maxRecDepth 100000 in
set_option maxHeartbeats 4000000 in
theorem All_any (s : Str) (g : Nat) (caps : Array Value) (p : Int → Bool) (w : World) (hl : s.length ≤ maxLen) (hp : SaysB g caps p w) :
    Calls Tryz.prog 81 #[sv s, .func (.func g) #[] caps] w fun e w' => e = .returned (.bool (allB p s)) ∧ Below w.heap.size w w' := by
  unfold maxLen at hl
  have Hp := Lib.hid hp
  have eg := hp.enters
  clear hp
  go_enter Tryz.func81, Tryz.ntmps81
  go_wp2_with fail
  go_loopw [8] (fun i wr => ∃ k : Nat, k ≤ s.length ∧ i = .int .i64 k ∧ Hid (allB p (s.take k) = true) ∧ Below w.heap.size w wr) (fun i _ => s.length - (intOf i).toNat)
  case atStart => exact ⟨0, Nat.zero_le _, rfl, by simp [Hid, allB], Below.refl _ _⟩
  case round =>
    obtain ⟨k, hk, rfl, hall, hb⟩ := hrel
    have HB := Lib.hid hb
    clear hb
    by_cases hlt : k < s.length
    · have hcall := Hp.out.says wr (s[k].toNat : Int) HB.out
      have h1 : allB p (s.take (k + 1)) = (allB p (s.take k) && p (s[k].toNat : Int)) := by
        unfold allB; rw [List.take_succ_eq_append_getElem hlt, List.all_append]; simp
      have h2 : p (s[k].toNat : Int) = false → allB p s = false := fun h => by
        unfold allB; rw [List.all_eq_false]; exact ⟨s[k], List.getElem_mem hlt, by simp [h]⟩
      have Hcall := Lib.hid hcall
      have H1 := Lib.hid h1
      have H2 := Lib.hid h2
      clear hcall h1 h2
      go_wp2_with fail
      refine Hcall.out.mono ?_
      rintro e w2 ⟨rfl, hb2⟩
      have HB2 := Lib.hid (HB.out.trans (hb2.mono HB.out.size))
      clear hb2
      cases hpc : p (s[k].toNat : Int)
      · have H3 := Lib.hid (H2.out hpc)
        go_wp2_with fail
        go_ret
        exact ⟨ret_bool H3.out.symm, HB2.out⟩
      · have H3 := Lib.hid hpc
        go_wp2_with fail
        go_roundw
        case rel => exact ⟨k + 1, by omega, by go_num, by show _ = true; rw [H1.out, hall.out, H3.out]; rfl, HB2.out⟩
        case measure => simp [intOf]; omega
    · have hkn : k = s.length := by omega
      subst hkn
      go_wp2_with fail
      go_ret
      have h := hall.out
      rw [List.take_length] at h
      exact ⟨ret_bool h.symm, HB.out⟩
end Od
end Go.Proofs.YtgfdcmlmgeoimaaGreat
end

section
/- Maps of the call's own, as functions from keys (over the library's ownsMap and ranges, each element held as it is). -/
namespace Go.Proofs.YtgfdcmlmgeoimaaGreat
open Go.RowKit Go.Maps

/-- An element read as the value that it is. -/
def idR (v : Value) : Option (DataW Value × List MemPlace) := some (.held v, [])

/-- Keys of a type in Lean, as keys in the program. -/
structure KeyKind (P : Program) (k : TypeId) (α : Type) where
  val : α → Value
  ok : α → Prop
  kl : α → Lit
  law : Keyed P k
  key : ∀ x, ok x → keyOf P k (val x) = some (kl x)
  inj : ∀ x y, val x = val y → x = y
  inv : ∀ v l, keyOf P k v = some l → ∃ x, ok x ∧ v = val x

variable {P : Program} {k : TypeId} {α : Type} {κ : KeyKind P k α} {w w' : World} {b n : Nat} {f : α → Option Value}

theorem KeyKind.kl_inj (κ : KeyKind P k α) {x y : α} (hx : κ.ok x) (hy : κ.ok y) (h : κ.kl x = κ.kl y) : x = y :=
  κ.inj _ _ (κ.law.inj (κ.key x hx) (h ▸ κ.key y hy))
theorem KeyKind.kl_key (κ : KeyKind P k α) {x : α} (hx : κ.ok x) : WideAt.IsKeyLit (κ.kl x) := κ.law.key (κ.key x hx)

/-- What a datum says at each key. -/
def SaysF (κ : KeyKind P k α) (D : DataW Value) (f : α → Option Value) : Prop :=
  ∀ x, κ.ok x → Maps.has D (κ.kl x) = (f x).isSome ∧ ∀ z, D.atKey (κ.kl x) z = ((f x).map DataW.held).getD z

/-- Block b is a map of at most n entries that holds f x at the key x. -/
def MapIs (κ : KeyKind P k α) (w : World) (b n : Nat) (f : α → Option Value) : Prop :=
  ∃ D : DataW Value, w.ownsMap P k idR b n D ∧ SaysF κ D f

theorem MapIs.made (κ : KeyKind P k α) (w : World) : MapIs κ (w.alloc (.map #[] 0)) w.heap.size 0 (fun _ => none) :=
  ⟨.map [], World.ownsMap_made w P k idR, fun _ _ => ⟨rfl, fun z => Maps.atKey_of_not_has (by rfl) z⟩⟩
theorem MapIs.lt (h : MapIs κ w b n f) : b < w.heap.size := by obtain ⟨D, h, _⟩ := h; exact h.lt
theorem MapIs.mono (h : MapIs κ w b n f) {n' : Nat} (hn : n ≤ n') : MapIs κ w b n' f := by obtain ⟨D, h, hf⟩ := h; exact ⟨D, h.mono hn, hf⟩
theorem MapIs.same (h : MapIs κ w b n f) (he : w'.heap[b]? = w.heap[b]?) : MapIs κ w' b n f := by
  obtain ⟨D, ⟨es, c, hb, r⟩, hf⟩ := h
  exact ⟨D, ⟨es, c, he.trans hb, r⟩, hf⟩
theorem MapIs.on (h : MapIs κ w b n f) (hb : Below w.heap.size w w') : MapIs κ w' b n f := h.same (hb.block b h.lt)
theorem MapIs.alloc (h : MapIs κ w b n f) (o : Obj) : MapIs κ (w.alloc o) b n f := by obtain ⟨D, h, hf⟩ := h; exact ⟨D, h.alloc o, hf⟩
theorem MapIs.drew (h : MapIs κ w b n f) : MapIs κ w.drew b n f := h
theorem MapIs.kept {row : Option Nat} (h : MapIs κ w b n f) (hg : w.grownBy w' row) (hne : some b ≠ row) : MapIs κ w' b n f := by obtain ⟨D, h, hf⟩ := h; exact ⟨D, h.kept hg hne, hf⟩

theorem MapIs.lookup {t e : TypeId} {z : Value} (h : MapIs κ w b n f) (ht : P.underlying t = some (.map k e)) (hz : (zeroValue e).run P w = .ok z w) {x : α} (hx : κ.ok x) :
    (Instr.lookup t (.map (some b)) (κ.val x) false).run P w = .ok ((f x).getD z) w := by
  obtain ⟨D, h, hf⟩ := h
  obtain ⟨v, ps, hrun, hv⟩ := h.lookup κ.law ht hz (zd := .held z) (zp := []) rfl (κ.key x hx)
  rw [(hf x hx).2] at hv
  rw [hrun]
  cases hfx : f x
  · rw [hfx] at hv
    simp only [idR, Option.map_none, Option.getD_none, Option.some.injEq, Prod.mk.injEq, DataW.held.injEq] at hv
    rw [hv.1]; rfl
  · rw [hfx] at hv
    simp only [idR, Option.map_some, Option.getD_some, Option.some.injEq, Prod.mk.injEq, DataW.held.injEq] at hv
    rw [hv.1]; rfl

open Classical in
theorem MapIs.update {t e : TypeId} (h : MapIs κ w b n f) (ht : P.underlying t = some (.map k e)) (hn : n < maxLen) {x : α} (hx : κ.ok x) (v : Value) :
    ∃ w', (Instr.mapUpdate t (.map (some b)) (κ.val x) v).run P w = .ok () w' ∧ MapIs κ w' b (n + 1) (fun y => if y = x then some v else f y) ∧ w.grownBy w' (some b) := by
  obtain ⟨D, h, hf⟩ := h
  have him := h.isMap
  obtain ⟨w', hrun, h', hg⟩ := h.update κ.law ht hn (key := κ.val x) (val := v) (d := .held v) (ps := []) (κ.key x hx) rfl
  refine ⟨w', hrun, ⟨_, h', fun y hy => ?_⟩, hg⟩
  by_cases hyx : y = x
  · subst hyx
    exact ⟨by rw [Maps.has_put_same him (κ.kl_key hy)]; simp, fun z => by rw [Maps.atKey_put_same him (κ.kl_key hy)]; simp⟩
  · have hne : κ.kl y ≠ κ.kl x := fun e => hyx (κ.kl_inj hy hx e)
    have hkx := κ.kl_key hx
    exact ⟨by rw [Maps.has_put_other hne]; simp [hyx, hf y hy], fun z => by rw [Maps.atKey_put_other hne]; simp [hyx, hf y hy]⟩

/-- 'for k := range m' under way: f: what the map holds; left: which keys are still to come. -/
def RangeIs (κ : KeyKind P k α) (w : World) (b r n : Nat) (f : α → Option Value) (left : α → Bool) (cnt : Nat) : Prop :=
  ∃ (D : DataW Value) (L : Lit → Bool), w.ranges P k idR b r n D L cnt ∧ SaysF κ D f ∧ ∀ x, κ.ok x → L (κ.kl x) = left x

variable {r cnt : Nat} {left : α → Bool}
theorem RangeIs.map (h : RangeIs κ w b r n f left cnt) : MapIs κ w b n f := by obtain ⟨D, L, h, hf, _⟩ := h; exact ⟨D, h.owns, hf⟩
theorem RangeIs.left_eq (h : RangeIs κ w b r n f left cnt) : w.rangeLeft b r = cnt := by obtain ⟨D, L, h, _⟩ := h; exact h.left_eq
theorem RangeIs.lt (h : RangeIs κ w b r n f left cnt) : r < w.heap.size := by obtain ⟨D, L, h, _⟩ := h; exact h.lt
theorem RangeIs.ne (h : RangeIs κ w b r n f left cnt) : r ≠ b := by obtain ⟨D, L, h, _⟩ := h; exact h.ne
theorem RangeIs.same (h : RangeIs κ w b r n f left cnt) (hb : w'.heap[b]? = w.heap[b]?) (hr : w'.heap[r]? = w.heap[r]?) : RangeIs κ w' b r n f left cnt := by
  obtain ⟨D, L, ⟨es, clock, since, seen, c0, h1, h2, h3, h4, h5, h6⟩, hf, hl⟩ := h
  exact ⟨D, L, ⟨es, clock, since, seen, c0, hb.trans h1, h2, h3, h4, hr.trans h5, h6⟩, hf, hl⟩
theorem RangeIs.on (h : RangeIs κ w b r n f left cnt) (hb : Below w.heap.size w w') : RangeIs κ w' b r n f left cnt := h.same (hb.block b h.map.lt) (hb.block r h.lt)
theorem RangeIs.kept {row : Option Nat} (h : RangeIs κ w b r n f left cnt) (hg : w.grownBy w' row) (hb : some b ≠ row) (hr : some r ≠ row) : RangeIs κ w' b r n f left cnt := by
  obtain ⟨D, L, h, hf, hl⟩ := h
  exact ⟨D, L, h.kept hg hb hr, hf, hl⟩

theorem MapIs.range {t e : TypeId} (h : MapIs κ w b n f) (ht : P.underlying t = some (.map k e)) :
    ∃ w', (Instr.range t (.map (some b))).run P w = .ok (.pointer (some ⟨w.heap.size, 0, none⟩)) w' ∧ (∃ cnt, RangeIs κ w' b w.heap.size n f (fun x => (f x).isSome) cnt) ∧ w.grownBy w' none ∧ w'.heap.size = w.heap.size + 1 := by
  obtain ⟨D, h, hf⟩ := h
  obtain ⟨w', hrun, h1, h2, h3⟩ := h.range κ.law ht
  exact ⟨w', hrun, ⟨_, D, _, h1, hf, fun x hx => (hf x hx).1⟩, h2, h3⟩

open Classical in
theorem RangeIs.next (h : RangeIs κ w b r n f left cnt) (ty : TypeId) :
    (cnt = 0 ∧ (∀ x, κ.ok x → left x = false) ∧ (Instr.next (.pointer (some ⟨r, 0, none⟩)) false ty).run P w = .ok (.tuple #[.bool false]) w) ∨
    ∃ x v w' cnt', κ.ok x ∧ left x = true ∧ f x = some v ∧ (Instr.next (.pointer (some ⟨r, 0, none⟩)) false ty).run P w = .ok (.tuple #[.bool true, κ.val x, v]) w' ∧
      RangeIs κ w' b r n f (fun y => left y && decide (y ≠ x)) cnt' ∧ cnt' < cnt ∧ w.grownBy w' (some r) ∧ w'.heap.size = w.heap.size ∧ (Instr.entry (.pointer (some ⟨r, 0, none⟩))).run P w' = .ok (.tuple #[κ.val x, v]) w' := by
  obtain ⟨D, L, h, hf, hl⟩ := h
  rcases h.next κ.law ty with ⟨h0, hL, hrun⟩ | ⟨key, v, kl, y, w', cnt', hkey, hLk, hv, hat, hrun, hrg, hlt, hgr, hsz, hen⟩
  · exact .inl ⟨h0, fun x hx => by rw [← hl x hx]; exact hL _, hrun⟩
  · obtain ⟨x, hx, rfl⟩ := κ.inv key kl hkey
    have hkl : κ.kl x = kl := Option.some.inj ((κ.key x hx).symm.trans hkey)
    subst hkl
    have hy : y = (.held v, []) := (Option.some.inj hv).symm
    subst hy
    have hfx : f x = some v := by
      have h1 := hat .nil
      rw [(hf x hx).2] at h1
      cases hfx : f x with
      | none => rw [hfx] at h1; cases h1
      | some v' => rw [hfx] at h1; cases h1; rfl
    refine .inr ⟨x, v, w', cnt', hx, by rw [← hl x hx]; exact hLk, hfx, hrun, ⟨D, _, hrg, hf, fun z hz => ?_⟩, hlt, hgr, hsz, hen⟩
    show (L (κ.kl z) && !(κ.kl z).sameKey (κ.kl x)) = _
    rw [hl z hz]
    by_cases hzx : z = x
    · subst hzx
      rw [WideAt.sameKey_self (κ.kl_key hz)]
      simp
    · rw [Maps.sameKey_ne (fun e => hzx (κ.kl_inj hz hx e))]
      simp [hzx]

section
variable {ops : Array Oper} {rest : List Oper} {o : Oper} {a : Act} {Q : Exit → Act → World → Prop} (w : World)

theorem wpList_lookup_is (hg : o.guard = none) (m x : Operand) (t : TypeId) (hop : o.op = Op.lookup t m x false) (e : TypeId) (ht : P.underlying t = some (.map k e)) (z : Value) (hz : (zeroValue e).run P w = .ok z w)
    (b n : Nat) (f : α → Option Value) (hm : a.eval m = .map (some b)) (h : MapIs κ w b n f) (key : α) (hx : a.eval x = κ.val key) (hk : κ.ok key)
    (hK : wpList P ops Q rest (a.put o.dst ((f key).getD z)) w) : wpList P ops Q (o :: rest) a w := by
  refine wpList_plain hg fun K' hK' => ?_
  have hrun := h.lookup ht hz hk
  unfold Oper.wp
  simp [execOp, hop, hm, hx, hrun, Result.andThen]
  exact hK' _ _ hK

open Classical in
theorem wpList_update_is (hg : o.guard = none) (m x v : Operand) (t : TypeId) (hop : o.op = Op.mapUpdate t m x v) (e : TypeId) (ht : P.underlying t = some (.map k e))
    (b n : Nat) (f : α → Option Value) (hm : a.eval m = .map (some b)) (h : MapIs κ w b n f) (hn : n < maxLen) (key : α) (val : Value) (hx : a.eval x = κ.val key) (hv : a.eval v = val) (hk : κ.ok key)
    (hK : ∀ w', MapIs κ w' b (n + 1) (fun y => if y = key then some val else f y) → w.grownBy w' (some b) → wpList P ops Q rest (a.put o.dst undef) w') : wpList P ops Q (o :: rest) a w := by
  refine wpList_plain hg fun K' hK' => ?_
  obtain ⟨w', hrun, h1, h2⟩ := h.update ht hn hk val
  unfold Oper.wp
  simp [execOp, hop, hm, hx, hv, hrun, Result.andThen]
  exact hK' _ _ (hK w' h1 h2)

theorem wpList_range_is (hg : o.guard = none) (m : Operand) (t : TypeId) (hop : o.op = Op.range t m) (e : TypeId) (ht : P.underlying t = some (.map k e)) (b n : Nat) (f : α → Option Value)
    (hm : a.eval m = .map (some b)) (h : MapIs κ w b n f)
    (hK : ∀ w' cnt, RangeIs κ w' b w.heap.size n f (fun x => (f x).isSome) cnt → w.grownBy w' none → w'.heap.size = w.heap.size + 1 → wpList P ops Q rest (a.put o.dst (.pointer (some ⟨w.heap.size, 0, none⟩))) w') :
    wpList P ops Q (o :: rest) a w := by
  refine wpList_plain hg fun K' hK' => ?_
  obtain ⟨w', hrun, ⟨cnt, r1⟩, r2, r3⟩ := h.range (t := t) ht
  unfold Oper.wp
  simp [execOp, hop, hm, hrun, Result.andThen]
  exact hK' _ _ (hK w' cnt r1 r2 r3)

open Classical in
theorem wpList_next_is (hg : o.guard = none) (it : Operand) (hop : o.op = Op.next it false) (b r n : Nat) (f : α → Option Value) (left : α → Bool) (cnt : Nat) (hit : a.eval it = .pointer (some ⟨r, 0, none⟩)) (h : RangeIs κ w b r n f left cnt)
    (hDone : (∀ x, κ.ok x → left x = false) → wpList P ops Q rest (a.put o.dst (.tuple #[.bool false])) w)
    (hMore : ∀ (x : α) (v : Value) (w' : World) (cnt' : Nat), κ.ok x → left x = true → f x = some v → RangeIs κ w' b r n f (fun y => left y && decide (y ≠ x)) cnt' → cnt' < cnt → w.grownBy w' (some r) → w'.heap.size = w.heap.size →
      (Instr.entry (.pointer (some ⟨r, 0, none⟩))).run P w' = .ok (.tuple #[κ.val x, v]) w' → wpList P ops Q rest (a.put o.dst (.tuple #[.bool true, κ.val x, v])) w') :
    wpList P ops Q (o :: rest) a w := by
  refine wpList_plain hg fun K' hK' => ?_
  unfold Oper.wp
  rcases h.next o.type with ⟨_, hl, hrun⟩ | ⟨x, v, w', cnt', hx, hlx, hfx, hrun, hrg, hlt, hgr, hsz, hen⟩
  · simp [execOp, hop, hit, hrun, Result.andThen]
    exact hK' _ _ (hDone hl)
  · simp [execOp, hop, hit, hrun, Result.andThen]
    exact hK' _ _ (hMore x v w' cnt' hx hlx hfx hrg hlt hgr hsz hen)
end

/-- Texts as keys. -/
def strKind {P : Program} {k : TypeId} (hk : P.underlying k = some .string) : KeyKind P k Str where
  val := sv
  ok s := s.length ≤ maxLen
  kl s := .string s
  law := string_keyed hk
  key s hs := by
    have h : (⟨s.toArray⟩ : ByteArray).size ≤ maxLen := by simpa [ByteArray.size] using hs
    simp [keyOf, hk, mapKey, h]
  inj x y h := by simpa using h
  inv v l h := by
    cases v <;> simp [keyOf, hk, mapKey] at h
    rename_i s
    refine ⟨s.data.toList, by simpa using h.1, by simp⟩
end Go.Proofs.YtgfdcmlmgeoimaaGreat
end

section
/- What Disk needs of older texts, first part: lists, appends. (bel2) -/
namespace Go.Proofs.YtgfdcmlmgeoimaaGreat
open Go.RowKit
set_option linter.unusedSimpArgs false
/-- The same, the new block's number in the walk's own spelling. -/
theorem wpList_pushm {P : Program} (w0 w : World) {ops : Array Oper} {rest : List Oper} {o : Oper} {a : Act} {Q : Exit → Act → World → Prop} (hgd : o.guard = none) (s x : Operand) (t : TypeId)
    (ho : o.op = .call { callee := .builtin .append, args := #[s, x], argTypes := #[t, t] })
    (base : Nat) (e : TypeId) (i : TypeInfo) (z : Value) (size bytes : Nat) (ht : P.underlying t = some (.slice e)) (hi : P.info? e = some i) (hz : i.zero = some z)
    (hsize : i.size = size) (hby : i.bytes = bytes) (hzs : z.cells.size = size) (hsz : 0 < size)
    (v : Value) (n : Nat) (xs : List Value) (hs : a.eval s = v) (hown : w.ownsRow base e size v n xs)
    (news : List Value) (m : Nat) (hm : w.heap.size = m) (hx : a.eval x = .slice (some ⟨m, 0, none⟩) 1 1) (hl : news.length = size) (h1 : ∀ u ∈ news, u.oneCell' = true)
    (h63 : n + 1 ≤ maxLen) (hbytes : (n + 1) * bytes ≤ 140737488355328) (hbase : base ≤ w.heap.size) (hbel : Below base w0 w)
    (h : ∀ A' c' w', w'.ownsRow base e size (.slice A' (n + 1) c') (n + 1) (xs ++ news) → Below base w0 w' → w.grownBy w' v.ownBlock →
      ((Value.slice A' (n + 1) c').ownBlock = v.ownBlock ∨ (Value.slice A' (n + 1) c').ownBlock = some (w.heap.size + 1)) → wpList P ops Q rest (a.put o.dst (.slice A' (n + 1) c')) w') :
    wpList P ops Q (o :: rest) a (w.alloc (.cells news.toArray e)) := by
  subst hm
  exact wpList_push w0 w hgd s x t ho base e i z size bytes ht hi hz hsize hby hzs hsz v n xs hs hown news hx hl h1 h63 hbytes hbase hbel h
namespace Od
theorem below_box {w w' : World} {B : Nat} (h : Below B w w') (hB : B ≤ w'.heap.size) (o : Obj) : Below B w (w'.alloc o) := h.alloc hB o
theorem any_take_succ {α : Type} {p : α → Bool} {l : List α} {k : Nat} (hk : k < l.length) : (l.take (k + 1)).any p = ((l.take k).any p || p l[k]) := by
  rw [List.take_succ_eq_append_getElem hk]; simp only [List.any_append, List.any_cons, List.any_nil, Bool.or_false]
theorem any_of_at {α : Type} {p : α → Bool} {l : List α} {k : Nat} (hk : k < l.length) (h : p l[k] = true) : l.any p = true := List.any_eq_true.2 ⟨l[k], List.getElem_mem hk, h⟩
theorem eq_of_at {α : Type} {xs ys : List α} (hl : xs.length = ys.length) (h : ∀ j (h1 : j < xs.length) (h2 : j < ys.length), xs[j] = ys[j]) : xs = ys := List.ext_getElem hl h
theorem at_ne {α : Type} {xs ys : List α} {k : Nat} (hx : k < xs.length) (hy : k < ys.length) (h : xs[k] ≠ ys[k]) : xs ≠ ys := fun e => by subst e; exact h rfl
theorem find_none_take {α : Type} {p : α → Bool} {xs : List α} (h : xs.any p = false) : xs.find? p = none := by
  rw [List.find?_eq_none]
  intro x hx hp
  have := List.any_eq_false.1 h x hx
  exact this hp
theorem find_at {α : Type} {p : α → Bool} {xs : List α} {k : Nat} (hk : k < xs.length) (h0 : (xs.take k).any p = false) (hp : p xs[k] = true) : xs.find? p = some xs[k] := by
  have e : xs = xs.take k ++ (xs[k] :: xs.drop (k + 1)) := by rw [List.getElem_cons_drop, List.take_append_drop]
  have h : (xs.take k ++ (xs[k] :: xs.drop (k + 1))).find? p = some xs[k] := by
    rw [List.find?_append, find_none_take h0, Option.none_or, List.find?_cons_of_pos hp]
  rw [← e] at h
  exact h
theorem take_any_at {α : Type} {p : α → Bool} {xs : List α} {k j : Nat} (hk : k ≤ xs.length) (h0 : (xs.take k).any p = false) (hj : j < k) : p (xs[j]'(by omega)) = false := by
  have := List.any_eq_false.1 h0 (xs[j]'(by omega)) (List.mem_take_iff_getElem.2 ⟨j, by omega, rfl⟩)
  simpa using this
theorem filter_take_succ {α : Type} {p : α → Bool} {xs : List α} {k : Nat} (hk : k < xs.length) : (xs.take (k + 1)).filter p = (xs.take k).filter p ++ (if p xs[k] then [xs[k]] else []) := by
  rw [List.take_succ_eq_append_getElem hk, List.filter_append]
  congr 1
  by_cases h : p xs[k] = true
  · simp only [List.filter_cons, h, if_true, List.filter_nil]
  · simp only [List.filter_cons, h, if_false, List.filter_nil, Bool.false_eq_true]
theorem filter_take_le {α : Type} {p : α → Bool} {xs : List α} {k : Nat} : ((xs.take k).filter p).length ≤ xs.length :=
  Nat.le_trans (List.length_filter_le _ _) (by simp; omega)
theorem infoS : (Tryz.prog.info? 9).map (fun i => (i.zero, i.size, i.bytes)) = some (some (.string ⟨#[]⟩), 1, 16) := by kernel_rfl
theorem infoFl : (Tryz.prog.info? 37).map (fun i => (i.zero, i.size, i.bytes)) = some (some (.agg #[.string ⟨#[]⟩, .string ⟨#[]⟩, .string ⟨#[]⟩]), 3, 48) := by kernel_rfl
abbrev okS (s : Str) : Prop := s.length ≤ maxLen
noncomputable def strK : KeyKind Tryz.prog 9 Str := strKind Tryz.underlying9
open Classical in
/-- What a set of texts holds. -/
noncomputable def setF (D : List Str) (s : Str) : Option Value := if s ∈ D then some (.bool true) else none
theorem setF_cons (b : Str) (D : List Str) (f : Str → Option Value) (ha : f b = some (.bool true)) (ho : ∀ s, s ≠ b → f s = setF D s) : f = setF (b :: D) := by
  funext s
  by_cases h : s = b
  · subst h; rw [ha]; simp [setF]
  · rw [ho s h]; simp [setF, h]
theorem set_put {w : World} {m n : Nat} {b : Str} {D : List Str} {f : Str → Option Value} (h : MapIs strK w m n f) (h1 : f b = some (.bool true)) (h2 : ∀ s, s ≠ b → f s = setF D s) : MapIs strK w m n (setF (b :: D)) := by
  rw [setF_cons b D f h1 h2] at h; exact h
theorem zeroB (w : World) : (zeroValue 4).run Tryz.prog w = .ok (.bool false) w := Tryz.zeroValue4 w
theorem setS_if {w : World} {b n : Nat} {k : Str} {a : Option Value} {f : Str → Option Value} (h : MapIs strK w b n (fun y => @ite (Option Value) (y = k) (Classical.propDecidable _) a (f y))) : MapIs strK w b n (fun y => if y = k then a else f y) := by
  have e : (fun y => @ite (Option Value) (y = k) (Classical.propDecidable _) a (f y)) = (fun y => if y = k then a else f y) := by
    funext y
    by_cases e : y = k <;> simp [e]
  rwa [e] at h
theorem one_svs (l : List Str) : ∀ u ∈ svs l, u.oneCell' = true := fun u hu => by
  obtain ⟨s, _, rfl⟩ := List.mem_map.1 hu; rfl
theorem one_sv (s : Str) : ∀ u ∈ [sv s], u.oneCell' = true := fun u hu => by rw [List.mem_singleton.1 hu]; rfl
theorem svs_app (a b : List Str) : svs (a ++ b) = svs a ++ svs b := by simp [svs]
end Od
end Go.Proofs.YtgfdcmlmgeoimaaGreat
end

section
/- The walks of package name: a name's kind. -/
namespace Go.Proofs.YtgfdcmlmgeoimaaGreat
open Go.RowKit

namespace Od
def okK (c : Int) : Nat → Bool
  | 0 => false
  | 1 => letterB c
  | 2 => letterB c || digitB c
  | _ => okB c
set_option maxRecDepth 100000 in
set_option maxHeartbeats 4000000 in
theorem Any1_any (c : Int) (pl b pi : Nat) (w : World) (h0 : w.cell? ⟨pl, 0, none⟩ = some (.slice (some ⟨b, 0, none⟩) 3 3)) (hf0 : w.cell? ⟨b, 0, none⟩ = some (.func (.func 64) #[] #[])) (hf1 : w.cell? ⟨b, 1, none⟩ = some (.func (.func 65) #[] #[]))
    (hf2 : w.cell? ⟨b, 2, none⟩ = some (.func (.func 83) #[] #[.pointer (some ⟨pi, 0, none⟩)])) (hpi : w.cell? ⟨pi, 0, none⟩ = some (sv moreS)) :
    Calls Tryz.prog 82 #[.int .u8 c, .pointer (some ⟨pl, 0, none⟩)] w fun e w' => e = .returned (.bool (okB c)) ∧ Below w.heap.size w w' := by
  have hb0 : b < w.heap.size := cell_blk hf0
  have hpl : pl < w.heap.size := cell_blk h0
  have hstep : ∀ k : Nat, k < 3 → ∃ (g : Nat) (caps : Array Value) (p : Int → Bool), w.cell? ⟨b, k, none⟩ = some (.func (.func g) #[] caps) ∧ SaysB g caps p w ∧ okK c (k + 1) = (okK c k || p c) := by
    intro k hk
    rcases (show k = 0 ∨ k = 1 ∨ k = 2 by omega) with rfl | rfl | rfl
    · exact ⟨_, _, _, hf0, says_letter w, rfl⟩
    · exact ⟨_, _, _, hf1, says_digit w, rfl⟩
    · exact ⟨_, _, _, hf2, says_in pi moreS w hpi, by simp [okK, okB, Bool.or_assoc]⟩
  have HSt := Lib.hid hstep
  clear hstep hf0 hf1 hf2 hpi
  go_enter Tryz.func82, Tryz.ntmps82
  go_wp2_with fail
  go_loopw [8] (fun i wr => ∃ k : Nat, k ≤ 3 ∧ i = .int .i64 k ∧ Hid (okK c k = false) ∧ Below w.heap.size w wr) (fun i _ => 3 - (intOf i).toNat)
  case atStart => exact ⟨0, by omega, rfl, rfl, Below.refl _ _⟩
  case round =>
    obtain ⟨k, hk, rfl, hall, hb⟩ := hrel
    have HB := Lib.hid hb
    clear hb
    by_cases hlt : k < 3
    · have hdk : decide ((k : Int) < 3) = true := by simp; omega
      obtain ⟨g, caps, p, hc, hs, ho⟩ := HSt.out k hlt
      have hcr := cellAt hc HB.out hb0
      have Hs := Lib.hid hs
      have Ho := Lib.hid ho
      have eg := hs.enters
      clear hc hs ho
      go_wp2_with fail
      refine (Hs.out.says wr c HB.out).mono ?_
      rintro e w2 ⟨rfl, hb2⟩
      have HB2 := Lib.hid (HB.out.trans (hb2.mono HB.out.size))
      clear hb2
      cases hp : p c
      · have HP := Lib.hid hp
        go_wp2_with fail
        go_roundw
        case rel => exact ⟨k + 1, by omega, by go_num, by show _ = false; rw [Ho.out, hall.out, HP.out]; rfl, HB2.out⟩
        case measure => simp [intOf]; omega
      · have HP := Lib.hid hp
        go_wp2_with fail
        go_ret
        refine ⟨ret_bool ?_, HB2.out⟩
        have h1 : okK c (k + 1) = true := by rw [Ho.out, HP.out, Bool.or_true]
        rcases (show k = 0 ∨ k = 1 ∨ k = 2 by omega) with rfl | rfl | rfl
        · simp only [okK] at h1; simp [okB, h1]
        · simp only [okK] at h1; unfold okB; rw [← Bool.or_assoc, h1]; rfl
        · exact h1.symm
    · have hk3 : k = 3 := by omega
      have hdk : decide ((k : Int) < 3) = false := by simp; omega
      have h3 := hall.out
      rw [hk3] at h3
      have H3 := Lib.hid h3
      clear hk3 h3
      go_wp2_with fail
      go_ret
      exact ⟨ret_bool H3.out.symm, HB.out⟩

set_option maxRecDepth 100000 in
set_option maxHeartbeats 4000000 in
theorem Anyc_any (A : Option Addr) (w : World) : Calls Tryz.prog 63 #[.slice A 3 3] w fun e w' => e = .returned (.func (.func 82) #[] #[.pointer (some ⟨w.heap.size, 0, none⟩)]) ∧ w' = w.alloc (.cells #[.slice A 3 3] 90) := by
  go_enter Tryz.func63, Tryz.ntmps63
  go_wp2_with fail
  go_ret
  exact ⟨rfl, rfl⟩
theorem says_any (pl b pi : Nat) (w : World) (h0 : w.cell? ⟨pl, 0, none⟩ = some (.slice (some ⟨b, 0, none⟩) 3 3)) (hf0 : w.cell? ⟨b, 0, none⟩ = some (.func (.func 64) #[] #[])) (hf1 : w.cell? ⟨b, 1, none⟩ = some (.func (.func 65) #[] #[]))
    (hf2 : w.cell? ⟨b, 2, none⟩ = some (.func (.func 83) #[] #[.pointer (some ⟨pi, 0, none⟩)])) (hpi : w.cell? ⟨pi, 0, none⟩ = some (sv moreS)) : SaysB 82 #[.pointer (some ⟨pl, 0, none⟩)] okB w where
  enters := enters_of Tryz.func82 (by kernel_rfl) rfl
  says := fun W c h => Any1_any c pl b pi W (cellAt h0 h (cell_blk h0)) (cellAt hf0 h (cell_blk hf0)) (cellAt hf1 h (cell_blk hf0)) (cellAt hf2 h (cell_blk hf0)) (cellAt hpi h (cell_blk hpi))
set_option maxRecDepth 100000 in
set_option maxHeartbeats 4000000 in
theorem plain_any (s : Str) (w : World) (hl : s.length ≤ 140737488355328) : Calls Tryz.prog 71 #[sv s] w fun e w' => e = .returned (.bool (allB okB s)) ∧ Below w.heap.size w w' := by
  have hm : s.length ≤ maxLen := by unfold maxLen; omega
  go_enter Tryz.func71, Tryz.ntmps71
  go_wp2_with fail
  refine (In_any moreS w).mono ?_
  rintro e w1 ⟨rfl, rfl⟩
  go_wp2_with fail
  refine (Anyc_any _ _).mono ?_
  rintro e w2 ⟨rfl, rfl⟩
  go_wp2_with fail
  refine (All_any s _ _ okB _ hm (says_any _ (w.heap.size + 1) w.heap.size _ (by go_simp) (by go_simp) (by go_simp) (by go_simp) (by go_simp))).mono ?_
  rintro e w3 ⟨rfl, hb⟩
  go_wp2_with fail
  go_ret
  exact ⟨rfl, lift (by repeat (first | exact Below.refl _ _ | assumption | refine Below.alloc ?_ (by simp <;> omega) _ | refine Below.setCell ?_ (by simp <;> omega) _ | refine Below.drew ?_)) hb⟩

theorem Suffix_any (k : Int) (w : World) : Calls Tryz.prog 72 #[.int .i64 k] w fun e w' => e = .returned (sv (sufS k)) ∧ w' = w := by
  by_cases h1 : k = 1
  · subst h1
    go_enter Tryz.func72, Tryz.ntmps72
    go_wp2
    go_ret
    exact ⟨rfl, rfl⟩
  by_cases h2 : k = 2
  · subst h2
    go_enter Tryz.func72, Tryz.ntmps72
    go_wp2
    go_ret
    exact ⟨rfl, rfl⟩
  by_cases h3 : k = 3
  · subst h3
    go_enter Tryz.func72, Tryz.ntmps72
    go_wp2
    go_ret
    exact ⟨rfl, rfl⟩
  by_cases h4 : k = 4
  · subst h4
    go_enter Tryz.func72, Tryz.ntmps72
    go_wp2
    go_ret
    exact ⟨rfl, rfl⟩
  · have b1 : (k == 1) = false := by simpa using h1
    have b2 : (k == 2) = false := by simpa using h2
    have b3 : (k == 3) = false := by simpa using h3
    have b4 : (k == 4) = false := by simpa using h4
    have e : sufS k = [] := by simp [sufS, h1, h2, h3, h4]
    have E := Lib.hid e
    clear h1 h2 h3 h4 e
    go_enter Tryz.func72, Tryz.ntmps72
    go_wp2
    go_ret
    exact ⟨by rw [E.out]; rfl, rfl⟩
theorem extract_str (s : Str) (a b : Nat) : (ByteArray.extract ⟨s.toArray⟩ a b) = ⟨((s.take b).drop a).toArray⟩ := by
  apply ByteArray.ext
  apply Array.ext'
  rw [Lib.extract_data]
  simp [List.drop_take]
theorem lastdot_any (s : Str) (w : World) (hl : s.length ≤ 140737488355328) : Calls Tryz.prog 78 #[sv s, .string ⟨#[46]⟩] w fun e w' => e = .returned (.int .i64 (Lib.lastIndexByte ⟨s.toArray⟩ 46)) ∧ w' = w :=
  Tryz.strings_LastIndex_one ⟨s.toArray⟩ ⟨#[46]⟩ rfl (by simp [ByteArray.size]; omega) w
set_option maxRecDepth 100000 in
set_option maxHeartbeats 4000000 in
theorem cutname_any (s : Str) (w : World) (hl : s.length ≤ 140737488355328) : Calls Tryz.prog 52 #[sv s] w fun e w' => e = .returned (.tuple #[sv (nameCut s).1, sv (nameCut s).2]) ∧ Below w.heap.size w w' := by
  have hsp := Lib.lastIndexByte_spec ⟨s.toArray⟩ 46
  unfold nameCut
  generalize hv : Lib.lastIndexByte ⟨s.toArray⟩ 46 = v at *
  rcases hsp with ⟨rfl, _⟩ | ⟨i, hi, rfl, _, _⟩
  · have HV := Lib.hid hv
    clear hv
    go_enter Tryz.func52, Tryz.ntmps52
    go_wp2_with fail
    refine (lastdot_any s w hl).mono ?_
    rintro e w1 ⟨rfl, rfl⟩
    rw [HV.out]
    go_wp2_with fail
    go_ret2
    exact ⟨rfl, Below.refl _ _⟩
  · have HV := Lib.hid hv
    have hi' : i < s.length := by simpa [ByteArray.size] using hi
    clear hv hi
    have k1 : ¬ ((i : Int) < 0) := by omega
    have k2 : (0 : Int) ≤ (i : Int) := by omega
    have k3 : (i : Int) ≤ (s.length : Int) := by omega
    have k4 : (0 : Int) ≤ (i : Int) + 1 := by omega
    have k5 : (i : Int) + 1 ≤ (s.length : Int) := by omega
    have k6 : IntKind.i64.wrap ((i : Int) + 1) = (i : Int) + 1 := IntWalk.i64_in _ (by omega)
    have k7 : ((i : Int) + 1).toNat = i + 1 := by omega
    rw [if_neg k1]
    go_enter Tryz.func52, Tryz.ntmps52
    go_wp2_with fail
    refine (lastdot_any s w hl).mono ?_
    rintro e w1 ⟨rfl, rfl⟩
    rw [HV.out]
    go_wp2_with fail
    try go_wp2_with fail
    refine wp_region_held_drew (S := fun w' => Below w1.heap.size w1 w') (by kernel_rfl) (Below.drew (Below.refl _ _)) (fun hHeld => ?_)
    refine tY (i := 0) (v := ?_) rfl ?_ hHeld ?_; rotate_left 1; focus (intro w' hSw; clear hSw; go_simp; try with_reducible rfl)
    (try simp only [Act.put, zn1, zn2, zn3])
    refine tY (i := 1) (v := ?_) rfl ?_ hHeld ?_; rotate_left 1; focus (intro w' hSw; clear hSw; go_simp; try with_reducible rfl)
    (try simp only [Act.put, zn1, zn2, zn3])
    refine tY (i := 2) (v := ?_) rfl ?_ hHeld ?_; rotate_left 1; focus (intro w' hSw; clear hSw; go_simp; try with_reducible rfl)
    (try simp only [Act.put, zn1, zn2, zn3])
    refine tY (i := 3) (v := ?_) rfl ?_ hHeld ?_; rotate_left 1; focus (intro w' hSw; clear hSw; go_simp; try with_reducible rfl)
    (try simp only [Act.put, zn1, zn2, zn3])
    refine tY (i := 4) (v := ?_) rfl ?_ hHeld ?_; rotate_left 1; focus (intro w' hSw; clear hSw; go_simp; try with_reducible rfl)
    (try simp only [Act.put, zn1, zn2, zn3])
    refine tY (i := 5) (v := ?_) rfl ?_ hHeld ?_; rotate_left 1; focus (intro w' hSw; clear hSw; go_simp; try with_reducible rfl)
    (try simp only [Act.put, zn1, zn2, zn3])
    refine tY (i := 6) (v := ?_) rfl ?_ hHeld ?_; rotate_left 1; focus (intro w' hSw; clear hSw; go_simp; try with_reducible rfl)
    (try simp only [Act.put, zn1, zn2, zn3])
    refine tY (i := 7) (v := ?_) rfl ?_ hHeld ?_; rotate_left 1; focus (intro w' hSw; clear hSw; go_simp; try with_reducible rfl)
    (try simp only [Act.put, zn1, zn2, zn3])
    refine tY (i := 8) (v := ?_) rfl ?_ hHeld ?_; rotate_left 1; focus (intro w' hSw; clear hSw; go_simp; try with_reducible rfl)
    (try simp only [Act.put, zn1, zn2, zn3])
    refine wpAnyH_done (by kernel_rfl) ?_ _
    go_wp2_with fail
    go_ret2
    refine ⟨?_, hHeld⟩
    show Ending.returned (.tuple #[.string (ByteArray.extract ⟨s.toArray⟩ 0 i), .string (ByteArray.extract ⟨s.toArray⟩ (i + 1) s.length)]) = _
    rw [extract_str, extract_str]
    simp
set_option maxHeartbeats 1000000 in
theorem Index_at (s : Str) (w : World) : Calls Tryz.prog 102 #[sv s, .string ⟨#[64]⟩] w fun e w' => e = .returned (.int .i64 (Lib.indexByte s 64)) ∧ w = w' := by
  cases hse : (([64] : Str) == s)
  · have Hse := Lib.hid hse
    go_enter Tryz.func102, Tryz.ntmps102
    go_wp2_with fail
    refine (Tryz.stringslite_IndexByte ⟨s.toArray⟩ 64 w).mono ?_
    rintro e w1 ⟨rfl, rfl⟩
    go_wp2_with fail
    go_ret
    exact ⟨rfl, rfl⟩
  · have hs : ([64] : Str) = s := by simpa using hse
    have h0 : Lib.indexByte s 64 = 0 := by rw [← hs]; rfl
    have H0 := Lib.hid h0
    clear hs h0
    go_enter Tryz.func102, Tryz.ntmps102
    go_wp2_with fail
    go_ret
    exact ⟨ret_int H0.out.symm, rfl⟩
def cutV (s : Str) : Value := .tuple #[sv (atCut s).1, sv (atCut s).2, .bool (decide (0 ≤ Lib.indexByte s 64))]
set_option maxRecDepth 100000 in
set_option maxHeartbeats 4000000 in
theorem Cutl_at (s : Str) (w : World) (hl : s.length ≤ 140737488355328) : Calls Tryz.prog 79 #[sv s, .string ⟨#[64]⟩] w fun e w' => e = .returned (cutV s) ∧ Below w.heap.size w w' := by
  have hge := Lib.indexByte_ge s 64
  have hcv : cutV s = .tuple #[sv (if 0 ≤ Lib.indexByte s 64 then (s.take (Lib.indexByte s 64).toNat, s.drop ((Lib.indexByte s 64).toNat + 1)) else (s, [])).1, sv (if 0 ≤ Lib.indexByte s 64 then (s.take (Lib.indexByte s 64).toNat, s.drop ((Lib.indexByte s 64).toNat + 1)) else (s, [])).2, .bool (decide (0 ≤ Lib.indexByte s 64))] := rfl
  generalize hv : Lib.indexByte s 64 = v at *
  by_cases h0 : 0 ≤ v
  · obtain ⟨i, rfl⟩ : ∃ i : Nat, v = i := ⟨v.toNat, by omega⟩
    have hsp := (Lib.indexByte_some hv).1
    have hi : i < s.length := by
      rcases Nat.lt_or_ge i s.length with h | h
      · exact h
      · rw [List.getElem?_eq_none h] at hsp; cases hsp
    have HV := Lib.hid hv
    have k2 : (0 : Int) ≤ (i : Int) := by omega
    have k3 : (i : Int) ≤ (s.length : Int) := by omega
    have k4 : (0 : Int) ≤ (i : Int) + 1 := by omega
    have k5 : (i : Int) + 1 ≤ (s.length : Int) := by omega
    have k6 : IntKind.i64.wrap ((i : Int) + 1) = (i : Int) + 1 := IntWalk.i64_in _ (by omega)
    have k7 : ((i : Int) + 1).toNat = i + 1 := by omega
    have k8 : decide ((0 : Int) ≤ (i : Int)) = true := by simp
    rw [if_pos h0, k8, Int.toNat_natCast] at hcv
    have HCV := Lib.hid hcv
    clear hv hge hsp h0 hcv
    go_enter Tryz.func79, Tryz.ntmps79
    go_wp2_with fail
    refine (Index_at s w).mono ?_
    rintro e w1 ⟨rfl, rfl⟩
    rw [HV.out]
    go_wp2_with fail
    try go_wp2_with fail
    refine wp_region_held_drew (S := fun w' => Below w.heap.size w w') (by kernel_rfl) (Below.drew (Below.refl _ _)) (fun hHeld => ?_)
    refine tY (i := 0) (v := ?_) rfl ?_ hHeld ?_; rotate_left 1; focus (intro w' hSw; clear hSw; go_simp; try with_reducible rfl)
    (try simp only [Act.put, zn1, zn2, zn3])
    refine tY (i := 1) (v := ?_) rfl ?_ hHeld ?_; rotate_left 1; focus (intro w' hSw; clear hSw; go_simp; try with_reducible rfl)
    (try simp only [Act.put, zn1, zn2, zn3])
    refine tY (i := 2) (v := ?_) rfl ?_ hHeld ?_; rotate_left 1; focus (intro w' hSw; clear hSw; go_simp; try with_reducible rfl)
    (try simp only [Act.put, zn1, zn2, zn3])
    refine tY (i := 3) (v := ?_) rfl ?_ hHeld ?_; rotate_left 1; focus (intro w' hSw; clear hSw; go_simp; try with_reducible rfl)
    (try simp only [Act.put, zn1, zn2, zn3])
    refine tY (i := 4) (v := ?_) rfl ?_ hHeld ?_; rotate_left 1; focus (intro w' hSw; clear hSw; go_simp; try with_reducible rfl)
    (try simp only [Act.put, zn1, zn2, zn3])
    refine tY (i := 5) (v := ?_) rfl ?_ hHeld ?_; rotate_left 1; focus (intro w' hSw; clear hSw; go_simp; try with_reducible rfl)
    (try simp only [Act.put, zn1, zn2, zn3])
    refine tY (i := 6) (v := ?_) rfl ?_ hHeld ?_; rotate_left 1; focus (intro w' hSw; clear hSw; go_simp; try with_reducible rfl)
    (try simp only [Act.put, zn1, zn2, zn3])
    refine tY (i := 7) (v := ?_) rfl ?_ hHeld ?_; rotate_left 1; focus (intro w' hSw; clear hSw; go_simp; try with_reducible rfl)
    (try simp only [Act.put, zn1, zn2, zn3])
    refine tY (i := 8) (v := ?_) rfl ?_ hHeld ?_; rotate_left 1; focus (intro w' hSw; clear hSw; go_simp; try with_reducible rfl)
    (try simp only [Act.put, zn1, zn2, zn3])
    refine tY (i := 9) (v := ?_) rfl ?_ hHeld ?_; rotate_left 1; focus (intro w' hSw; clear hSw; go_simp; try with_reducible rfl)
    (try simp only [Act.put, zn1, zn2, zn3])
    refine tY (i := 10) (v := ?_) rfl ?_ hHeld ?_; rotate_left 1; focus (intro w' hSw; clear hSw; go_simp; try with_reducible rfl)
    (try simp only [Act.put, zn1, zn2, zn3])
    refine tY (i := 11) (v := ?_) rfl ?_ hHeld ?_; rotate_left 1; focus (intro w' hSw; clear hSw; go_simp; try with_reducible rfl)
    (try simp only [Act.put, zn1, zn2, zn3])
    refine wpAnyH_done (by kernel_rfl) ?_ _
    go_wp2_with fail
    go_ret3
    refine ⟨?_, hHeld⟩
    rw [HCV.out]
    show Ending.returned (.tuple #[.string (ByteArray.extract ⟨s.toArray⟩ 0 i), .string (ByteArray.extract ⟨s.toArray⟩ (i + 1) s.length), .bool true]) = _
    rw [extract_str, extract_str]
    simp
  · have HV := Lib.hid hv
    have k8 : decide ((0 : Int) ≤ v) = false := by simpa using h0
    rw [if_neg h0, k8] at hcv
    have HCV := Lib.hid hcv
    clear hv hge h0 hcv
    go_enter Tryz.func79, Tryz.ntmps79
    go_wp2_with fail
    refine (Index_at s w).mono ?_
    rintro e w1 ⟨rfl, rfl⟩
    rw [HV.out]
    go_wp2_with fail
    go_ret3
    exact ⟨by rw [HCV.out]; rfl, Below.refl _ _⟩
set_option maxHeartbeats 1000000 in
theorem Cut_at (s : Str) (w : World) (hl : s.length ≤ 140737488355328) : Calls Tryz.prog 53 #[sv s, .string ⟨#[64]⟩] w fun e w' => e = .returned (cutV s) ∧ Below w.heap.size w w' := by
  go_enter Tryz.func53, Tryz.ntmps53
  go_wp2_with fail
  refine (Cutl_at s w hl).mono ?_
  rintro e w1 ⟨rfl, hb⟩
  have hcv : cutV s = .tuple #[sv (atCut s).1, sv (atCut s).2, .bool (decide (0 ≤ Lib.indexByte s 64))] := rfl
  have HCV := Lib.hid hcv
  rw [hcv]
  clear hcv
  go_wp2_with fail
  go_ret3
  exact ⟨HCV.out ▸ rfl, hb⟩
theorem sufK_at {t : Str} {k : Nat} (h1 : 1 ≤ k) (h2 : k ≤ 4) (ha : ∀ j : Nat, 1 ≤ j → j < k → sufS j ≠ t) (h : sufS k = t) : sufK t = k := by
  unfold sufK
  rcases (show k = 1 ∨ k = 2 ∨ k = 3 ∨ k = 4 by omega) with rfl | rfl | rfl | rfl
  · rw [if_pos (show sufS 1 = t from h)]; rfl
  · rw [if_neg (show sufS 1 ≠ t from ha 1 (by omega) (by omega)), if_pos (show sufS 2 = t from h)]; rfl
  · rw [if_neg (show sufS 1 ≠ t from ha 1 (by omega) (by omega)), if_neg (show sufS 2 ≠ t from ha 2 (by omega) (by omega)), if_pos (show sufS 3 = t from h)]; rfl
  · rw [if_neg (show sufS 1 ≠ t from ha 1 (by omega) (by omega)), if_neg (show sufS 2 ≠ t from ha 2 (by omega) (by omega)), if_neg (show sufS 3 ≠ t from ha 3 (by omega) (by omega)), if_pos (show sufS 4 = t from h)]; rfl
theorem sufK_none {t : Str} (ha : ∀ j : Nat, 1 ≤ j → j < 5 → sufS j ≠ t) : sufK t = 0 := by
  unfold sufK
  rw [if_neg (show sufS 1 ≠ t from ha 1 (by omega) (by omega)), if_neg (show sufS 2 ≠ t from ha 2 (by omega) (by omega)), if_neg (show sufS 3 ≠ t from ha 3 (by omega) (by omega)), if_neg (show sufS 4 ≠ t from ha 4 (by omega) (by omega))]
set_option maxRecDepth 100000 in
set_option maxHeartbeats 4000000 in
theorem Kind_any (s : Str) (w : World) (hl : s.length ≤ 140737488355328) : Calls Tryz.prog 44 #[sv s] w fun e w' => e = .returned (.int .i64 (kindS s)) ∧ Below w.heap.size w w' := by
  have hcl := nameCut_le s
  have hal := atCut_le (nameCut s).1
  have hbad : badName s = (decide (60 < (s.length : Int)) || ((atCut (nameCut s).1).1 == ([] : Str) || (!allB okB (atCut (nameCut s).1).1 || !allB okB (atCut (nameCut s).1).2))) := rfl
  have hkind : kindS s = if badName s then 0 else sufK (nameCut s).2 := rfl
  have hcv : cutV (nameCut s).1 = .tuple #[sv (atCut (nameCut s).1).1, sv (atCut (nameCut s).1).2, .bool (decide (0 ≤ Lib.indexByte (nameCut s).1 64))] := rfl
  rw [hbad] at hkind
  have HK := Lib.hid hkind
  have HCV := Lib.hid hcv
  clear hbad hkind hcv
  have hlh : (nameCut s).1.length ≤ 140737488355328 := by omega
  have hlp : (atCut (nameCut s).1).1.length ≤ 140737488355328 := by omega
  have hli : (atCut (nameCut s).1).2.length ≤ 140737488355328 := by omega
  go_enter Tryz.func44, Tryz.ntmps44
  go_wp2_with fail
  refine (cutname_any s w hl).mono ?_
  rintro e w1 ⟨rfl, hb1⟩
  have HB1 := Lib.hid hb1
  clear hb1
  go_wp2_with fail
  refine (Cut_at (nameCut s).1 w1 hlh).mono ?_
  rintro e w2 ⟨rfl, hb2⟩
  have HB2 := Lib.hid (lift HB1.out hb2)
  clear hb2
  rw [HCV.out]
  generalize hpre : (atCut (nameCut s).1).1 = pre at *
  generalize hins : (atCut (nameCut s).1).2 = ins at *
  generalize hsuf : (nameCut s).2 = suf at *
  have HX := Lib.hid (And.intro hpre (And.intro hins hsuf))
  clear hpre hins hsuf hcl hal
  by_cases h60 : (60 : Int) < (s.length : Int)
  · have d60 : decide ((60 : Int) < (s.length : Int)) = true := by simpa using h60
    have D60 := Lib.hid d60
    go_wp2_with fail
    go_ret
    exact ⟨ret_int (by rw [HK.out]; simp [D60.out]), HB2.out⟩
  · have d60 : decide ((60 : Int) < (s.length : Int)) = false := by simpa using h60
    have D60 := Lib.hid d60
    cases hp0 : (pre == ([] : Str))
    · have HP0 := Lib.hid hp0
      go_wp2_with fail
      refine (plain_any pre w2 hlp).mono ?_
      rintro e w3 ⟨rfl, hb3⟩
      have HB3 := Lib.hid (lift HB2.out hb3)
      clear hb3
      cases hq1 : allB okB pre
      · have HQ1 := Lib.hid hq1
        go_wp2_with fail
        go_ret
        exact ⟨ret_int (by rw [HK.out]; simp [HQ1.out]), HB3.out⟩
      · have HQ1 := Lib.hid hq1
        go_wp2_with fail
        refine (plain_any ins w3 hli).mono ?_
        rintro e w4 ⟨rfl, hb4⟩
        have HB4 := Lib.hid (lift HB3.out hb4)
        clear hb4
        cases hq2 : allB okB ins
        · have HQ2 := Lib.hid hq2
          go_wp2_with fail
          go_ret
          exact ⟨ret_int (by rw [HK.out]; simp [HQ2.out]), HB4.out⟩
        · have HQ2 := Lib.hid hq2
          go_wp2_with fail
          go_loopw [8] (fun i wr => ∃ k : Nat, 1 ≤ k ∧ k ≤ 5 ∧ i = .int .i64 k ∧ Hid (∀ j : Nat, 1 ≤ j → j < k → sufS j ≠ suf) ∧ Below w.heap.size w wr) (fun i _ => 5 - (intOf i).toNat)
          case atStart => exact ⟨1, by omega, by omega, rfl, fun j h1 h2 => by omega, HB4.out⟩
          case round =>
            obtain ⟨k, hk1, hk5, rfl, hall, hb⟩ := hrel
            have HB := Lib.hid hb
            clear hb
            by_cases hlt : k ≤ 4
            · have dk : decide ((k : Int) ≤ 4) = true := by simp; omega
              go_wp2_with fail
              refine (Suffix_any k wr).mono ?_
              rintro e w5 ⟨rfl, rfl⟩
              cases hs : (sufS k == suf)
              · have Hs := Lib.hid hs
                go_wp2_with fail
                go_roundw
                case rel =>
                  refine ⟨k + 1, by omega, by omega, by go_num, fun j h1 h2 => ?_, HB.out⟩
                  by_cases e : j = k
                  · subst e; have := Hs.out; simpa using this
                  · exact hall.out j h1 (by omega)
                case measure => simp [intOf]; omega
              · have Hs := Lib.hid (sufK_at hk1 hlt hall.out (by simpa using hs))
                go_wp2_with fail
                go_ret
                exact ⟨ret_int (by rw [HK.out]; simp [D60.out, HP0.out, HQ1.out, HQ2.out, Hs.out]), HB.out⟩
            · have dk : decide ((k : Int) ≤ 4) = false := by simp; omega
              have Hs := Lib.hid (sufK_none fun j h1 h2 => hall.out j h1 (by omega))
              go_wp2_with fail
              go_ret
              exact ⟨ret_int (by rw [HK.out]; simp [D60.out, HP0.out, HQ1.out, HQ2.out, Hs.out]), HB.out⟩
    · have HP0 := Lib.hid hp0
      go_wp2_with fail
      go_ret
      exact ⟨ret_int (by rw [HK.out]; simp [HP0.out]), HB2.out⟩
set_option maxHeartbeats 1000000 in
theorem May_any (s : Str) (w : World) (hl : s.length ≤ 140737488355328) : Calls Tryz.prog 23 #[sv s] w fun e w' => e = .returned (.bool (kindS s != 0)) ∧ Below w.heap.size w w' := by
  go_enter Tryz.func23, Tryz.ntmps23
  go_wp2_with fail
  refine (Kind_any s w hl).mono ?_
  rintro e w1 ⟨rfl, hb⟩
  go_wp2_with fail
  go_ret
  exact ⟨rfl, hb⟩
end Od
end Go.Proofs.YtgfdcmlmgeoimaaGreat
end

section
/- Plain mathematics: strictly rising lists, each element once; what compaction of a sorted list is. No program. -/
namespace Go.Proofs.YtgfdcmlmgeoimaaGreat

theorem nil_or_snoc {α : Type} (l : List α) : l = [] ∨ ∃ r y, l = r ++ [y] := by
  rcases List.eq_nil_or_concat l with h | ⟨r, y, h⟩
  · exact .inl h
  · exact .inr ⟨r, y, by rw [h, List.concat_eq_append]⟩

/-- A strict order that parts any two that are not one. -/
structure TO {α : Type} (lt : α → α → Bool) : Prop where
  irrefl : ∀ x, lt x x = false
  trans : ∀ {x y z}, lt x y = true → lt y z = true → lt x z = true
  total : ∀ {x y}, lt x y = false → lt y x = false → x = y

section
variable {α : Type} {lt : α → α → Bool}
/-- Rising, each once. -/
def SS (lt : α → α → Bool) (l : List α) : Prop := l.Pairwise (fun x y => lt x y = true)

theorem SS.unique (T : TO lt) : ∀ {l l' : List α}, SS lt l → SS lt l' → (∀ x, x ∈ l ↔ x ∈ l') → l = l'
  | [], [], _, _, _ => rfl
  | [], y :: r', _, _, h => absurd ((h y).2 (.head _)) (by simp)
  | x :: r, [], _, _, h => absurd ((h x).1 (.head _)) (by simp)
  | x :: r, y :: r', h1, h2, h => by
    obtain ⟨hx, hr⟩ := List.pairwise_cons.1 h1
    obtain ⟨hy, hr'⟩ := List.pairwise_cons.1 h2
    have exy : x = y := by
      rcases List.mem_cons.1 ((h x).1 (.head _)) with e | e
      · exact e
      · rcases List.mem_cons.1 ((h y).2 (.head _)) with e' | e'
        · exact e'.symm
        · have := T.trans (hx y e') (hy x e)
          rw [T.irrefl] at this; cases this
    subst exy
    congr 1
    refine SS.unique T hr hr' fun z => ?_
    constructor
    · intro hz
      rcases List.mem_cons.1 ((h z).1 (.tail _ hz)) with e | e
      · subst e; have := hx z hz; rw [T.irrefl] at this; cases this
      · exact e
    · intro hz
      rcases List.mem_cons.1 ((h z).2 (.tail _ hz)) with e | e
      · subst e; have := hy z hz; rw [T.irrefl] at this; cases this
      · exact e
theorem SS.nodup (T : TO lt) {l : List α} (h : SS lt l) : l.Nodup := h.imp fun {a b} hab e => by subst e; rw [T.irrefl] at hab; cases hab
theorem SS.sublist {l l' : List α} (h : SS lt l) (hs : l'.Sublist l) : SS lt l' := List.Pairwise.sublist hs h

/-- Into a rising list, once. -/
def insL [DecidableEq α] (lt : α → α → Bool) (x : α) : List α → List α
  | [] => [x]
  | y :: r => if lt y x = true then y :: insL lt x r else if y = x then y :: r else x :: y :: r
variable [DecidableEq α]
theorem mem_insL {x z : α} : ∀ {l : List α}, z ∈ insL lt x l ↔ z = x ∨ z ∈ l
  | [] => by simp [insL]
  | y :: r => by
    unfold insL
    split
    · rw [List.mem_cons, mem_insL, List.mem_cons]
      constructor
      · rintro (h | h | h)
        · exact .inr (.inl h)
        · exact .inl h
        · exact .inr (.inr h)
      · rintro (h | h | h)
        · exact .inr (.inl h)
        · exact .inl h
        · exact .inr (.inr h)
    · split
      · rename_i h
        subst h
        simp
      · simp
theorem SS.insL (T : TO lt) {x : α} : ∀ {l : List α}, SS lt l → SS lt (insL lt x l)
  | [], _ => List.pairwise_singleton _ _
  | y :: r, h => by
    obtain ⟨hy, hr⟩ := List.pairwise_cons.1 h
    unfold Proofs.YtgfdcmlmgeoimaaGreat.insL
    split
    · rename_i h1
      refine List.pairwise_cons.2 ⟨fun z hz => ?_, SS.insL T hr⟩
      rcases mem_insL.1 hz with e | e
      · rw [e]; exact h1
      · exact hy z e
    · rename_i h1
      split
      · exact h
      · rename_i h2
        have hxy : lt x y = true := by
          cases h3 : lt x y
          · exact absurd (T.total (by simpa using h1) h3) h2
          · rfl
        refine List.pairwise_cons.2 ⟨fun z hz => ?_, h⟩
        rcases List.mem_cons.1 hz with e | e
        · rw [e]; exact hxy
        · exact T.trans hxy (hy z e)
/-- A list made rising, each once. -/
def canon (lt : α → α → Bool) (l : List α) : List α := l.foldl (fun acc x => insL lt x acc) []
theorem canon_fold (T : TO lt) : ∀ (l acc : List α), SS lt acc → SS lt (l.foldl (fun acc x => insL lt x acc) acc) ∧ ∀ z, z ∈ l.foldl (fun acc x => insL lt x acc) acc ↔ z ∈ acc ∨ z ∈ l
  | [], acc, h => ⟨h, by simp⟩
  | x :: l, acc, h => by
    obtain ⟨h1, h2⟩ := canon_fold T l (insL lt x acc) (h.insL T)
    refine ⟨h1, fun z => ?_⟩
    rw [List.foldl_cons, h2, mem_insL, List.mem_cons]
    constructor
    · rintro ((h | h) | h)
      · exact .inr (.inl h)
      · exact .inl h
      · exact .inr (.inr h)
    · rintro (h | h | h)
      · exact .inl (.inr h)
      · exact .inl (.inl h)
      · exact .inr h
theorem canon_ss (T : TO lt) (l : List α) : SS lt (canon lt l) := (canon_fold T l [] List.Pairwise.nil).1
theorem mem_canon (T : TO lt) {l : List α} {z : α} : z ∈ canon lt l ↔ z ∈ l := by
  rw [canon, (canon_fold T l [] List.Pairwise.nil).2]; simp
theorem SS.eq_canon (T : TO lt) {l l' : List α} (h : SS lt l') (hm : ∀ x, x ∈ l' ↔ x ∈ l) : l' = canon lt l :=
  SS.unique T h (canon_ss T l) fun x => by rw [hm, mem_canon T]
theorem canon_len (l : List α) : (canon lt l).length ≤ l.length := by
  have h : ∀ (l acc : List α), (l.foldl (fun acc x => insL lt x acc) acc).length ≤ acc.length + l.length := by
    intro l
    induction l with
    | nil => intro acc; simp
    | cons x l ih =>
      intro acc
      have hi : ∀ acc : List α, (Proofs.YtgfdcmlmgeoimaaGreat.insL lt x acc).length ≤ acc.length + 1 := by
        intro acc
        induction acc with
        | nil => simp [Proofs.YtgfdcmlmgeoimaaGreat.insL]
        | cons y r ih => unfold Proofs.YtgfdcmlmgeoimaaGreat.insL; split <;> (try split) <;> simp_all
      have := ih (Proofs.YtgfdcmlmgeoimaaGreat.insL lt x acc)
      have := hi acc
      simp only [List.foldl_cons, List.length_cons]
      omega
  have := h l []
  simpa [canon] using this

/-- Not falling. -/
def LE (lt : α → α → Bool) (l : List α) : Prop := l.Pairwise (fun x y => lt y x = false)

section
variable [Inhabited α]
theorem compact_snoc (zs : List α) (x : α) : Lib.compact (zs ++ [x]) = Lib.compact zs ++ (if zs = [] ∨ zs.getLast? ≠ some x then [x] else []) := by
  have e : ∀ m, m ≤ zs.length → Lib.compactUpTo (zs ++ [x]).toArray m = Lib.compactUpTo zs.toArray m := by
    intro m
    induction m with
    | zero => intro _; rfl
    | succ m ih =>
      intro hm
      rw [Lib.compactUpTo_succ, Lib.compactUpTo_succ, ih (by omega)]
      have g : ∀ j, j < zs.length → (zs ++ [x]).toArray[j]! = zs.toArray[j]! := by
        intro j hj
        simp [getElem!_def, List.getElem?_append_left hj]
      have hk : Lib.keeps (zs ++ [x]).toArray m = Lib.keeps zs.toArray m := by
        unfold Lib.keeps
        rw [g m (by omega), g (m - 1) (by omega)]
      rw [hk, g m (by omega)]
  unfold Lib.compact
  rw [show (zs ++ [x]).length = zs.length + 1 by simp, Lib.compactUpTo_succ, e _ (Nat.le_refl _)]
  congr 1
  have g1 : (zs ++ [x]).toArray[zs.length]! = x := by simp
  have hk : Lib.keeps (zs ++ [x]).toArray zs.length = decide (zs = [] ∨ zs.getLast? ≠ some x) := by
    unfold Lib.keeps
    rw [g1]
    rcases nil_or_snoc zs with rfl | ⟨r, y, rfl⟩
    · simp
    · have g2 : (r ++ [y] ++ [x]).toArray[(r ++ [y]).length - 1]! = y := by simp
      rw [g2]
      simp
      exact eq_comm
  rw [hk, g1]
  by_cases h : zs = [] ∨ zs.getLast? ≠ some x <;> simp [h]
theorem mem_compact : ∀ {zs : List α} {x : α}, x ∈ Lib.compact zs ↔ x ∈ zs := by
  suffices h : ∀ (n : Nat) (zs : List α), zs.length = n → ∀ x, x ∈ Lib.compact zs ↔ x ∈ zs from fun {zs x} => h _ zs rfl x
  intro n
  induction n with
  | zero => intro zs hz x; rw [List.length_eq_zero_iff.1 hz]; simp [Lib.compact, Lib.compactUpTo]
  | succ n ih =>
    intro zs hz x
    rcases nil_or_snoc zs with rfl | ⟨r, y, rfl⟩
    · simp at hz
    · rw [compact_snoc, List.mem_append, List.mem_append, ih r (by simpa using hz)]
      by_cases h : r = [] ∨ r.getLast? ≠ some y
      · simp [h]
      · simp only [h, if_false, List.not_mem_nil, or_false, List.mem_singleton]
        have h2 : r.getLast? = some y := by
          rcases Classical.em (r.getLast? = some y) with e | e
          · exact e
          · exact absurd (.inr e) h
        constructor
        · exact .inl
        · rintro (e | e)
          · exact e
          · rw [e]; exact List.mem_of_getLast? h2
theorem compact_ss (T : TO lt) : ∀ {zs : List α}, LE lt zs → SS lt (Lib.compact zs) := by
  suffices h : ∀ (n : Nat) (zs : List α), zs.length = n → LE lt zs → SS lt (Lib.compact zs) from fun {zs} => h _ zs rfl
  intro n
  induction n with
  | zero => intro zs hz _; rw [List.length_eq_zero_iff.1 hz]; exact List.Pairwise.nil
  | succ n ih =>
    intro zs hz hs
    rcases nil_or_snoc zs with rfl | ⟨r, y, rfl⟩
    · simp at hz
    · obtain ⟨h1, _, h3⟩ := List.pairwise_append.1 hs
      rw [compact_snoc]
      by_cases h : r = [] ∨ r.getLast? ≠ some y
      · simp only [h, if_true]
        refine List.pairwise_append.2 ⟨ih r (by simpa using hz) h1, List.pairwise_singleton _ _, fun a ha b hb => ?_⟩
        have hb : b = y := by simpa using hb
        subst hb
        rw [mem_compact] at ha
        -- a is below the last, which is below b
        rcases nil_or_snoc r with rfl | ⟨q, l, rfl⟩
        · simp at ha
        · have hl : l ≠ b := by simpa using h
          have hlb : lt l b = true := by
            cases h5 : lt l b
            · exact absurd (T.total h5 (h3 l (by simp) b (by simp))) hl
            · rfl
          rcases List.mem_append.1 ha with e | e
          · have h6 := (List.pairwise_append.1 h1).2.2 a e l (by simp)
            cases h7 : lt a l
            · rw [T.total h7 h6]; exact hlb
            · exact T.trans h7 hlb
          · have : a = l := by simpa using e
            rw [this]; exact hlb
      · simp only [h, if_false, List.append_nil]
        exact ih r (by simpa using hz) h1
theorem compact_canon (T : TO lt) {zs l : List α} (h : LE lt zs) (hm : ∀ x, x ∈ zs ↔ x ∈ l) : Lib.compact zs = canon lt l :=
  SS.eq_canon T (compact_ss T h) fun x => by rw [mem_compact, hm]
end
end

namespace Od
/-- Texts in order. -/
def ltS (a b : Str) : Bool := Op.bytesLess a b
theorem ltS_iff {a b : Str} : ltS a b = true ↔ a < b := by unfold ltS; rw [Go.Proofs.bytesLess_eq]; simp
theorem ltS_false {a b : Str} : ltS a b = false ↔ ¬ a < b := by rw [← ltS_iff]; simp
theorem toS : TO ltS where
  irrefl x := by rw [ltS_false]; exact List.lt_irrefl x
  trans h1 h2 := by rw [ltS_iff] at *; exact List.lt_trans h1 h2
  total h1 h2 := by
    rw [ltS_false] at h1 h2
    exact List.le_antisymm (List.not_lt.1 h2) (List.not_lt.1 h1)
/-- Pairs of texts in order. -/
def ltP (p q : Pr) : Bool := ltS p.1 q.1 || (p.1 == q.1 && ltS p.2 q.2)
theorem toP : TO ltP where
  irrefl x := by simp [ltP, toS.irrefl]
  trans {x y z} h1 h2 := by
    simp only [ltP, Bool.or_eq_true, Bool.and_eq_true, beq_iff_eq] at *
    rcases h1 with h1 | ⟨e1, h1⟩ <;> rcases h2 with h2 | ⟨e2, h2⟩
    · exact .inl (toS.trans h1 h2)
    · exact .inl (e2 ▸ h1)
    · exact .inl (e1 ▸ h2)
    · exact .inr ⟨e1.trans e2, toS.trans h1 h2⟩
  total {x y} h1 h2 := by
    simp only [ltP, Bool.or_eq_false_iff, Bool.and_eq_false_iff, beq_eq_false_iff_ne] at *
    have e1 := toS.total h1.1 h2.1
    rcases h1.2 with h | h
    · exact absurd e1 h
    · rcases h2.2 with h' | h'
      · exact absurd e1.symm h'
      · exact Prod.ext e1 (toS.total h h')
end Od
end Go.Proofs.YtgfdcmlmgeoimaaGreat
end

section
/- What Disk needs of older texts, second part: rows of texts. (bel2) -/
namespace Go.Proofs.YtgfdcmlmgeoimaaGreat
open Go.RowKit Go.Sort
set_option linter.unusedSimpArgs false
namespace Od
set_option maxRecDepth 100000 in
set_option maxHeartbeats 1000000 in
theorem Same_any (A A' : Option Addr) (c c' : Nat) (xs ys : List Str) (w : World) (hr : Rd w w.heap.size 1 A xs.length (svs xs)) (hr' : Rd w w.heap.size 1 A' ys.length (svs ys)) (hb : xs.length ≤ 1000000) :
    Calls Tryz.prog 16 #[.slice A xs.length c, .slice A' ys.length c'] w fun e w' => e = .returned (.bool (decide (xs = ys))) ∧ Below w.heap.size w w' := by
  have Hr := Lib.hid hr
  have Hr' := Lib.hid hr'
  clear hr hr'
  by_cases hl : xs.length = ys.length
  · have Hl := Lib.hid hl
    have hl1 : ((xs.length : Int) != (ys.length : Int)) = false := by simp [hl]
    clear hl
    go_enter Tryz.func16, Tryz.ntmps16
    go_wp2_with fail
    go_loopw [13] (fun i wr => ∃ k : Nat, k ≤ xs.length ∧ i = .int .i64 k ∧ Hid (∀ j (h1 : j < xs.length) (h2 : j < ys.length), j < k → xs[j] = ys[j]) ∧ Below w.heap.size w wr) (fun i _ => xs.length - (intOf i).toNat)
    case atStart => exact ⟨0, Nat.zero_le _, rfl, fun _ _ _ h => absurd h (by omega), Below.refl _ _⟩
    case round =>
      obtain ⟨k, hk, rfl, hall, hbel⟩ := hrel
      have Hbel := Lib.hid hbel
      by_cases hlt : k < xs.length
      · have hlt' : k < ys.length := by have := Hl.out; omega
        obtain ⟨b, o, rfl, hB, hcell⟩ := (Hr.out.on (Nat.le_refl _) hbel).str hlt
        obtain ⟨b', o', rfl, hB', hcell'⟩ := (Hr'.out.on (Nat.le_refl _) hbel).str hlt'
        generalize hx : xs[k] = x at hcell
        generalize hy : ys[k] = y at hcell'
        have Hx := Lib.hid hx
        have Hy := Lib.hid hy
        have hk0 : (0 : Int) ≤ (k : Int) := by omega
        have hk1 : (k : Int) < (xs.length : Int) := by omega
        have hk2 : (k : Int) < (ys.length : Int) := by omega
        clear hx hy hbel
        cases hne : (x == y)
        · have Hne := Lib.hid hne
          go_wp2
          go_quiet (fail)
          go_wp2
          go_ret
          exact ⟨ret_bool (by
            have hd : xs[k] ≠ ys[k] := by rw [Hx.out, Hy.out]; simpa using Hne.out
            simp [at_ne hlt hlt' hd]), below_drewN Hbel.out _⟩
        · have Hne := Lib.hid hne
          go_wp2
          go_quiet (fail)
          go_wp2
          go_roundw
          case rel => exact ⟨k + 1, by omega, by go_num, fun j h1 h2 h3 => by
            rcases Nat.lt_or_ge j k with h | h
            · exact hall.out j h1 h2 h
            · obtain rfl : j = k := by omega
              rw [Hx.out, Hy.out]; simpa using Hne.out, below_drewN Hbel.out _⟩
          case measure => simp [intOf]; omega
      · go_wp2
        go_ret
        exact ⟨ret_bool (by
          have : xs = ys := eq_of_at Hl.out fun j h1 h2 => hall.out j h1 h2 (by omega)
          simp [this]), Hbel.out⟩
  · have hl1 : ((xs.length : Int) != (ys.length : Int)) = true := by rw [bne_iff_ne]; omega
    have Hl := Lib.hid hl
    clear hl
    go_enter Tryz.func16, Tryz.ntmps16
    go_wp2
    go_ret
    exact ⟨ret_bool (by
      have : ¬ xs = ys := fun e => Hl.out (by rw [e])
      simp [this]), Below.refl _ _⟩
def hasB (xs : List Str) (s : Str) : Bool := xs.contains s
theorem hasB_iff (xs : List Str) (s : Str) : hasB xs s = true ↔ s ∈ xs := by unfold hasB; simp
theorem hasB_any (xs : List Str) (s : Str) : xs.any (· == s) = hasB xs s := by unfold hasB; rw [List.any_beq']
set_option maxRecDepth 100000 in
set_option maxHeartbeats 1000000 in
theorem HasS_any (A : Option Addr) (c : Nat) (xs : List Str) (s : Str) (w : World) (hr : Rd w w.heap.size 1 A xs.length (svs xs)) (hb : xs.length ≤ 140737488355328) :
    Calls Tryz.prog 33 #[.slice A xs.length c, sv s] w fun e w' => e = .returned (.bool (hasB xs s)) ∧ w = w' := by
  have Hr := Lib.hid hr
  clear hr
  go_enter Tryz.func33, Tryz.ntmps33
  go_wp2_with fail
  go_loop [9] (fun i => ∃ k : Nat, k ≤ xs.length ∧ i = .int .i64 k ∧ Hid ((xs.take k).any (· == s) = false)) (fun i => xs.length - (intOf i).toNat)
  case atStart => exact ⟨0, Nat.zero_le _, rfl, by simp [Hid]⟩
  case round =>
    obtain ⟨k, hk, rfl, hall⟩ := hrel
    by_cases hlt : k < xs.length
    · obtain ⟨b, o, rfl, hB, hcell⟩ := Hr.out.str hlt
      generalize hx : xs[k] = x at hcell
      have Hx := Lib.hid hx
      clear hx
      cases hne : (x == s)
      · have Hne := Lib.hid hne
        go_wp2_with fail
        go_round
        case rel => exact ⟨k + 1, by omega, by go_num, by show _ = false; rw [any_take_succ hlt, hall.out, Hx.out, Hne.out]; rfl⟩
        case measure => simp [intOf]; omega
      · have Hne := Lib.hid hne
        go_wp2_with fail
        go_ret
        exact ⟨ret_bool (by
          have := any_of_at (p := (· == s)) hlt (by rw [Hx.out]; exact Hne.out)
          rw [hasB_any] at this
          exact this.symm), rfl⟩
    · have ha := hall.out
      rw [List.take_of_length_le (by omega), hasB_any] at ha
      have Ha := Lib.hid ha
      clear ha
      go_wp2_with fail
      go_ret
      exact ⟨ret_bool (by rw [Ha.out]), rfl⟩
theorem encStr_sv (s : Str) : encStr s = sv s := rfl
theorem map_encStr (ss : List Str) : ss.map encStr = svs ss := rfl
def sortS (ss : List Str) : List Str := ss.mergeSort fun x y => decide (x ≤ y)
theorem sortS_len (ss : List Str) : (sortS ss).length = ss.length := by simp [sortS]
theorem sortS_own (base c : Nat) (A : Option Addr) (ss : List Str) (w : World) (h : w.ownsRow base 9 1 (.slice A ss.length c) ss.length (svs ss)) (hsz : ss.length ≤ 1000000) :
    Calls Tryz.prog 67 #[.slice A ss.length c] w fun e w' => e = .returned (.tuple #[]) ∧ w'.ownsRow base 9 1 (.slice A ss.length c) ss.length (svs (sortS ss)) ∧ w.grownBy w' (Value.slice A ss.length c).ownBlock := by
  rcases h.2 with ⟨hv, hn⟩ | ⟨g, cap, cur, hv, hg, hb, h1, h2, h3, h4⟩
  · have hnil : ss = [] := List.length_eq_zero_iff.1 hn
    subst hnil
    refine (Tryz.slices_Sort_string_none _ _ _).mono ?_
    rintro e w' ⟨rfl, rfl⟩
    exact ⟨rfl, by simpa [sortS] using h, World.grownBy.refl _ _⟩
  · injection hv with e1 _ e3
    subst e1 e3
    have hgl : g < w.heap.size := (Array.getElem?_eq_some_iff.1 hb).1
    refine (Tryz.slices_Sort_string g 0 c ss w (holds_of_block hb (by rw [Nat.mul_one] at h4; exact h4)) hgl (by omega)).mono ?_
    rintro e w' ⟨rfl, n, os, rfl⟩
    exact ⟨rfl, ownsRow_sorted (ts := sortS ss) (sortS_len ss) hg hb h1 h2 h3, grownBy_sorted _⟩
theorem take_putCells' (cur : Array Value) (ts us : List Str) (h : (ts ++ us).length ≤ cur.size) : (putCells encStr 0 (ts ++ us).toArray cur).toList.take ts.length = ts.map encStr := by
  have h1 := take_putCells cur (ts ++ us) h
  have h2 := congrArg (List.take ts.length) h1
  rw [List.take_take, Nat.min_eq_left (by simp)] at h2
  rw [h2, List.map_append, List.take_append_of_le_length (by simp), List.take_of_length_le (by simp)]
theorem compact_len_le (ss : List Str) : (Lib.compact ss).length ≤ ss.length := by
  unfold Lib.compact Lib.compactUpTo
  rw [List.length_map]
  exact Nat.le_trans (List.length_filter_le _ _) (by simp)
theorem compactS_own (base c : Nat) (A : Option Addr) (ss : List Str) (w : World) (h : w.ownsRow base 9 1 (.slice A ss.length c) ss.length (svs ss)) (hsz : ss.length ≤ 1000000) :
    Calls Tryz.prog 68 #[.slice A ss.length c] w fun e w' => e = .returned (.slice A (Lib.compact ss).length c) ∧ w'.ownsRow base 9 1 (.slice A (Lib.compact ss).length c) (Lib.compact ss).length (svs (Lib.compact ss)) ∧ w.grownBy w' (Value.slice A ss.length c).ownBlock := by
  rcases h.2 with ⟨hv, hn⟩ | ⟨g, cap, cur, hv, hg, hb, h1, h2, h3, h4⟩
  · have hnil : ss = [] := List.length_eq_zero_iff.1 hn
    subst hnil
    refine (Tryz.slices_Compact_string_empty _ _ _).mono ?_
    rintro e w' ⟨rfl, rfl⟩
    exact ⟨rfl, h, World.grownBy.refl _ _⟩
  · injection hv with e1 _ e3
    subst e1 e3
    have hgl : g < w.heap.size := (Array.getElem?_eq_some_iff.1 hb).1
    have hle := compact_len_le ss
    refine (Tryz.slices_Compact_string g 0 c ss w (holds_of_block hb (by rw [Nat.mul_one] at h4; exact h4)) (by omega) h1).mono ?_
    rintro e w' ⟨rfl, q, rfl⟩
    refine ⟨rfl, ⟨by simp [svs], .inr ⟨g, c, _, rfl, hg, by rw [← grow_empty (putRow _ _ _ _ _)]; exact heap_sorted _ hb, by omega, h2, by simp [putCells, h3], ?_⟩⟩, by rw [← grow_empty (putRow _ _ _ _ _)]; exact grownBy_sorted _⟩
    rw [Nat.mul_one]
    exact take_putCells' cur _ _ (by simp; omega)
def onceS (ss : List Str) : List Str := Lib.compact (sortS ss)
theorem onceS_len (ss : List Str) : (onceS ss).length ≤ ss.length := Nat.le_trans (compact_len_le _) (Nat.le_of_eq (sortS_len ss))
/-- A call hands back a slice of its own that holds these texts. -/
def OwnS (ss : List Str) (w : World) (e : Ending) (w' : World) : Prop := ∃ A c, e = .returned (.slice A ss.length c) ∧ w'.ownsRow w.heap.size 9 1 (.slice A ss.length c) ss.length (svs ss) ∧ Below w.heap.size w w'
theorem sortS_le (ss : List Str) : LE ltS (sortS ss) := by
  have h := List.pairwise_mergeSort (le := fun x y : Str => decide (x ≤ y)) (fun a b c h1 h2 => by
    simp only [decide_eq_true_eq] at *
    exact List.le_trans h1 h2) (fun a b => by
    simp only [Bool.or_eq_true, decide_eq_true_eq]
    exact List.le_total a b) ss
  refine h.imp fun {a b} hab => ?_
  rw [ltS_false]
  exact List.not_lt.2 (by simpa using hab)
theorem mem_sortS {ss : List Str} {s : Str} : s ∈ sortS ss ↔ s ∈ ss := (List.mergeSort_perm _ _).mem_iff
theorem le_nodup_ss : ∀ {ss : List Str}, LE ltS ss → ss.Nodup → SS ltS ss
  | [], _, _ => List.Pairwise.nil
  | x :: r, h1, h2 => by
    obtain ⟨hx, hr⟩ := List.pairwise_cons.1 h1
    obtain ⟨hx2, hr2⟩ := List.nodup_cons.1 h2
    refine List.pairwise_cons.2 ⟨fun y hy => ?_, le_nodup_ss hr hr2⟩
    cases h : ltS x y
    · exact absurd (toS.total h (hx y hy)) (fun e => hx2 (e ▸ hy))
    · rfl
theorem sortS_ss {ss : List Str} (h : ss.Nodup) : SS ltS (sortS ss) := le_nodup_ss (sortS_le ss) ((List.mergeSort_perm _ _).nodup_iff.2 h)
theorem onceS_ss (ss : List Str) : SS ltS (onceS ss) := compact_ss toS (sortS_le ss)
theorem mem_onceS {ss : List Str} {s : Str} : s ∈ onceS ss ↔ s ∈ ss := by unfold onceS; rw [mem_compact, mem_sortS]
theorem onceS_canon (ss : List Str) : onceS ss = canon ltS ss := SS.eq_canon toS (onceS_ss ss) fun _ => mem_onceS
theorem idxOf_zs (ss : List Str) (x : Str) : Lib.containsS (ss.map fun s => (⟨s.toArray⟩ : ByteArray)) ⟨x.toArray⟩ = decide (x ∈ ss) := by
  rw [Bool.eq_iff_iff, Lib.containsS_iff, decide_eq_true_eq, List.mem_map]
  constructor
  · rintro ⟨a, ha, e⟩
    injection e with e
    have : a = x := by simpa using e
    exact this ▸ ha
  · intro h
    exact ⟨x, h, rfl⟩
theorem containsS_rd (A : Option Addr) (c : Nat) (ss : List Str) (x : Str) (w : World) (hr : Rd w w.heap.size 1 A ss.length (svs ss)) (hl : ss.length ≤ 1000000) :
    Calls Tryz.prog 28 #[.slice A ss.length c, sv x] w fun e w' => e = .returned (.bool (decide (x ∈ ss))) ∧ w' = w := by
  rcases Nat.eq_zero_or_pos ss.length with h0 | h0
  · have hn := List.length_eq_zero_iff.1 h0
    subst hn
    refine (Tryz.slices_Contains_string_empty A c _ w).mono ?_
    rintro e w' ⟨rfl, rfl⟩
    exact ⟨by simp, rfl⟩
  · obtain ⟨b, o, rfl, hb, hc⟩ := hr.open h0
    refine (Tryz.slices_Contains_string b o ss.length c (ss.map fun s => ⟨s.toArray⟩) ⟨x.toArray⟩ w (by simp) (by omega) (fun j hj => ?_)).mono ?_
    · have hj' : j < ss.length := by simpa using hj
      rw [hc j (by omega)]
      simp [svs, hj']
    · rintro e w' ⟨rfl, rfl⟩
      exact ⟨by rw [List.take_of_length_le (by simp), idxOf_zs], rfl⟩
end Od
end Go.Proofs.YtgfdcmlmgeoimaaGreat
end

section
/- What stands for NMay where there is no graph. No program. -/
end
