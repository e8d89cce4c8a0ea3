/-
  No cell of these rows narrows 'for every input' (looked for: loops, veiled, ifaces, maps, wideKeys, modest, calm, conditions, laid).
  DERIVED. THE GIVEN ROWS OF THIS SEAT. 7 by the template 'for every input the law returns true; each argument reads behind the call as it read before'; 0 by the template 'total and deterministic' (their statements: YtclaoffnfopekaaGreatTotals.lean).
  GIVEN WITH THE SEED: the statements are not yours to turn. If you find one false, say at which input.
  Laid BY PROGRAM, IN A SANDBOX (cutbox-rows.mjs): the forced cells as the released guide's own fill.sh prints them over the translation 84afcd9bd842505c… (all of the seat's roots in one cut). By AI agents, Wed Nov 11 2026. No macro, syntax, notation, axiom, sorry.
-/
import Derived.Test.YtclaoffnfopekaaGreatChecked
import GoSem.Claim
import GoSem.ClaimJoined
import GoSem.ClaimMapViews
import Derived.JoinedTies
import Derived.KernelRfl
namespace Go.Proofs.YtclaoffnfopekaaGreat
/- THE CELL 'sum', in the pinned program and in every row, IS THE sha256 OF THE DUMP (.gsa) THAT YtclaoffnfopekaaGreatProg.lean LOADS. Nothing in Lean hashes anything: it is a label: what it is worth is what the hold of that sum in a sandbox is worth. -/
noncomputable def Tryz.pinned : Pinned := { name := "ytclaoffnfopekaagreat", sum := "84afcd9bd842505c29c18ca3239bff22b98e749bde0ac7d12ea7e8c2ef829731", checked := Tryz.checked }
namespace Rows
def none {H : Type} : Left H := { results := [], args := [] }

/-- 'matinslaw16.OrderAll': WHATEVER THE INPUT: true; the input reads as it did. -/
def orderAllSpec : ChangeSpec := { name := "orderAll", fn := fun _ => fun
  | [d1, d2, d3] => { results := [.lit (.bool true)], args := [d1, d2, d3] }
  | _ => none }
def orderAllRow : OpenClaim := { program := "ytclaoffnfopekaagreat", sum := "84afcd9bd842505c29c18ca3239bff22b98e749bde0ac7d12ea7e8c2ef829731", func := "matins/matinslaw16.OrderAll", spec := "orderAll", inPlace := ["internal/bytealg.IndexByteString", "internal/bytealg.IndexString"], unfollowed := true, recurses := true, named := ["internal/bytealg.MaxLen"], plainKeys := false, apart := false }
def OrderAllSaid : Prop := orderAllRow.holds Tryz.pinned (OpenSpec.ofChange orderAllSpec)

/-- ITS FALSE NEIGHBOUR: 'it returns false'. Refute it at one input. -/
def orderAllWrong : ChangeSpec := { name := "orderAll", fn := fun _ => fun
  | [d1, d2, d3] => { results := [.lit (.bool false)], args := [d1, d2, d3] }
  | _ => none }
def OrderAllWrongFalsely : Prop := orderAllRow.holds Tryz.pinned (OpenSpec.ofChange orderAllWrong)

/-- 'matinslaw16.OrderSort': WHATEVER THE INPUT: true; the input reads as it did. -/
def orderSortSpec : ChangeSpec := { name := "orderSort", fn := fun _ => fun
  | [d1, d2] => { results := [.lit (.bool true)], args := [d1, d2] }
  | _ => none }
def orderSortRow : OpenClaim := { program := "ytclaoffnfopekaagreat", sum := "84afcd9bd842505c29c18ca3239bff22b98e749bde0ac7d12ea7e8c2ef829731", func := "matins/matinslaw16.OrderSort", spec := "orderSort", inPlace := ["internal/bytealg.IndexByteString", "internal/bytealg.IndexString"], unfollowed := true, recurses := true, named := ["internal/bytealg.MaxLen"], plainKeys := false, apart := false }
def OrderSortSaid : Prop := orderSortRow.holds Tryz.pinned (OpenSpec.ofChange orderSortSpec)

/-- ITS FALSE NEIGHBOUR: 'it returns false'. Refute it at one input. -/
def orderSortWrong : ChangeSpec := { name := "orderSort", fn := fun _ => fun
  | [d1, d2] => { results := [.lit (.bool false)], args := [d1, d2] }
  | _ => none }
def OrderSortWrongFalsely : Prop := orderSortRow.holds Tryz.pinned (OpenSpec.ofChange orderSortWrong)

/-- 'matinslaw16.OrderStraight': WHATEVER THE INPUT: true; the input reads as it did. -/
def orderStraightSpec : ChangeSpec := { name := "orderStraight", fn := fun _ => fun
  | [d] => { results := [.lit (.bool true)], args := [d] }
  | _ => none }
def orderStraightRow : OpenClaim := { program := "ytclaoffnfopekaagreat", sum := "84afcd9bd842505c29c18ca3239bff22b98e749bde0ac7d12ea7e8c2ef829731", func := "matins/matinslaw16.OrderStraight", spec := "orderStraight", inPlace := ["internal/bytealg.IndexByteString", "internal/bytealg.IndexString"], unfollowed := true, recurses := true, named := ["internal/bytealg.MaxLen"], plainKeys := false, apart := false }
def OrderStraightSaid : Prop := orderStraightRow.holds Tryz.pinned (OpenSpec.ofChange orderStraightSpec)

/-- ITS FALSE NEIGHBOUR: 'it returns false'. Refute it at one input. -/
def orderStraightWrong : ChangeSpec := { name := "orderStraight", fn := fun _ => fun
  | [d] => { results := [.lit (.bool false)], args := [d] }
  | _ => none }
def OrderStraightWrongFalsely : Prop := orderStraightRow.holds Tryz.pinned (OpenSpec.ofChange orderStraightWrong)

/-- 'matinslaw16.OrderMost': WHATEVER THE INPUT: true; the input reads as it did. -/
def orderMostSpec : ChangeSpec := { name := "orderMost", fn := fun _ => fun
  | [d] => { results := [.lit (.bool true)], args := [d] }
  | _ => none }
def orderMostRow : OpenClaim := { program := "ytclaoffnfopekaagreat", sum := "84afcd9bd842505c29c18ca3239bff22b98e749bde0ac7d12ea7e8c2ef829731", func := "matins/matinslaw16.OrderMost", spec := "orderMost", inPlace := ["internal/bytealg.IndexByteString", "internal/bytealg.IndexString"], unfollowed := true, recurses := true, named := ["internal/bytealg.MaxLen"], plainKeys := false, apart := false }
def OrderMostSaid : Prop := orderMostRow.holds Tryz.pinned (OpenSpec.ofChange orderMostSpec)

/-- ITS FALSE NEIGHBOUR: 'it returns false'. Refute it at one input. -/
def orderMostWrong : ChangeSpec := { name := "orderMost", fn := fun _ => fun
  | [d] => { results := [.lit (.bool false)], args := [d] }
  | _ => none }
def OrderMostWrongFalsely : Prop := orderMostRow.holds Tryz.pinned (OpenSpec.ofChange orderMostWrong)

/-- 'matinslaw16.OrderRow': WHATEVER THE INPUT: true; the input reads as it did. -/
def orderRowSpec : ChangeSpec := { name := "orderRow", fn := fun _ => fun
  | [d1, d2] => { results := [.lit (.bool true)], args := [d1, d2] }
  | _ => none }
def orderRowRow : OpenClaim := { program := "ytclaoffnfopekaagreat", sum := "84afcd9bd842505c29c18ca3239bff22b98e749bde0ac7d12ea7e8c2ef829731", func := "matins/matinslaw16.OrderRow", spec := "orderRow", inPlace := ["internal/bytealg.IndexByteString", "internal/bytealg.IndexString"], unfollowed := true, recurses := true, named := ["internal/bytealg.MaxLen"], plainKeys := false, apart := false }
def OrderRowSaid : Prop := orderRowRow.holds Tryz.pinned (OpenSpec.ofChange orderRowSpec)

/-- ITS FALSE NEIGHBOUR: 'it returns false'. Refute it at one input. -/
def orderRowWrong : ChangeSpec := { name := "orderRow", fn := fun _ => fun
  | [d1, d2] => { results := [.lit (.bool false)], args := [d1, d2] }
  | _ => none }
def OrderRowWrongFalsely : Prop := orderRowRow.holds Tryz.pinned (OpenSpec.ofChange orderRowWrong)

/-- 'matinslaw16.OrderBehind': WHATEVER THE INPUT: true; the input reads as it did. -/
def orderBehindSpec : ChangeSpec := { name := "orderBehind", fn := fun _ => fun
  | [d1, d2] => { results := [.lit (.bool true)], args := [d1, d2] }
  | _ => none }
def orderBehindRow : OpenClaim := { program := "ytclaoffnfopekaagreat", sum := "84afcd9bd842505c29c18ca3239bff22b98e749bde0ac7d12ea7e8c2ef829731", func := "matins/matinslaw16.OrderBehind", spec := "orderBehind", inPlace := ["internal/bytealg.IndexByteString", "internal/bytealg.IndexString"], unfollowed := true, recurses := true, named := ["internal/bytealg.MaxLen"], plainKeys := false, apart := false }
def OrderBehindSaid : Prop := orderBehindRow.holds Tryz.pinned (OpenSpec.ofChange orderBehindSpec)

/-- ITS FALSE NEIGHBOUR: 'it returns false'. Refute it at one input. -/
def orderBehindWrong : ChangeSpec := { name := "orderBehind", fn := fun _ => fun
  | [d1, d2] => { results := [.lit (.bool false)], args := [d1, d2] }
  | _ => none }
def OrderBehindWrongFalsely : Prop := orderBehindRow.holds Tryz.pinned (OpenSpec.ofChange orderBehindWrong)

/-- 'matinslaw16.OrderPut': WHATEVER THE INPUT: true; the input reads as it did. -/
def orderPutSpec : ChangeSpec := { name := "orderPut", fn := fun _ => fun
  | [d1, d2, d3] => { results := [.lit (.bool true)], args := [d1, d2, d3] }
  | _ => none }
def orderPutRow : OpenClaim := { program := "ytclaoffnfopekaagreat", sum := "84afcd9bd842505c29c18ca3239bff22b98e749bde0ac7d12ea7e8c2ef829731", func := "matins/matinslaw16.OrderPut", spec := "orderPut", inPlace := ["internal/bytealg.IndexByteString", "internal/bytealg.IndexString"], unfollowed := true, recurses := true, named := ["internal/bytealg.MaxLen"], plainKeys := false, apart := false }
def OrderPutSaid : Prop := orderPutRow.holds Tryz.pinned (OpenSpec.ofChange orderPutSpec)

/-- ITS FALSE NEIGHBOUR: 'it returns false'. Refute it at one input. -/
def orderPutWrong : ChangeSpec := { name := "orderPut", fn := fun _ => fun
  | [d1, d2, d3] => { results := [.lit (.bool false)], args := [d1, d2, d3] }
  | _ => none }
def OrderPutWrongFalsely : Prop := orderPutRow.holds Tryz.pinned (OpenSpec.ofChange orderPutWrong)

/- THE SECOND FORM. 'bulk': how many values and letters a reading holds, each counted each time it is reached (what is shared counts as often as it is met; a slice's spare places count too). A statement '..UptoSaid' is the law's where the arguments, and the package variables that the reading takes, are together of bulk at most 1048576: NARROWER than '..Said'. Prove '..Said' where nothing that the law and all that it calls make is longer than what came in: it says more and counts as full. Else prove '..UptoSaid'. A law counts once. -/
mutual
def uptoBulk {H : Type} : DataW H → Nat
  | .lit (.string bytes) => bytes.length + 1
  | .lit _ => 1
  | .nil => 1
  | .ptr d => uptoBulk d + 1
  | .slice elems spare => uptoBulkAll elems + uptoBulkAll spare + 1
  | .agg parts => uptoBulkAll parts + 1
  | .iface _ d => uptoBulk d + 1
  | .map entries => uptoBulkEntries entries + 1
  | .held _ => 1
def uptoBulkAll {H : Type} : List (DataW H) → Nat
  | [] => 0
  | d :: r => uptoBulk d + uptoBulkAll r
def uptoBulkEntries {H : Type} : List (Lit × DataW H) → Nat
  | [] => 0
  | x :: r => uptoBulkEntry x + uptoBulkEntries r
def uptoBulkEntry {H : Type} : Lit × DataW H → Nat
  | (.string bytes, d) => bytes.length + uptoBulk d + 1
  | (_, d) => uptoBulk d + 1
 end
def uptoSmall : (H : Type) → List (DataW H) → Bool := fun _ ds => decide (uptoBulkAll ds ≤ 1048576)
def OpenSpec.upto (s : _root_.Go.ChangeSpec) : _root_.Go.OpenSpec := { _root_.Go.OpenSpec.ofChange s with cond := some uptoSmall }

/-- 'matinslaw16.OrderAll', WHERE WHAT IT READS IS OF BULK AT MOST 1048576: true; the input reads as it did. -/
def orderAllUptoRow : OpenClaim := { program := "ytclaoffnfopekaagreat", sum := "84afcd9bd842505c29c18ca3239bff22b98e749bde0ac7d12ea7e8c2ef829731", func := "matins/matinslaw16.OrderAll", spec := "orderAll", inPlace := ["internal/bytealg.IndexByteString", "internal/bytealg.IndexString"], unfollowed := true, recurses := true, named := ["internal/bytealg.MaxLen"], plainKeys := false, apart := false, narrowed := true }
def OrderAllUptoSaid : Prop := orderAllUptoRow.holds Tryz.pinned (OpenSpec.upto orderAllSpec)

/-- 'matinslaw16.OrderSort', WHERE WHAT IT READS IS OF BULK AT MOST 1048576: true; the input reads as it did. -/
def orderSortUptoRow : OpenClaim := { program := "ytclaoffnfopekaagreat", sum := "84afcd9bd842505c29c18ca3239bff22b98e749bde0ac7d12ea7e8c2ef829731", func := "matins/matinslaw16.OrderSort", spec := "orderSort", inPlace := ["internal/bytealg.IndexByteString", "internal/bytealg.IndexString"], unfollowed := true, recurses := true, named := ["internal/bytealg.MaxLen"], plainKeys := false, apart := false, narrowed := true }
def OrderSortUptoSaid : Prop := orderSortUptoRow.holds Tryz.pinned (OpenSpec.upto orderSortSpec)

/-- 'matinslaw16.OrderStraight', WHERE WHAT IT READS IS OF BULK AT MOST 1048576: true; the input reads as it did. -/
def orderStraightUptoRow : OpenClaim := { program := "ytclaoffnfopekaagreat", sum := "84afcd9bd842505c29c18ca3239bff22b98e749bde0ac7d12ea7e8c2ef829731", func := "matins/matinslaw16.OrderStraight", spec := "orderStraight", inPlace := ["internal/bytealg.IndexByteString", "internal/bytealg.IndexString"], unfollowed := true, recurses := true, named := ["internal/bytealg.MaxLen"], plainKeys := false, apart := false, narrowed := true }
def OrderStraightUptoSaid : Prop := orderStraightUptoRow.holds Tryz.pinned (OpenSpec.upto orderStraightSpec)

/-- 'matinslaw16.OrderMost', WHERE WHAT IT READS IS OF BULK AT MOST 1048576: true; the input reads as it did. -/
def orderMostUptoRow : OpenClaim := { program := "ytclaoffnfopekaagreat", sum := "84afcd9bd842505c29c18ca3239bff22b98e749bde0ac7d12ea7e8c2ef829731", func := "matins/matinslaw16.OrderMost", spec := "orderMost", inPlace := ["internal/bytealg.IndexByteString", "internal/bytealg.IndexString"], unfollowed := true, recurses := true, named := ["internal/bytealg.MaxLen"], plainKeys := false, apart := false, narrowed := true }
def OrderMostUptoSaid : Prop := orderMostUptoRow.holds Tryz.pinned (OpenSpec.upto orderMostSpec)

/-- 'matinslaw16.OrderRow', WHERE WHAT IT READS IS OF BULK AT MOST 1048576: true; the input reads as it did. -/
def orderRowUptoRow : OpenClaim := { program := "ytclaoffnfopekaagreat", sum := "84afcd9bd842505c29c18ca3239bff22b98e749bde0ac7d12ea7e8c2ef829731", func := "matins/matinslaw16.OrderRow", spec := "orderRow", inPlace := ["internal/bytealg.IndexByteString", "internal/bytealg.IndexString"], unfollowed := true, recurses := true, named := ["internal/bytealg.MaxLen"], plainKeys := false, apart := false, narrowed := true }
def OrderRowUptoSaid : Prop := orderRowUptoRow.holds Tryz.pinned (OpenSpec.upto orderRowSpec)

/-- 'matinslaw16.OrderBehind', WHERE WHAT IT READS IS OF BULK AT MOST 1048576: true; the input reads as it did. -/
def orderBehindUptoRow : OpenClaim := { program := "ytclaoffnfopekaagreat", sum := "84afcd9bd842505c29c18ca3239bff22b98e749bde0ac7d12ea7e8c2ef829731", func := "matins/matinslaw16.OrderBehind", spec := "orderBehind", inPlace := ["internal/bytealg.IndexByteString", "internal/bytealg.IndexString"], unfollowed := true, recurses := true, named := ["internal/bytealg.MaxLen"], plainKeys := false, apart := false, narrowed := true }
def OrderBehindUptoSaid : Prop := orderBehindUptoRow.holds Tryz.pinned (OpenSpec.upto orderBehindSpec)

/-- 'matinslaw16.OrderPut', WHERE WHAT IT READS IS OF BULK AT MOST 1048576: true; the input reads as it did. -/
def orderPutUptoRow : OpenClaim := { program := "ytclaoffnfopekaagreat", sum := "84afcd9bd842505c29c18ca3239bff22b98e749bde0ac7d12ea7e8c2ef829731", func := "matins/matinslaw16.OrderPut", spec := "orderPut", inPlace := ["internal/bytealg.IndexByteString", "internal/bytealg.IndexString"], unfollowed := true, recurses := true, named := ["internal/bytealg.MaxLen"], plainKeys := false, apart := false, narrowed := true }
def OrderPutUptoSaid : Prop := orderPutUptoRow.holds Tryz.pinned (OpenSpec.upto orderPutSpec)

end Rows
end Go.Proofs.YtclaoffnfopekaaGreat
