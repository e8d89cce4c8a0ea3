/-
  No cell of these rows narrows 'for every input' (looked for: loops, veiled, ifaces, maps, wideKeys, modest, calm, conditions, laid).
  DERIVED. THE GIVEN ROWS OF THIS SEAT. 12 by the template 'for every input the law returns true; each argument reads behind the call as it read before'; 0 by the template 'total and deterministic' (their statements: YtbllehjhmfehbaaGreatTotals.lean).
  GIVEN WITH THE SEED: the statements are not yours to turn. If you find one false, say at which input.
  Laid BY PROGRAM, IN A SANDBOX (cutbox-rows.mjs): the forced cells as the released guide's own fill.sh prints them over the translation 7e5b7323ae07d8b1… (all of the seat's roots in one cut). By AI agents, Wed Nov 11 2026. No macro, syntax, notation, axiom, sorry.
-/
import Derived.Test.YtbllehjhmfehbaaGreatChecked
import GoSem.Claim
import GoSem.ClaimJoined
import GoSem.ClaimMapViews
import Derived.JoinedTies
import Derived.KernelRfl
namespace Go.Proofs.YtbllehjhmfehbaaGreat
/- THE CELL 'sum', in the pinned program and in every row, IS THE sha256 OF THE DUMP (.gsa) THAT YtbllehjhmfehbaaGreatProg.lean LOADS. Nothing in Lean hashes anything: it is a label: what it is worth is what the hold of that sum in a sandbox is worth. -/
noncomputable def Tryz.pinned : Pinned := { name := "ytbllehjhmfehbaagreat", sum := "7e5b7323ae07d8b19705d3ec48a3d03a1ee7635a7b7844975e74e1e6e43aac90", checked := Tryz.checked }
namespace Rows
def none {H : Type} : Left H := { results := [], args := [] }

/-- 'matinslaw17.PullAll': WHATEVER THE INPUT: true; the input reads as it did. -/
def pullAllSpec : ChangeSpec := { name := "pullAll", fn := fun _ => fun
  | [d1, d2, d3, d4, d5] => { results := [.lit (.bool true)], args := [d1, d2, d3, d4, d5] }
  | _ => none }
def pullAllRow : OpenClaim := { program := "ytbllehjhmfehbaagreat", sum := "7e5b7323ae07d8b19705d3ec48a3d03a1ee7635a7b7844975e74e1e6e43aac90", func := "matins/matinslaw17.PullAll", spec := "pullAll", inPlace := ["internal/bytealg.IndexByteString", "internal/bytealg.IndexString"], unfollowed := true, recurses := true, named := ["internal/bytealg.MaxLen"], plainKeys := false, apart := false }
def PullAllSaid : Prop := pullAllRow.holds Tryz.pinned (OpenSpec.ofChange pullAllSpec)

/-- ITS FALSE NEIGHBOUR: 'it returns false'. Refute it at one input. -/
def pullAllWrong : ChangeSpec := { name := "pullAll", fn := fun _ => fun
  | [d1, d2, d3, d4, d5] => { results := [.lit (.bool false)], args := [d1, d2, d3, d4, d5] }
  | _ => none }
def PullAllWrongFalsely : Prop := pullAllRow.holds Tryz.pinned (OpenSpec.ofChange pullAllWrong)

/-- 'matinslaw17.PullBy': WHATEVER THE INPUT: true; the input reads as it did. -/
def pullBySpec : ChangeSpec := { name := "pullBy", fn := fun _ => fun
  | [d1, d2, d3, d4] => { results := [.lit (.bool true)], args := [d1, d2, d3, d4] }
  | _ => none }
def pullByRow : OpenClaim := { program := "ytbllehjhmfehbaagreat", sum := "7e5b7323ae07d8b19705d3ec48a3d03a1ee7635a7b7844975e74e1e6e43aac90", func := "matins/matinslaw17.PullBy", spec := "pullBy", inPlace := ["internal/bytealg.IndexByteString", "internal/bytealg.IndexString"], unfollowed := true, recurses := true, named := ["internal/bytealg.MaxLen"], plainKeys := false, apart := false }
def PullBySaid : Prop := pullByRow.holds Tryz.pinned (OpenSpec.ofChange pullBySpec)

/-- ITS FALSE NEIGHBOUR: 'it returns false'. Refute it at one input. -/
def pullByWrong : ChangeSpec := { name := "pullBy", fn := fun _ => fun
  | [d1, d2, d3, d4] => { results := [.lit (.bool false)], args := [d1, d2, d3, d4] }
  | _ => none }
def PullByWrongFalsely : Prop := pullByRow.holds Tryz.pinned (OpenSpec.ofChange pullByWrong)

/-- 'matinslaw17.PullLess': WHATEVER THE INPUT: true; the input reads as it did. -/
def pullLessSpec : ChangeSpec := { name := "pullLess", fn := fun _ => fun
  | [d1, d2, d3, d4, d5] => { results := [.lit (.bool true)], args := [d1, d2, d3, d4, d5] }
  | _ => none }
def pullLessRow : OpenClaim := { program := "ytbllehjhmfehbaagreat", sum := "7e5b7323ae07d8b19705d3ec48a3d03a1ee7635a7b7844975e74e1e6e43aac90", func := "matins/matinslaw17.PullLess", spec := "pullLess", inPlace := ["internal/bytealg.IndexByteString", "internal/bytealg.IndexString"], unfollowed := true, recurses := true, named := ["internal/bytealg.MaxLen"], plainKeys := false, apart := false }
def PullLessSaid : Prop := pullLessRow.holds Tryz.pinned (OpenSpec.ofChange pullLessSpec)

/-- ITS FALSE NEIGHBOUR: 'it returns false'. Refute it at one input. -/
def pullLessWrong : ChangeSpec := { name := "pullLess", fn := fun _ => fun
  | [d1, d2, d3, d4, d5] => { results := [.lit (.bool false)], args := [d1, d2, d3, d4, d5] }
  | _ => none }
def PullLessWrongFalsely : Prop := pullLessRow.holds Tryz.pinned (OpenSpec.ofChange pullLessWrong)

/-- 'matinslaw17.PullClosed': WHATEVER THE INPUT: true; the input reads as it did. -/
def pullClosedSpec : ChangeSpec := { name := "pullClosed", fn := fun _ => fun
  | [d1, d2, d3, d4] => { results := [.lit (.bool true)], args := [d1, d2, d3, d4] }
  | _ => none }
def pullClosedRow : OpenClaim := { program := "ytbllehjhmfehbaagreat", sum := "7e5b7323ae07d8b19705d3ec48a3d03a1ee7635a7b7844975e74e1e6e43aac90", func := "matins/matinslaw17.PullClosed", spec := "pullClosed", inPlace := ["internal/bytealg.IndexByteString", "internal/bytealg.IndexString"], unfollowed := true, recurses := true, named := ["internal/bytealg.MaxLen"], plainKeys := false, apart := false }
def PullClosedSaid : Prop := pullClosedRow.holds Tryz.pinned (OpenSpec.ofChange pullClosedSpec)

/-- ITS FALSE NEIGHBOUR: 'it returns false'. Refute it at one input. -/
def pullClosedWrong : ChangeSpec := { name := "pullClosed", fn := fun _ => fun
  | [d1, d2, d3, d4] => { results := [.lit (.bool false)], args := [d1, d2, d3, d4] }
  | _ => none }
def PullClosedWrongFalsely : Prop := pullClosedRow.holds Tryz.pinned (OpenSpec.ofChange pullClosedWrong)

/-- 'matinslaw17.PullMore': WHATEVER THE INPUT: true; the input reads as it did. -/
def pullMoreSpec : ChangeSpec := { name := "pullMore", fn := fun _ => fun
  | [d1, d2, d3, d4, d5] => { results := [.lit (.bool true)], args := [d1, d2, d3, d4, d5] }
  | _ => none }
def pullMoreRow : OpenClaim := { program := "ytbllehjhmfehbaagreat", sum := "7e5b7323ae07d8b19705d3ec48a3d03a1ee7635a7b7844975e74e1e6e43aac90", func := "matins/matinslaw17.PullMore", spec := "pullMore", inPlace := ["internal/bytealg.IndexByteString", "internal/bytealg.IndexString"], unfollowed := true, recurses := true, named := ["internal/bytealg.MaxLen"], plainKeys := false, apart := false }
def PullMoreSaid : Prop := pullMoreRow.holds Tryz.pinned (OpenSpec.ofChange pullMoreSpec)

/-- ITS FALSE NEIGHBOUR: 'it returns false'. Refute it at one input. -/
def pullMoreWrong : ChangeSpec := { name := "pullMore", fn := fun _ => fun
  | [d1, d2, d3, d4, d5] => { results := [.lit (.bool false)], args := [d1, d2, d3, d4, d5] }
  | _ => none }
def PullMoreWrongFalsely : Prop := pullMoreRow.holds Tryz.pinned (OpenSpec.ofChange pullMoreWrong)

/-- 'matinslaw17.PullStart': WHATEVER THE INPUT: true; the input reads as it did. -/
def pullStartSpec : ChangeSpec := { name := "pullStart", fn := fun _ => fun
  | [d1, d2, d3] => { results := [.lit (.bool true)], args := [d1, d2, d3] }
  | _ => none }
def pullStartRow : OpenClaim := { program := "ytbllehjhmfehbaagreat", sum := "7e5b7323ae07d8b19705d3ec48a3d03a1ee7635a7b7844975e74e1e6e43aac90", func := "matins/matinslaw17.PullStart", spec := "pullStart", inPlace := ["internal/bytealg.IndexByteString", "internal/bytealg.IndexString"], unfollowed := true, recurses := true, named := ["internal/bytealg.MaxLen"], plainKeys := false, apart := false }
def PullStartSaid : Prop := pullStartRow.holds Tryz.pinned (OpenSpec.ofChange pullStartSpec)

/-- ITS FALSE NEIGHBOUR: 'it returns false'. Refute it at one input. -/
def pullStartWrong : ChangeSpec := { name := "pullStart", fn := fun _ => fun
  | [d1, d2, d3] => { results := [.lit (.bool false)], args := [d1, d2, d3] }
  | _ => none }
def PullStartWrongFalsely : Prop := pullStartRow.holds Tryz.pinned (OpenSpec.ofChange pullStartWrong)

/-- 'matinslaw19.TransAll': WHATEVER THE INPUT: true; the input reads as it did. -/
def transAllSpec : ChangeSpec := { name := "transAll", fn := fun _ => fun
  | [d1, d2, d3, d4] => { results := [.lit (.bool true)], args := [d1, d2, d3, d4] }
  | _ => none }
def transAllRow : OpenClaim := { program := "ytbllehjhmfehbaagreat", sum := "7e5b7323ae07d8b19705d3ec48a3d03a1ee7635a7b7844975e74e1e6e43aac90", func := "matins/matinslaw19.TransAll", spec := "transAll", inPlace := ["internal/bytealg.IndexByteString", "internal/bytealg.IndexString"], unfollowed := true, recurses := true, named := ["internal/bytealg.MaxLen"], plainKeys := false, apart := false }
def TransAllSaid : Prop := transAllRow.holds Tryz.pinned (OpenSpec.ofChange transAllSpec)

/-- ITS FALSE NEIGHBOUR: 'it returns false'. Refute it at one input. -/
def transAllWrong : ChangeSpec := { name := "transAll", fn := fun _ => fun
  | [d1, d2, d3, d4] => { results := [.lit (.bool false)], args := [d1, d2, d3, d4] }
  | _ => none }
def TransAllWrongFalsely : Prop := transAllRow.holds Tryz.pinned (OpenSpec.ofChange transAllWrong)

/-- 'matinslaw19.TransOne': WHATEVER THE INPUT: true; the input reads as it did. -/
def transOneSpec : ChangeSpec := { name := "transOne", fn := fun _ => fun
  | [d1, d2, d3, d4] => { results := [.lit (.bool true)], args := [d1, d2, d3, d4] }
  | _ => none }
def transOneRow : OpenClaim := { program := "ytbllehjhmfehbaagreat", sum := "7e5b7323ae07d8b19705d3ec48a3d03a1ee7635a7b7844975e74e1e6e43aac90", func := "matins/matinslaw19.TransOne", spec := "transOne", inPlace := ["internal/bytealg.IndexByteString", "internal/bytealg.IndexString"], unfollowed := true, recurses := true, named := ["internal/bytealg.MaxLen"], plainKeys := false, apart := false }
def TransOneSaid : Prop := transOneRow.holds Tryz.pinned (OpenSpec.ofChange transOneSpec)

/-- ITS FALSE NEIGHBOUR: 'it returns false'. Refute it at one input. -/
def transOneWrong : ChangeSpec := { name := "transOne", fn := fun _ => fun
  | [d1, d2, d3, d4] => { results := [.lit (.bool false)], args := [d1, d2, d3, d4] }
  | _ => none }
def TransOneWrongFalsely : Prop := transOneRow.holds Tryz.pinned (OpenSpec.ofChange transOneWrong)

/-- 'matinslaw19.TransNeeds': WHATEVER THE INPUT: true; the input reads as it did. -/
def transNeedsSpec : ChangeSpec := { name := "transNeeds", fn := fun _ => fun
  | [d1, d2, d3, d4] => { results := [.lit (.bool true)], args := [d1, d2, d3, d4] }
  | _ => none }
def transNeedsRow : OpenClaim := { program := "ytbllehjhmfehbaagreat", sum := "7e5b7323ae07d8b19705d3ec48a3d03a1ee7635a7b7844975e74e1e6e43aac90", func := "matins/matinslaw19.TransNeeds", spec := "transNeeds", inPlace := ["internal/bytealg.IndexByteString", "internal/bytealg.IndexString"], unfollowed := true, recurses := true, named := ["internal/bytealg.MaxLen"], plainKeys := false, apart := false }
def TransNeedsSaid : Prop := transNeedsRow.holds Tryz.pinned (OpenSpec.ofChange transNeedsSpec)

/-- ITS FALSE NEIGHBOUR: 'it returns false'. Refute it at one input. -/
def transNeedsWrong : ChangeSpec := { name := "transNeeds", fn := fun _ => fun
  | [d1, d2, d3, d4] => { results := [.lit (.bool false)], args := [d1, d2, d3, d4] }
  | _ => none }
def TransNeedsWrongFalsely : Prop := transNeedsRow.holds Tryz.pinned (OpenSpec.ofChange transNeedsWrong)

/-- 'matinslaw19.TransBrought': WHATEVER THE INPUT: true; the input reads as it did. -/
def transBroughtSpec : ChangeSpec := { name := "transBrought", fn := fun _ => fun
  | [d1, d2, d3, d4] => { results := [.lit (.bool true)], args := [d1, d2, d3, d4] }
  | _ => none }
def transBroughtRow : OpenClaim := { program := "ytbllehjhmfehbaagreat", sum := "7e5b7323ae07d8b19705d3ec48a3d03a1ee7635a7b7844975e74e1e6e43aac90", func := "matins/matinslaw19.TransBrought", spec := "transBrought", inPlace := ["internal/bytealg.IndexByteString", "internal/bytealg.IndexString"], unfollowed := true, recurses := true, named := ["internal/bytealg.MaxLen"], plainKeys := false, apart := false }
def TransBroughtSaid : Prop := transBroughtRow.holds Tryz.pinned (OpenSpec.ofChange transBroughtSpec)

/-- ITS FALSE NEIGHBOUR: 'it returns false'. Refute it at one input. -/
def transBroughtWrong : ChangeSpec := { name := "transBrought", fn := fun _ => fun
  | [d1, d2, d3, d4] => { results := [.lit (.bool false)], args := [d1, d2, d3, d4] }
  | _ => none }
def TransBroughtWrongFalsely : Prop := transBroughtRow.holds Tryz.pinned (OpenSpec.ofChange transBroughtWrong)

/-- 'matinslaw16.OrderStraight': WHATEVER THE INPUT: true; the input reads as it did. -/
def orderStraightSpec : ChangeSpec := { name := "orderStraight", fn := fun _ => fun
  | [d] => { results := [.lit (.bool true)], args := [d] }
  | _ => none }
def orderStraightRow : OpenClaim := { program := "ytbllehjhmfehbaagreat", sum := "7e5b7323ae07d8b19705d3ec48a3d03a1ee7635a7b7844975e74e1e6e43aac90", func := "matins/matinslaw16.OrderStraight", spec := "orderStraight", inPlace := ["internal/bytealg.IndexByteString", "internal/bytealg.IndexString"], unfollowed := true, recurses := true, named := ["internal/bytealg.MaxLen"], plainKeys := false, apart := false }
def OrderStraightSaid : Prop := orderStraightRow.holds Tryz.pinned (OpenSpec.ofChange orderStraightSpec)

/-- ITS FALSE NEIGHBOUR: 'it returns false'. Refute it at one input. -/
def orderStraightWrong : ChangeSpec := { name := "orderStraight", fn := fun _ => fun
  | [d] => { results := [.lit (.bool false)], args := [d] }
  | _ => none }
def OrderStraightWrongFalsely : Prop := orderStraightRow.holds Tryz.pinned (OpenSpec.ofChange orderStraightWrong)

/-- 'matinslaw16.OrderPut': WHATEVER THE INPUT: true; the input reads as it did. -/
def orderPutSpec : ChangeSpec := { name := "orderPut", fn := fun _ => fun
  | [d1, d2, d3] => { results := [.lit (.bool true)], args := [d1, d2, d3] }
  | _ => none }
def orderPutRow : OpenClaim := { program := "ytbllehjhmfehbaagreat", sum := "7e5b7323ae07d8b19705d3ec48a3d03a1ee7635a7b7844975e74e1e6e43aac90", func := "matins/matinslaw16.OrderPut", spec := "orderPut", inPlace := ["internal/bytealg.IndexByteString", "internal/bytealg.IndexString"], unfollowed := true, recurses := true, named := ["internal/bytealg.MaxLen"], plainKeys := false, apart := false }
def OrderPutSaid : Prop := orderPutRow.holds Tryz.pinned (OpenSpec.ofChange orderPutSpec)

/-- ITS FALSE NEIGHBOUR: 'it returns false'. Refute it at one input. -/
def orderPutWrong : ChangeSpec := { name := "orderPut", fn := fun _ => fun
  | [d1, d2, d3] => { results := [.lit (.bool false)], args := [d1, d2, d3] }
  | _ => none }
def OrderPutWrongFalsely : Prop := orderPutRow.holds Tryz.pinned (OpenSpec.ofChange orderPutWrong)

/- THE SECOND FORM. 'bulk': how many values and letters a reading holds, each counted each time it is reached (what is shared counts as often as it is met; a slice's spare places count too). A statement '..UptoSaid' is the law's where the arguments, and the package variables that the reading takes, are together of bulk at most 1048576: NARROWER than '..Said'. Prove '..Said' where nothing that the law and all that it calls make is longer than what came in: it says more and counts as full. Else prove '..UptoSaid'. A law counts once. -/
mutual
def uptoBulk {H : Type} : DataW H → Nat
  | .lit (.string bytes) => bytes.length + 1
  | .lit _ => 1
  | .nil => 1
  | .ptr d => uptoBulk d + 1
  | .slice elems spare => uptoBulkAll elems + uptoBulkAll spare + 1
  | .agg parts => uptoBulkAll parts + 1
  | .iface _ d => uptoBulk d + 1
  | .map entries => uptoBulkEntries entries + 1
  | .held _ => 1
def uptoBulkAll {H : Type} : List (DataW H) → Nat
  | [] => 0
  | d :: r => uptoBulk d + uptoBulkAll r
def uptoBulkEntries {H : Type} : List (Lit × DataW H) → Nat
  | [] => 0
  | x :: r => uptoBulkEntry x + uptoBulkEntries r
def uptoBulkEntry {H : Type} : Lit × DataW H → Nat
  | (.string bytes, d) => bytes.length + uptoBulk d + 1
  | (_, d) => uptoBulk d + 1
 end
def uptoSmall : (H : Type) → List (DataW H) → Bool := fun _ ds => decide (uptoBulkAll ds ≤ 1048576)
def OpenSpec.upto (s : _root_.Go.ChangeSpec) : _root_.Go.OpenSpec := { _root_.Go.OpenSpec.ofChange s with cond := some uptoSmall }

/-- 'matinslaw17.PullAll', WHERE WHAT IT READS IS OF BULK AT MOST 1048576: true; the input reads as it did. -/
def pullAllUptoRow : OpenClaim := { program := "ytbllehjhmfehbaagreat", sum := "7e5b7323ae07d8b19705d3ec48a3d03a1ee7635a7b7844975e74e1e6e43aac90", func := "matins/matinslaw17.PullAll", spec := "pullAll", inPlace := ["internal/bytealg.IndexByteString", "internal/bytealg.IndexString"], unfollowed := true, recurses := true, named := ["internal/bytealg.MaxLen"], plainKeys := false, apart := false, narrowed := true }
def PullAllUptoSaid : Prop := pullAllUptoRow.holds Tryz.pinned (OpenSpec.upto pullAllSpec)

/-- 'matinslaw17.PullBy', WHERE WHAT IT READS IS OF BULK AT MOST 1048576: true; the input reads as it did. -/
def pullByUptoRow : OpenClaim := { program := "ytbllehjhmfehbaagreat", sum := "7e5b7323ae07d8b19705d3ec48a3d03a1ee7635a7b7844975e74e1e6e43aac90", func := "matins/matinslaw17.PullBy", spec := "pullBy", inPlace := ["internal/bytealg.IndexByteString", "internal/bytealg.IndexString"], unfollowed := true, recurses := true, named := ["internal/bytealg.MaxLen"], plainKeys := false, apart := false, narrowed := true }
def PullByUptoSaid : Prop := pullByUptoRow.holds Tryz.pinned (OpenSpec.upto pullBySpec)

/-- 'matinslaw17.PullLess', WHERE WHAT IT READS IS OF BULK AT MOST 1048576: true; the input reads as it did. -/
def pullLessUptoRow : OpenClaim := { program := "ytbllehjhmfehbaagreat", sum := "7e5b7323ae07d8b19705d3ec48a3d03a1ee7635a7b7844975e74e1e6e43aac90", func := "matins/matinslaw17.PullLess", spec := "pullLess", inPlace := ["internal/bytealg.IndexByteString", "internal/bytealg.IndexString"], unfollowed := true, recurses := true, named := ["internal/bytealg.MaxLen"], plainKeys := false, apart := false, narrowed := true }
def PullLessUptoSaid : Prop := pullLessUptoRow.holds Tryz.pinned (OpenSpec.upto pullLessSpec)

/-- 'matinslaw17.PullClosed', WHERE WHAT IT READS IS OF BULK AT MOST 1048576: true; the input reads as it did. -/
def pullClosedUptoRow : OpenClaim := { program := "ytbllehjhmfehbaagreat", sum := "7e5b7323ae07d8b19705d3ec48a3d03a1ee7635a7b7844975e74e1e6e43aac90", func := "matins/matinslaw17.PullClosed", spec := "pullClosed", inPlace := ["internal/bytealg.IndexByteString", "internal/bytealg.IndexString"], unfollowed := true, recurses := true, named := ["internal/bytealg.MaxLen"], plainKeys := false, apart := false, narrowed := true }
def PullClosedUptoSaid : Prop := pullClosedUptoRow.holds Tryz.pinned (OpenSpec.upto pullClosedSpec)

/-- 'matinslaw17.PullMore', WHERE WHAT IT READS IS OF BULK AT MOST 1048576: true; the input reads as it did. -/
def pullMoreUptoRow : OpenClaim := { program := "ytbllehjhmfehbaagreat", sum := "7e5b7323ae07d8b19705d3ec48a3d03a1ee7635a7b7844975e74e1e6e43aac90", func := "matins/matinslaw17.PullMore", spec := "pullMore", inPlace := ["internal/bytealg.IndexByteString", "internal/bytealg.IndexString"], unfollowed := true, recurses := true, named := ["internal/bytealg.MaxLen"], plainKeys := false, apart := false, narrowed := true }
def PullMoreUptoSaid : Prop := pullMoreUptoRow.holds Tryz.pinned (OpenSpec.upto pullMoreSpec)

/-- 'matinslaw17.PullStart', WHERE WHAT IT READS IS OF BULK AT MOST 1048576: true; the input reads as it did. -/
def pullStartUptoRow : OpenClaim := { program := "ytbllehjhmfehbaagreat", sum := "7e5b7323ae07d8b19705d3ec48a3d03a1ee7635a7b7844975e74e1e6e43aac90", func := "matins/matinslaw17.PullStart", spec := "pullStart", inPlace := ["internal/bytealg.IndexByteString", "internal/bytealg.IndexString"], unfollowed := true, recurses := true, named := ["internal/bytealg.MaxLen"], plainKeys := false, apart := false, narrowed := true }
def PullStartUptoSaid : Prop := pullStartUptoRow.holds Tryz.pinned (OpenSpec.upto pullStartSpec)

/-- 'matinslaw19.TransAll', WHERE WHAT IT READS IS OF BULK AT MOST 1048576: true; the input reads as it did. -/
def transAllUptoRow : OpenClaim := { program := "ytbllehjhmfehbaagreat", sum := "7e5b7323ae07d8b19705d3ec48a3d03a1ee7635a7b7844975e74e1e6e43aac90", func := "matins/matinslaw19.TransAll", spec := "transAll", inPlace := ["internal/bytealg.IndexByteString", "internal/bytealg.IndexString"], unfollowed := true, recurses := true, named := ["internal/bytealg.MaxLen"], plainKeys := false, apart := false, narrowed := true }
def TransAllUptoSaid : Prop := transAllUptoRow.holds Tryz.pinned (OpenSpec.upto transAllSpec)

/-- 'matinslaw19.TransOne', WHERE WHAT IT READS IS OF BULK AT MOST 1048576: true; the input reads as it did. -/
def transOneUptoRow : OpenClaim := { program := "ytbllehjhmfehbaagreat", sum := "7e5b7323ae07d8b19705d3ec48a3d03a1ee7635a7b7844975e74e1e6e43aac90", func := "matins/matinslaw19.TransOne", spec := "transOne", inPlace := ["internal/bytealg.IndexByteString", "internal/bytealg.IndexString"], unfollowed := true, recurses := true, named := ["internal/bytealg.MaxLen"], plainKeys := false, apart := false, narrowed := true }
def TransOneUptoSaid : Prop := transOneUptoRow.holds Tryz.pinned (OpenSpec.upto transOneSpec)

/-- 'matinslaw19.TransNeeds', WHERE WHAT IT READS IS OF BULK AT MOST 1048576: true; the input reads as it did. -/
def transNeedsUptoRow : OpenClaim := { program := "ytbllehjhmfehbaagreat", sum := "7e5b7323ae07d8b19705d3ec48a3d03a1ee7635a7b7844975e74e1e6e43aac90", func := "matins/matinslaw19.TransNeeds", spec := "transNeeds", inPlace := ["internal/bytealg.IndexByteString", "internal/bytealg.IndexString"], unfollowed := true, recurses := true, named := ["internal/bytealg.MaxLen"], plainKeys := false, apart := false, narrowed := true }
def TransNeedsUptoSaid : Prop := transNeedsUptoRow.holds Tryz.pinned (OpenSpec.upto transNeedsSpec)

/-- 'matinslaw19.TransBrought', WHERE WHAT IT READS IS OF BULK AT MOST 1048576: true; the input reads as it did. -/
def transBroughtUptoRow : OpenClaim := { program := "ytbllehjhmfehbaagreat", sum := "7e5b7323ae07d8b19705d3ec48a3d03a1ee7635a7b7844975e74e1e6e43aac90", func := "matins/matinslaw19.TransBrought", spec := "transBrought", inPlace := ["internal/bytealg.IndexByteString", "internal/bytealg.IndexString"], unfollowed := true, recurses := true, named := ["internal/bytealg.MaxLen"], plainKeys := false, apart := false, narrowed := true }
def TransBroughtUptoSaid : Prop := transBroughtUptoRow.holds Tryz.pinned (OpenSpec.upto transBroughtSpec)

/-- 'matinslaw16.OrderStraight', WHERE WHAT IT READS IS OF BULK AT MOST 1048576: true; the input reads as it did. -/
def orderStraightUptoRow : OpenClaim := { program := "ytbllehjhmfehbaagreat", sum := "7e5b7323ae07d8b19705d3ec48a3d03a1ee7635a7b7844975e74e1e6e43aac90", func := "matins/matinslaw16.OrderStraight", spec := "orderStraight", inPlace := ["internal/bytealg.IndexByteString", "internal/bytealg.IndexString"], unfollowed := true, recurses := true, named := ["internal/bytealg.MaxLen"], plainKeys := false, apart := false, narrowed := true }
def OrderStraightUptoSaid : Prop := orderStraightUptoRow.holds Tryz.pinned (OpenSpec.upto orderStraightSpec)

/-- 'matinslaw16.OrderPut', WHERE WHAT IT READS IS OF BULK AT MOST 1048576: true; the input reads as it did. -/
def orderPutUptoRow : OpenClaim := { program := "ytbllehjhmfehbaagreat", sum := "7e5b7323ae07d8b19705d3ec48a3d03a1ee7635a7b7844975e74e1e6e43aac90", func := "matins/matinslaw16.OrderPut", spec := "orderPut", inPlace := ["internal/bytealg.IndexByteString", "internal/bytealg.IndexString"], unfollowed := true, recurses := true, named := ["internal/bytealg.MaxLen"], plainKeys := false, apart := false, narrowed := true }
def OrderPutUptoSaid : Prop := orderPutUptoRow.holds Tryz.pinned (OpenSpec.upto orderPutSpec)

end Rows
end Go.Proofs.YtbllehjhmfehbaaGreat
