/-
  No cell of these rows narrows 'for every input' (looked for: loops, veiled, ifaces, maps, wideKeys, modest, calm, conditions, laid).
  DERIVED. THE GIVEN ROWS OF THIS SEAT. 10 by the template 'for every input the law returns true; each argument reads behind the call as it read before'; 0 by the template 'total and deterministic' (their statements: YtanfnejbnmenkaaGreatTotals.lean).
  GIVEN WITH THE SEED: the statements are not yours to turn. If you find one false, say at which input.
  Laid BY PROGRAM, IN A SANDBOX (cutbox-rows.mjs): the forced cells as the released guide's own fill.sh prints them over the translation eb50484bc9701f30… (all of the seat's roots in one cut). By AI agents, Wed Nov 11 2026. No macro, syntax, notation, axiom, sorry.
-/
import Derived.Test.YtanfnejbnmenkaaGreatChecked
import GoSem.Claim
import GoSem.ClaimJoined
import GoSem.ClaimMapViews
import Derived.JoinedTies
import Derived.KernelRfl
namespace Go.Proofs.YtanfnejbnmenkaaGreat
/- THE CELL 'sum', in the pinned program and in every row, IS THE sha256 OF THE DUMP (.gsa) THAT YtanfnejbnmenkaaGreatProg.lean LOADS. Nothing in Lean hashes anything: it is a label: what it is worth is what the hold of that sum in a sandbox is worth. -/
noncomputable def Tryz.pinned : Pinned := { name := "ytanfnejbnmenkaagreat", sum := "eb50484bc9701f309fb39e2b08e6b86beb57968670d6d7c6b40ec13f08bf945b", checked := Tryz.checked }
namespace Rows
def none {H : Type} : Left H := { results := [], args := [] }

/-- 'matinslaw20.QueueAsks': WHATEVER THE INPUT: true; the input reads as it did. -/
def queueAsksSpec : ChangeSpec := { name := "queueAsks", fn := fun _ => fun
  | [d1, d2, d3] => { results := [.lit (.bool true)], args := [d1, d2, d3] }
  | _ => none }
def queueAsksRow : OpenClaim := { program := "ytanfnejbnmenkaagreat", sum := "eb50484bc9701f309fb39e2b08e6b86beb57968670d6d7c6b40ec13f08bf945b", func := "matins/matinslaw20.QueueAsks", spec := "queueAsks", inPlace := ["internal/bytealg.IndexByteString", "internal/bytealg.IndexString"], unfollowed := true, recurses := true, named := ["internal/bytealg.MaxLen"], apart := false }
def QueueAsksSaid : Prop := queueAsksRow.holds Tryz.pinned (OpenSpec.ofChange queueAsksSpec)

/-- ITS FALSE NEIGHBOUR: 'it returns false'. Refute it at one input. -/
def queueAsksWrong : ChangeSpec := { name := "queueAsks", fn := fun _ => fun
  | [d1, d2, d3] => { results := [.lit (.bool false)], args := [d1, d2, d3] }
  | _ => none }
def QueueAsksWrongFalsely : Prop := queueAsksRow.holds Tryz.pinned (OpenSpec.ofChange queueAsksWrong)

/-- 'matinslaw20.QueueMoves': WHATEVER THE INPUT: true; the input reads as it did. -/
def queueMovesSpec : ChangeSpec := { name := "queueMoves", fn := fun _ => fun
  | [d1, d2, d3, d4] => { results := [.lit (.bool true)], args := [d1, d2, d3, d4] }
  | _ => none }
def queueMovesRow : OpenClaim := { program := "ytanfnejbnmenkaagreat", sum := "eb50484bc9701f309fb39e2b08e6b86beb57968670d6d7c6b40ec13f08bf945b", func := "matins/matinslaw20.QueueMoves", spec := "queueMoves", inPlace := ["internal/bytealg.IndexByteString", "internal/bytealg.IndexString"], unfollowed := true, recurses := true, named := ["internal/bytealg.MaxLen"], apart := false }
def QueueMovesSaid : Prop := queueMovesRow.holds Tryz.pinned (OpenSpec.ofChange queueMovesSpec)

/-- ITS FALSE NEIGHBOUR: 'it returns false'. Refute it at one input. -/
def queueMovesWrong : ChangeSpec := { name := "queueMoves", fn := fun _ => fun
  | [d1, d2, d3, d4] => { results := [.lit (.bool false)], args := [d1, d2, d3, d4] }
  | _ => none }
def QueueMovesWrongFalsely : Prop := queueMovesRow.holds Tryz.pinned (OpenSpec.ofChange queueMovesWrong)

/-- 'matinslaw20.QueueInstall': WHATEVER THE INPUT: true; the input reads as it did. -/
def queueInstallSpec : ChangeSpec := { name := "queueInstall", fn := fun _ => fun
  | [d1, d2, d3] => { results := [.lit (.bool true)], args := [d1, d2, d3] }
  | _ => none }
def queueInstallRow : OpenClaim := { program := "ytanfnejbnmenkaagreat", sum := "eb50484bc9701f309fb39e2b08e6b86beb57968670d6d7c6b40ec13f08bf945b", func := "matins/matinslaw20.QueueInstall", spec := "queueInstall", inPlace := ["internal/bytealg.IndexByteString", "internal/bytealg.IndexString"], unfollowed := true, recurses := true, named := ["internal/bytealg.MaxLen"], apart := false }
def QueueInstallSaid : Prop := queueInstallRow.holds Tryz.pinned (OpenSpec.ofChange queueInstallSpec)

/-- ITS FALSE NEIGHBOUR: 'it returns false'. Refute it at one input. -/
def queueInstallWrong : ChangeSpec := { name := "queueInstall", fn := fun _ => fun
  | [d1, d2, d3] => { results := [.lit (.bool false)], args := [d1, d2, d3] }
  | _ => none }
def QueueInstallWrongFalsely : Prop := queueInstallRow.holds Tryz.pinned (OpenSpec.ofChange queueInstallWrong)

/-- 'matinslaw20.QueueSound': WHATEVER THE INPUT: true; the input reads as it did. -/
def queueSoundSpec : ChangeSpec := { name := "queueSound", fn := fun _ => fun
  | [d1, d2, d3, d4, d5] => { results := [.lit (.bool true)], args := [d1, d2, d3, d4, d5] }
  | _ => none }
def queueSoundRow : OpenClaim := { program := "ytanfnejbnmenkaagreat", sum := "eb50484bc9701f309fb39e2b08e6b86beb57968670d6d7c6b40ec13f08bf945b", func := "matins/matinslaw20.QueueSound", spec := "queueSound", inPlace := ["internal/bytealg.IndexByteString", "internal/bytealg.IndexString"], unfollowed := true, recurses := true, named := ["internal/bytealg.MaxLen"], apart := false }
def QueueSoundSaid : Prop := queueSoundRow.holds Tryz.pinned (OpenSpec.ofChange queueSoundSpec)

/-- ITS FALSE NEIGHBOUR: 'it returns false'. Refute it at one input. -/
def queueSoundWrong : ChangeSpec := { name := "queueSound", fn := fun _ => fun
  | [d1, d2, d3, d4, d5] => { results := [.lit (.bool false)], args := [d1, d2, d3, d4, d5] }
  | _ => none }
def QueueSoundWrongFalsely : Prop := queueSoundRow.holds Tryz.pinned (OpenSpec.ofChange queueSoundWrong)

/-- 'matinslaw20.QueueNever': WHATEVER THE INPUT: true; the input reads as it did. -/
def queueNeverSpec : ChangeSpec := { name := "queueNever", fn := fun _ => fun
  | [d1, d2] => { results := [.lit (.bool true)], args := [d1, d2] }
  | _ => none }
def queueNeverRow : OpenClaim := { program := "ytanfnejbnmenkaagreat", sum := "eb50484bc9701f309fb39e2b08e6b86beb57968670d6d7c6b40ec13f08bf945b", func := "matins/matinslaw20.QueueNever", spec := "queueNever", inPlace := ["internal/bytealg.IndexByteString", "internal/bytealg.IndexString"], unfollowed := true, recurses := true, named := ["internal/bytealg.MaxLen"], apart := false }
def QueueNeverSaid : Prop := queueNeverRow.holds Tryz.pinned (OpenSpec.ofChange queueNeverSpec)

/-- ITS FALSE NEIGHBOUR: 'it returns false'. Refute it at one input. -/
def queueNeverWrong : ChangeSpec := { name := "queueNever", fn := fun _ => fun
  | [d1, d2] => { results := [.lit (.bool false)], args := [d1, d2] }
  | _ => none }
def QueueNeverWrongFalsely : Prop := queueNeverRow.holds Tryz.pinned (OpenSpec.ofChange queueNeverWrong)

/-- 'matinslaw20.QueueApart': WHATEVER THE INPUT: true; the input reads as it did. -/
def queueApartSpec : ChangeSpec := { name := "queueApart", fn := fun _ => fun
  | [d1, d2] => { results := [.lit (.bool true)], args := [d1, d2] }
  | _ => none }
def queueApartRow : OpenClaim := { program := "ytanfnejbnmenkaagreat", sum := "eb50484bc9701f309fb39e2b08e6b86beb57968670d6d7c6b40ec13f08bf945b", func := "matins/matinslaw20.QueueApart", spec := "queueApart", inPlace := ["internal/bytealg.IndexByteString", "internal/bytealg.IndexString"], unfollowed := true, recurses := true, named := ["internal/bytealg.MaxLen"], apart := false }
def QueueApartSaid : Prop := queueApartRow.holds Tryz.pinned (OpenSpec.ofChange queueApartSpec)

/-- ITS FALSE NEIGHBOUR: 'it returns false'. Refute it at one input. -/
def queueApartWrong : ChangeSpec := { name := "queueApart", fn := fun _ => fun
  | [d1, d2] => { results := [.lit (.bool false)], args := [d1, d2] }
  | _ => none }
def QueueApartWrongFalsely : Prop := queueApartRow.holds Tryz.pinned (OpenSpec.ofChange queueApartWrong)

/-- 'matinslaw20.QueueDiamond': WHATEVER THE INPUT: true; the input reads as it did. -/
def queueDiamondSpec : ChangeSpec := { name := "queueDiamond", fn := fun _ => fun
  | [d1, d2, d3, d4, d5] => { results := [.lit (.bool true)], args := [d1, d2, d3, d4, d5] }
  | _ => none }
def queueDiamondRow : OpenClaim := { program := "ytanfnejbnmenkaagreat", sum := "eb50484bc9701f309fb39e2b08e6b86beb57968670d6d7c6b40ec13f08bf945b", func := "matins/matinslaw20.QueueDiamond", spec := "queueDiamond", inPlace := ["internal/bytealg.IndexByteString", "internal/bytealg.IndexString"], unfollowed := true, recurses := true, named := ["internal/bytealg.MaxLen"], apart := false }
def QueueDiamondSaid : Prop := queueDiamondRow.holds Tryz.pinned (OpenSpec.ofChange queueDiamondSpec)

/-- ITS FALSE NEIGHBOUR: 'it returns false'. Refute it at one input. -/
def queueDiamondWrong : ChangeSpec := { name := "queueDiamond", fn := fun _ => fun
  | [d1, d2, d3, d4, d5] => { results := [.lit (.bool false)], args := [d1, d2, d3, d4, d5] }
  | _ => none }
def QueueDiamondWrongFalsely : Prop := queueDiamondRow.holds Tryz.pinned (OpenSpec.ofChange queueDiamondWrong)

/-- 'matinslaw20.QueueStops': WHATEVER THE INPUT: true; the input reads as it did. -/
def queueStopsSpec : ChangeSpec := { name := "queueStops", fn := fun _ => fun
  | [d1, d2, d3, d4] => { results := [.lit (.bool true)], args := [d1, d2, d3, d4] }
  | _ => none }
def queueStopsRow : OpenClaim := { program := "ytanfnejbnmenkaagreat", sum := "eb50484bc9701f309fb39e2b08e6b86beb57968670d6d7c6b40ec13f08bf945b", func := "matins/matinslaw20.QueueStops", spec := "queueStops", inPlace := ["internal/bytealg.IndexByteString", "internal/bytealg.IndexString"], unfollowed := true, recurses := true, named := ["internal/bytealg.MaxLen"], apart := false }
def QueueStopsSaid : Prop := queueStopsRow.holds Tryz.pinned (OpenSpec.ofChange queueStopsSpec)

/-- ITS FALSE NEIGHBOUR: 'it returns false'. Refute it at one input. -/
def queueStopsWrong : ChangeSpec := { name := "queueStops", fn := fun _ => fun
  | [d1, d2, d3, d4] => { results := [.lit (.bool false)], args := [d1, d2, d3, d4] }
  | _ => none }
def QueueStopsWrongFalsely : Prop := queueStopsRow.holds Tryz.pinned (OpenSpec.ofChange queueStopsWrong)

/-- 'matinslaw20.QueueAgain': WHATEVER THE INPUT: true; the input reads as it did. -/
def queueAgainSpec : ChangeSpec := { name := "queueAgain", fn := fun _ => fun
  | [d1, d2, d3] => { results := [.lit (.bool true)], args := [d1, d2, d3] }
  | _ => none }
def queueAgainRow : OpenClaim := { program := "ytanfnejbnmenkaagreat", sum := "eb50484bc9701f309fb39e2b08e6b86beb57968670d6d7c6b40ec13f08bf945b", func := "matins/matinslaw20.QueueAgain", spec := "queueAgain", inPlace := ["internal/bytealg.IndexByteString", "internal/bytealg.IndexString"], unfollowed := true, recurses := true, named := ["internal/bytealg.MaxLen"], apart := false }
def QueueAgainSaid : Prop := queueAgainRow.holds Tryz.pinned (OpenSpec.ofChange queueAgainSpec)

/-- ITS FALSE NEIGHBOUR: 'it returns false'. Refute it at one input. -/
def queueAgainWrong : ChangeSpec := { name := "queueAgain", fn := fun _ => fun
  | [d1, d2, d3] => { results := [.lit (.bool false)], args := [d1, d2, d3] }
  | _ => none }
def QueueAgainWrongFalsely : Prop := queueAgainRow.holds Tryz.pinned (OpenSpec.ofChange queueAgainWrong)

/-- 'matinslaw20.QueueCancels': WHATEVER THE INPUT: true; the input reads as it did. -/
def queueCancelsSpec : ChangeSpec := { name := "queueCancels", fn := fun _ => fun
  | [d1, d2] => { results := [.lit (.bool true)], args := [d1, d2] }
  | _ => none }
def queueCancelsRow : OpenClaim := { program := "ytanfnejbnmenkaagreat", sum := "eb50484bc9701f309fb39e2b08e6b86beb57968670d6d7c6b40ec13f08bf945b", func := "matins/matinslaw20.QueueCancels", spec := "queueCancels", inPlace := ["internal/bytealg.IndexByteString", "internal/bytealg.IndexString"], unfollowed := true, recurses := true, named := ["internal/bytealg.MaxLen"], apart := false }
def QueueCancelsSaid : Prop := queueCancelsRow.holds Tryz.pinned (OpenSpec.ofChange queueCancelsSpec)

/-- ITS FALSE NEIGHBOUR: 'it returns false'. Refute it at one input. -/
def queueCancelsWrong : ChangeSpec := { name := "queueCancels", fn := fun _ => fun
  | [d1, d2] => { results := [.lit (.bool false)], args := [d1, d2] }
  | _ => none }
def QueueCancelsWrongFalsely : Prop := queueCancelsRow.holds Tryz.pinned (OpenSpec.ofChange queueCancelsWrong)

/- THE SECOND FORM. 'bulk': how many values and letters a reading holds, each counted each time it is reached (what is shared counts as often as it is met; a slice's spare places count too). A statement '..UptoSaid' is the law's where the arguments, and the package variables that the reading takes, are together of bulk at most 1048576: NARROWER than '..Said'. Prove '..Said' where nothing that the law and all that it calls make is longer than what came in: it says more and counts as full. Else prove '..UptoSaid'. A law counts once. -/
mutual
def uptoBulk {H : Type} : DataW H → Nat
  | .lit (.string bytes) => bytes.length + 1
  | .lit _ => 1
  | .nil => 1
  | .ptr d => uptoBulk d + 1
  | .slice elems spare => uptoBulkAll elems + uptoBulkAll spare + 1
  | .agg parts => uptoBulkAll parts + 1
  | .iface _ d => uptoBulk d + 1
  | .map entries => uptoBulkEntries entries + 1
  | .held _ => 1
def uptoBulkAll {H : Type} : List (DataW H) → Nat
  | [] => 0
  | d :: r => uptoBulk d + uptoBulkAll r
def uptoBulkEntries {H : Type} : List (Lit × DataW H) → Nat
  | [] => 0
  | x :: r => uptoBulkEntry x + uptoBulkEntries r
def uptoBulkEntry {H : Type} : Lit × DataW H → Nat
  | (.string bytes, d) => bytes.length + uptoBulk d + 1
  | (_, d) => uptoBulk d + 1
 end
def uptoSmall : (H : Type) → List (DataW H) → Bool := fun _ ds => decide (uptoBulkAll ds ≤ 1048576)
def OpenSpec.upto (s : _root_.Go.ChangeSpec) : _root_.Go.OpenSpec := { _root_.Go.OpenSpec.ofChange s with cond := some uptoSmall }

/-- 'matinslaw20.QueueAsks', WHERE WHAT IT READS IS OF BULK AT MOST 1048576: true; the input reads as it did. -/
def queueAsksUptoRow : OpenClaim := { program := "ytanfnejbnmenkaagreat", sum := "eb50484bc9701f309fb39e2b08e6b86beb57968670d6d7c6b40ec13f08bf945b", func := "matins/matinslaw20.QueueAsks", spec := "queueAsks", inPlace := ["internal/bytealg.IndexByteString", "internal/bytealg.IndexString"], unfollowed := true, recurses := true, named := ["internal/bytealg.MaxLen"], apart := false, narrowed := true }
def QueueAsksUptoSaid : Prop := queueAsksUptoRow.holds Tryz.pinned (OpenSpec.upto queueAsksSpec)

/-- 'matinslaw20.QueueMoves', WHERE WHAT IT READS IS OF BULK AT MOST 1048576: true; the input reads as it did. -/
def queueMovesUptoRow : OpenClaim := { program := "ytanfnejbnmenkaagreat", sum := "eb50484bc9701f309fb39e2b08e6b86beb57968670d6d7c6b40ec13f08bf945b", func := "matins/matinslaw20.QueueMoves", spec := "queueMoves", inPlace := ["internal/bytealg.IndexByteString", "internal/bytealg.IndexString"], unfollowed := true, recurses := true, named := ["internal/bytealg.MaxLen"], apart := false, narrowed := true }
def QueueMovesUptoSaid : Prop := queueMovesUptoRow.holds Tryz.pinned (OpenSpec.upto queueMovesSpec)

/-- 'matinslaw20.QueueInstall', WHERE WHAT IT READS IS OF BULK AT MOST 1048576: true; the input reads as it did. -/
def queueInstallUptoRow : OpenClaim := { program := "ytanfnejbnmenkaagreat", sum := "eb50484bc9701f309fb39e2b08e6b86beb57968670d6d7c6b40ec13f08bf945b", func := "matins/matinslaw20.QueueInstall", spec := "queueInstall", inPlace := ["internal/bytealg.IndexByteString", "internal/bytealg.IndexString"], unfollowed := true, recurses := true, named := ["internal/bytealg.MaxLen"], apart := false, narrowed := true }
def QueueInstallUptoSaid : Prop := queueInstallUptoRow.holds Tryz.pinned (OpenSpec.upto queueInstallSpec)

/-- 'matinslaw20.QueueSound', WHERE WHAT IT READS IS OF BULK AT MOST 1048576: true; the input reads as it did. -/
def queueSoundUptoRow : OpenClaim := { program := "ytanfnejbnmenkaagreat", sum := "eb50484bc9701f309fb39e2b08e6b86beb57968670d6d7c6b40ec13f08bf945b", func := "matins/matinslaw20.QueueSound", spec := "queueSound", inPlace := ["internal/bytealg.IndexByteString", "internal/bytealg.IndexString"], unfollowed := true, recurses := true, named := ["internal/bytealg.MaxLen"], apart := false, narrowed := true }
def QueueSoundUptoSaid : Prop := queueSoundUptoRow.holds Tryz.pinned (OpenSpec.upto queueSoundSpec)

/-- 'matinslaw20.QueueNever', WHERE WHAT IT READS IS OF BULK AT MOST 1048576: true; the input reads as it did. -/
def queueNeverUptoRow : OpenClaim := { program := "ytanfnejbnmenkaagreat", sum := "eb50484bc9701f309fb39e2b08e6b86beb57968670d6d7c6b40ec13f08bf945b", func := "matins/matinslaw20.QueueNever", spec := "queueNever", inPlace := ["internal/bytealg.IndexByteString", "internal/bytealg.IndexString"], unfollowed := true, recurses := true, named := ["internal/bytealg.MaxLen"], apart := false, narrowed := true }
def QueueNeverUptoSaid : Prop := queueNeverUptoRow.holds Tryz.pinned (OpenSpec.upto queueNeverSpec)

/-- 'matinslaw20.QueueApart', WHERE WHAT IT READS IS OF BULK AT MOST 1048576: true; the input reads as it did. -/
def queueApartUptoRow : OpenClaim := { program := "ytanfnejbnmenkaagreat", sum := "eb50484bc9701f309fb39e2b08e6b86beb57968670d6d7c6b40ec13f08bf945b", func := "matins/matinslaw20.QueueApart", spec := "queueApart", inPlace := ["internal/bytealg.IndexByteString", "internal/bytealg.IndexString"], unfollowed := true, recurses := true, named := ["internal/bytealg.MaxLen"], apart := false, narrowed := true }
def QueueApartUptoSaid : Prop := queueApartUptoRow.holds Tryz.pinned (OpenSpec.upto queueApartSpec)

/-- 'matinslaw20.QueueDiamond', WHERE WHAT IT READS IS OF BULK AT MOST 1048576: true; the input reads as it did. -/
def queueDiamondUptoRow : OpenClaim := { program := "ytanfnejbnmenkaagreat", sum := "eb50484bc9701f309fb39e2b08e6b86beb57968670d6d7c6b40ec13f08bf945b", func := "matins/matinslaw20.QueueDiamond", spec := "queueDiamond", inPlace := ["internal/bytealg.IndexByteString", "internal/bytealg.IndexString"], unfollowed := true, recurses := true, named := ["internal/bytealg.MaxLen"], apart := false, narrowed := true }
def QueueDiamondUptoSaid : Prop := queueDiamondUptoRow.holds Tryz.pinned (OpenSpec.upto queueDiamondSpec)

/-- 'matinslaw20.QueueStops', WHERE WHAT IT READS IS OF BULK AT MOST 1048576: true; the input reads as it did. -/
def queueStopsUptoRow : OpenClaim := { program := "ytanfnejbnmenkaagreat", sum := "eb50484bc9701f309fb39e2b08e6b86beb57968670d6d7c6b40ec13f08bf945b", func := "matins/matinslaw20.QueueStops", spec := "queueStops", inPlace := ["internal/bytealg.IndexByteString", "internal/bytealg.IndexString"], unfollowed := true, recurses := true, named := ["internal/bytealg.MaxLen"], apart := false, narrowed := true }
def QueueStopsUptoSaid : Prop := queueStopsUptoRow.holds Tryz.pinned (OpenSpec.upto queueStopsSpec)

/-- 'matinslaw20.QueueAgain', WHERE WHAT IT READS IS OF BULK AT MOST 1048576: true; the input reads as it did. -/
def queueAgainUptoRow : OpenClaim := { program := "ytanfnejbnmenkaagreat", sum := "eb50484bc9701f309fb39e2b08e6b86beb57968670d6d7c6b40ec13f08bf945b", func := "matins/matinslaw20.QueueAgain", spec := "queueAgain", inPlace := ["internal/bytealg.IndexByteString", "internal/bytealg.IndexString"], unfollowed := true, recurses := true, named := ["internal/bytealg.MaxLen"], apart := false, narrowed := true }
def QueueAgainUptoSaid : Prop := queueAgainUptoRow.holds Tryz.pinned (OpenSpec.upto queueAgainSpec)

/-- 'matinslaw20.QueueCancels', WHERE WHAT IT READS IS OF BULK AT MOST 1048576: true; the input reads as it did. -/
def queueCancelsUptoRow : OpenClaim := { program := "ytanfnejbnmenkaagreat", sum := "eb50484bc9701f309fb39e2b08e6b86beb57968670d6d7c6b40ec13f08bf945b", func := "matins/matinslaw20.QueueCancels", spec := "queueCancels", inPlace := ["internal/bytealg.IndexByteString", "internal/bytealg.IndexString"], unfollowed := true, recurses := true, named := ["internal/bytealg.MaxLen"], apart := false, narrowed := true }
def QueueCancelsUptoSaid : Prop := queueCancelsUptoRow.holds Tryz.pinned (OpenSpec.upto queueCancelsSpec)

end Rows
end Go.Proofs.YtanfnejbnmenkaaGreat
