/-
  No cell of these rows narrows 'for every input' (looked for: loops, veiled, ifaces, maps, wideKeys, modest, calm, conditions, laid).
  DERIVED. THE GIVEN ROWS OF THIS SEAT. 7 by the template 'for every input the law returns true; each argument reads behind the call as it read before'; 0 by the template 'total and deterministic' (their statements: YtdcbapheoagelaaTotals.lean).
  GIVEN WITH THE SEED: the statements are not yours to turn. If you find one false, say at which input.
  Laid BY PROGRAM, IN A SANDBOX (cutbox-rows.mjs): the forced cells as the released guide's own fill.sh prints them over the translation 7d9c44a6e14ea211… (all of the seat's roots in one cut). By AI agents, Wed Nov 11 2026. No macro, syntax, notation, axiom, sorry.
-/
import Derived.Test.YtdcbapheoagelaaChecked
import GoSem.Claim
import GoSem.ClaimJoined
import GoSem.ClaimMapViews
import Derived.JoinedTies
import Derived.KernelRfl
namespace Go.Proofs.Ytdcbapheoagelaa
/- THE CELL 'sum', in the pinned program and in every row, IS THE sha256 OF THE DUMP (.gsa) THAT YtdcbapheoagelaaProg.lean LOADS. Nothing in Lean hashes anything: it is a label: what it is worth is what the hold of that sum in a sandbox is worth. -/
noncomputable def Try.pinned : Pinned := { name := "ytdcbapheoagelaa", sum := "7d9c44a6e14ea211f064953af9aa79e9eebed7ca6e855692968c7d99005bfa53", checked := Try.checked }
namespace Rows
def none {H : Type} : Left H := { results := [], args := [] }

/-- 'matinslaw18.PairAll': WHATEVER THE INPUT: true; the input reads as it did. -/
def pairAllSpec : ChangeSpec := { name := "pairAll", fn := fun _ => fun
  | [d1, d2, d3, d4, d5] => { results := [.lit (.bool true)], args := [d1, d2, d3, d4, d5] }
  | _ => none }
def pairAllRow : OpenClaim := { program := "ytdcbapheoagelaa", sum := "7d9c44a6e14ea211f064953af9aa79e9eebed7ca6e855692968c7d99005bfa53", func := "matins/matinslaw18.PairAll", spec := "pairAll", apart := false }
def PairAllSaid : Prop := pairAllRow.holds Try.pinned (OpenSpec.ofChange pairAllSpec)

/-- ITS FALSE NEIGHBOUR: 'it returns false'. Refute it at one input. -/
def pairAllWrong : ChangeSpec := { name := "pairAll", fn := fun _ => fun
  | [d1, d2, d3, d4, d5] => { results := [.lit (.bool false)], args := [d1, d2, d3, d4, d5] }
  | _ => none }
def PairAllWrongFalsely : Prop := pairAllRow.holds Try.pinned (OpenSpec.ofChange pairAllWrong)

/-- 'matinslaw18.PairLaws': WHATEVER THE INPUT: true; the input reads as it did. -/
def pairLawsSpec : ChangeSpec := { name := "pairLaws", fn := fun _ => fun
  | [d1, d2, d3, d4] => { results := [.lit (.bool true)], args := [d1, d2, d3, d4] }
  | _ => none }
def pairLawsRow : OpenClaim := { program := "ytdcbapheoagelaa", sum := "7d9c44a6e14ea211f064953af9aa79e9eebed7ca6e855692968c7d99005bfa53", func := "matins/matinslaw18.PairLaws", spec := "pairLaws", apart := false }
def PairLawsSaid : Prop := pairLawsRow.holds Try.pinned (OpenSpec.ofChange pairLawsSpec)

/-- ITS FALSE NEIGHBOUR: 'it returns false'. Refute it at one input. -/
def pairLawsWrong : ChangeSpec := { name := "pairLaws", fn := fun _ => fun
  | [d1, d2, d3, d4] => { results := [.lit (.bool false)], args := [d1, d2, d3, d4] }
  | _ => none }
def PairLawsWrongFalsely : Prop := pairLawsRow.holds Try.pinned (OpenSpec.ofChange pairLawsWrong)

/-- 'matinslaw18.PairSettle': WHATEVER THE INPUT: true; the input reads as it did. -/
def pairSettleSpec : ChangeSpec := { name := "pairSettle", fn := fun _ => fun
  | [d1, d2] => { results := [.lit (.bool true)], args := [d1, d2] }
  | _ => none }
def pairSettleRow : OpenClaim := { program := "ytdcbapheoagelaa", sum := "7d9c44a6e14ea211f064953af9aa79e9eebed7ca6e855692968c7d99005bfa53", func := "matins/matinslaw18.PairSettle", spec := "pairSettle", apart := false }
def PairSettleSaid : Prop := pairSettleRow.holds Try.pinned (OpenSpec.ofChange pairSettleSpec)

/-- ITS FALSE NEIGHBOUR: 'it returns false'. Refute it at one input. -/
def pairSettleWrong : ChangeSpec := { name := "pairSettle", fn := fun _ => fun
  | [d1, d2] => { results := [.lit (.bool false)], args := [d1, d2] }
  | _ => none }
def PairSettleWrongFalsely : Prop := pairSettleRow.holds Try.pinned (OpenSpec.ofChange pairSettleWrong)

/-- 'matinslaw25.LimitAll': WHATEVER THE INPUT: true; the input reads as it did. -/
def limitAllSpec : ChangeSpec := { name := "limitAll", fn := fun _ => fun
  | [d1, d2, d3, d4] => { results := [.lit (.bool true)], args := [d1, d2, d3, d4] }
  | _ => none }
def limitAllRow : OpenClaim := { program := "ytdcbapheoagelaa", sum := "7d9c44a6e14ea211f064953af9aa79e9eebed7ca6e855692968c7d99005bfa53", func := "matins/matinslaw25.LimitAll", spec := "limitAll", unfollowed := true, recurses := true, apart := false }
def LimitAllSaid : Prop := limitAllRow.holds Try.pinned (OpenSpec.ofChange limitAllSpec)

/-- ITS FALSE NEIGHBOUR: 'it returns false'. Refute it at one input. -/
def limitAllWrong : ChangeSpec := { name := "limitAll", fn := fun _ => fun
  | [d1, d2, d3, d4] => { results := [.lit (.bool false)], args := [d1, d2, d3, d4] }
  | _ => none }
def LimitAllWrongFalsely : Prop := limitAllRow.holds Try.pinned (OpenSpec.ofChange limitAllWrong)

/-- 'matinslaw25.LimitFree': WHATEVER THE INPUT: true; the input reads as it did. -/
def limitFreeSpec : ChangeSpec := { name := "limitFree", fn := fun _ => fun
  | [d1, d2, d3, d4, d5] => { results := [.lit (.bool true)], args := [d1, d2, d3, d4, d5] }
  | _ => none }
def limitFreeRow : OpenClaim := { program := "ytdcbapheoagelaa", sum := "7d9c44a6e14ea211f064953af9aa79e9eebed7ca6e855692968c7d99005bfa53", func := "matins/matinslaw25.LimitFree", spec := "limitFree", unfollowed := true, recurses := true, apart := false }
def LimitFreeSaid : Prop := limitFreeRow.holds Try.pinned (OpenSpec.ofChange limitFreeSpec)

/-- ITS FALSE NEIGHBOUR: 'it returns false'. Refute it at one input. -/
def limitFreeWrong : ChangeSpec := { name := "limitFree", fn := fun _ => fun
  | [d1, d2, d3, d4, d5] => { results := [.lit (.bool false)], args := [d1, d2, d3, d4, d5] }
  | _ => none }
def LimitFreeWrongFalsely : Prop := limitFreeRow.holds Try.pinned (OpenSpec.ofChange limitFreeWrong)

/-- 'matinslaw25.LimitNever': WHATEVER THE INPUT: true; the input reads as it did. -/
def limitNeverSpec : ChangeSpec := { name := "limitNever", fn := fun _ => fun
  | [d1, d2, d3, d4] => { results := [.lit (.bool true)], args := [d1, d2, d3, d4] }
  | _ => none }
def limitNeverRow : OpenClaim := { program := "ytdcbapheoagelaa", sum := "7d9c44a6e14ea211f064953af9aa79e9eebed7ca6e855692968c7d99005bfa53", func := "matins/matinslaw25.LimitNever", spec := "limitNever", unfollowed := true, recurses := true, apart := false }
def LimitNeverSaid : Prop := limitNeverRow.holds Try.pinned (OpenSpec.ofChange limitNeverSpec)

/-- ITS FALSE NEIGHBOUR: 'it returns false'. Refute it at one input. -/
def limitNeverWrong : ChangeSpec := { name := "limitNever", fn := fun _ => fun
  | [d1, d2, d3, d4] => { results := [.lit (.bool false)], args := [d1, d2, d3, d4] }
  | _ => none }
def LimitNeverWrongFalsely : Prop := limitNeverRow.holds Try.pinned (OpenSpec.ofChange limitNeverWrong)

/-- 'matinslaw25.LimitMore': WHATEVER THE INPUT: true; the input reads as it did. -/
def limitMoreSpec : ChangeSpec := { name := "limitMore", fn := fun _ => fun
  | [d1, d2, d3, d4, d5, d6] => { results := [.lit (.bool true)], args := [d1, d2, d3, d4, d5, d6] }
  | _ => none }
def limitMoreRow : OpenClaim := { program := "ytdcbapheoagelaa", sum := "7d9c44a6e14ea211f064953af9aa79e9eebed7ca6e855692968c7d99005bfa53", func := "matins/matinslaw25.LimitMore", spec := "limitMore", unfollowed := true, recurses := true, apart := false }
def LimitMoreSaid : Prop := limitMoreRow.holds Try.pinned (OpenSpec.ofChange limitMoreSpec)

/-- ITS FALSE NEIGHBOUR: 'it returns false'. Refute it at one input. -/
def limitMoreWrong : ChangeSpec := { name := "limitMore", fn := fun _ => fun
  | [d1, d2, d3, d4, d5, d6] => { results := [.lit (.bool false)], args := [d1, d2, d3, d4, d5, d6] }
  | _ => none }
def LimitMoreWrongFalsely : Prop := limitMoreRow.holds Try.pinned (OpenSpec.ofChange limitMoreWrong)

/- THE SECOND FORM. 'bulk': how many values and letters a reading holds, each counted each time it is reached (what is shared counts as often as it is met; a slice's spare places count too). A statement '..UptoSaid' is the law's where the arguments, and the package variables that the reading takes, are together of bulk at most 1048576: NARROWER than '..Said'. Prove '..Said' where nothing that the law and all that it calls make is longer than what came in: it says more and counts as full. Else prove '..UptoSaid'. A law counts once. -/
mutual
def uptoBulk {H : Type} : DataW H → Nat
  | .lit (.string bytes) => bytes.length + 1
  | .lit _ => 1
  | .nil => 1
  | .ptr d => uptoBulk d + 1
  | .slice elems spare => uptoBulkAll elems + uptoBulkAll spare + 1
  | .agg parts => uptoBulkAll parts + 1
  | .iface _ d => uptoBulk d + 1
  | .map entries => uptoBulkEntries entries + 1
  | .held _ => 1
def uptoBulkAll {H : Type} : List (DataW H) → Nat
  | [] => 0
  | d :: r => uptoBulk d + uptoBulkAll r
def uptoBulkEntries {H : Type} : List (Lit × DataW H) → Nat
  | [] => 0
  | x :: r => uptoBulkEntry x + uptoBulkEntries r
def uptoBulkEntry {H : Type} : Lit × DataW H → Nat
  | (.string bytes, d) => bytes.length + uptoBulk d + 1
  | (_, d) => uptoBulk d + 1
 end
def uptoSmall : (H : Type) → List (DataW H) → Bool := fun _ ds => decide (uptoBulkAll ds ≤ 1048576)
def OpenSpec.upto (s : _root_.Go.ChangeSpec) : _root_.Go.OpenSpec := { _root_.Go.OpenSpec.ofChange s with cond := some uptoSmall }

/-- 'matinslaw18.PairAll', WHERE WHAT IT READS IS OF BULK AT MOST 1048576: true; the input reads as it did. -/
def pairAllUptoRow : OpenClaim := { program := "ytdcbapheoagelaa", sum := "7d9c44a6e14ea211f064953af9aa79e9eebed7ca6e855692968c7d99005bfa53", func := "matins/matinslaw18.PairAll", spec := "pairAll", apart := false, narrowed := true }
def PairAllUptoSaid : Prop := pairAllUptoRow.holds Try.pinned (OpenSpec.upto pairAllSpec)

/-- 'matinslaw18.PairLaws', WHERE WHAT IT READS IS OF BULK AT MOST 1048576: true; the input reads as it did. -/
def pairLawsUptoRow : OpenClaim := { program := "ytdcbapheoagelaa", sum := "7d9c44a6e14ea211f064953af9aa79e9eebed7ca6e855692968c7d99005bfa53", func := "matins/matinslaw18.PairLaws", spec := "pairLaws", apart := false, narrowed := true }
def PairLawsUptoSaid : Prop := pairLawsUptoRow.holds Try.pinned (OpenSpec.upto pairLawsSpec)

/-- 'matinslaw18.PairSettle', WHERE WHAT IT READS IS OF BULK AT MOST 1048576: true; the input reads as it did. -/
def pairSettleUptoRow : OpenClaim := { program := "ytdcbapheoagelaa", sum := "7d9c44a6e14ea211f064953af9aa79e9eebed7ca6e855692968c7d99005bfa53", func := "matins/matinslaw18.PairSettle", spec := "pairSettle", apart := false, narrowed := true }
def PairSettleUptoSaid : Prop := pairSettleUptoRow.holds Try.pinned (OpenSpec.upto pairSettleSpec)

/-- 'matinslaw25.LimitAll', WHERE WHAT IT READS IS OF BULK AT MOST 1048576: true; the input reads as it did. -/
def limitAllUptoRow : OpenClaim := { program := "ytdcbapheoagelaa", sum := "7d9c44a6e14ea211f064953af9aa79e9eebed7ca6e855692968c7d99005bfa53", func := "matins/matinslaw25.LimitAll", spec := "limitAll", unfollowed := true, recurses := true, apart := false, narrowed := true }
def LimitAllUptoSaid : Prop := limitAllUptoRow.holds Try.pinned (OpenSpec.upto limitAllSpec)

/-- 'matinslaw25.LimitFree', WHERE WHAT IT READS IS OF BULK AT MOST 1048576: true; the input reads as it did. -/
def limitFreeUptoRow : OpenClaim := { program := "ytdcbapheoagelaa", sum := "7d9c44a6e14ea211f064953af9aa79e9eebed7ca6e855692968c7d99005bfa53", func := "matins/matinslaw25.LimitFree", spec := "limitFree", unfollowed := true, recurses := true, apart := false, narrowed := true }
def LimitFreeUptoSaid : Prop := limitFreeUptoRow.holds Try.pinned (OpenSpec.upto limitFreeSpec)

/-- 'matinslaw25.LimitNever', WHERE WHAT IT READS IS OF BULK AT MOST 1048576: true; the input reads as it did. -/
def limitNeverUptoRow : OpenClaim := { program := "ytdcbapheoagelaa", sum := "7d9c44a6e14ea211f064953af9aa79e9eebed7ca6e855692968c7d99005bfa53", func := "matins/matinslaw25.LimitNever", spec := "limitNever", unfollowed := true, recurses := true, apart := false, narrowed := true }
def LimitNeverUptoSaid : Prop := limitNeverUptoRow.holds Try.pinned (OpenSpec.upto limitNeverSpec)

/-- 'matinslaw25.LimitMore', WHERE WHAT IT READS IS OF BULK AT MOST 1048576: true; the input reads as it did. -/
def limitMoreUptoRow : OpenClaim := { program := "ytdcbapheoagelaa", sum := "7d9c44a6e14ea211f064953af9aa79e9eebed7ca6e855692968c7d99005bfa53", func := "matins/matinslaw25.LimitMore", spec := "limitMore", unfollowed := true, recurses := true, apart := false, narrowed := true }
def LimitMoreUptoSaid : Prop := limitMoreUptoRow.holds Try.pinned (OpenSpec.upto limitMoreSpec)

end Rows
end Go.Proofs.Ytdcbapheoagelaa
