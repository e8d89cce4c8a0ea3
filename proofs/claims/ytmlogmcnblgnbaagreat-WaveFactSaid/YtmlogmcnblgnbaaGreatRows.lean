/-
  No cell of these rows narrows 'for every input' (looked for: loops, veiled, ifaces, maps, wideKeys, modest, calm, conditions, laid).
  DERIVED. THE GIVEN ROWS OF THIS SEAT. 12 by the template 'for every input the law returns true; each argument reads behind the call as it read before'; 0 by the template 'total and deterministic' (their statements: YtmlogmcnblgnbaaGreatTotals.lean).
  GIVEN WITH THE SEED: the statements are not yours to turn. If you find one false, say at which input.
  Laid BY PROGRAM, IN A SANDBOX (cutbox-rows.mjs): the forced cells as the released guide's own fill.sh prints them over the translation 6eb01128d68cb644… (all of the seat's roots in one cut). By AI agents, Wed Nov 11 2026. No macro, syntax, notation, axiom, sorry.
-/
import Derived.Test.YtmlogmcnblgnbaaGreatChecked
import GoSem.Claim
import GoSem.ClaimJoined
import GoSem.ClaimMapViews
import Derived.JoinedTies
import Derived.KernelRfl
namespace Go.Proofs.YtmlogmcnblgnbaaGreat
/- THE CELL 'sum', in the pinned program and in every row, IS THE sha256 OF THE DUMP (.gsa) THAT YtmlogmcnblgnbaaGreatProg.lean LOADS. Nothing in Lean hashes anything: it is a label: what it is worth is what the hold of that sum in a sandbox is worth. -/
noncomputable def Tryz.pinned : Pinned := { name := "ytmlogmcnblgnbaagreat", sum := "6eb01128d68cb6448bda705240c5b584800ddf7bbf799a7a709717a3d1fb846c", checked := Tryz.checked }
namespace Rows
def none {H : Type} : Left H := { results := [], args := [] }

/-- 'matinslaw21.WaveSteps': WHATEVER THE INPUT: true; the input reads as it did. -/
def waveStepsSpec : ChangeSpec := { name := "waveSteps", fn := fun _ => fun
  | [d1, d2, d3, d4] => { results := [.lit (.bool true)], args := [d1, d2, d3, d4] }
  | _ => none }
def waveStepsRow : OpenClaim := { program := "ytmlogmcnblgnbaagreat", sum := "6eb01128d68cb6448bda705240c5b584800ddf7bbf799a7a709717a3d1fb846c", func := "matins/matinslaw21.WaveSteps", spec := "waveSteps", inPlace := ["internal/bytealg.IndexByteString", "internal/bytealg.IndexString"], unfollowed := true, recurses := true, named := ["internal/bytealg.MaxLen"], apart := false }
def WaveStepsSaid : Prop := waveStepsRow.holds Tryz.pinned (OpenSpec.ofChange waveStepsSpec)

/-- ITS FALSE NEIGHBOUR: 'it returns false'. Refute it at one input. -/
def waveStepsWrong : ChangeSpec := { name := "waveSteps", fn := fun _ => fun
  | [d1, d2, d3, d4] => { results := [.lit (.bool false)], args := [d1, d2, d3, d4] }
  | _ => none }
def WaveStepsWrongFalsely : Prop := waveStepsRow.holds Tryz.pinned (OpenSpec.ofChange waveStepsWrong)

/-- 'matinslaw21.WaveRun': WHATEVER THE INPUT: true; the input reads as it did. -/
def waveRunSpec : ChangeSpec := { name := "waveRun", fn := fun _ => fun
  | [d1, d2, d3, d4] => { results := [.lit (.bool true)], args := [d1, d2, d3, d4] }
  | _ => none }
def waveRunRow : OpenClaim := { program := "ytmlogmcnblgnbaagreat", sum := "6eb01128d68cb6448bda705240c5b584800ddf7bbf799a7a709717a3d1fb846c", func := "matins/matinslaw21.WaveRun", spec := "waveRun", inPlace := ["internal/bytealg.IndexByteString", "internal/bytealg.IndexString"], unfollowed := true, recurses := true, named := ["internal/bytealg.MaxLen"], apart := false }
def WaveRunSaid : Prop := waveRunRow.holds Tryz.pinned (OpenSpec.ofChange waveRunSpec)

/-- ITS FALSE NEIGHBOUR: 'it returns false'. Refute it at one input. -/
def waveRunWrong : ChangeSpec := { name := "waveRun", fn := fun _ => fun
  | [d1, d2, d3, d4] => { results := [.lit (.bool false)], args := [d1, d2, d3, d4] }
  | _ => none }
def WaveRunWrongFalsely : Prop := waveRunRow.holds Tryz.pinned (OpenSpec.ofChange waveRunWrong)

/-- 'matinslaw21.WaveFact': WHATEVER THE INPUT: true; the input reads as it did. -/
def waveFactSpec : ChangeSpec := { name := "waveFact", fn := fun _ => fun
  | [d1, d2, d3] => { results := [.lit (.bool true)], args := [d1, d2, d3] }
  | _ => none }
def waveFactRow : OpenClaim := { program := "ytmlogmcnblgnbaagreat", sum := "6eb01128d68cb6448bda705240c5b584800ddf7bbf799a7a709717a3d1fb846c", func := "matins/matinslaw21.WaveFact", spec := "waveFact", inPlace := ["internal/bytealg.IndexByteString", "internal/bytealg.IndexString"], unfollowed := true, recurses := true, named := ["internal/bytealg.MaxLen"], apart := false }
def WaveFactSaid : Prop := waveFactRow.holds Tryz.pinned (OpenSpec.ofChange waveFactSpec)

/-- ITS FALSE NEIGHBOUR: 'it returns false'. Refute it at one input. -/
def waveFactWrong : ChangeSpec := { name := "waveFact", fn := fun _ => fun
  | [d1, d2, d3] => { results := [.lit (.bool false)], args := [d1, d2, d3] }
  | _ => none }
def WaveFactWrongFalsely : Prop := waveFactRow.holds Tryz.pinned (OpenSpec.ofChange waveFactWrong)

/-- 'matinslaw21.WaveOne': WHATEVER THE INPUT: true; the input reads as it did. -/
def waveOneSpec : ChangeSpec := { name := "waveOne", fn := fun _ => fun
  | [d1, d2, d3, d4] => { results := [.lit (.bool true)], args := [d1, d2, d3, d4] }
  | _ => none }
def waveOneRow : OpenClaim := { program := "ytmlogmcnblgnbaagreat", sum := "6eb01128d68cb6448bda705240c5b584800ddf7bbf799a7a709717a3d1fb846c", func := "matins/matinslaw21.WaveOne", spec := "waveOne", inPlace := ["internal/bytealg.IndexByteString", "internal/bytealg.IndexString"], unfollowed := true, recurses := true, named := ["internal/bytealg.MaxLen"], apart := false }
def WaveOneSaid : Prop := waveOneRow.holds Tryz.pinned (OpenSpec.ofChange waveOneSpec)

/-- ITS FALSE NEIGHBOUR: 'it returns false'. Refute it at one input. -/
def waveOneWrong : ChangeSpec := { name := "waveOne", fn := fun _ => fun
  | [d1, d2, d3, d4] => { results := [.lit (.bool false)], args := [d1, d2, d3, d4] }
  | _ => none }
def WaveOneWrongFalsely : Prop := waveOneRow.holds Tryz.pinned (OpenSpec.ofChange waveOneWrong)

/-- 'matinslaw21.WaveTwo': WHATEVER THE INPUT: true; the input reads as it did. -/
def waveTwoSpec : ChangeSpec := { name := "waveTwo", fn := fun _ => fun
  | [d1, d2, d3, d4, d5] => { results := [.lit (.bool true)], args := [d1, d2, d3, d4, d5] }
  | _ => none }
def waveTwoRow : OpenClaim := { program := "ytmlogmcnblgnbaagreat", sum := "6eb01128d68cb6448bda705240c5b584800ddf7bbf799a7a709717a3d1fb846c", func := "matins/matinslaw21.WaveTwo", spec := "waveTwo", inPlace := ["internal/bytealg.IndexByteString", "internal/bytealg.IndexString"], unfollowed := true, recurses := true, named := ["internal/bytealg.MaxLen"], apart := false }
def WaveTwoSaid : Prop := waveTwoRow.holds Tryz.pinned (OpenSpec.ofChange waveTwoSpec)

/-- ITS FALSE NEIGHBOUR: 'it returns false'. Refute it at one input. -/
def waveTwoWrong : ChangeSpec := { name := "waveTwo", fn := fun _ => fun
  | [d1, d2, d3, d4, d5] => { results := [.lit (.bool false)], args := [d1, d2, d3, d4, d5] }
  | _ => none }
def WaveTwoWrongFalsely : Prop := waveTwoRow.holds Tryz.pinned (OpenSpec.ofChange waveTwoWrong)

/-- 'matinslaw21.WaveAhead': WHATEVER THE INPUT: true; the input reads as it did. -/
def waveAheadSpec : ChangeSpec := { name := "waveAhead", fn := fun _ => fun
  | [d1, d2, d3, d4] => { results := [.lit (.bool true)], args := [d1, d2, d3, d4] }
  | _ => none }
def waveAheadRow : OpenClaim := { program := "ytmlogmcnblgnbaagreat", sum := "6eb01128d68cb6448bda705240c5b584800ddf7bbf799a7a709717a3d1fb846c", func := "matins/matinslaw21.WaveAhead", spec := "waveAhead", inPlace := ["internal/bytealg.IndexByteString", "internal/bytealg.IndexString"], unfollowed := true, recurses := true, named := ["internal/bytealg.MaxLen"], apart := false }
def WaveAheadSaid : Prop := waveAheadRow.holds Tryz.pinned (OpenSpec.ofChange waveAheadSpec)

/-- ITS FALSE NEIGHBOUR: 'it returns false'. Refute it at one input. -/
def waveAheadWrong : ChangeSpec := { name := "waveAhead", fn := fun _ => fun
  | [d1, d2, d3, d4] => { results := [.lit (.bool false)], args := [d1, d2, d3, d4] }
  | _ => none }
def WaveAheadWrongFalsely : Prop := waveAheadRow.holds Tryz.pinned (OpenSpec.ofChange waveAheadWrong)

/-- 'matinslaw21.WaveNeeds': WHATEVER THE INPUT: true; the input reads as it did. -/
def waveNeedsSpec : ChangeSpec := { name := "waveNeeds", fn := fun _ => fun
  | [d1, d2, d3, d4] => { results := [.lit (.bool true)], args := [d1, d2, d3, d4] }
  | _ => none }
def waveNeedsRow : OpenClaim := { program := "ytmlogmcnblgnbaagreat", sum := "6eb01128d68cb6448bda705240c5b584800ddf7bbf799a7a709717a3d1fb846c", func := "matins/matinslaw21.WaveNeeds", spec := "waveNeeds", inPlace := ["internal/bytealg.IndexByteString", "internal/bytealg.IndexString"], unfollowed := true, recurses := true, named := ["internal/bytealg.MaxLen"], apart := false }
def WaveNeedsSaid : Prop := waveNeedsRow.holds Tryz.pinned (OpenSpec.ofChange waveNeedsSpec)

/-- ITS FALSE NEIGHBOUR: 'it returns false'. Refute it at one input. -/
def waveNeedsWrong : ChangeSpec := { name := "waveNeeds", fn := fun _ => fun
  | [d1, d2, d3, d4] => { results := [.lit (.bool false)], args := [d1, d2, d3, d4] }
  | _ => none }
def WaveNeedsWrongFalsely : Prop := waveNeedsRow.holds Tryz.pinned (OpenSpec.ofChange waveNeedsWrong)

/-- 'matinslaw21.WaveFails': WHATEVER THE INPUT: true; the input reads as it did. -/
def waveFailsSpec : ChangeSpec := { name := "waveFails", fn := fun _ => fun
  | [d1, d2, d3, d4] => { results := [.lit (.bool true)], args := [d1, d2, d3, d4] }
  | _ => none }
def waveFailsRow : OpenClaim := { program := "ytmlogmcnblgnbaagreat", sum := "6eb01128d68cb6448bda705240c5b584800ddf7bbf799a7a709717a3d1fb846c", func := "matins/matinslaw21.WaveFails", spec := "waveFails", inPlace := ["internal/bytealg.IndexByteString", "internal/bytealg.IndexString"], unfollowed := true, recurses := true, named := ["internal/bytealg.MaxLen"], apart := false }
def WaveFailsSaid : Prop := waveFailsRow.holds Tryz.pinned (OpenSpec.ofChange waveFailsSpec)

/-- ITS FALSE NEIGHBOUR: 'it returns false'. Refute it at one input. -/
def waveFailsWrong : ChangeSpec := { name := "waveFails", fn := fun _ => fun
  | [d1, d2, d3, d4] => { results := [.lit (.bool false)], args := [d1, d2, d3, d4] }
  | _ => none }
def WaveFailsWrongFalsely : Prop := waveFailsRow.holds Tryz.pinned (OpenSpec.ofChange waveFailsWrong)

/-- 'matinslaw21.WavePart': WHATEVER THE INPUT: true; the input reads as it did. -/
def wavePartSpec : ChangeSpec := { name := "wavePart", fn := fun _ => fun
  | [d1, d2, d3, d4] => { results := [.lit (.bool true)], args := [d1, d2, d3, d4] }
  | _ => none }
def wavePartRow : OpenClaim := { program := "ytmlogmcnblgnbaagreat", sum := "6eb01128d68cb6448bda705240c5b584800ddf7bbf799a7a709717a3d1fb846c", func := "matins/matinslaw21.WavePart", spec := "wavePart", inPlace := ["internal/bytealg.IndexByteString", "internal/bytealg.IndexString"], unfollowed := true, recurses := true, named := ["internal/bytealg.MaxLen"], apart := false }
def WavePartSaid : Prop := wavePartRow.holds Tryz.pinned (OpenSpec.ofChange wavePartSpec)

/-- ITS FALSE NEIGHBOUR: 'it returns false'. Refute it at one input. -/
def wavePartWrong : ChangeSpec := { name := "wavePart", fn := fun _ => fun
  | [d1, d2, d3, d4] => { results := [.lit (.bool false)], args := [d1, d2, d3, d4] }
  | _ => none }
def WavePartWrongFalsely : Prop := wavePartRow.holds Tryz.pinned (OpenSpec.ofChange wavePartWrong)

/-- 'matinslaw21.WaveSplit': WHATEVER THE INPUT: true; the input reads as it did. -/
def waveSplitSpec : ChangeSpec := { name := "waveSplit", fn := fun _ => fun
  | [d1, d2, d3, d4, d5, d6] => { results := [.lit (.bool true)], args := [d1, d2, d3, d4, d5, d6] }
  | _ => none }
def waveSplitRow : OpenClaim := { program := "ytmlogmcnblgnbaagreat", sum := "6eb01128d68cb6448bda705240c5b584800ddf7bbf799a7a709717a3d1fb846c", func := "matins/matinslaw21.WaveSplit", spec := "waveSplit", inPlace := ["internal/bytealg.IndexByteString", "internal/bytealg.IndexString"], unfollowed := true, recurses := true, named := ["internal/bytealg.MaxLen"], apart := false }
def WaveSplitSaid : Prop := waveSplitRow.holds Tryz.pinned (OpenSpec.ofChange waveSplitSpec)

/-- ITS FALSE NEIGHBOUR: 'it returns false'. Refute it at one input. -/
def waveSplitWrong : ChangeSpec := { name := "waveSplit", fn := fun _ => fun
  | [d1, d2, d3, d4, d5, d6] => { results := [.lit (.bool false)], args := [d1, d2, d3, d4, d5, d6] }
  | _ => none }
def WaveSplitWrongFalsely : Prop := waveSplitRow.holds Tryz.pinned (OpenSpec.ofChange waveSplitWrong)

/-- 'matinslaw21.WaveOthers': WHATEVER THE INPUT: true; the input reads as it did. -/
def waveOthersSpec : ChangeSpec := { name := "waveOthers", fn := fun _ => fun
  | [d1, d2, d3, d4, d5] => { results := [.lit (.bool true)], args := [d1, d2, d3, d4, d5] }
  | _ => none }
def waveOthersRow : OpenClaim := { program := "ytmlogmcnblgnbaagreat", sum := "6eb01128d68cb6448bda705240c5b584800ddf7bbf799a7a709717a3d1fb846c", func := "matins/matinslaw21.WaveOthers", spec := "waveOthers", inPlace := ["internal/bytealg.IndexByteString", "internal/bytealg.IndexString"], unfollowed := true, recurses := true, named := ["internal/bytealg.MaxLen"], apart := false }
def WaveOthersSaid : Prop := waveOthersRow.holds Tryz.pinned (OpenSpec.ofChange waveOthersSpec)

/-- ITS FALSE NEIGHBOUR: 'it returns false'. Refute it at one input. -/
def waveOthersWrong : ChangeSpec := { name := "waveOthers", fn := fun _ => fun
  | [d1, d2, d3, d4, d5] => { results := [.lit (.bool false)], args := [d1, d2, d3, d4, d5] }
  | _ => none }
def WaveOthersWrongFalsely : Prop := waveOthersRow.holds Tryz.pinned (OpenSpec.ofChange waveOthersWrong)

/-- 'matinslaw21.WaveStops': WHATEVER THE INPUT: true; the input reads as it did. -/
def waveStopsSpec : ChangeSpec := { name := "waveStops", fn := fun _ => fun
  | [d1, d2, d3, d4] => { results := [.lit (.bool true)], args := [d1, d2, d3, d4] }
  | _ => none }
def waveStopsRow : OpenClaim := { program := "ytmlogmcnblgnbaagreat", sum := "6eb01128d68cb6448bda705240c5b584800ddf7bbf799a7a709717a3d1fb846c", func := "matins/matinslaw21.WaveStops", spec := "waveStops", inPlace := ["internal/bytealg.IndexByteString", "internal/bytealg.IndexString"], unfollowed := true, recurses := true, named := ["internal/bytealg.MaxLen"], apart := false }
def WaveStopsSaid : Prop := waveStopsRow.holds Tryz.pinned (OpenSpec.ofChange waveStopsSpec)

/-- ITS FALSE NEIGHBOUR: 'it returns false'. Refute it at one input. -/
def waveStopsWrong : ChangeSpec := { name := "waveStops", fn := fun _ => fun
  | [d1, d2, d3, d4] => { results := [.lit (.bool false)], args := [d1, d2, d3, d4] }
  | _ => none }
def WaveStopsWrongFalsely : Prop := waveStopsRow.holds Tryz.pinned (OpenSpec.ofChange waveStopsWrong)

/- THE SECOND FORM. 'bulk': how many values and letters a reading holds, each counted each time it is reached (what is shared counts as often as it is met; a slice's spare places count too). A statement '..UptoSaid' is the law's where the arguments, and the package variables that the reading takes, are together of bulk at most 1048576: NARROWER than '..Said'. Prove '..Said' where nothing that the law and all that it calls make is longer than what came in: it says more and counts as full. Else prove '..UptoSaid'. A law counts once. -/
mutual
def uptoBulk {H : Type} : DataW H → Nat
  | .lit (.string bytes) => bytes.length + 1
  | .lit _ => 1
  | .nil => 1
  | .ptr d => uptoBulk d + 1
  | .slice elems spare => uptoBulkAll elems + uptoBulkAll spare + 1
  | .agg parts => uptoBulkAll parts + 1
  | .iface _ d => uptoBulk d + 1
  | .map entries => uptoBulkEntries entries + 1
  | .held _ => 1
def uptoBulkAll {H : Type} : List (DataW H) → Nat
  | [] => 0
  | d :: r => uptoBulk d + uptoBulkAll r
def uptoBulkEntries {H : Type} : List (Lit × DataW H) → Nat
  | [] => 0
  | x :: r => uptoBulkEntry x + uptoBulkEntries r
def uptoBulkEntry {H : Type} : Lit × DataW H → Nat
  | (.string bytes, d) => bytes.length + uptoBulk d + 1
  | (_, d) => uptoBulk d + 1
 end
def uptoSmall : (H : Type) → List (DataW H) → Bool := fun _ ds => decide (uptoBulkAll ds ≤ 1048576)
def OpenSpec.upto (s : _root_.Go.ChangeSpec) : _root_.Go.OpenSpec := { _root_.Go.OpenSpec.ofChange s with cond := some uptoSmall }

/-- 'matinslaw21.WaveSteps', WHERE WHAT IT READS IS OF BULK AT MOST 1048576: true; the input reads as it did. -/
def waveStepsUptoRow : OpenClaim := { program := "ytmlogmcnblgnbaagreat", sum := "6eb01128d68cb6448bda705240c5b584800ddf7bbf799a7a709717a3d1fb846c", func := "matins/matinslaw21.WaveSteps", spec := "waveSteps", inPlace := ["internal/bytealg.IndexByteString", "internal/bytealg.IndexString"], unfollowed := true, recurses := true, named := ["internal/bytealg.MaxLen"], apart := false, narrowed := true }
def WaveStepsUptoSaid : Prop := waveStepsUptoRow.holds Tryz.pinned (OpenSpec.upto waveStepsSpec)

/-- 'matinslaw21.WaveRun', WHERE WHAT IT READS IS OF BULK AT MOST 1048576: true; the input reads as it did. -/
def waveRunUptoRow : OpenClaim := { program := "ytmlogmcnblgnbaagreat", sum := "6eb01128d68cb6448bda705240c5b584800ddf7bbf799a7a709717a3d1fb846c", func := "matins/matinslaw21.WaveRun", spec := "waveRun", inPlace := ["internal/bytealg.IndexByteString", "internal/bytealg.IndexString"], unfollowed := true, recurses := true, named := ["internal/bytealg.MaxLen"], apart := false, narrowed := true }
def WaveRunUptoSaid : Prop := waveRunUptoRow.holds Tryz.pinned (OpenSpec.upto waveRunSpec)

/-- 'matinslaw21.WaveFact', WHERE WHAT IT READS IS OF BULK AT MOST 1048576: true; the input reads as it did. -/
def waveFactUptoRow : OpenClaim := { program := "ytmlogmcnblgnbaagreat", sum := "6eb01128d68cb6448bda705240c5b584800ddf7bbf799a7a709717a3d1fb846c", func := "matins/matinslaw21.WaveFact", spec := "waveFact", inPlace := ["internal/bytealg.IndexByteString", "internal/bytealg.IndexString"], unfollowed := true, recurses := true, named := ["internal/bytealg.MaxLen"], apart := false, narrowed := true }
def WaveFactUptoSaid : Prop := waveFactUptoRow.holds Tryz.pinned (OpenSpec.upto waveFactSpec)

/-- 'matinslaw21.WaveOne', WHERE WHAT IT READS IS OF BULK AT MOST 1048576: true; the input reads as it did. -/
def waveOneUptoRow : OpenClaim := { program := "ytmlogmcnblgnbaagreat", sum := "6eb01128d68cb6448bda705240c5b584800ddf7bbf799a7a709717a3d1fb846c", func := "matins/matinslaw21.WaveOne", spec := "waveOne", inPlace := ["internal/bytealg.IndexByteString", "internal/bytealg.IndexString"], unfollowed := true, recurses := true, named := ["internal/bytealg.MaxLen"], apart := false, narrowed := true }
def WaveOneUptoSaid : Prop := waveOneUptoRow.holds Tryz.pinned (OpenSpec.upto waveOneSpec)

/-- 'matinslaw21.WaveTwo', WHERE WHAT IT READS IS OF BULK AT MOST 1048576: true; the input reads as it did. -/
def waveTwoUptoRow : OpenClaim := { program := "ytmlogmcnblgnbaagreat", sum := "6eb01128d68cb6448bda705240c5b584800ddf7bbf799a7a709717a3d1fb846c", func := "matins/matinslaw21.WaveTwo", spec := "waveTwo", inPlace := ["internal/bytealg.IndexByteString", "internal/bytealg.IndexString"], unfollowed := true, recurses := true, named := ["internal/bytealg.MaxLen"], apart := false, narrowed := true }
def WaveTwoUptoSaid : Prop := waveTwoUptoRow.holds Tryz.pinned (OpenSpec.upto waveTwoSpec)

/-- 'matinslaw21.WaveAhead', WHERE WHAT IT READS IS OF BULK AT MOST 1048576: true; the input reads as it did. -/
def waveAheadUptoRow : OpenClaim := { program := "ytmlogmcnblgnbaagreat", sum := "6eb01128d68cb6448bda705240c5b584800ddf7bbf799a7a709717a3d1fb846c", func := "matins/matinslaw21.WaveAhead", spec := "waveAhead", inPlace := ["internal/bytealg.IndexByteString", "internal/bytealg.IndexString"], unfollowed := true, recurses := true, named := ["internal/bytealg.MaxLen"], apart := false, narrowed := true }
def WaveAheadUptoSaid : Prop := waveAheadUptoRow.holds Tryz.pinned (OpenSpec.upto waveAheadSpec)

/-- 'matinslaw21.WaveNeeds', WHERE WHAT IT READS IS OF BULK AT MOST 1048576: true; the input reads as it did. -/
def waveNeedsUptoRow : OpenClaim := { program := "ytmlogmcnblgnbaagreat", sum := "6eb01128d68cb6448bda705240c5b584800ddf7bbf799a7a709717a3d1fb846c", func := "matins/matinslaw21.WaveNeeds", spec := "waveNeeds", inPlace := ["internal/bytealg.IndexByteString", "internal/bytealg.IndexString"], unfollowed := true, recurses := true, named := ["internal/bytealg.MaxLen"], apart := false, narrowed := true }
def WaveNeedsUptoSaid : Prop := waveNeedsUptoRow.holds Tryz.pinned (OpenSpec.upto waveNeedsSpec)

/-- 'matinslaw21.WaveFails', WHERE WHAT IT READS IS OF BULK AT MOST 1048576: true; the input reads as it did. -/
def waveFailsUptoRow : OpenClaim := { program := "ytmlogmcnblgnbaagreat", sum := "6eb01128d68cb6448bda705240c5b584800ddf7bbf799a7a709717a3d1fb846c", func := "matins/matinslaw21.WaveFails", spec := "waveFails", inPlace := ["internal/bytealg.IndexByteString", "internal/bytealg.IndexString"], unfollowed := true, recurses := true, named := ["internal/bytealg.MaxLen"], apart := false, narrowed := true }
def WaveFailsUptoSaid : Prop := waveFailsUptoRow.holds Tryz.pinned (OpenSpec.upto waveFailsSpec)

/-- 'matinslaw21.WavePart', WHERE WHAT IT READS IS OF BULK AT MOST 1048576: true; the input reads as it did. -/
def wavePartUptoRow : OpenClaim := { program := "ytmlogmcnblgnbaagreat", sum := "6eb01128d68cb6448bda705240c5b584800ddf7bbf799a7a709717a3d1fb846c", func := "matins/matinslaw21.WavePart", spec := "wavePart", inPlace := ["internal/bytealg.IndexByteString", "internal/bytealg.IndexString"], unfollowed := true, recurses := true, named := ["internal/bytealg.MaxLen"], apart := false, narrowed := true }
def WavePartUptoSaid : Prop := wavePartUptoRow.holds Tryz.pinned (OpenSpec.upto wavePartSpec)

/-- 'matinslaw21.WaveSplit', WHERE WHAT IT READS IS OF BULK AT MOST 1048576: true; the input reads as it did. -/
def waveSplitUptoRow : OpenClaim := { program := "ytmlogmcnblgnbaagreat", sum := "6eb01128d68cb6448bda705240c5b584800ddf7bbf799a7a709717a3d1fb846c", func := "matins/matinslaw21.WaveSplit", spec := "waveSplit", inPlace := ["internal/bytealg.IndexByteString", "internal/bytealg.IndexString"], unfollowed := true, recurses := true, named := ["internal/bytealg.MaxLen"], apart := false, narrowed := true }
def WaveSplitUptoSaid : Prop := waveSplitUptoRow.holds Tryz.pinned (OpenSpec.upto waveSplitSpec)

/-- 'matinslaw21.WaveOthers', WHERE WHAT IT READS IS OF BULK AT MOST 1048576: true; the input reads as it did. -/
def waveOthersUptoRow : OpenClaim := { program := "ytmlogmcnblgnbaagreat", sum := "6eb01128d68cb6448bda705240c5b584800ddf7bbf799a7a709717a3d1fb846c", func := "matins/matinslaw21.WaveOthers", spec := "waveOthers", inPlace := ["internal/bytealg.IndexByteString", "internal/bytealg.IndexString"], unfollowed := true, recurses := true, named := ["internal/bytealg.MaxLen"], apart := false, narrowed := true }
def WaveOthersUptoSaid : Prop := waveOthersUptoRow.holds Tryz.pinned (OpenSpec.upto waveOthersSpec)

/-- 'matinslaw21.WaveStops', WHERE WHAT IT READS IS OF BULK AT MOST 1048576: true; the input reads as it did. -/
def waveStopsUptoRow : OpenClaim := { program := "ytmlogmcnblgnbaagreat", sum := "6eb01128d68cb6448bda705240c5b584800ddf7bbf799a7a709717a3d1fb846c", func := "matins/matinslaw21.WaveStops", spec := "waveStops", inPlace := ["internal/bytealg.IndexByteString", "internal/bytealg.IndexString"], unfollowed := true, recurses := true, named := ["internal/bytealg.MaxLen"], apart := false, narrowed := true }
def WaveStopsUptoSaid : Prop := waveStopsUptoRow.holds Tryz.pinned (OpenSpec.upto waveStopsSpec)

end Rows
end Go.Proofs.YtmlogmcnblgnbaaGreat
