/-
  No cell of these rows narrows 'for every input' (looked for: loops, veiled, ifaces, maps, wideKeys, modest, calm, conditions, laid).
  DERIVED. THE GIVEN ROWS OF THIS SEAT. 5 by the template 'for every input the law returns true; each argument reads behind the call as it read before'; 0 by the template 'total and deterministic' (their statements: YtgfdcmlmgeoimaaGreatTotals.lean).
  GIVEN WITH THE SEED: the statements are not yours to turn. If you find one false, say at which input.
  Laid BY PROGRAM, IN A SANDBOX (cutbox-rows.mjs): the forced cells as the released guide's own fill.sh prints them over the translation 3eae1572d0a253d9… (all of the seat's roots in one cut). By AI agents, Wed Nov 11 2026. No macro, syntax, notation, axiom, sorry.
-/
import Derived.Test.YtgfdcmlmgeoimaaGreatChecked
import GoSem.Claim
import GoSem.ClaimJoined
import GoSem.ClaimMapViews
import Derived.JoinedTies
import Derived.KernelRfl
namespace Go.Proofs.YtgfdcmlmgeoimaaGreat
/- THE CELL 'sum', in the pinned program and in every row, IS THE sha256 OF THE DUMP (.gsa) THAT YtgfdcmlmgeoimaaGreatProg.lean LOADS. Nothing in Lean hashes anything: it is a label: what it is worth is what the hold of that sum in a sandbox is worth. -/
noncomputable def Tryz.pinned : Pinned := { name := "ytgfdcmlmgeoimaagreat", sum := "3eae1572d0a253d92a0514af8688d8afed6516fe319754b9625b330565797f3c", checked := Tryz.checked }
namespace Rows
def none {H : Type} : Left H := { results := [], args := [] }

/-- 'matinslaw12.DiskFind': WHATEVER THE INPUT: true; the input reads as it did. -/
def diskFindSpec : ChangeSpec := { name := "diskFind", fn := fun _ => fun
  | [d1, d2] => { results := [.lit (.bool true)], args := [d1, d2] }
  | _ => none }
def diskFindRow : OpenClaim := { program := "ytgfdcmlmgeoimaagreat", sum := "3eae1572d0a253d92a0514af8688d8afed6516fe319754b9625b330565797f3c", func := "matins/matinslaw12.DiskFind", spec := "diskFind", inPlace := ["internal/bytealg.IndexByteString", "internal/bytealg.IndexString", "internal/bytealg.abigen_runtime_cmpstring"], unfollowed := true, recurses := true, named := ["internal/bytealg.MaxLen"], apart := false }
def DiskFindSaid : Prop := diskFindRow.holds Tryz.pinned (OpenSpec.ofChange diskFindSpec)

/-- ITS FALSE NEIGHBOUR: 'it returns false'. Refute it at one input. -/
def diskFindWrong : ChangeSpec := { name := "diskFind", fn := fun _ => fun
  | [d1, d2] => { results := [.lit (.bool false)], args := [d1, d2] }
  | _ => none }
def DiskFindWrongFalsely : Prop := diskFindRow.holds Tryz.pinned (OpenSpec.ofChange diskFindWrong)

/-- 'matinslaw12.DiskLinks': WHATEVER THE INPUT: true; the input reads as it did. -/
def diskLinksSpec : ChangeSpec := { name := "diskLinks", fn := fun _ => fun
  | [d1, d2] => { results := [.lit (.bool true)], args := [d1, d2] }
  | _ => none }
def diskLinksRow : OpenClaim := { program := "ytgfdcmlmgeoimaagreat", sum := "3eae1572d0a253d92a0514af8688d8afed6516fe319754b9625b330565797f3c", func := "matins/matinslaw12.DiskLinks", spec := "diskLinks", inPlace := ["internal/bytealg.IndexByteString", "internal/bytealg.IndexString", "internal/bytealg.abigen_runtime_cmpstring"], unfollowed := true, recurses := true, named := ["internal/bytealg.MaxLen"], apart := false }
def DiskLinksSaid : Prop := diskLinksRow.holds Tryz.pinned (OpenSpec.ofChange diskLinksSpec)

/-- ITS FALSE NEIGHBOUR: 'it returns false'. Refute it at one input. -/
def diskLinksWrong : ChangeSpec := { name := "diskLinks", fn := fun _ => fun
  | [d1, d2] => { results := [.lit (.bool false)], args := [d1, d2] }
  | _ => none }
def DiskLinksWrongFalsely : Prop := diskLinksRow.holds Tryz.pinned (OpenSpec.ofChange diskLinksWrong)

/-- 'matinslaw12.DiskFirst': WHATEVER THE INPUT: true; the input reads as it did. -/
def diskFirstSpec : ChangeSpec := { name := "diskFirst", fn := fun _ => fun
  | [d1, d2, d3, d4] => { results := [.lit (.bool true)], args := [d1, d2, d3, d4] }
  | _ => none }
def diskFirstRow : OpenClaim := { program := "ytgfdcmlmgeoimaagreat", sum := "3eae1572d0a253d92a0514af8688d8afed6516fe319754b9625b330565797f3c", func := "matins/matinslaw12.DiskFirst", spec := "diskFirst", inPlace := ["internal/bytealg.IndexByteString", "internal/bytealg.IndexString", "internal/bytealg.abigen_runtime_cmpstring"], unfollowed := true, recurses := true, named := ["internal/bytealg.MaxLen"], apart := false }
def DiskFirstSaid : Prop := diskFirstRow.holds Tryz.pinned (OpenSpec.ofChange diskFirstSpec)

/-- ITS FALSE NEIGHBOUR: 'it returns false'. Refute it at one input. -/
def diskFirstWrong : ChangeSpec := { name := "diskFirst", fn := fun _ => fun
  | [d1, d2, d3, d4] => { results := [.lit (.bool false)], args := [d1, d2, d3, d4] }
  | _ => none }
def DiskFirstWrongFalsely : Prop := diskFirstRow.holds Tryz.pinned (OpenSpec.ofChange diskFirstWrong)

/-- 'matinslaw12.DiskDrops': WHATEVER THE INPUT: true; the input reads as it did. -/
def diskDropsSpec : ChangeSpec := { name := "diskDrops", fn := fun _ => fun
  | [d1, d2] => { results := [.lit (.bool true)], args := [d1, d2] }
  | _ => none }
def diskDropsRow : OpenClaim := { program := "ytgfdcmlmgeoimaagreat", sum := "3eae1572d0a253d92a0514af8688d8afed6516fe319754b9625b330565797f3c", func := "matins/matinslaw12.DiskDrops", spec := "diskDrops", inPlace := ["internal/bytealg.IndexByteString", "internal/bytealg.IndexString", "internal/bytealg.abigen_runtime_cmpstring"], unfollowed := true, recurses := true, named := ["internal/bytealg.MaxLen"], apart := false }
def DiskDropsSaid : Prop := diskDropsRow.holds Tryz.pinned (OpenSpec.ofChange diskDropsSpec)

/-- ITS FALSE NEIGHBOUR: 'it returns false'. Refute it at one input. -/
def diskDropsWrong : ChangeSpec := { name := "diskDrops", fn := fun _ => fun
  | [d1, d2] => { results := [.lit (.bool false)], args := [d1, d2] }
  | _ => none }
def DiskDropsWrongFalsely : Prop := diskDropsRow.holds Tryz.pinned (OpenSpec.ofChange diskDropsWrong)

/-- 'matinslaw12.DiskTemplate': WHATEVER THE INPUT: true; the input reads as it did. -/
def diskTemplateSpec : ChangeSpec := { name := "diskTemplate", fn := fun _ => fun
  | [d1, d2, d3, d4] => { results := [.lit (.bool true)], args := [d1, d2, d3, d4] }
  | _ => none }
def diskTemplateRow : OpenClaim := { program := "ytgfdcmlmgeoimaagreat", sum := "3eae1572d0a253d92a0514af8688d8afed6516fe319754b9625b330565797f3c", func := "matins/matinslaw12.DiskTemplate", spec := "diskTemplate", inPlace := ["internal/bytealg.IndexByteString", "internal/bytealg.IndexString", "internal/bytealg.abigen_runtime_cmpstring"], unfollowed := true, recurses := true, named := ["internal/bytealg.MaxLen"], apart := false }
def DiskTemplateSaid : Prop := diskTemplateRow.holds Tryz.pinned (OpenSpec.ofChange diskTemplateSpec)

/-- ITS FALSE NEIGHBOUR: 'it returns false'. Refute it at one input. -/
def diskTemplateWrong : ChangeSpec := { name := "diskTemplate", fn := fun _ => fun
  | [d1, d2, d3, d4] => { results := [.lit (.bool false)], args := [d1, d2, d3, d4] }
  | _ => none }
def DiskTemplateWrongFalsely : Prop := diskTemplateRow.holds Tryz.pinned (OpenSpec.ofChange diskTemplateWrong)

/- THE SECOND FORM. 'bulk': how many values and letters a reading holds, each counted each time it is reached (what is shared counts as often as it is met; a slice's spare places count too). A statement '..UptoSaid' is the law's where the arguments, and the package variables that the reading takes, are together of bulk at most 1048576: NARROWER than '..Said'. Prove '..Said' where nothing that the law and all that it calls make is longer than what came in: it says more and counts as full. Else prove '..UptoSaid'. A law counts once. -/
mutual
def uptoBulk {H : Type} : DataW H → Nat
  | .lit (.string bytes) => bytes.length + 1
  | .lit _ => 1
  | .nil => 1
  | .ptr d => uptoBulk d + 1
  | .slice elems spare => uptoBulkAll elems + uptoBulkAll spare + 1
  | .agg parts => uptoBulkAll parts + 1
  | .iface _ d => uptoBulk d + 1
  | .map entries => uptoBulkEntries entries + 1
  | .held _ => 1
def uptoBulkAll {H : Type} : List (DataW H) → Nat
  | [] => 0
  | d :: r => uptoBulk d + uptoBulkAll r
def uptoBulkEntries {H : Type} : List (Lit × DataW H) → Nat
  | [] => 0
  | x :: r => uptoBulkEntry x + uptoBulkEntries r
def uptoBulkEntry {H : Type} : Lit × DataW H → Nat
  | (.string bytes, d) => bytes.length + uptoBulk d + 1
  | (_, d) => uptoBulk d + 1
 end
def uptoSmall : (H : Type) → List (DataW H) → Bool := fun _ ds => decide (uptoBulkAll ds ≤ 1048576)
def OpenSpec.upto (s : _root_.Go.ChangeSpec) : _root_.Go.OpenSpec := { _root_.Go.OpenSpec.ofChange s with cond := some uptoSmall }

/-- 'matinslaw12.DiskFind', WHERE WHAT IT READS IS OF BULK AT MOST 1048576: true; the input reads as it did. -/
def diskFindUptoRow : OpenClaim := { program := "ytgfdcmlmgeoimaagreat", sum := "3eae1572d0a253d92a0514af8688d8afed6516fe319754b9625b330565797f3c", func := "matins/matinslaw12.DiskFind", spec := "diskFind", inPlace := ["internal/bytealg.IndexByteString", "internal/bytealg.IndexString", "internal/bytealg.abigen_runtime_cmpstring"], unfollowed := true, recurses := true, named := ["internal/bytealg.MaxLen"], apart := false, narrowed := true }
def DiskFindUptoSaid : Prop := diskFindUptoRow.holds Tryz.pinned (OpenSpec.upto diskFindSpec)

/-- 'matinslaw12.DiskLinks', WHERE WHAT IT READS IS OF BULK AT MOST 1048576: true; the input reads as it did. -/
def diskLinksUptoRow : OpenClaim := { program := "ytgfdcmlmgeoimaagreat", sum := "3eae1572d0a253d92a0514af8688d8afed6516fe319754b9625b330565797f3c", func := "matins/matinslaw12.DiskLinks", spec := "diskLinks", inPlace := ["internal/bytealg.IndexByteString", "internal/bytealg.IndexString", "internal/bytealg.abigen_runtime_cmpstring"], unfollowed := true, recurses := true, named := ["internal/bytealg.MaxLen"], apart := false, narrowed := true }
def DiskLinksUptoSaid : Prop := diskLinksUptoRow.holds Tryz.pinned (OpenSpec.upto diskLinksSpec)

/-- 'matinslaw12.DiskFirst', WHERE WHAT IT READS IS OF BULK AT MOST 1048576: true; the input reads as it did. -/
def diskFirstUptoRow : OpenClaim := { program := "ytgfdcmlmgeoimaagreat", sum := "3eae1572d0a253d92a0514af8688d8afed6516fe319754b9625b330565797f3c", func := "matins/matinslaw12.DiskFirst", spec := "diskFirst", inPlace := ["internal/bytealg.IndexByteString", "internal/bytealg.IndexString", "internal/bytealg.abigen_runtime_cmpstring"], unfollowed := true, recurses := true, named := ["internal/bytealg.MaxLen"], apart := false, narrowed := true }
def DiskFirstUptoSaid : Prop := diskFirstUptoRow.holds Tryz.pinned (OpenSpec.upto diskFirstSpec)

/-- 'matinslaw12.DiskDrops', WHERE WHAT IT READS IS OF BULK AT MOST 1048576: true; the input reads as it did. -/
def diskDropsUptoRow : OpenClaim := { program := "ytgfdcmlmgeoimaagreat", sum := "3eae1572d0a253d92a0514af8688d8afed6516fe319754b9625b330565797f3c", func := "matins/matinslaw12.DiskDrops", spec := "diskDrops", inPlace := ["internal/bytealg.IndexByteString", "internal/bytealg.IndexString", "internal/bytealg.abigen_runtime_cmpstring"], unfollowed := true, recurses := true, named := ["internal/bytealg.MaxLen"], apart := false, narrowed := true }
def DiskDropsUptoSaid : Prop := diskDropsUptoRow.holds Tryz.pinned (OpenSpec.upto diskDropsSpec)

/-- 'matinslaw12.DiskTemplate', WHERE WHAT IT READS IS OF BULK AT MOST 1048576: true; the input reads as it did. -/
def diskTemplateUptoRow : OpenClaim := { program := "ytgfdcmlmgeoimaagreat", sum := "3eae1572d0a253d92a0514af8688d8afed6516fe319754b9625b330565797f3c", func := "matins/matinslaw12.DiskTemplate", spec := "diskTemplate", inPlace := ["internal/bytealg.IndexByteString", "internal/bytealg.IndexString", "internal/bytealg.abigen_runtime_cmpstring"], unfollowed := true, recurses := true, named := ["internal/bytealg.MaxLen"], apart := false, narrowed := true }
def DiskTemplateUptoSaid : Prop := diskTemplateUptoRow.holds Tryz.pinned (OpenSpec.upto diskTemplateSpec)

end Rows
end Go.Proofs.YtgfdcmlmgeoimaaGreat
