/-
  No cell of these rows narrows 'for every input' (looked for: loops, veiled, ifaces, maps, wideKeys, modest, calm, conditions, laid).
  DERIVED. THE GIVEN ROWS OF THIS SEAT. 9 by the template 'for every input the law returns true; each argument reads behind the call as it read before'; 0 by the template 'total and deterministic' (their statements: YtmlddlnmplnlaaaTotals.lean).
  GIVEN WITH THE SEED: the statements are not yours to turn. If you find one false, say at which input.
  Laid BY PROGRAM, IN A SANDBOX (cutbox-rows.mjs): the forced cells as the released guide's own fill.sh prints them over the translation 573ef4ae07c47fb2… (all of the seat's roots in one cut). By AI agents, Wed Nov 11 2026. No macro, syntax, notation, axiom, sorry.
-/
import Derived.Test.YtmlddlnmplnlaaaChecked
import GoSem.Claim
import GoSem.ClaimJoined
import GoSem.ClaimMapViews
import Derived.JoinedTies
import Derived.KernelRfl
namespace Go.Proofs.Ytmlddlnmplnlaaa
/- THE CELL 'sum', in the pinned program and in every row, IS THE sha256 OF THE DUMP (.gsa) THAT YtmlddlnmplnlaaaProg.lean LOADS. Nothing in Lean hashes anything: it is a label: what it is worth is what the hold of that sum in a sandbox is worth. -/
noncomputable def Try.pinned : Pinned := { name := "ytmlddlnmplnlaaa", sum := "573ef4ae07c47fb2ec95e09950c930e598318955a798ed34c42cf01866a56f6e", checked := Try.checked }
namespace Rows
def none {H : Type} : Left H := { results := [], args := [] }

/-- 'laws.FnExactMedianOf': WHATEVER THE INPUT: true; the input reads as it did. -/
def fnExactMedianOfSpec : ChangeSpec := { name := "fnExactMedianOf", fn := fun _ => fun
  | [d] => { results := [.lit (.bool true)], args := [d] }
  | _ => none }
def fnExactMedianOfRow : OpenClaim := { program := "ytmlddlnmplnlaaa", sum := "573ef4ae07c47fb2ec95e09950c930e598318955a798ed34c42cf01866a56f6e", func := "loop.example/g00958/laws.FnExactMedianOf", spec := "fnExactMedianOf", recurses := true, apart := false }
def FnExactMedianOfSaid : Prop := fnExactMedianOfRow.holds Try.pinned (OpenSpec.ofChange fnExactMedianOfSpec)

/-- ITS FALSE NEIGHBOUR: 'it returns false'. Refute it at one input. -/
def fnExactMedianOfWrong : ChangeSpec := { name := "fnExactMedianOf", fn := fun _ => fun
  | [d] => { results := [.lit (.bool false)], args := [d] }
  | _ => none }
def FnExactMedianOfWrongFalsely : Prop := fnExactMedianOfRow.holds Try.pinned (OpenSpec.ofChange fnExactMedianOfWrong)

/-- 'laws.FnExactSpreadOf': WHATEVER THE INPUT: true; the input reads as it did. -/
def fnExactSpreadOfSpec : ChangeSpec := { name := "fnExactSpreadOf", fn := fun _ => fun
  | [d] => { results := [.lit (.bool true)], args := [d] }
  | _ => none }
def fnExactSpreadOfRow : OpenClaim := { program := "ytmlddlnmplnlaaa", sum := "573ef4ae07c47fb2ec95e09950c930e598318955a798ed34c42cf01866a56f6e", func := "loop.example/g00958/laws.FnExactSpreadOf", spec := "fnExactSpreadOf", recurses := true, apart := false }
def FnExactSpreadOfSaid : Prop := fnExactSpreadOfRow.holds Try.pinned (OpenSpec.ofChange fnExactSpreadOfSpec)

/-- ITS FALSE NEIGHBOUR: 'it returns false'. Refute it at one input. -/
def fnExactSpreadOfWrong : ChangeSpec := { name := "fnExactSpreadOf", fn := fun _ => fun
  | [d] => { results := [.lit (.bool false)], args := [d] }
  | _ => none }
def FnExactSpreadOfWrongFalsely : Prop := fnExactSpreadOfRow.holds Try.pinned (OpenSpec.ofChange fnExactSpreadOfWrong)

/-- 'laws.FnExactSplitCost': WHATEVER THE INPUT: true; the input reads as it did. -/
def fnExactSplitCostSpec : ChangeSpec := { name := "fnExactSplitCost", fn := fun _ => fun
  | [d1, d2] => { results := [.lit (.bool true)], args := [d1, d2] }
  | _ => none }
def fnExactSplitCostRow : OpenClaim := { program := "ytmlddlnmplnlaaa", sum := "573ef4ae07c47fb2ec95e09950c930e598318955a798ed34c42cf01866a56f6e", func := "loop.example/g00958/laws.FnExactSplitCost", spec := "fnExactSplitCost", recurses := true, apart := false }
def FnExactSplitCostSaid : Prop := fnExactSplitCostRow.holds Try.pinned (OpenSpec.ofChange fnExactSplitCostSpec)

/-- ITS FALSE NEIGHBOUR: 'it returns false'. Refute it at one input. -/
def fnExactSplitCostWrong : ChangeSpec := { name := "fnExactSplitCost", fn := fun _ => fun
  | [d1, d2] => { results := [.lit (.bool false)], args := [d1, d2] }
  | _ => none }
def FnExactSplitCostWrongFalsely : Prop := fnExactSplitCostRow.holds Try.pinned (OpenSpec.ofChange fnExactSplitCostWrong)

/-- 'laws.FnExactBestSplit': WHATEVER THE INPUT: true; the input reads as it did. -/
def fnExactBestSplitSpec : ChangeSpec := { name := "fnExactBestSplit", fn := fun _ => fun
  | [d] => { results := [.lit (.bool true)], args := [d] }
  | _ => none }
def fnExactBestSplitRow : OpenClaim := { program := "ytmlddlnmplnlaaa", sum := "573ef4ae07c47fb2ec95e09950c930e598318955a798ed34c42cf01866a56f6e", func := "loop.example/g00958/laws.FnExactBestSplit", spec := "fnExactBestSplit", recurses := true, apart := false }
def FnExactBestSplitSaid : Prop := fnExactBestSplitRow.holds Try.pinned (OpenSpec.ofChange fnExactBestSplitSpec)

/-- ITS FALSE NEIGHBOUR: 'it returns false'. Refute it at one input. -/
def fnExactBestSplitWrong : ChangeSpec := { name := "fnExactBestSplit", fn := fun _ => fun
  | [d] => { results := [.lit (.bool false)], args := [d] }
  | _ => none }
def FnExactBestSplitWrongFalsely : Prop := fnExactBestSplitRow.holds Try.pinned (OpenSpec.ofChange fnExactBestSplitWrong)

/-- 'laws.FnExactHasChanged': WHATEVER THE INPUT: true; the input reads as it did. -/
def fnExactHasChangedSpec : ChangeSpec := { name := "fnExactHasChanged", fn := fun _ => fun
  | [d1, d2] => { results := [.lit (.bool true)], args := [d1, d2] }
  | _ => none }
def fnExactHasChangedRow : OpenClaim := { program := "ytmlddlnmplnlaaa", sum := "573ef4ae07c47fb2ec95e09950c930e598318955a798ed34c42cf01866a56f6e", func := "loop.example/g00958/laws.FnExactHasChanged", spec := "fnExactHasChanged", recurses := true, apart := false }
def FnExactHasChangedSaid : Prop := fnExactHasChangedRow.holds Try.pinned (OpenSpec.ofChange fnExactHasChangedSpec)

/-- ITS FALSE NEIGHBOUR: 'it returns false'. Refute it at one input. -/
def fnExactHasChangedWrong : ChangeSpec := { name := "fnExactHasChanged", fn := fun _ => fun
  | [d1, d2] => { results := [.lit (.bool false)], args := [d1, d2] }
  | _ => none }
def FnExactHasChangedWrongFalsely : Prop := fnExactHasChangedRow.holds Try.pinned (OpenSpec.ofChange fnExactHasChangedWrong)

/-- 'laws.FnExactLatestPart': WHATEVER THE INPUT: true; the input reads as it did. -/
def fnExactLatestPartSpec : ChangeSpec := { name := "fnExactLatestPart", fn := fun _ => fun
  | [d1, d2] => { results := [.lit (.bool true)], args := [d1, d2] }
  | _ => none }
def fnExactLatestPartRow : OpenClaim := { program := "ytmlddlnmplnlaaa", sum := "573ef4ae07c47fb2ec95e09950c930e598318955a798ed34c42cf01866a56f6e", func := "loop.example/g00958/laws.FnExactLatestPart", spec := "fnExactLatestPart", recurses := true, apart := false }
def FnExactLatestPartSaid : Prop := fnExactLatestPartRow.holds Try.pinned (OpenSpec.ofChange fnExactLatestPartSpec)

/-- ITS FALSE NEIGHBOUR: 'it returns false'. Refute it at one input. -/
def fnExactLatestPartWrong : ChangeSpec := { name := "fnExactLatestPart", fn := fun _ => fun
  | [d1, d2] => { results := [.lit (.bool false)], args := [d1, d2] }
  | _ => none }
def FnExactLatestPartWrongFalsely : Prop := fnExactLatestPartRow.holds Try.pinned (OpenSpec.ofChange fnExactLatestPartWrong)

/-- 'laws.FnChanges': WHATEVER THE INPUT: true; the input reads as it did. -/
def fnChangesSpec : ChangeSpec := { name := "fnChanges", fn := fun _ => fun
  | [d] => { results := [.lit (.bool true)], args := [d] }
  | _ => none }
def fnChangesRow : OpenClaim := { program := "ytmlddlnmplnlaaa", sum := "573ef4ae07c47fb2ec95e09950c930e598318955a798ed34c42cf01866a56f6e", func := "loop.example/g00958/laws.FnChanges", spec := "fnChanges", recurses := true, apart := false }
def FnChangesSaid : Prop := fnChangesRow.holds Try.pinned (OpenSpec.ofChange fnChangesSpec)

/-- ITS FALSE NEIGHBOUR: 'it returns false'. Refute it at one input. -/
def fnChangesWrong : ChangeSpec := { name := "fnChanges", fn := fun _ => fun
  | [d] => { results := [.lit (.bool false)], args := [d] }
  | _ => none }
def FnChangesWrongFalsely : Prop := fnChangesRow.holds Try.pinned (OpenSpec.ofChange fnChangesWrong)

/-- 'laws.FnExactMedianGap': WHATEVER THE INPUT: true; the input reads as it did. -/
def fnExactMedianGapSpec : ChangeSpec := { name := "fnExactMedianGap", fn := fun _ => fun
  | [d] => { results := [.lit (.bool true)], args := [d] }
  | _ => none }
def fnExactMedianGapRow : OpenClaim := { program := "ytmlddlnmplnlaaa", sum := "573ef4ae07c47fb2ec95e09950c930e598318955a798ed34c42cf01866a56f6e", func := "loop.example/g00958/laws.FnExactMedianGap", spec := "fnExactMedianGap", recurses := true, apart := false }
def FnExactMedianGapSaid : Prop := fnExactMedianGapRow.holds Try.pinned (OpenSpec.ofChange fnExactMedianGapSpec)

/-- ITS FALSE NEIGHBOUR: 'it returns false'. Refute it at one input. -/
def fnExactMedianGapWrong : ChangeSpec := { name := "fnExactMedianGap", fn := fun _ => fun
  | [d] => { results := [.lit (.bool false)], args := [d] }
  | _ => none }
def FnExactMedianGapWrongFalsely : Prop := fnExactMedianGapRow.holds Try.pinned (OpenSpec.ofChange fnExactMedianGapWrong)

/-- 'laws.FnShaped': WHATEVER THE INPUT: true; the input reads as it did. -/
def fnShapedSpec : ChangeSpec := { name := "fnShaped", fn := fun _ => fun
  | [d] => { results := [.lit (.bool true)], args := [d] }
  | _ => none }
def fnShapedRow : OpenClaim := { program := "ytmlddlnmplnlaaa", sum := "573ef4ae07c47fb2ec95e09950c930e598318955a798ed34c42cf01866a56f6e", func := "loop.example/g00958/laws.FnShaped", spec := "fnShaped", recurses := true, apart := false }
def FnShapedSaid : Prop := fnShapedRow.holds Try.pinned (OpenSpec.ofChange fnShapedSpec)

/-- ITS FALSE NEIGHBOUR: 'it returns false'. Refute it at one input. -/
def fnShapedWrong : ChangeSpec := { name := "fnShaped", fn := fun _ => fun
  | [d] => { results := [.lit (.bool false)], args := [d] }
  | _ => none }
def FnShapedWrongFalsely : Prop := fnShapedRow.holds Try.pinned (OpenSpec.ofChange fnShapedWrong)

/- THE SECOND FORM. 'bulk': how many values and letters a reading holds, each counted each time it is reached (what is shared counts as often as it is met; a slice's spare places count too). A statement '..UptoSaid' is the law's where the arguments, and the package variables that the reading takes, are together of bulk at most 1048576: NARROWER than '..Said'. Prove '..Said' where nothing that the law and all that it calls make is longer than what came in: it says more and counts as full. Else prove '..UptoSaid'. A law counts once. -/
mutual
def uptoBulk {H : Type} : DataW H → Nat
  | .lit (.string bytes) => bytes.length + 1
  | .lit _ => 1
  | .nil => 1
  | .ptr d => uptoBulk d + 1
  | .slice elems spare => uptoBulkAll elems + uptoBulkAll spare + 1
  | .agg parts => uptoBulkAll parts + 1
  | .iface _ d => uptoBulk d + 1
  | .map entries => uptoBulkEntries entries + 1
  | .held _ => 1
def uptoBulkAll {H : Type} : List (DataW H) → Nat
  | [] => 0
  | d :: r => uptoBulk d + uptoBulkAll r
def uptoBulkEntries {H : Type} : List (Lit × DataW H) → Nat
  | [] => 0
  | x :: r => uptoBulkEntry x + uptoBulkEntries r
def uptoBulkEntry {H : Type} : Lit × DataW H → Nat
  | (.string bytes, d) => bytes.length + uptoBulk d + 1
  | (_, d) => uptoBulk d + 1
 end
def uptoSmall : (H : Type) → List (DataW H) → Bool := fun _ ds => decide (uptoBulkAll ds ≤ 1048576)
def OpenSpec.upto (s : _root_.Go.ChangeSpec) : _root_.Go.OpenSpec := { _root_.Go.OpenSpec.ofChange s with cond := some uptoSmall }

/-- 'laws.FnExactMedianOf', WHERE WHAT IT READS IS OF BULK AT MOST 1048576: true; the input reads as it did. -/
def fnExactMedianOfUptoRow : OpenClaim := { program := "ytmlddlnmplnlaaa", sum := "573ef4ae07c47fb2ec95e09950c930e598318955a798ed34c42cf01866a56f6e", func := "loop.example/g00958/laws.FnExactMedianOf", spec := "fnExactMedianOf", recurses := true, apart := false, narrowed := true }
def FnExactMedianOfUptoSaid : Prop := fnExactMedianOfUptoRow.holds Try.pinned (OpenSpec.upto fnExactMedianOfSpec)

/-- 'laws.FnExactSpreadOf', WHERE WHAT IT READS IS OF BULK AT MOST 1048576: true; the input reads as it did. -/
def fnExactSpreadOfUptoRow : OpenClaim := { program := "ytmlddlnmplnlaaa", sum := "573ef4ae07c47fb2ec95e09950c930e598318955a798ed34c42cf01866a56f6e", func := "loop.example/g00958/laws.FnExactSpreadOf", spec := "fnExactSpreadOf", recurses := true, apart := false, narrowed := true }
def FnExactSpreadOfUptoSaid : Prop := fnExactSpreadOfUptoRow.holds Try.pinned (OpenSpec.upto fnExactSpreadOfSpec)

/-- 'laws.FnExactSplitCost', WHERE WHAT IT READS IS OF BULK AT MOST 1048576: true; the input reads as it did. -/
def fnExactSplitCostUptoRow : OpenClaim := { program := "ytmlddlnmplnlaaa", sum := "573ef4ae07c47fb2ec95e09950c930e598318955a798ed34c42cf01866a56f6e", func := "loop.example/g00958/laws.FnExactSplitCost", spec := "fnExactSplitCost", recurses := true, apart := false, narrowed := true }
def FnExactSplitCostUptoSaid : Prop := fnExactSplitCostUptoRow.holds Try.pinned (OpenSpec.upto fnExactSplitCostSpec)

/-- 'laws.FnExactBestSplit', WHERE WHAT IT READS IS OF BULK AT MOST 1048576: true; the input reads as it did. -/
def fnExactBestSplitUptoRow : OpenClaim := { program := "ytmlddlnmplnlaaa", sum := "573ef4ae07c47fb2ec95e09950c930e598318955a798ed34c42cf01866a56f6e", func := "loop.example/g00958/laws.FnExactBestSplit", spec := "fnExactBestSplit", recurses := true, apart := false, narrowed := true }
def FnExactBestSplitUptoSaid : Prop := fnExactBestSplitUptoRow.holds Try.pinned (OpenSpec.upto fnExactBestSplitSpec)

/-- 'laws.FnExactHasChanged', WHERE WHAT IT READS IS OF BULK AT MOST 1048576: true; the input reads as it did. -/
def fnExactHasChangedUptoRow : OpenClaim := { program := "ytmlddlnmplnlaaa", sum := "573ef4ae07c47fb2ec95e09950c930e598318955a798ed34c42cf01866a56f6e", func := "loop.example/g00958/laws.FnExactHasChanged", spec := "fnExactHasChanged", recurses := true, apart := false, narrowed := true }
def FnExactHasChangedUptoSaid : Prop := fnExactHasChangedUptoRow.holds Try.pinned (OpenSpec.upto fnExactHasChangedSpec)

/-- 'laws.FnExactLatestPart', WHERE WHAT IT READS IS OF BULK AT MOST 1048576: true; the input reads as it did. -/
def fnExactLatestPartUptoRow : OpenClaim := { program := "ytmlddlnmplnlaaa", sum := "573ef4ae07c47fb2ec95e09950c930e598318955a798ed34c42cf01866a56f6e", func := "loop.example/g00958/laws.FnExactLatestPart", spec := "fnExactLatestPart", recurses := true, apart := false, narrowed := true }
def FnExactLatestPartUptoSaid : Prop := fnExactLatestPartUptoRow.holds Try.pinned (OpenSpec.upto fnExactLatestPartSpec)

/-- 'laws.FnChanges', WHERE WHAT IT READS IS OF BULK AT MOST 1048576: true; the input reads as it did. -/
def fnChangesUptoRow : OpenClaim := { program := "ytmlddlnmplnlaaa", sum := "573ef4ae07c47fb2ec95e09950c930e598318955a798ed34c42cf01866a56f6e", func := "loop.example/g00958/laws.FnChanges", spec := "fnChanges", recurses := true, apart := false, narrowed := true }
def FnChangesUptoSaid : Prop := fnChangesUptoRow.holds Try.pinned (OpenSpec.upto fnChangesSpec)

/-- 'laws.FnExactMedianGap', WHERE WHAT IT READS IS OF BULK AT MOST 1048576: true; the input reads as it did. -/
def fnExactMedianGapUptoRow : OpenClaim := { program := "ytmlddlnmplnlaaa", sum := "573ef4ae07c47fb2ec95e09950c930e598318955a798ed34c42cf01866a56f6e", func := "loop.example/g00958/laws.FnExactMedianGap", spec := "fnExactMedianGap", recurses := true, apart := false, narrowed := true }
def FnExactMedianGapUptoSaid : Prop := fnExactMedianGapUptoRow.holds Try.pinned (OpenSpec.upto fnExactMedianGapSpec)

/-- 'laws.FnShaped', WHERE WHAT IT READS IS OF BULK AT MOST 1048576: true; the input reads as it did. -/
def fnShapedUptoRow : OpenClaim := { program := "ytmlddlnmplnlaaa", sum := "573ef4ae07c47fb2ec95e09950c930e598318955a798ed34c42cf01866a56f6e", func := "loop.example/g00958/laws.FnShaped", spec := "fnShaped", recurses := true, apart := false, narrowed := true }
def FnShapedUptoSaid : Prop := fnShapedUptoRow.holds Try.pinned (OpenSpec.upto fnShapedSpec)

end Rows
end Go.Proofs.Ytmlddlnmplnlaaa
