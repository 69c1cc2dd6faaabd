/-
  No cell of these rows narrows 'for every input' (looked for: loops, veiled, ifaces, maps, wideKeys, modest, calm, conditions, laid).
  DERIVED. THE GIVEN ROWS OF THIS SEAT. 7 by the template 'for every input the law returns true; each argument reads behind the call as it read before'; 0 by the template 'total and deterministic' (their statements: YtbbfgkjhnfcjiaaTotals.lean).
  GIVEN WITH THE SEED: the statements are not yours to turn. If you find one false, say at which input.
  Laid BY PROGRAM, IN A SANDBOX (cutbox-rows.mjs): the forced cells as the released guide's own fill.sh prints them over the translation 0fa2fe62ca85ef03… (all of the seat's roots in one cut). By AI agents, Wed Nov 11 2026. No macro, syntax, notation, axiom, sorry.
-/
import Derived.Test.YtbbfgkjhnfcjiaaChecked
import GoSem.Claim
import GoSem.ClaimJoined
import GoSem.ClaimMapViews
import Derived.JoinedTies
import Derived.KernelRfl
namespace Go.Proofs.Ytbbfgkjhnfcjiaa
/- THE CELL 'sum', in the pinned program and in every row, IS THE sha256 OF THE DUMP (.gsa) THAT YtbbfgkjhnfcjiaaProg.lean LOADS. Nothing in Lean hashes anything: it is a label: what it is worth is what the hold of that sum in a sandbox is worth. -/
noncomputable def Try.pinned : Pinned := { name := "ytbbfgkjhnfcjiaa", sum := "0fa2fe62ca85ef030d06e977579c8aa25505424ad3627a604cdd5108cee027d2", checked := Try.checked }
namespace Rows
def none {H : Type} : Left H := { results := [], args := [] }

/-- 'laws.FnExactSameVerdicts': WHATEVER THE INPUT: true; the input reads as it did. -/
def fnExactSameVerdictsSpec : ChangeSpec := { name := "fnExactSameVerdicts", fn := fun _ => fun
  | [d1, d2, d3] => { results := [.lit (.bool true)], args := [d1, d2, d3] }
  | _ => none }
def fnExactSameVerdictsRow : OpenClaim := { program := "ytbbfgkjhnfcjiaa", sum := "0fa2fe62ca85ef030d06e977579c8aa25505424ad3627a604cdd5108cee027d2", func := "loop.example/g00958/laws.FnExactSameVerdicts", spec := "fnExactSameVerdicts", unfollowed := true, recurses := true, apart := false }
def FnExactSameVerdictsSaid : Prop := fnExactSameVerdictsRow.holds Try.pinned (OpenSpec.ofChange fnExactSameVerdictsSpec)

/-- ITS FALSE NEIGHBOUR: 'it returns false'. Refute it at one input. -/
def fnExactSameVerdictsWrong : ChangeSpec := { name := "fnExactSameVerdicts", fn := fun _ => fun
  | [d1, d2, d3] => { results := [.lit (.bool false)], args := [d1, d2, d3] }
  | _ => none }
def FnExactSameVerdictsWrongFalsely : Prop := fnExactSameVerdictsRow.holds Try.pinned (OpenSpec.ofChange fnExactSameVerdictsWrong)

/-- 'laws.FnExactWorstLeft': WHATEVER THE INPUT: true; the input reads as it did. -/
def fnExactWorstLeftSpec : ChangeSpec := { name := "fnExactWorstLeft", fn := fun _ => fun
  | [d1, d2] => { results := [.lit (.bool true)], args := [d1, d2] }
  | _ => none }
def fnExactWorstLeftRow : OpenClaim := { program := "ytbbfgkjhnfcjiaa", sum := "0fa2fe62ca85ef030d06e977579c8aa25505424ad3627a604cdd5108cee027d2", func := "loop.example/g00958/laws.FnExactWorstLeft", spec := "fnExactWorstLeft", unfollowed := true, recurses := true, apart := false }
def FnExactWorstLeftSaid : Prop := fnExactWorstLeftRow.holds Try.pinned (OpenSpec.ofChange fnExactWorstLeftSpec)

/-- ITS FALSE NEIGHBOUR: 'it returns false'. Refute it at one input. -/
def fnExactWorstLeftWrong : ChangeSpec := { name := "fnExactWorstLeft", fn := fun _ => fun
  | [d1, d2] => { results := [.lit (.bool false)], args := [d1, d2] }
  | _ => none }
def FnExactWorstLeftWrongFalsely : Prop := fnExactWorstLeftRow.holds Try.pinned (OpenSpec.ofChange fnExactWorstLeftWrong)

/-- 'laws.FnExactBestRow': WHATEVER THE INPUT: true; the input reads as it did. -/
def fnExactBestRowSpec : ChangeSpec := { name := "fnExactBestRow", fn := fun _ => fun
  | [d1, d2] => { results := [.lit (.bool true)], args := [d1, d2] }
  | _ => none }
def fnExactBestRowRow : OpenClaim := { program := "ytbbfgkjhnfcjiaa", sum := "0fa2fe62ca85ef030d06e977579c8aa25505424ad3627a604cdd5108cee027d2", func := "loop.example/g00958/laws.FnExactBestRow", spec := "fnExactBestRow", unfollowed := true, recurses := true, apart := false }
def FnExactBestRowSaid : Prop := fnExactBestRowRow.holds Try.pinned (OpenSpec.ofChange fnExactBestRowSpec)

/-- ITS FALSE NEIGHBOUR: 'it returns false'. Refute it at one input. -/
def fnExactBestRowWrong : ChangeSpec := { name := "fnExactBestRow", fn := fun _ => fun
  | [d1, d2] => { results := [.lit (.bool false)], args := [d1, d2] }
  | _ => none }
def FnExactBestRowWrongFalsely : Prop := fnExactBestRowRow.holds Try.pinned (OpenSpec.ofChange fnExactBestRowWrong)

/-- 'laws.FnExactAfterVerdict': WHATEVER THE INPUT: true; the input reads as it did. -/
def fnExactAfterVerdictSpec : ChangeSpec := { name := "fnExactAfterVerdict", fn := fun _ => fun
  | [d1, d2, d3] => { results := [.lit (.bool true)], args := [d1, d2, d3] }
  | _ => none }
def fnExactAfterVerdictRow : OpenClaim := { program := "ytbbfgkjhnfcjiaa", sum := "0fa2fe62ca85ef030d06e977579c8aa25505424ad3627a604cdd5108cee027d2", func := "loop.example/g00958/laws.FnExactAfterVerdict", spec := "fnExactAfterVerdict", unfollowed := true, recurses := true, apart := false }
def FnExactAfterVerdictSaid : Prop := fnExactAfterVerdictRow.holds Try.pinned (OpenSpec.ofChange fnExactAfterVerdictSpec)

/-- ITS FALSE NEIGHBOUR: 'it returns false'. Refute it at one input. -/
def fnExactAfterVerdictWrong : ChangeSpec := { name := "fnExactAfterVerdict", fn := fun _ => fun
  | [d1, d2, d3] => { results := [.lit (.bool false)], args := [d1, d2, d3] }
  | _ => none }
def FnExactAfterVerdictWrongFalsely : Prop := fnExactAfterVerdictRow.holds Try.pinned (OpenSpec.ofChange fnExactAfterVerdictWrong)

/-- 'laws.FnExactGreedyDepth': WHATEVER THE INPUT: true; the input reads as it did. -/
def fnExactGreedyDepthSpec : ChangeSpec := { name := "fnExactGreedyDepth", fn := fun _ => fun
  | [d1, d2] => { results := [.lit (.bool true)], args := [d1, d2] }
  | _ => none }
def fnExactGreedyDepthRow : OpenClaim := { program := "ytbbfgkjhnfcjiaa", sum := "0fa2fe62ca85ef030d06e977579c8aa25505424ad3627a604cdd5108cee027d2", func := "loop.example/g00958/laws.FnExactGreedyDepth", spec := "fnExactGreedyDepth", unfollowed := true, recurses := true, apart := false }
def FnExactGreedyDepthSaid : Prop := fnExactGreedyDepthRow.holds Try.pinned (OpenSpec.ofChange fnExactGreedyDepthSpec)

/-- ITS FALSE NEIGHBOUR: 'it returns false'. Refute it at one input. -/
def fnExactGreedyDepthWrong : ChangeSpec := { name := "fnExactGreedyDepth", fn := fun _ => fun
  | [d1, d2] => { results := [.lit (.bool false)], args := [d1, d2] }
  | _ => none }
def FnExactGreedyDepthWrongFalsely : Prop := fnExactGreedyDepthRow.holds Try.pinned (OpenSpec.ofChange fnExactGreedyDepthWrong)

/-- 'laws.FnExactLeastDepth': WHATEVER THE INPUT: true; the input reads as it did. -/
def fnExactLeastDepthSpec : ChangeSpec := { name := "fnExactLeastDepth", fn := fun _ => fun
  | [d1, d2] => { results := [.lit (.bool true)], args := [d1, d2] }
  | _ => none }
def fnExactLeastDepthRow : OpenClaim := { program := "ytbbfgkjhnfcjiaa", sum := "0fa2fe62ca85ef030d06e977579c8aa25505424ad3627a604cdd5108cee027d2", func := "loop.example/g00958/laws.FnExactLeastDepth", spec := "fnExactLeastDepth", unfollowed := true, recurses := true, apart := false }
def FnExactLeastDepthSaid : Prop := fnExactLeastDepthRow.holds Try.pinned (OpenSpec.ofChange fnExactLeastDepthSpec)

/-- ITS FALSE NEIGHBOUR: 'it returns false'. Refute it at one input. -/
def fnExactLeastDepthWrong : ChangeSpec := { name := "fnExactLeastDepth", fn := fun _ => fun
  | [d1, d2] => { results := [.lit (.bool false)], args := [d1, d2] }
  | _ => none }
def FnExactLeastDepthWrongFalsely : Prop := fnExactLeastDepthRow.holds Try.pinned (OpenSpec.ofChange fnExactLeastDepthWrong)

/-- 'laws.FnPlanned': WHATEVER THE INPUT: true; the input reads as it did. -/
def fnPlannedSpec : ChangeSpec := { name := "fnPlanned", fn := fun _ => fun
  | [d] => { results := [.lit (.bool true)], args := [d] }
  | _ => none }
def fnPlannedRow : OpenClaim := { program := "ytbbfgkjhnfcjiaa", sum := "0fa2fe62ca85ef030d06e977579c8aa25505424ad3627a604cdd5108cee027d2", func := "loop.example/g00958/laws.FnPlanned", spec := "fnPlanned", unfollowed := true, recurses := true, apart := false }
def FnPlannedSaid : Prop := fnPlannedRow.holds Try.pinned (OpenSpec.ofChange fnPlannedSpec)

/-- ITS FALSE NEIGHBOUR: 'it returns false'. Refute it at one input. -/
def fnPlannedWrong : ChangeSpec := { name := "fnPlanned", fn := fun _ => fun
  | [d] => { results := [.lit (.bool false)], args := [d] }
  | _ => none }
def FnPlannedWrongFalsely : Prop := fnPlannedRow.holds Try.pinned (OpenSpec.ofChange fnPlannedWrong)

/- THE SECOND FORM. 'bulk': how many values and letters a reading holds, each counted each time it is reached (what is shared counts as often as it is met; a slice's spare places count too). A statement '..UptoSaid' is the law's where the arguments, and the package variables that the reading takes, are together of bulk at most 1048576: NARROWER than '..Said'. Prove '..Said' where nothing that the law and all that it calls make is longer than what came in: it says more and counts as full. Else prove '..UptoSaid'. A law counts once. -/
mutual
def uptoBulk {H : Type} : DataW H → Nat
  | .lit (.string bytes) => bytes.length + 1
  | .lit _ => 1
  | .nil => 1
  | .ptr d => uptoBulk d + 1
  | .slice elems spare => uptoBulkAll elems + uptoBulkAll spare + 1
  | .agg parts => uptoBulkAll parts + 1
  | .iface _ d => uptoBulk d + 1
  | .map entries => uptoBulkEntries entries + 1
  | .held _ => 1
def uptoBulkAll {H : Type} : List (DataW H) → Nat
  | [] => 0
  | d :: r => uptoBulk d + uptoBulkAll r
def uptoBulkEntries {H : Type} : List (Lit × DataW H) → Nat
  | [] => 0
  | x :: r => uptoBulkEntry x + uptoBulkEntries r
def uptoBulkEntry {H : Type} : Lit × DataW H → Nat
  | (.string bytes, d) => bytes.length + uptoBulk d + 1
  | (_, d) => uptoBulk d + 1
 end
def uptoSmall : (H : Type) → List (DataW H) → Bool := fun _ ds => decide (uptoBulkAll ds ≤ 1048576)
def OpenSpec.upto (s : _root_.Go.ChangeSpec) : _root_.Go.OpenSpec := { _root_.Go.OpenSpec.ofChange s with cond := some uptoSmall }

/-- 'laws.FnExactSameVerdicts', WHERE WHAT IT READS IS OF BULK AT MOST 1048576: true; the input reads as it did. -/
def fnExactSameVerdictsUptoRow : OpenClaim := { program := "ytbbfgkjhnfcjiaa", sum := "0fa2fe62ca85ef030d06e977579c8aa25505424ad3627a604cdd5108cee027d2", func := "loop.example/g00958/laws.FnExactSameVerdicts", spec := "fnExactSameVerdicts", unfollowed := true, recurses := true, apart := false, narrowed := true }
def FnExactSameVerdictsUptoSaid : Prop := fnExactSameVerdictsUptoRow.holds Try.pinned (OpenSpec.upto fnExactSameVerdictsSpec)

/-- 'laws.FnExactWorstLeft', WHERE WHAT IT READS IS OF BULK AT MOST 1048576: true; the input reads as it did. -/
def fnExactWorstLeftUptoRow : OpenClaim := { program := "ytbbfgkjhnfcjiaa", sum := "0fa2fe62ca85ef030d06e977579c8aa25505424ad3627a604cdd5108cee027d2", func := "loop.example/g00958/laws.FnExactWorstLeft", spec := "fnExactWorstLeft", unfollowed := true, recurses := true, apart := false, narrowed := true }
def FnExactWorstLeftUptoSaid : Prop := fnExactWorstLeftUptoRow.holds Try.pinned (OpenSpec.upto fnExactWorstLeftSpec)

/-- 'laws.FnExactBestRow', WHERE WHAT IT READS IS OF BULK AT MOST 1048576: true; the input reads as it did. -/
def fnExactBestRowUptoRow : OpenClaim := { program := "ytbbfgkjhnfcjiaa", sum := "0fa2fe62ca85ef030d06e977579c8aa25505424ad3627a604cdd5108cee027d2", func := "loop.example/g00958/laws.FnExactBestRow", spec := "fnExactBestRow", unfollowed := true, recurses := true, apart := false, narrowed := true }
def FnExactBestRowUptoSaid : Prop := fnExactBestRowUptoRow.holds Try.pinned (OpenSpec.upto fnExactBestRowSpec)

/-- 'laws.FnExactAfterVerdict', WHERE WHAT IT READS IS OF BULK AT MOST 1048576: true; the input reads as it did. -/
def fnExactAfterVerdictUptoRow : OpenClaim := { program := "ytbbfgkjhnfcjiaa", sum := "0fa2fe62ca85ef030d06e977579c8aa25505424ad3627a604cdd5108cee027d2", func := "loop.example/g00958/laws.FnExactAfterVerdict", spec := "fnExactAfterVerdict", unfollowed := true, recurses := true, apart := false, narrowed := true }
def FnExactAfterVerdictUptoSaid : Prop := fnExactAfterVerdictUptoRow.holds Try.pinned (OpenSpec.upto fnExactAfterVerdictSpec)

/-- 'laws.FnExactGreedyDepth', WHERE WHAT IT READS IS OF BULK AT MOST 1048576: true; the input reads as it did. -/
def fnExactGreedyDepthUptoRow : OpenClaim := { program := "ytbbfgkjhnfcjiaa", sum := "0fa2fe62ca85ef030d06e977579c8aa25505424ad3627a604cdd5108cee027d2", func := "loop.example/g00958/laws.FnExactGreedyDepth", spec := "fnExactGreedyDepth", unfollowed := true, recurses := true, apart := false, narrowed := true }
def FnExactGreedyDepthUptoSaid : Prop := fnExactGreedyDepthUptoRow.holds Try.pinned (OpenSpec.upto fnExactGreedyDepthSpec)

/-- 'laws.FnExactLeastDepth', WHERE WHAT IT READS IS OF BULK AT MOST 1048576: true; the input reads as it did. -/
def fnExactLeastDepthUptoRow : OpenClaim := { program := "ytbbfgkjhnfcjiaa", sum := "0fa2fe62ca85ef030d06e977579c8aa25505424ad3627a604cdd5108cee027d2", func := "loop.example/g00958/laws.FnExactLeastDepth", spec := "fnExactLeastDepth", unfollowed := true, recurses := true, apart := false, narrowed := true }
def FnExactLeastDepthUptoSaid : Prop := fnExactLeastDepthUptoRow.holds Try.pinned (OpenSpec.upto fnExactLeastDepthSpec)

/-- 'laws.FnPlanned', WHERE WHAT IT READS IS OF BULK AT MOST 1048576: true; the input reads as it did. -/
def fnPlannedUptoRow : OpenClaim := { program := "ytbbfgkjhnfcjiaa", sum := "0fa2fe62ca85ef030d06e977579c8aa25505424ad3627a604cdd5108cee027d2", func := "loop.example/g00958/laws.FnPlanned", spec := "fnPlanned", unfollowed := true, recurses := true, apart := false, narrowed := true }
def FnPlannedUptoSaid : Prop := fnPlannedUptoRow.holds Try.pinned (OpenSpec.upto fnPlannedSpec)

end Rows
end Go.Proofs.Ytbbfgkjhnfcjiaa
