/-
  No cell of these rows narrows 'for every input' (looked for: loops, veiled, ifaces, maps, wideKeys, modest, calm, conditions, laid).
  DERIVED. THE GIVEN ROWS OF THIS SEAT. 9 by the template 'for every input the law returns true; each argument reads behind the call as it read before'; 0 by the template 'total and deterministic' (their statements: YtoniljblfenpeaaTotals.lean).
  GIVEN WITH THE SEED: the statements are not yours to turn. If you find one false, say at which input.
  Laid BY PROGRAM, IN A SANDBOX (cutbox-rows.mjs): the forced cells as the released guide's own fill.sh prints them over the translation 4b8dc17fff1a1cfe… (all of the seat's roots in one cut). By AI agents, Wed Nov 11 2026. No macro, syntax, notation, axiom, sorry.
-/
import Derived.Test.YtoniljblfenpeaaChecked
import GoSem.Claim
import GoSem.ClaimJoined
import GoSem.ClaimMapViews
import Derived.JoinedTies
import Derived.KernelRfl
namespace Go.Proofs.Ytoniljblfenpeaa
/- THE CELL 'sum', in the pinned program and in every row, IS THE sha256 OF THE DUMP (.gsa) THAT YtoniljblfenpeaaProg.lean LOADS. Nothing in Lean hashes anything: it is a label: what it is worth is what the hold of that sum in a sandbox is worth. -/
noncomputable def Try.pinned : Pinned := { name := "ytoniljblfenpeaa", sum := "4b8dc17fff1a1cfeb516aa4d3161d79cbcd945b1909214f7ccffdb64ec3bfde3", checked := Try.checked }
namespace Rows
def none {H : Type} : Left H := { results := [], args := [] }

/-- 'laws.FnExactAreVerdicts': WHATEVER THE INPUT: true; the input reads as it did. -/
def fnExactAreVerdictsSpec : ChangeSpec := { name := "fnExactAreVerdicts", fn := fun _ => fun
  | [d1, d2, d3] => { results := [.lit (.bool true)], args := [d1, d2, d3] }
  | _ => none }
def fnExactAreVerdictsRow : OpenClaim := { program := "ytoniljblfenpeaa", sum := "4b8dc17fff1a1cfeb516aa4d3161d79cbcd945b1909214f7ccffdb64ec3bfde3", func := "loop.example/g00958/laws.FnExactAreVerdicts", spec := "fnExactAreVerdicts", unfollowed := true, recurses := true, apart := false }
def FnExactAreVerdictsSaid : Prop := fnExactAreVerdictsRow.holds Try.pinned (OpenSpec.ofChange fnExactAreVerdictsSpec)

/-- ITS FALSE NEIGHBOUR: 'it returns false'. Refute it at one input. -/
def fnExactAreVerdictsWrong : ChangeSpec := { name := "fnExactAreVerdicts", fn := fun _ => fun
  | [d1, d2, d3] => { results := [.lit (.bool false)], args := [d1, d2, d3] }
  | _ => none }
def FnExactAreVerdictsWrongFalsely : Prop := fnExactAreVerdictsRow.holds Try.pinned (OpenSpec.ofChange fnExactAreVerdictsWrong)

/-- 'laws.FnExactUnseen': WHATEVER THE INPUT: true; the input reads as it did. -/
def fnExactUnseenSpec : ChangeSpec := { name := "fnExactUnseen", fn := fun _ => fun
  | [d1, d2] => { results := [.lit (.bool true)], args := [d1, d2] }
  | _ => none }
def fnExactUnseenRow : OpenClaim := { program := "ytoniljblfenpeaa", sum := "4b8dc17fff1a1cfeb516aa4d3161d79cbcd945b1909214f7ccffdb64ec3bfde3", func := "loop.example/g00958/laws.FnExactUnseen", spec := "fnExactUnseen", unfollowed := true, recurses := true, apart := false }
def FnExactUnseenSaid : Prop := fnExactUnseenRow.holds Try.pinned (OpenSpec.ofChange fnExactUnseenSpec)

/-- ITS FALSE NEIGHBOUR: 'it returns false'. Refute it at one input. -/
def fnExactUnseenWrong : ChangeSpec := { name := "fnExactUnseen", fn := fun _ => fun
  | [d1, d2] => { results := [.lit (.bool false)], args := [d1, d2] }
  | _ => none }
def FnExactUnseenWrongFalsely : Prop := fnExactUnseenRow.holds Try.pinned (OpenSpec.ofChange fnExactUnseenWrong)

/-- 'laws.FnExactSuspects': WHATEVER THE INPUT: true; the input reads as it did. -/
def fnExactSuspectsSpec : ChangeSpec := { name := "fnExactSuspects", fn := fun _ => fun
  | [d1, d2, d3] => { results := [.lit (.bool true)], args := [d1, d2, d3] }
  | _ => none }
def fnExactSuspectsRow : OpenClaim := { program := "ytoniljblfenpeaa", sum := "4b8dc17fff1a1cfeb516aa4d3161d79cbcd945b1909214f7ccffdb64ec3bfde3", func := "loop.example/g00958/laws.FnExactSuspects", spec := "fnExactSuspects", unfollowed := true, recurses := true, apart := false }
def FnExactSuspectsSaid : Prop := fnExactSuspectsRow.holds Try.pinned (OpenSpec.ofChange fnExactSuspectsSpec)

/-- ITS FALSE NEIGHBOUR: 'it returns false'. Refute it at one input. -/
def fnExactSuspectsWrong : ChangeSpec := { name := "fnExactSuspects", fn := fun _ => fun
  | [d1, d2, d3] => { results := [.lit (.bool false)], args := [d1, d2, d3] }
  | _ => none }
def FnExactSuspectsWrongFalsely : Prop := fnExactSuspectsRow.holds Try.pinned (OpenSpec.ofChange fnExactSuspectsWrong)

/-- 'laws.FnExactCountClasses': WHATEVER THE INPUT: true; the input reads as it did. -/
def fnExactCountClassesSpec : ChangeSpec := { name := "fnExactCountClasses", fn := fun _ => fun
  | [d1, d2, d3] => { results := [.lit (.bool true)], args := [d1, d2, d3] }
  | _ => none }
def fnExactCountClassesRow : OpenClaim := { program := "ytoniljblfenpeaa", sum := "4b8dc17fff1a1cfeb516aa4d3161d79cbcd945b1909214f7ccffdb64ec3bfde3", func := "loop.example/g00958/laws.FnExactCountClasses", spec := "fnExactCountClasses", unfollowed := true, recurses := true, apart := false }
def FnExactCountClassesSaid : Prop := fnExactCountClassesRow.holds Try.pinned (OpenSpec.ofChange fnExactCountClassesSpec)

/-- ITS FALSE NEIGHBOUR: 'it returns false'. Refute it at one input. -/
def fnExactCountClassesWrong : ChangeSpec := { name := "fnExactCountClasses", fn := fun _ => fun
  | [d1, d2, d3] => { results := [.lit (.bool false)], args := [d1, d2, d3] }
  | _ => none }
def FnExactCountClassesWrongFalsely : Prop := fnExactCountClassesRow.holds Try.pinned (OpenSpec.ofChange fnExactCountClassesWrong)

/-- 'laws.FnExactToldSize': WHATEVER THE INPUT: true; the input reads as it did. -/
def fnExactToldSizeSpec : ChangeSpec := { name := "fnExactToldSize", fn := fun _ => fun
  | [d1, d2] => { results := [.lit (.bool true)], args := [d1, d2] }
  | _ => none }
def fnExactToldSizeRow : OpenClaim := { program := "ytoniljblfenpeaa", sum := "4b8dc17fff1a1cfeb516aa4d3161d79cbcd945b1909214f7ccffdb64ec3bfde3", func := "loop.example/g00958/laws.FnExactToldSize", spec := "fnExactToldSize", unfollowed := true, recurses := true, apart := false }
def FnExactToldSizeSaid : Prop := fnExactToldSizeRow.holds Try.pinned (OpenSpec.ofChange fnExactToldSizeSpec)

/-- ITS FALSE NEIGHBOUR: 'it returns false'. Refute it at one input. -/
def fnExactToldSizeWrong : ChangeSpec := { name := "fnExactToldSize", fn := fun _ => fun
  | [d1, d2] => { results := [.lit (.bool false)], args := [d1, d2] }
  | _ => none }
def FnExactToldSizeWrongFalsely : Prop := fnExactToldSizeRow.holds Try.pinned (OpenSpec.ofChange fnExactToldSizeWrong)

/-- 'laws.FnIdentified': WHATEVER THE INPUT: true; the input reads as it did. -/
def fnIdentifiedSpec : ChangeSpec := { name := "fnIdentified", fn := fun _ => fun
  | [d] => { results := [.lit (.bool true)], args := [d] }
  | _ => none }
def fnIdentifiedRow : OpenClaim := { program := "ytoniljblfenpeaa", sum := "4b8dc17fff1a1cfeb516aa4d3161d79cbcd945b1909214f7ccffdb64ec3bfde3", func := "loop.example/g00958/laws.FnIdentified", spec := "fnIdentified", unfollowed := true, recurses := true, apart := false }
def FnIdentifiedSaid : Prop := fnIdentifiedRow.holds Try.pinned (OpenSpec.ofChange fnIdentifiedSpec)

/-- ITS FALSE NEIGHBOUR: 'it returns false'. Refute it at one input. -/
def fnIdentifiedWrong : ChangeSpec := { name := "fnIdentified", fn := fun _ => fun
  | [d] => { results := [.lit (.bool false)], args := [d] }
  | _ => none }
def FnIdentifiedWrongFalsely : Prop := fnIdentifiedRow.holds Try.pinned (OpenSpec.ofChange fnIdentifiedWrong)

/-- 'laws.FnExactTwinOf': WHATEVER THE INPUT: true; the input reads as it did. -/
def fnExactTwinOfSpec : ChangeSpec := { name := "fnExactTwinOf", fn := fun _ => fun
  | [d1, d2, d3] => { results := [.lit (.bool true)], args := [d1, d2, d3] }
  | _ => none }
def fnExactTwinOfRow : OpenClaim := { program := "ytoniljblfenpeaa", sum := "4b8dc17fff1a1cfeb516aa4d3161d79cbcd945b1909214f7ccffdb64ec3bfde3", func := "loop.example/g00958/laws.FnExactTwinOf", spec := "fnExactTwinOf", unfollowed := true, recurses := true, apart := false }
def FnExactTwinOfSaid : Prop := fnExactTwinOfRow.holds Try.pinned (OpenSpec.ofChange fnExactTwinOfSpec)

/-- ITS FALSE NEIGHBOUR: 'it returns false'. Refute it at one input. -/
def fnExactTwinOfWrong : ChangeSpec := { name := "fnExactTwinOf", fn := fun _ => fun
  | [d1, d2, d3] => { results := [.lit (.bool false)], args := [d1, d2, d3] }
  | _ => none }
def FnExactTwinOfWrongFalsely : Prop := fnExactTwinOfRow.holds Try.pinned (OpenSpec.ofChange fnExactTwinOfWrong)

/-- 'laws.FnExactSmallestSets': WHATEVER THE INPUT: true; the input reads as it did. -/
def fnExactSmallestSetsSpec : ChangeSpec := { name := "fnExactSmallestSets", fn := fun _ => fun
  | [d1, d2, d3] => { results := [.lit (.bool true)], args := [d1, d2, d3] }
  | _ => none }
def fnExactSmallestSetsRow : OpenClaim := { program := "ytoniljblfenpeaa", sum := "4b8dc17fff1a1cfeb516aa4d3161d79cbcd945b1909214f7ccffdb64ec3bfde3", func := "loop.example/g00958/laws.FnExactSmallestSets", spec := "fnExactSmallestSets", unfollowed := true, recurses := true, apart := false }
def FnExactSmallestSetsSaid : Prop := fnExactSmallestSetsRow.holds Try.pinned (OpenSpec.ofChange fnExactSmallestSetsSpec)

/-- ITS FALSE NEIGHBOUR: 'it returns false'. Refute it at one input. -/
def fnExactSmallestSetsWrong : ChangeSpec := { name := "fnExactSmallestSets", fn := fun _ => fun
  | [d1, d2, d3] => { results := [.lit (.bool false)], args := [d1, d2, d3] }
  | _ => none }
def FnExactSmallestSetsWrongFalsely : Prop := fnExactSmallestSetsRow.holds Try.pinned (OpenSpec.ofChange fnExactSmallestSetsWrong)

/-- 'laws.FnExplained': WHATEVER THE INPUT: true; the input reads as it did. -/
def fnExplainedSpec : ChangeSpec := { name := "fnExplained", fn := fun _ => fun
  | [d] => { results := [.lit (.bool true)], args := [d] }
  | _ => none }
def fnExplainedRow : OpenClaim := { program := "ytoniljblfenpeaa", sum := "4b8dc17fff1a1cfeb516aa4d3161d79cbcd945b1909214f7ccffdb64ec3bfde3", func := "loop.example/g00958/laws.FnExplained", spec := "fnExplained", unfollowed := true, recurses := true, apart := false }
def FnExplainedSaid : Prop := fnExplainedRow.holds Try.pinned (OpenSpec.ofChange fnExplainedSpec)

/-- ITS FALSE NEIGHBOUR: 'it returns false'. Refute it at one input. -/
def fnExplainedWrong : ChangeSpec := { name := "fnExplained", fn := fun _ => fun
  | [d] => { results := [.lit (.bool false)], args := [d] }
  | _ => none }
def FnExplainedWrongFalsely : Prop := fnExplainedRow.holds Try.pinned (OpenSpec.ofChange fnExplainedWrong)

/- THE SECOND FORM. 'bulk': how many values and letters a reading holds, each counted each time it is reached (what is shared counts as often as it is met; a slice's spare places count too). A statement '..UptoSaid' is the law's where the arguments, and the package variables that the reading takes, are together of bulk at most 1048576: NARROWER than '..Said'. Prove '..Said' where nothing that the law and all that it calls make is longer than what came in: it says more and counts as full. Else prove '..UptoSaid'. A law counts once. -/
mutual
def uptoBulk {H : Type} : DataW H → Nat
  | .lit (.string bytes) => bytes.length + 1
  | .lit _ => 1
  | .nil => 1
  | .ptr d => uptoBulk d + 1
  | .slice elems spare => uptoBulkAll elems + uptoBulkAll spare + 1
  | .agg parts => uptoBulkAll parts + 1
  | .iface _ d => uptoBulk d + 1
  | .map entries => uptoBulkEntries entries + 1
  | .held _ => 1
def uptoBulkAll {H : Type} : List (DataW H) → Nat
  | [] => 0
  | d :: r => uptoBulk d + uptoBulkAll r
def uptoBulkEntries {H : Type} : List (Lit × DataW H) → Nat
  | [] => 0
  | x :: r => uptoBulkEntry x + uptoBulkEntries r
def uptoBulkEntry {H : Type} : Lit × DataW H → Nat
  | (.string bytes, d) => bytes.length + uptoBulk d + 1
  | (_, d) => uptoBulk d + 1
 end
def uptoSmall : (H : Type) → List (DataW H) → Bool := fun _ ds => decide (uptoBulkAll ds ≤ 1048576)
def OpenSpec.upto (s : _root_.Go.ChangeSpec) : _root_.Go.OpenSpec := { _root_.Go.OpenSpec.ofChange s with cond := some uptoSmall }

/-- 'laws.FnExactAreVerdicts', WHERE WHAT IT READS IS OF BULK AT MOST 1048576: true; the input reads as it did. -/
def fnExactAreVerdictsUptoRow : OpenClaim := { program := "ytoniljblfenpeaa", sum := "4b8dc17fff1a1cfeb516aa4d3161d79cbcd945b1909214f7ccffdb64ec3bfde3", func := "loop.example/g00958/laws.FnExactAreVerdicts", spec := "fnExactAreVerdicts", unfollowed := true, recurses := true, apart := false, narrowed := true }
def FnExactAreVerdictsUptoSaid : Prop := fnExactAreVerdictsUptoRow.holds Try.pinned (OpenSpec.upto fnExactAreVerdictsSpec)

/-- 'laws.FnExactUnseen', WHERE WHAT IT READS IS OF BULK AT MOST 1048576: true; the input reads as it did. -/
def fnExactUnseenUptoRow : OpenClaim := { program := "ytoniljblfenpeaa", sum := "4b8dc17fff1a1cfeb516aa4d3161d79cbcd945b1909214f7ccffdb64ec3bfde3", func := "loop.example/g00958/laws.FnExactUnseen", spec := "fnExactUnseen", unfollowed := true, recurses := true, apart := false, narrowed := true }
def FnExactUnseenUptoSaid : Prop := fnExactUnseenUptoRow.holds Try.pinned (OpenSpec.upto fnExactUnseenSpec)

/-- 'laws.FnExactSuspects', WHERE WHAT IT READS IS OF BULK AT MOST 1048576: true; the input reads as it did. -/
def fnExactSuspectsUptoRow : OpenClaim := { program := "ytoniljblfenpeaa", sum := "4b8dc17fff1a1cfeb516aa4d3161d79cbcd945b1909214f7ccffdb64ec3bfde3", func := "loop.example/g00958/laws.FnExactSuspects", spec := "fnExactSuspects", unfollowed := true, recurses := true, apart := false, narrowed := true }
def FnExactSuspectsUptoSaid : Prop := fnExactSuspectsUptoRow.holds Try.pinned (OpenSpec.upto fnExactSuspectsSpec)

/-- 'laws.FnExactCountClasses', WHERE WHAT IT READS IS OF BULK AT MOST 1048576: true; the input reads as it did. -/
def fnExactCountClassesUptoRow : OpenClaim := { program := "ytoniljblfenpeaa", sum := "4b8dc17fff1a1cfeb516aa4d3161d79cbcd945b1909214f7ccffdb64ec3bfde3", func := "loop.example/g00958/laws.FnExactCountClasses", spec := "fnExactCountClasses", unfollowed := true, recurses := true, apart := false, narrowed := true }
def FnExactCountClassesUptoSaid : Prop := fnExactCountClassesUptoRow.holds Try.pinned (OpenSpec.upto fnExactCountClassesSpec)

/-- 'laws.FnExactToldSize', WHERE WHAT IT READS IS OF BULK AT MOST 1048576: true; the input reads as it did. -/
def fnExactToldSizeUptoRow : OpenClaim := { program := "ytoniljblfenpeaa", sum := "4b8dc17fff1a1cfeb516aa4d3161d79cbcd945b1909214f7ccffdb64ec3bfde3", func := "loop.example/g00958/laws.FnExactToldSize", spec := "fnExactToldSize", unfollowed := true, recurses := true, apart := false, narrowed := true }
def FnExactToldSizeUptoSaid : Prop := fnExactToldSizeUptoRow.holds Try.pinned (OpenSpec.upto fnExactToldSizeSpec)

/-- 'laws.FnIdentified', WHERE WHAT IT READS IS OF BULK AT MOST 1048576: true; the input reads as it did. -/
def fnIdentifiedUptoRow : OpenClaim := { program := "ytoniljblfenpeaa", sum := "4b8dc17fff1a1cfeb516aa4d3161d79cbcd945b1909214f7ccffdb64ec3bfde3", func := "loop.example/g00958/laws.FnIdentified", spec := "fnIdentified", unfollowed := true, recurses := true, apart := false, narrowed := true }
def FnIdentifiedUptoSaid : Prop := fnIdentifiedUptoRow.holds Try.pinned (OpenSpec.upto fnIdentifiedSpec)

/-- 'laws.FnExactTwinOf', WHERE WHAT IT READS IS OF BULK AT MOST 1048576: true; the input reads as it did. -/
def fnExactTwinOfUptoRow : OpenClaim := { program := "ytoniljblfenpeaa", sum := "4b8dc17fff1a1cfeb516aa4d3161d79cbcd945b1909214f7ccffdb64ec3bfde3", func := "loop.example/g00958/laws.FnExactTwinOf", spec := "fnExactTwinOf", unfollowed := true, recurses := true, apart := false, narrowed := true }
def FnExactTwinOfUptoSaid : Prop := fnExactTwinOfUptoRow.holds Try.pinned (OpenSpec.upto fnExactTwinOfSpec)

/-- 'laws.FnExactSmallestSets', WHERE WHAT IT READS IS OF BULK AT MOST 1048576: true; the input reads as it did. -/
def fnExactSmallestSetsUptoRow : OpenClaim := { program := "ytoniljblfenpeaa", sum := "4b8dc17fff1a1cfeb516aa4d3161d79cbcd945b1909214f7ccffdb64ec3bfde3", func := "loop.example/g00958/laws.FnExactSmallestSets", spec := "fnExactSmallestSets", unfollowed := true, recurses := true, apart := false, narrowed := true }
def FnExactSmallestSetsUptoSaid : Prop := fnExactSmallestSetsUptoRow.holds Try.pinned (OpenSpec.upto fnExactSmallestSetsSpec)

/-- 'laws.FnExplained', WHERE WHAT IT READS IS OF BULK AT MOST 1048576: true; the input reads as it did. -/
def fnExplainedUptoRow : OpenClaim := { program := "ytoniljblfenpeaa", sum := "4b8dc17fff1a1cfeb516aa4d3161d79cbcd945b1909214f7ccffdb64ec3bfde3", func := "loop.example/g00958/laws.FnExplained", spec := "fnExplained", unfollowed := true, recurses := true, apart := false, narrowed := true }
def FnExplainedUptoSaid : Prop := fnExplainedUptoRow.holds Try.pinned (OpenSpec.upto fnExplainedSpec)

end Rows
end Go.Proofs.Ytoniljblfenpeaa
