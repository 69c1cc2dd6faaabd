/-
  No cell of these rows narrows 'for every input' (looked for: loops, veiled, ifaces, maps, wideKeys, modest, calm, conditions, laid).
  DERIVED. THE GIVEN ROWS OF THIS SEAT. 11 by the template 'for every input the law returns true; each argument reads behind the call as it read before'; 0 by the template 'total and deterministic' (their statements: YtjdppjkjegdcgaaTotals.lean).
  GIVEN WITH THE SEED: the statements are not yours to turn. If you find one false, say at which input.
  Laid BY PROGRAM, IN A SANDBOX (cutbox-rows.mjs): the forced cells as the released guide's own fill.sh prints them over the translation 7aedd674d7a9a4fd… (all of the seat's roots in one cut). By AI agents, Wed Nov 11 2026. No macro, syntax, notation, axiom, sorry.
-/
import Derived.Test.YtjdppjkjegdcgaaChecked
import GoSem.Claim
import GoSem.ClaimJoined
import GoSem.ClaimMapViews
import Derived.JoinedTies
import Derived.KernelRfl
namespace Go.Proofs.Ytjdppjkjegdcgaa
/- THE CELL 'sum', in the pinned program and in every row, IS THE sha256 OF THE DUMP (.gsa) THAT YtjdppjkjegdcgaaProg.lean LOADS. Nothing in Lean hashes anything: it is a label: what it is worth is what the hold of that sum in a sandbox is worth. -/
noncomputable def Try.pinned : Pinned := { name := "ytjdppjkjegdcgaa", sum := "7aedd674d7a9a4fd7e2deb1eca066c039feb1da9b6b12d85179aa5d7de29a269", checked := Try.checked }
namespace Rows
def none {H : Type} : Left H := { results := [], args := [] }

/-- 'laws.FnExactChooseOf': WHATEVER THE INPUT: true; the input reads as it did. -/
def fnExactChooseOfSpec : ChangeSpec := { name := "fnExactChooseOf", fn := fun _ => fun
  | [d1, d2] => { results := [.lit (.bool true)], args := [d1, d2] }
  | _ => none }
def fnExactChooseOfRow : OpenClaim := { program := "ytjdppjkjegdcgaa", sum := "7aedd674d7a9a4fd7e2deb1eca066c039feb1da9b6b12d85179aa5d7de29a269", func := "loop.example/g00958/laws.FnExactChooseOf", spec := "fnExactChooseOf", apart := false }
def FnExactChooseOfSaid : Prop := fnExactChooseOfRow.holds Try.pinned (OpenSpec.ofChange fnExactChooseOfSpec)

/-- ITS FALSE NEIGHBOUR: 'it returns false'. Refute it at one input. -/
def fnExactChooseOfWrong : ChangeSpec := { name := "fnExactChooseOf", fn := fun _ => fun
  | [d1, d2] => { results := [.lit (.bool false)], args := [d1, d2] }
  | _ => none }
def FnExactChooseOfWrongFalsely : Prop := fnExactChooseOfRow.holds Try.pinned (OpenSpec.ofChange fnExactChooseOfWrong)

/-- 'laws.FnExactTailOf': WHATEVER THE INPUT: true; the input reads as it did. -/
def fnExactTailOfSpec : ChangeSpec := { name := "fnExactTailOf", fn := fun _ => fun
  | [d1, d2] => { results := [.lit (.bool true)], args := [d1, d2] }
  | _ => none }
def fnExactTailOfRow : OpenClaim := { program := "ytjdppjkjegdcgaa", sum := "7aedd674d7a9a4fd7e2deb1eca066c039feb1da9b6b12d85179aa5d7de29a269", func := "loop.example/g00958/laws.FnExactTailOf", spec := "fnExactTailOf", apart := false }
def FnExactTailOfSaid : Prop := fnExactTailOfRow.holds Try.pinned (OpenSpec.ofChange fnExactTailOfSpec)

/-- ITS FALSE NEIGHBOUR: 'it returns false'. Refute it at one input. -/
def fnExactTailOfWrong : ChangeSpec := { name := "fnExactTailOf", fn := fun _ => fun
  | [d1, d2] => { results := [.lit (.bool false)], args := [d1, d2] }
  | _ => none }
def FnExactTailOfWrongFalsely : Prop := fnExactTailOfRow.holds Try.pinned (OpenSpec.ofChange fnExactTailOfWrong)

/-- 'laws.FnExactIsRare': WHATEVER THE INPUT: true; the input reads as it did. -/
def fnExactIsRareSpec : ChangeSpec := { name := "fnExactIsRare", fn := fun _ => fun
  | [d1, d2, d3] => { results := [.lit (.bool true)], args := [d1, d2, d3] }
  | _ => none }
def fnExactIsRareRow : OpenClaim := { program := "ytjdppjkjegdcgaa", sum := "7aedd674d7a9a4fd7e2deb1eca066c039feb1da9b6b12d85179aa5d7de29a269", func := "loop.example/g00958/laws.FnExactIsRare", spec := "fnExactIsRare", apart := false }
def FnExactIsRareSaid : Prop := fnExactIsRareRow.holds Try.pinned (OpenSpec.ofChange fnExactIsRareSpec)

/-- ITS FALSE NEIGHBOUR: 'it returns false'. Refute it at one input. -/
def fnExactIsRareWrong : ChangeSpec := { name := "fnExactIsRare", fn := fun _ => fun
  | [d1, d2, d3] => { results := [.lit (.bool false)], args := [d1, d2, d3] }
  | _ => none }
def FnExactIsRareWrongFalsely : Prop := fnExactIsRareRow.holds Try.pinned (OpenSpec.ofChange fnExactIsRareWrong)

/-- 'laws.FnExactLeastRare': WHATEVER THE INPUT: true; the input reads as it did. -/
def fnExactLeastRareSpec : ChangeSpec := { name := "fnExactLeastRare", fn := fun _ => fun
  | [d1, d2] => { results := [.lit (.bool true)], args := [d1, d2] }
  | _ => none }
def fnExactLeastRareRow : OpenClaim := { program := "ytjdppjkjegdcgaa", sum := "7aedd674d7a9a4fd7e2deb1eca066c039feb1da9b6b12d85179aa5d7de29a269", func := "loop.example/g00958/laws.FnExactLeastRare", spec := "fnExactLeastRare", apart := false }
def FnExactLeastRareSaid : Prop := fnExactLeastRareRow.holds Try.pinned (OpenSpec.ofChange fnExactLeastRareSpec)

/-- ITS FALSE NEIGHBOUR: 'it returns false'. Refute it at one input. -/
def fnExactLeastRareWrong : ChangeSpec := { name := "fnExactLeastRare", fn := fun _ => fun
  | [d1, d2] => { results := [.lit (.bool false)], args := [d1, d2] }
  | _ => none }
def FnExactLeastRareWrongFalsely : Prop := fnExactLeastRareRow.holds Try.pinned (OpenSpec.ofChange fnExactLeastRareWrong)

/-- 'laws.FnExactPairsNeeded': WHATEVER THE INPUT: true; the input reads as it did. -/
def fnExactPairsNeededSpec : ChangeSpec := { name := "fnExactPairsNeeded", fn := fun _ => fun
  | [d] => { results := [.lit (.bool true)], args := [d] }
  | _ => none }
def fnExactPairsNeededRow : OpenClaim := { program := "ytjdppjkjegdcgaa", sum := "7aedd674d7a9a4fd7e2deb1eca066c039feb1da9b6b12d85179aa5d7de29a269", func := "loop.example/g00958/laws.FnExactPairsNeeded", spec := "fnExactPairsNeeded", apart := false }
def FnExactPairsNeededSaid : Prop := fnExactPairsNeededRow.holds Try.pinned (OpenSpec.ofChange fnExactPairsNeededSpec)

/-- ITS FALSE NEIGHBOUR: 'it returns false'. Refute it at one input. -/
def fnExactPairsNeededWrong : ChangeSpec := { name := "fnExactPairsNeeded", fn := fun _ => fun
  | [d] => { results := [.lit (.bool false)], args := [d] }
  | _ => none }
def FnExactPairsNeededWrongFalsely : Prop := fnExactPairsNeededRow.holds Try.pinned (OpenSpec.ofChange fnExactPairsNeededWrong)

/-- 'laws.FnChances': WHATEVER THE INPUT: true; the input reads as it did. -/
def fnChancesSpec : ChangeSpec := { name := "fnChances", fn := fun _ => fun
  | [d] => { results := [.lit (.bool true)], args := [d] }
  | _ => none }
def fnChancesRow : OpenClaim := { program := "ytjdppjkjegdcgaa", sum := "7aedd674d7a9a4fd7e2deb1eca066c039feb1da9b6b12d85179aa5d7de29a269", func := "loop.example/g00958/laws.FnChances", spec := "fnChances", apart := false }
def FnChancesSaid : Prop := fnChancesRow.holds Try.pinned (OpenSpec.ofChange fnChancesSpec)

/-- ITS FALSE NEIGHBOUR: 'it returns false'. Refute it at one input. -/
def fnChancesWrong : ChangeSpec := { name := "fnChances", fn := fun _ => fun
  | [d] => { results := [.lit (.bool false)], args := [d] }
  | _ => none }
def FnChancesWrongFalsely : Prop := fnChancesRow.holds Try.pinned (OpenSpec.ofChange fnChancesWrong)

/-- 'laws.FnExactWinsOf': WHATEVER THE INPUT: true; the input reads as it did. -/
def fnExactWinsOfSpec : ChangeSpec := { name := "fnExactWinsOf", fn := fun _ => fun
  | [d] => { results := [.lit (.bool true)], args := [d] }
  | _ => none }
def fnExactWinsOfRow : OpenClaim := { program := "ytjdppjkjegdcgaa", sum := "7aedd674d7a9a4fd7e2deb1eca066c039feb1da9b6b12d85179aa5d7de29a269", func := "loop.example/g00958/laws.FnExactWinsOf", spec := "fnExactWinsOf", apart := false }
def FnExactWinsOfSaid : Prop := fnExactWinsOfRow.holds Try.pinned (OpenSpec.ofChange fnExactWinsOfSpec)

/-- ITS FALSE NEIGHBOUR: 'it returns false'. Refute it at one input. -/
def fnExactWinsOfWrong : ChangeSpec := { name := "fnExactWinsOf", fn := fun _ => fun
  | [d] => { results := [.lit (.bool false)], args := [d] }
  | _ => none }
def FnExactWinsOfWrongFalsely : Prop := fnExactWinsOfRow.holds Try.pinned (OpenSpec.ofChange fnExactWinsOfWrong)

/-- 'laws.FnExactSwapPairs': WHATEVER THE INPUT: true; the input reads as it did. -/
def fnExactSwapPairsSpec : ChangeSpec := { name := "fnExactSwapPairs", fn := fun _ => fun
  | [d] => { results := [.lit (.bool true)], args := [d] }
  | _ => none }
def fnExactSwapPairsRow : OpenClaim := { program := "ytjdppjkjegdcgaa", sum := "7aedd674d7a9a4fd7e2deb1eca066c039feb1da9b6b12d85179aa5d7de29a269", func := "loop.example/g00958/laws.FnExactSwapPairs", spec := "fnExactSwapPairs", apart := false }
def FnExactSwapPairsSaid : Prop := fnExactSwapPairsRow.holds Try.pinned (OpenSpec.ofChange fnExactSwapPairsSpec)

/-- ITS FALSE NEIGHBOUR: 'it returns false'. Refute it at one input. -/
def fnExactSwapPairsWrong : ChangeSpec := { name := "fnExactSwapPairs", fn := fun _ => fun
  | [d] => { results := [.lit (.bool false)], args := [d] }
  | _ => none }
def FnExactSwapPairsWrongFalsely : Prop := fnExactSwapPairsRow.holds Try.pinned (OpenSpec.ofChange fnExactSwapPairsWrong)

/-- 'laws.FnExactIsShaped': WHATEVER THE INPUT: true; the input reads as it did. -/
def fnExactIsShapedSpec : ChangeSpec := { name := "fnExactIsShaped", fn := fun _ => fun
  | [d1, d2] => { results := [.lit (.bool true)], args := [d1, d2] }
  | _ => none }
def fnExactIsShapedRow : OpenClaim := { program := "ytjdppjkjegdcgaa", sum := "7aedd674d7a9a4fd7e2deb1eca066c039feb1da9b6b12d85179aa5d7de29a269", func := "loop.example/g00958/laws.FnExactIsShaped", spec := "fnExactIsShaped", apart := false }
def FnExactIsShapedSaid : Prop := fnExactIsShapedRow.holds Try.pinned (OpenSpec.ofChange fnExactIsShapedSpec)

/-- ITS FALSE NEIGHBOUR: 'it returns false'. Refute it at one input. -/
def fnExactIsShapedWrong : ChangeSpec := { name := "fnExactIsShaped", fn := fun _ => fun
  | [d1, d2] => { results := [.lit (.bool false)], args := [d1, d2] }
  | _ => none }
def FnExactIsShapedWrongFalsely : Prop := fnExactIsShapedRow.holds Try.pinned (OpenSpec.ofChange fnExactIsShapedWrong)

/-- 'laws.FnExactStopsAt': WHATEVER THE INPUT: true; the input reads as it did. -/
def fnExactStopsAtSpec : ChangeSpec := { name := "fnExactStopsAt", fn := fun _ => fun
  | [d1, d2] => { results := [.lit (.bool true)], args := [d1, d2] }
  | _ => none }
def fnExactStopsAtRow : OpenClaim := { program := "ytjdppjkjegdcgaa", sum := "7aedd674d7a9a4fd7e2deb1eca066c039feb1da9b6b12d85179aa5d7de29a269", func := "loop.example/g00958/laws.FnExactStopsAt", spec := "fnExactStopsAt", apart := false }
def FnExactStopsAtSaid : Prop := fnExactStopsAtRow.holds Try.pinned (OpenSpec.ofChange fnExactStopsAtSpec)

/-- ITS FALSE NEIGHBOUR: 'it returns false'. Refute it at one input. -/
def fnExactStopsAtWrong : ChangeSpec := { name := "fnExactStopsAt", fn := fun _ => fun
  | [d1, d2] => { results := [.lit (.bool false)], args := [d1, d2] }
  | _ => none }
def FnExactStopsAtWrongFalsely : Prop := fnExactStopsAtRow.holds Try.pinned (OpenSpec.ofChange fnExactStopsAtWrong)

/-- 'laws.FnStops': WHATEVER THE INPUT: true; the input reads as it did. -/
def fnStopsSpec : ChangeSpec := { name := "fnStops", fn := fun _ => fun
  | [d] => { results := [.lit (.bool true)], args := [d] }
  | _ => none }
def fnStopsRow : OpenClaim := { program := "ytjdppjkjegdcgaa", sum := "7aedd674d7a9a4fd7e2deb1eca066c039feb1da9b6b12d85179aa5d7de29a269", func := "loop.example/g00958/laws.FnStops", spec := "fnStops", apart := false }
def FnStopsSaid : Prop := fnStopsRow.holds Try.pinned (OpenSpec.ofChange fnStopsSpec)

/-- ITS FALSE NEIGHBOUR: 'it returns false'. Refute it at one input. -/
def fnStopsWrong : ChangeSpec := { name := "fnStops", fn := fun _ => fun
  | [d] => { results := [.lit (.bool false)], args := [d] }
  | _ => none }
def FnStopsWrongFalsely : Prop := fnStopsRow.holds Try.pinned (OpenSpec.ofChange fnStopsWrong)

/- THE SECOND FORM. 'bulk': how many values and letters a reading holds, each counted each time it is reached (what is shared counts as often as it is met; a slice's spare places count too). A statement '..UptoSaid' is the law's where the arguments, and the package variables that the reading takes, are together of bulk at most 1048576: NARROWER than '..Said'. Prove '..Said' where nothing that the law and all that it calls make is longer than what came in: it says more and counts as full. Else prove '..UptoSaid'. A law counts once. -/
mutual
def uptoBulk {H : Type} : DataW H → Nat
  | .lit (.string bytes) => bytes.length + 1
  | .lit _ => 1
  | .nil => 1
  | .ptr d => uptoBulk d + 1
  | .slice elems spare => uptoBulkAll elems + uptoBulkAll spare + 1
  | .agg parts => uptoBulkAll parts + 1
  | .iface _ d => uptoBulk d + 1
  | .map entries => uptoBulkEntries entries + 1
  | .held _ => 1
def uptoBulkAll {H : Type} : List (DataW H) → Nat
  | [] => 0
  | d :: r => uptoBulk d + uptoBulkAll r
def uptoBulkEntries {H : Type} : List (Lit × DataW H) → Nat
  | [] => 0
  | x :: r => uptoBulkEntry x + uptoBulkEntries r
def uptoBulkEntry {H : Type} : Lit × DataW H → Nat
  | (.string bytes, d) => bytes.length + uptoBulk d + 1
  | (_, d) => uptoBulk d + 1
 end
def uptoSmall : (H : Type) → List (DataW H) → Bool := fun _ ds => decide (uptoBulkAll ds ≤ 1048576)
def OpenSpec.upto (s : _root_.Go.ChangeSpec) : _root_.Go.OpenSpec := { _root_.Go.OpenSpec.ofChange s with cond := some uptoSmall }

/-- 'laws.FnExactChooseOf', WHERE WHAT IT READS IS OF BULK AT MOST 1048576: true; the input reads as it did. -/
def fnExactChooseOfUptoRow : OpenClaim := { program := "ytjdppjkjegdcgaa", sum := "7aedd674d7a9a4fd7e2deb1eca066c039feb1da9b6b12d85179aa5d7de29a269", func := "loop.example/g00958/laws.FnExactChooseOf", spec := "fnExactChooseOf", apart := false, narrowed := true }
def FnExactChooseOfUptoSaid : Prop := fnExactChooseOfUptoRow.holds Try.pinned (OpenSpec.upto fnExactChooseOfSpec)

/-- 'laws.FnExactTailOf', WHERE WHAT IT READS IS OF BULK AT MOST 1048576: true; the input reads as it did. -/
def fnExactTailOfUptoRow : OpenClaim := { program := "ytjdppjkjegdcgaa", sum := "7aedd674d7a9a4fd7e2deb1eca066c039feb1da9b6b12d85179aa5d7de29a269", func := "loop.example/g00958/laws.FnExactTailOf", spec := "fnExactTailOf", apart := false, narrowed := true }
def FnExactTailOfUptoSaid : Prop := fnExactTailOfUptoRow.holds Try.pinned (OpenSpec.upto fnExactTailOfSpec)

/-- 'laws.FnExactIsRare', WHERE WHAT IT READS IS OF BULK AT MOST 1048576: true; the input reads as it did. -/
def fnExactIsRareUptoRow : OpenClaim := { program := "ytjdppjkjegdcgaa", sum := "7aedd674d7a9a4fd7e2deb1eca066c039feb1da9b6b12d85179aa5d7de29a269", func := "loop.example/g00958/laws.FnExactIsRare", spec := "fnExactIsRare", apart := false, narrowed := true }
def FnExactIsRareUptoSaid : Prop := fnExactIsRareUptoRow.holds Try.pinned (OpenSpec.upto fnExactIsRareSpec)

/-- 'laws.FnExactLeastRare', WHERE WHAT IT READS IS OF BULK AT MOST 1048576: true; the input reads as it did. -/
def fnExactLeastRareUptoRow : OpenClaim := { program := "ytjdppjkjegdcgaa", sum := "7aedd674d7a9a4fd7e2deb1eca066c039feb1da9b6b12d85179aa5d7de29a269", func := "loop.example/g00958/laws.FnExactLeastRare", spec := "fnExactLeastRare", apart := false, narrowed := true }
def FnExactLeastRareUptoSaid : Prop := fnExactLeastRareUptoRow.holds Try.pinned (OpenSpec.upto fnExactLeastRareSpec)

/-- 'laws.FnExactPairsNeeded', WHERE WHAT IT READS IS OF BULK AT MOST 1048576: true; the input reads as it did. -/
def fnExactPairsNeededUptoRow : OpenClaim := { program := "ytjdppjkjegdcgaa", sum := "7aedd674d7a9a4fd7e2deb1eca066c039feb1da9b6b12d85179aa5d7de29a269", func := "loop.example/g00958/laws.FnExactPairsNeeded", spec := "fnExactPairsNeeded", apart := false, narrowed := true }
def FnExactPairsNeededUptoSaid : Prop := fnExactPairsNeededUptoRow.holds Try.pinned (OpenSpec.upto fnExactPairsNeededSpec)

/-- 'laws.FnChances', WHERE WHAT IT READS IS OF BULK AT MOST 1048576: true; the input reads as it did. -/
def fnChancesUptoRow : OpenClaim := { program := "ytjdppjkjegdcgaa", sum := "7aedd674d7a9a4fd7e2deb1eca066c039feb1da9b6b12d85179aa5d7de29a269", func := "loop.example/g00958/laws.FnChances", spec := "fnChances", apart := false, narrowed := true }
def FnChancesUptoSaid : Prop := fnChancesUptoRow.holds Try.pinned (OpenSpec.upto fnChancesSpec)

/-- 'laws.FnExactWinsOf', WHERE WHAT IT READS IS OF BULK AT MOST 1048576: true; the input reads as it did. -/
def fnExactWinsOfUptoRow : OpenClaim := { program := "ytjdppjkjegdcgaa", sum := "7aedd674d7a9a4fd7e2deb1eca066c039feb1da9b6b12d85179aa5d7de29a269", func := "loop.example/g00958/laws.FnExactWinsOf", spec := "fnExactWinsOf", apart := false, narrowed := true }
def FnExactWinsOfUptoSaid : Prop := fnExactWinsOfUptoRow.holds Try.pinned (OpenSpec.upto fnExactWinsOfSpec)

/-- 'laws.FnExactSwapPairs', WHERE WHAT IT READS IS OF BULK AT MOST 1048576: true; the input reads as it did. -/
def fnExactSwapPairsUptoRow : OpenClaim := { program := "ytjdppjkjegdcgaa", sum := "7aedd674d7a9a4fd7e2deb1eca066c039feb1da9b6b12d85179aa5d7de29a269", func := "loop.example/g00958/laws.FnExactSwapPairs", spec := "fnExactSwapPairs", apart := false, narrowed := true }
def FnExactSwapPairsUptoSaid : Prop := fnExactSwapPairsUptoRow.holds Try.pinned (OpenSpec.upto fnExactSwapPairsSpec)

/-- 'laws.FnExactIsShaped', WHERE WHAT IT READS IS OF BULK AT MOST 1048576: true; the input reads as it did. -/
def fnExactIsShapedUptoRow : OpenClaim := { program := "ytjdppjkjegdcgaa", sum := "7aedd674d7a9a4fd7e2deb1eca066c039feb1da9b6b12d85179aa5d7de29a269", func := "loop.example/g00958/laws.FnExactIsShaped", spec := "fnExactIsShaped", apart := false, narrowed := true }
def FnExactIsShapedUptoSaid : Prop := fnExactIsShapedUptoRow.holds Try.pinned (OpenSpec.upto fnExactIsShapedSpec)

/-- 'laws.FnExactStopsAt', WHERE WHAT IT READS IS OF BULK AT MOST 1048576: true; the input reads as it did. -/
def fnExactStopsAtUptoRow : OpenClaim := { program := "ytjdppjkjegdcgaa", sum := "7aedd674d7a9a4fd7e2deb1eca066c039feb1da9b6b12d85179aa5d7de29a269", func := "loop.example/g00958/laws.FnExactStopsAt", spec := "fnExactStopsAt", apart := false, narrowed := true }
def FnExactStopsAtUptoSaid : Prop := fnExactStopsAtUptoRow.holds Try.pinned (OpenSpec.upto fnExactStopsAtSpec)

/-- 'laws.FnStops', WHERE WHAT IT READS IS OF BULK AT MOST 1048576: true; the input reads as it did. -/
def fnStopsUptoRow : OpenClaim := { program := "ytjdppjkjegdcgaa", sum := "7aedd674d7a9a4fd7e2deb1eca066c039feb1da9b6b12d85179aa5d7de29a269", func := "loop.example/g00958/laws.FnStops", spec := "fnStops", apart := false, narrowed := true }
def FnStopsUptoSaid : Prop := fnStopsUptoRow.holds Try.pinned (OpenSpec.upto fnStopsSpec)

end Rows
end Go.Proofs.Ytjdppjkjegdcgaa
