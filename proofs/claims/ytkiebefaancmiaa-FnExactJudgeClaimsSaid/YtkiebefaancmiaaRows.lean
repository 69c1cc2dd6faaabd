/-
  No cell of these rows narrows 'for every input' (looked for: loops, veiled, ifaces, maps, wideKeys, modest, calm, conditions, laid).
  DERIVED. THE GIVEN ROWS OF THIS SEAT. 10 by the template 'for every input the law returns true; each argument reads behind the call as it read before'; 0 by the template 'total and deterministic' (their statements: YtkiebefaancmiaaTotals.lean).
  GIVEN WITH THE SEED: the statements are not yours to turn. If you find one false, say at which input.
  Laid BY PROGRAM, IN A SANDBOX (cutbox-rows.mjs): the forced cells as the released guide's own fill.sh prints them over the translation 6c3e933341a9e076… (all of the seat's roots in one cut). By AI agents, Wed Nov 11 2026. No macro, syntax, notation, axiom, sorry.
-/
import Derived.Test.YtkiebefaancmiaaChecked
import GoSem.Claim
import GoSem.ClaimJoined
import GoSem.ClaimMapViews
import Derived.JoinedTies
import Derived.KernelRfl
namespace Go.Proofs.Ytkiebefaancmiaa
/- THE CELL 'sum', in the pinned program and in every row, IS THE sha256 OF THE DUMP (.gsa) THAT YtkiebefaancmiaaProg.lean LOADS. Nothing in Lean hashes anything: it is a label: what it is worth is what the hold of that sum in a sandbox is worth. -/
noncomputable def Try.pinned : Pinned := { name := "ytkiebefaancmiaa", sum := "6c3e933341a9e0761fa2ca380c7c6298f5673a922e16849100fe5b604621a921", checked := Try.checked }
namespace Rows
def none {H : Type} : Left H := { results := [], args := [] }

/-- 'laws.FnExactTotalOf': WHATEVER THE INPUT: true; the input reads as it did. -/
def fnExactTotalOfSpec : ChangeSpec := { name := "fnExactTotalOf", fn := fun _ => fun
  | [d] => { results := [.lit (.bool true)], args := [d] }
  | _ => none }
def fnExactTotalOfRow : OpenClaim := { program := "ytkiebefaancmiaa", sum := "6c3e933341a9e0761fa2ca380c7c6298f5673a922e16849100fe5b604621a921", func := "loop.example/g00958/laws.FnExactTotalOf", spec := "fnExactTotalOf", apart := false }
def FnExactTotalOfSaid : Prop := fnExactTotalOfRow.holds Try.pinned (OpenSpec.ofChange fnExactTotalOfSpec)

/-- ITS FALSE NEIGHBOUR: 'it returns false'. Refute it at one input. -/
def fnExactTotalOfWrong : ChangeSpec := { name := "fnExactTotalOf", fn := fun _ => fun
  | [d] => { results := [.lit (.bool false)], args := [d] }
  | _ => none }
def FnExactTotalOfWrongFalsely : Prop := fnExactTotalOfRow.holds Try.pinned (OpenSpec.ofChange fnExactTotalOfWrong)

/-- 'laws.FnExactChainTags': WHATEVER THE INPUT: true; the input reads as it did. -/
def fnExactChainTagsSpec : ChangeSpec := { name := "fnExactChainTags", fn := fun _ => fun
  | [d] => { results := [.lit (.bool true)], args := [d] }
  | _ => none }
def fnExactChainTagsRow : OpenClaim := { program := "ytkiebefaancmiaa", sum := "6c3e933341a9e0761fa2ca380c7c6298f5673a922e16849100fe5b604621a921", func := "loop.example/g00958/laws.FnExactChainTags", spec := "fnExactChainTags", apart := false }
def FnExactChainTagsSaid : Prop := fnExactChainTagsRow.holds Try.pinned (OpenSpec.ofChange fnExactChainTagsSpec)

/-- ITS FALSE NEIGHBOUR: 'it returns false'. Refute it at one input. -/
def fnExactChainTagsWrong : ChangeSpec := { name := "fnExactChainTags", fn := fun _ => fun
  | [d] => { results := [.lit (.bool false)], args := [d] }
  | _ => none }
def FnExactChainTagsWrongFalsely : Prop := fnExactChainTagsRow.holds Try.pinned (OpenSpec.ofChange fnExactChainTagsWrong)

/-- 'laws.FnExactCountFar': WHATEVER THE INPUT: true; the input reads as it did. -/
def fnExactCountFarSpec : ChangeSpec := { name := "fnExactCountFar", fn := fun _ => fun
  | [d1, d2, d3] => { results := [.lit (.bool true)], args := [d1, d2, d3] }
  | _ => none }
def fnExactCountFarRow : OpenClaim := { program := "ytkiebefaancmiaa", sum := "6c3e933341a9e0761fa2ca380c7c6298f5673a922e16849100fe5b604621a921", func := "loop.example/g00958/laws.FnExactCountFar", spec := "fnExactCountFar", apart := false }
def FnExactCountFarSaid : Prop := fnExactCountFarRow.holds Try.pinned (OpenSpec.ofChange fnExactCountFarSpec)

/-- ITS FALSE NEIGHBOUR: 'it returns false'. Refute it at one input. -/
def fnExactCountFarWrong : ChangeSpec := { name := "fnExactCountFar", fn := fun _ => fun
  | [d1, d2, d3] => { results := [.lit (.bool false)], args := [d1, d2, d3] }
  | _ => none }
def FnExactCountFarWrongFalsely : Prop := fnExactCountFarRow.holds Try.pinned (OpenSpec.ofChange fnExactCountFarWrong)

/-- 'laws.FnExactCommitTo': WHATEVER THE INPUT: true; the input reads as it did. -/
def fnExactCommitToSpec : ChangeSpec := { name := "fnExactCommitTo", fn := fun _ => fun
  | [d1, d2] => { results := [.lit (.bool true)], args := [d1, d2] }
  | _ => none }
def fnExactCommitToRow : OpenClaim := { program := "ytkiebefaancmiaa", sum := "6c3e933341a9e0761fa2ca380c7c6298f5673a922e16849100fe5b604621a921", func := "loop.example/g00958/laws.FnExactCommitTo", spec := "fnExactCommitTo", apart := false }
def FnExactCommitToSaid : Prop := fnExactCommitToRow.holds Try.pinned (OpenSpec.ofChange fnExactCommitToSpec)

/-- ITS FALSE NEIGHBOUR: 'it returns false'. Refute it at one input. -/
def fnExactCommitToWrong : ChangeSpec := { name := "fnExactCommitTo", fn := fun _ => fun
  | [d1, d2] => { results := [.lit (.bool false)], args := [d1, d2] }
  | _ => none }
def FnExactCommitToWrongFalsely : Prop := fnExactCommitToRow.holds Try.pinned (OpenSpec.ofChange fnExactCommitToWrong)

/-- 'laws.FnExactOpensTo': WHATEVER THE INPUT: true; the input reads as it did. -/
def fnExactOpensToSpec : ChangeSpec := { name := "fnExactOpensTo", fn := fun _ => fun
  | [d1, d2, d3] => { results := [.lit (.bool true)], args := [d1, d2, d3] }
  | _ => none }
def fnExactOpensToRow : OpenClaim := { program := "ytkiebefaancmiaa", sum := "6c3e933341a9e0761fa2ca380c7c6298f5673a922e16849100fe5b604621a921", func := "loop.example/g00958/laws.FnExactOpensTo", spec := "fnExactOpensTo", apart := false }
def FnExactOpensToSaid : Prop := fnExactOpensToRow.holds Try.pinned (OpenSpec.ofChange fnExactOpensToSpec)

/-- ITS FALSE NEIGHBOUR: 'it returns false'. Refute it at one input. -/
def fnExactOpensToWrong : ChangeSpec := { name := "fnExactOpensTo", fn := fun _ => fun
  | [d1, d2, d3] => { results := [.lit (.bool false)], args := [d1, d2, d3] }
  | _ => none }
def FnExactOpensToWrongFalsely : Prop := fnExactOpensToRow.holds Try.pinned (OpenSpec.ofChange fnExactOpensToWrong)

/-- 'laws.FnExactIsOpened': WHATEVER THE INPUT: true; the input reads as it did. -/
def fnExactIsOpenedSpec : ChangeSpec := { name := "fnExactIsOpened", fn := fun _ => fun
  | [d] => { results := [.lit (.bool true)], args := [d] }
  | _ => none }
def fnExactIsOpenedRow : OpenClaim := { program := "ytkiebefaancmiaa", sum := "6c3e933341a9e0761fa2ca380c7c6298f5673a922e16849100fe5b604621a921", func := "loop.example/g00958/laws.FnExactIsOpened", spec := "fnExactIsOpened", apart := false }
def FnExactIsOpenedSaid : Prop := fnExactIsOpenedRow.holds Try.pinned (OpenSpec.ofChange fnExactIsOpenedSpec)

/-- ITS FALSE NEIGHBOUR: 'it returns false'. Refute it at one input. -/
def fnExactIsOpenedWrong : ChangeSpec := { name := "fnExactIsOpened", fn := fun _ => fun
  | [d] => { results := [.lit (.bool false)], args := [d] }
  | _ => none }
def FnExactIsOpenedWrongFalsely : Prop := fnExactIsOpenedRow.holds Try.pinned (OpenSpec.ofChange fnExactIsOpenedWrong)

/-- 'laws.FnCommits': WHATEVER THE INPUT: true; the input reads as it did. -/
def fnCommitsSpec : ChangeSpec := { name := "fnCommits", fn := fun _ => fun
  | [d] => { results := [.lit (.bool true)], args := [d] }
  | _ => none }
def fnCommitsRow : OpenClaim := { program := "ytkiebefaancmiaa", sum := "6c3e933341a9e0761fa2ca380c7c6298f5673a922e16849100fe5b604621a921", func := "loop.example/g00958/laws.FnCommits", spec := "fnCommits", apart := false }
def FnCommitsSaid : Prop := fnCommitsRow.holds Try.pinned (OpenSpec.ofChange fnCommitsSpec)

/-- ITS FALSE NEIGHBOUR: 'it returns false'. Refute it at one input. -/
def fnCommitsWrong : ChangeSpec := { name := "fnCommits", fn := fun _ => fun
  | [d] => { results := [.lit (.bool false)], args := [d] }
  | _ => none }
def FnCommitsWrongFalsely : Prop := fnCommitsRow.holds Try.pinned (OpenSpec.ofChange fnCommitsWrong)

/-- 'laws.FnExactJudgeClaims': WHATEVER THE INPUT: true; the input reads as it did. -/
def fnExactJudgeClaimsSpec : ChangeSpec := { name := "fnExactJudgeClaims", fn := fun _ => fun
  | [d1, d2, d3, d4] => { results := [.lit (.bool true)], args := [d1, d2, d3, d4] }
  | _ => none }
def fnExactJudgeClaimsRow : OpenClaim := { program := "ytkiebefaancmiaa", sum := "6c3e933341a9e0761fa2ca380c7c6298f5673a922e16849100fe5b604621a921", func := "loop.example/g00958/laws.FnExactJudgeClaims", spec := "fnExactJudgeClaims", apart := false }
def FnExactJudgeClaimsSaid : Prop := fnExactJudgeClaimsRow.holds Try.pinned (OpenSpec.ofChange fnExactJudgeClaimsSpec)

/-- ITS FALSE NEIGHBOUR: 'it returns false'. Refute it at one input. -/
def fnExactJudgeClaimsWrong : ChangeSpec := { name := "fnExactJudgeClaims", fn := fun _ => fun
  | [d1, d2, d3, d4] => { results := [.lit (.bool false)], args := [d1, d2, d3, d4] }
  | _ => none }
def FnExactJudgeClaimsWrongFalsely : Prop := fnExactJudgeClaimsRow.holds Try.pinned (OpenSpec.ofChange fnExactJudgeClaimsWrong)

/-- 'laws.FnJudged': WHATEVER THE INPUT: true; the input reads as it did. -/
def fnJudgedSpec : ChangeSpec := { name := "fnJudged", fn := fun _ => fun
  | [d] => { results := [.lit (.bool true)], args := [d] }
  | _ => none }
def fnJudgedRow : OpenClaim := { program := "ytkiebefaancmiaa", sum := "6c3e933341a9e0761fa2ca380c7c6298f5673a922e16849100fe5b604621a921", func := "loop.example/g00958/laws.FnJudged", spec := "fnJudged", apart := false }
def FnJudgedSaid : Prop := fnJudgedRow.holds Try.pinned (OpenSpec.ofChange fnJudgedSpec)

/-- ITS FALSE NEIGHBOUR: 'it returns false'. Refute it at one input. -/
def fnJudgedWrong : ChangeSpec := { name := "fnJudged", fn := fun _ => fun
  | [d] => { results := [.lit (.bool false)], args := [d] }
  | _ => none }
def FnJudgedWrongFalsely : Prop := fnJudgedRow.holds Try.pinned (OpenSpec.ofChange fnJudgedWrong)

/-- 'laws.FnExactValuesWithout': WHATEVER THE INPUT: true; the input reads as it did. -/
def fnExactValuesWithoutSpec : ChangeSpec := { name := "fnExactValuesWithout", fn := fun _ => fun
  | [d1, d2, d3] => { results := [.lit (.bool true)], args := [d1, d2, d3] }
  | _ => none }
def fnExactValuesWithoutRow : OpenClaim := { program := "ytkiebefaancmiaa", sum := "6c3e933341a9e0761fa2ca380c7c6298f5673a922e16849100fe5b604621a921", func := "loop.example/g00958/laws.FnExactValuesWithout", spec := "fnExactValuesWithout", apart := false }
def FnExactValuesWithoutSaid : Prop := fnExactValuesWithoutRow.holds Try.pinned (OpenSpec.ofChange fnExactValuesWithoutSpec)

/-- ITS FALSE NEIGHBOUR: 'it returns false'. Refute it at one input. -/
def fnExactValuesWithoutWrong : ChangeSpec := { name := "fnExactValuesWithout", fn := fun _ => fun
  | [d1, d2, d3] => { results := [.lit (.bool false)], args := [d1, d2, d3] }
  | _ => none }
def FnExactValuesWithoutWrongFalsely : Prop := fnExactValuesWithoutRow.holds Try.pinned (OpenSpec.ofChange fnExactValuesWithoutWrong)

/- THE SECOND FORM. 'bulk': how many values and letters a reading holds, each counted each time it is reached (what is shared counts as often as it is met; a slice's spare places count too). A statement '..UptoSaid' is the law's where the arguments, and the package variables that the reading takes, are together of bulk at most 1048576: NARROWER than '..Said'. Prove '..Said' where nothing that the law and all that it calls make is longer than what came in: it says more and counts as full. Else prove '..UptoSaid'. A law counts once. -/
mutual
def uptoBulk {H : Type} : DataW H → Nat
  | .lit (.string bytes) => bytes.length + 1
  | .lit _ => 1
  | .nil => 1
  | .ptr d => uptoBulk d + 1
  | .slice elems spare => uptoBulkAll elems + uptoBulkAll spare + 1
  | .agg parts => uptoBulkAll parts + 1
  | .iface _ d => uptoBulk d + 1
  | .map entries => uptoBulkEntries entries + 1
  | .held _ => 1
def uptoBulkAll {H : Type} : List (DataW H) → Nat
  | [] => 0
  | d :: r => uptoBulk d + uptoBulkAll r
def uptoBulkEntries {H : Type} : List (Lit × DataW H) → Nat
  | [] => 0
  | x :: r => uptoBulkEntry x + uptoBulkEntries r
def uptoBulkEntry {H : Type} : Lit × DataW H → Nat
  | (.string bytes, d) => bytes.length + uptoBulk d + 1
  | (_, d) => uptoBulk d + 1
 end
def uptoSmall : (H : Type) → List (DataW H) → Bool := fun _ ds => decide (uptoBulkAll ds ≤ 1048576)
def OpenSpec.upto (s : _root_.Go.ChangeSpec) : _root_.Go.OpenSpec := { _root_.Go.OpenSpec.ofChange s with cond := some uptoSmall }

/-- 'laws.FnExactTotalOf', WHERE WHAT IT READS IS OF BULK AT MOST 1048576: true; the input reads as it did. -/
def fnExactTotalOfUptoRow : OpenClaim := { program := "ytkiebefaancmiaa", sum := "6c3e933341a9e0761fa2ca380c7c6298f5673a922e16849100fe5b604621a921", func := "loop.example/g00958/laws.FnExactTotalOf", spec := "fnExactTotalOf", apart := false, narrowed := true }
def FnExactTotalOfUptoSaid : Prop := fnExactTotalOfUptoRow.holds Try.pinned (OpenSpec.upto fnExactTotalOfSpec)

/-- 'laws.FnExactChainTags', WHERE WHAT IT READS IS OF BULK AT MOST 1048576: true; the input reads as it did. -/
def fnExactChainTagsUptoRow : OpenClaim := { program := "ytkiebefaancmiaa", sum := "6c3e933341a9e0761fa2ca380c7c6298f5673a922e16849100fe5b604621a921", func := "loop.example/g00958/laws.FnExactChainTags", spec := "fnExactChainTags", apart := false, narrowed := true }
def FnExactChainTagsUptoSaid : Prop := fnExactChainTagsUptoRow.holds Try.pinned (OpenSpec.upto fnExactChainTagsSpec)

/-- 'laws.FnExactCountFar', WHERE WHAT IT READS IS OF BULK AT MOST 1048576: true; the input reads as it did. -/
def fnExactCountFarUptoRow : OpenClaim := { program := "ytkiebefaancmiaa", sum := "6c3e933341a9e0761fa2ca380c7c6298f5673a922e16849100fe5b604621a921", func := "loop.example/g00958/laws.FnExactCountFar", spec := "fnExactCountFar", apart := false, narrowed := true }
def FnExactCountFarUptoSaid : Prop := fnExactCountFarUptoRow.holds Try.pinned (OpenSpec.upto fnExactCountFarSpec)

/-- 'laws.FnExactCommitTo', WHERE WHAT IT READS IS OF BULK AT MOST 1048576: true; the input reads as it did. -/
def fnExactCommitToUptoRow : OpenClaim := { program := "ytkiebefaancmiaa", sum := "6c3e933341a9e0761fa2ca380c7c6298f5673a922e16849100fe5b604621a921", func := "loop.example/g00958/laws.FnExactCommitTo", spec := "fnExactCommitTo", apart := false, narrowed := true }
def FnExactCommitToUptoSaid : Prop := fnExactCommitToUptoRow.holds Try.pinned (OpenSpec.upto fnExactCommitToSpec)

/-- 'laws.FnExactOpensTo', WHERE WHAT IT READS IS OF BULK AT MOST 1048576: true; the input reads as it did. -/
def fnExactOpensToUptoRow : OpenClaim := { program := "ytkiebefaancmiaa", sum := "6c3e933341a9e0761fa2ca380c7c6298f5673a922e16849100fe5b604621a921", func := "loop.example/g00958/laws.FnExactOpensTo", spec := "fnExactOpensTo", apart := false, narrowed := true }
def FnExactOpensToUptoSaid : Prop := fnExactOpensToUptoRow.holds Try.pinned (OpenSpec.upto fnExactOpensToSpec)

/-- 'laws.FnExactIsOpened', WHERE WHAT IT READS IS OF BULK AT MOST 1048576: true; the input reads as it did. -/
def fnExactIsOpenedUptoRow : OpenClaim := { program := "ytkiebefaancmiaa", sum := "6c3e933341a9e0761fa2ca380c7c6298f5673a922e16849100fe5b604621a921", func := "loop.example/g00958/laws.FnExactIsOpened", spec := "fnExactIsOpened", apart := false, narrowed := true }
def FnExactIsOpenedUptoSaid : Prop := fnExactIsOpenedUptoRow.holds Try.pinned (OpenSpec.upto fnExactIsOpenedSpec)

/-- 'laws.FnCommits', WHERE WHAT IT READS IS OF BULK AT MOST 1048576: true; the input reads as it did. -/
def fnCommitsUptoRow : OpenClaim := { program := "ytkiebefaancmiaa", sum := "6c3e933341a9e0761fa2ca380c7c6298f5673a922e16849100fe5b604621a921", func := "loop.example/g00958/laws.FnCommits", spec := "fnCommits", apart := false, narrowed := true }
def FnCommitsUptoSaid : Prop := fnCommitsUptoRow.holds Try.pinned (OpenSpec.upto fnCommitsSpec)

/-- 'laws.FnExactJudgeClaims', WHERE WHAT IT READS IS OF BULK AT MOST 1048576: true; the input reads as it did. -/
def fnExactJudgeClaimsUptoRow : OpenClaim := { program := "ytkiebefaancmiaa", sum := "6c3e933341a9e0761fa2ca380c7c6298f5673a922e16849100fe5b604621a921", func := "loop.example/g00958/laws.FnExactJudgeClaims", spec := "fnExactJudgeClaims", apart := false, narrowed := true }
def FnExactJudgeClaimsUptoSaid : Prop := fnExactJudgeClaimsUptoRow.holds Try.pinned (OpenSpec.upto fnExactJudgeClaimsSpec)

/-- 'laws.FnJudged', WHERE WHAT IT READS IS OF BULK AT MOST 1048576: true; the input reads as it did. -/
def fnJudgedUptoRow : OpenClaim := { program := "ytkiebefaancmiaa", sum := "6c3e933341a9e0761fa2ca380c7c6298f5673a922e16849100fe5b604621a921", func := "loop.example/g00958/laws.FnJudged", spec := "fnJudged", apart := false, narrowed := true }
def FnJudgedUptoSaid : Prop := fnJudgedUptoRow.holds Try.pinned (OpenSpec.upto fnJudgedSpec)

/-- 'laws.FnExactValuesWithout', WHERE WHAT IT READS IS OF BULK AT MOST 1048576: true; the input reads as it did. -/
def fnExactValuesWithoutUptoRow : OpenClaim := { program := "ytkiebefaancmiaa", sum := "6c3e933341a9e0761fa2ca380c7c6298f5673a922e16849100fe5b604621a921", func := "loop.example/g00958/laws.FnExactValuesWithout", spec := "fnExactValuesWithout", apart := false, narrowed := true }
def FnExactValuesWithoutUptoSaid : Prop := fnExactValuesWithoutUptoRow.holds Try.pinned (OpenSpec.upto fnExactValuesWithoutSpec)

end Rows
end Go.Proofs.Ytkiebefaancmiaa
