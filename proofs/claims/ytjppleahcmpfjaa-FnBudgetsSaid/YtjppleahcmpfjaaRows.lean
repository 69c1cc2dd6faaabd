/-
  No cell of these rows narrows 'for every input' (looked for: loops, veiled, ifaces, maps, wideKeys, modest, calm, conditions, laid).
  DERIVED. THE GIVEN ROWS OF THIS SEAT. 7 by the template 'for every input the law returns true; each argument reads behind the call as it read before'; 0 by the template 'total and deterministic' (their statements: YtjppleahcmpfjaaTotals.lean).
  GIVEN WITH THE SEED: the statements are not yours to turn. If you find one false, say at which input.
  Laid BY PROGRAM, IN A SANDBOX (cutbox-rows.mjs): the forced cells as the released guide's own fill.sh prints them over the translation 804dd90b2f230888… (all of the seat's roots in one cut). By AI agents, Wed Nov 11 2026. No macro, syntax, notation, axiom, sorry.
-/
import Derived.Test.YtjppleahcmpfjaaChecked
import GoSem.Claim
import GoSem.ClaimJoined
import GoSem.ClaimMapViews
import Derived.JoinedTies
import Derived.KernelRfl
namespace Go.Proofs.Ytjppleahcmpfjaa
/- THE CELL 'sum', in the pinned program and in every row, IS THE sha256 OF THE DUMP (.gsa) THAT YtjppleahcmpfjaaProg.lean LOADS. Nothing in Lean hashes anything: it is a label: what it is worth is what the hold of that sum in a sandbox is worth. -/
noncomputable def Try.pinned : Pinned := { name := "ytjppleahcmpfjaa", sum := "804dd90b2f2308882af46420489222b0f77497045b8b587fa59d11cc29942d4b", checked := Try.checked }
namespace Rows
def none {H : Type} : Left H := { results := [], args := [] }

/-- 'laws.FnExactDisputeName': WHATEVER THE INPUT: true; the input reads as it did. -/
def fnExactDisputeNameSpec : ChangeSpec := { name := "fnExactDisputeName", fn := fun _ => fun
  | [d] => { results := [.lit (.bool true)], args := [d] }
  | _ => none }
def fnExactDisputeNameRow : OpenClaim := { program := "ytjppleahcmpfjaa", sum := "804dd90b2f2308882af46420489222b0f77497045b8b587fa59d11cc29942d4b", func := "loop.example/g00958/laws.FnExactDisputeName", spec := "fnExactDisputeName", apart := false }
def FnExactDisputeNameSaid : Prop := fnExactDisputeNameRow.holds Try.pinned (OpenSpec.ofChange fnExactDisputeNameSpec)

/-- ITS FALSE NEIGHBOUR: 'it returns false'. Refute it at one input. -/
def fnExactDisputeNameWrong : ChangeSpec := { name := "fnExactDisputeName", fn := fun _ => fun
  | [d] => { results := [.lit (.bool false)], args := [d] }
  | _ => none }
def FnExactDisputeNameWrongFalsely : Prop := fnExactDisputeNameRow.holds Try.pinned (OpenSpec.ofChange fnExactDisputeNameWrong)

/-- 'laws.FnExactIsBucket': WHATEVER THE INPUT: true; the input reads as it did. -/
def fnExactIsBucketSpec : ChangeSpec := { name := "fnExactIsBucket", fn := fun _ => fun
  | [d] => { results := [.lit (.bool true)], args := [d] }
  | _ => none }
def fnExactIsBucketRow : OpenClaim := { program := "ytjppleahcmpfjaa", sum := "804dd90b2f2308882af46420489222b0f77497045b8b587fa59d11cc29942d4b", func := "loop.example/g00958/laws.FnExactIsBucket", spec := "fnExactIsBucket", apart := false }
def FnExactIsBucketSaid : Prop := fnExactIsBucketRow.holds Try.pinned (OpenSpec.ofChange fnExactIsBucketSpec)

/-- ITS FALSE NEIGHBOUR: 'it returns false'. Refute it at one input. -/
def fnExactIsBucketWrong : ChangeSpec := { name := "fnExactIsBucket", fn := fun _ => fun
  | [d] => { results := [.lit (.bool false)], args := [d] }
  | _ => none }
def FnExactIsBucketWrongFalsely : Prop := fnExactIsBucketRow.holds Try.pinned (OpenSpec.ofChange fnExactIsBucketWrong)

/-- 'laws.FnExactMostIn': WHATEVER THE INPUT: true; the input reads as it did. -/
def fnExactMostInSpec : ChangeSpec := { name := "fnExactMostIn", fn := fun _ => fun
  | [d1, d2] => { results := [.lit (.bool true)], args := [d1, d2] }
  | _ => none }
def fnExactMostInRow : OpenClaim := { program := "ytjppleahcmpfjaa", sum := "804dd90b2f2308882af46420489222b0f77497045b8b587fa59d11cc29942d4b", func := "loop.example/g00958/laws.FnExactMostIn", spec := "fnExactMostIn", apart := false }
def FnExactMostInSaid : Prop := fnExactMostInRow.holds Try.pinned (OpenSpec.ofChange fnExactMostInSpec)

/-- ITS FALSE NEIGHBOUR: 'it returns false'. Refute it at one input. -/
def fnExactMostInWrong : ChangeSpec := { name := "fnExactMostIn", fn := fun _ => fun
  | [d1, d2] => { results := [.lit (.bool false)], args := [d1, d2] }
  | _ => none }
def FnExactMostInWrongFalsely : Prop := fnExactMostInRow.holds Try.pinned (OpenSpec.ofChange fnExactMostInWrong)

/-- 'laws.FnExactWaitFor': WHATEVER THE INPUT: true; the input reads as it did. -/
def fnExactWaitForSpec : ChangeSpec := { name := "fnExactWaitFor", fn := fun _ => fun
  | [d1, d2] => { results := [.lit (.bool true)], args := [d1, d2] }
  | _ => none }
def fnExactWaitForRow : OpenClaim := { program := "ytjppleahcmpfjaa", sum := "804dd90b2f2308882af46420489222b0f77497045b8b587fa59d11cc29942d4b", func := "loop.example/g00958/laws.FnExactWaitFor", spec := "fnExactWaitFor", apart := false }
def FnExactWaitForSaid : Prop := fnExactWaitForRow.holds Try.pinned (OpenSpec.ofChange fnExactWaitForSpec)

/-- ITS FALSE NEIGHBOUR: 'it returns false'. Refute it at one input. -/
def fnExactWaitForWrong : ChangeSpec := { name := "fnExactWaitFor", fn := fun _ => fun
  | [d1, d2] => { results := [.lit (.bool false)], args := [d1, d2] }
  | _ => none }
def FnExactWaitForWrongFalsely : Prop := fnExactWaitForRow.holds Try.pinned (OpenSpec.ofChange fnExactWaitForWrong)

/-- 'laws.FnExactFillBucket': WHATEVER THE INPUT: true; the input reads as it did. -/
def fnExactFillBucketSpec : ChangeSpec := { name := "fnExactFillBucket", fn := fun _ => fun
  | [d1, d2] => { results := [.lit (.bool true)], args := [d1, d2] }
  | _ => none }
def fnExactFillBucketRow : OpenClaim := { program := "ytjppleahcmpfjaa", sum := "804dd90b2f2308882af46420489222b0f77497045b8b587fa59d11cc29942d4b", func := "loop.example/g00958/laws.FnExactFillBucket", spec := "fnExactFillBucket", apart := false }
def FnExactFillBucketSaid : Prop := fnExactFillBucketRow.holds Try.pinned (OpenSpec.ofChange fnExactFillBucketSpec)

/-- ITS FALSE NEIGHBOUR: 'it returns false'. Refute it at one input. -/
def fnExactFillBucketWrong : ChangeSpec := { name := "fnExactFillBucket", fn := fun _ => fun
  | [d1, d2] => { results := [.lit (.bool false)], args := [d1, d2] }
  | _ => none }
def FnExactFillBucketWrongFalsely : Prop := fnExactFillBucketRow.holds Try.pinned (OpenSpec.ofChange fnExactFillBucketWrong)

/-- 'laws.FnExactTakeFrom': WHATEVER THE INPUT: true; the input reads as it did. -/
def fnExactTakeFromSpec : ChangeSpec := { name := "fnExactTakeFrom", fn := fun _ => fun
  | [d1, d2, d3] => { results := [.lit (.bool true)], args := [d1, d2, d3] }
  | _ => none }
def fnExactTakeFromRow : OpenClaim := { program := "ytjppleahcmpfjaa", sum := "804dd90b2f2308882af46420489222b0f77497045b8b587fa59d11cc29942d4b", func := "loop.example/g00958/laws.FnExactTakeFrom", spec := "fnExactTakeFrom", apart := false }
def FnExactTakeFromSaid : Prop := fnExactTakeFromRow.holds Try.pinned (OpenSpec.ofChange fnExactTakeFromSpec)

/-- ITS FALSE NEIGHBOUR: 'it returns false'. Refute it at one input. -/
def fnExactTakeFromWrong : ChangeSpec := { name := "fnExactTakeFrom", fn := fun _ => fun
  | [d1, d2, d3] => { results := [.lit (.bool false)], args := [d1, d2, d3] }
  | _ => none }
def FnExactTakeFromWrongFalsely : Prop := fnExactTakeFromRow.holds Try.pinned (OpenSpec.ofChange fnExactTakeFromWrong)

/-- 'laws.FnBudgets': WHATEVER THE INPUT: true; the input reads as it did. -/
def fnBudgetsSpec : ChangeSpec := { name := "fnBudgets", fn := fun _ => fun
  | [d] => { results := [.lit (.bool true)], args := [d] }
  | _ => none }
def fnBudgetsRow : OpenClaim := { program := "ytjppleahcmpfjaa", sum := "804dd90b2f2308882af46420489222b0f77497045b8b587fa59d11cc29942d4b", func := "loop.example/g00958/laws.FnBudgets", spec := "fnBudgets", apart := false }
def FnBudgetsSaid : Prop := fnBudgetsRow.holds Try.pinned (OpenSpec.ofChange fnBudgetsSpec)

/-- ITS FALSE NEIGHBOUR: 'it returns false'. Refute it at one input. -/
def fnBudgetsWrong : ChangeSpec := { name := "fnBudgets", fn := fun _ => fun
  | [d] => { results := [.lit (.bool false)], args := [d] }
  | _ => none }
def FnBudgetsWrongFalsely : Prop := fnBudgetsRow.holds Try.pinned (OpenSpec.ofChange fnBudgetsWrong)

/- THE SECOND FORM. 'bulk': how many values and letters a reading holds, each counted each time it is reached (what is shared counts as often as it is met; a slice's spare places count too). A statement '..UptoSaid' is the law's where the arguments, and the package variables that the reading takes, are together of bulk at most 1048576: NARROWER than '..Said'. Prove '..Said' where nothing that the law and all that it calls make is longer than what came in: it says more and counts as full. Else prove '..UptoSaid'. A law counts once. -/
mutual
def uptoBulk {H : Type} : DataW H → Nat
  | .lit (.string bytes) => bytes.length + 1
  | .lit _ => 1
  | .nil => 1
  | .ptr d => uptoBulk d + 1
  | .slice elems spare => uptoBulkAll elems + uptoBulkAll spare + 1
  | .agg parts => uptoBulkAll parts + 1
  | .iface _ d => uptoBulk d + 1
  | .map entries => uptoBulkEntries entries + 1
  | .held _ => 1
def uptoBulkAll {H : Type} : List (DataW H) → Nat
  | [] => 0
  | d :: r => uptoBulk d + uptoBulkAll r
def uptoBulkEntries {H : Type} : List (Lit × DataW H) → Nat
  | [] => 0
  | x :: r => uptoBulkEntry x + uptoBulkEntries r
def uptoBulkEntry {H : Type} : Lit × DataW H → Nat
  | (.string bytes, d) => bytes.length + uptoBulk d + 1
  | (_, d) => uptoBulk d + 1
 end
def uptoSmall : (H : Type) → List (DataW H) → Bool := fun _ ds => decide (uptoBulkAll ds ≤ 1048576)
def OpenSpec.upto (s : _root_.Go.ChangeSpec) : _root_.Go.OpenSpec := { _root_.Go.OpenSpec.ofChange s with cond := some uptoSmall }

/-- 'laws.FnExactDisputeName', WHERE WHAT IT READS IS OF BULK AT MOST 1048576: true; the input reads as it did. -/
def fnExactDisputeNameUptoRow : OpenClaim := { program := "ytjppleahcmpfjaa", sum := "804dd90b2f2308882af46420489222b0f77497045b8b587fa59d11cc29942d4b", func := "loop.example/g00958/laws.FnExactDisputeName", spec := "fnExactDisputeName", apart := false, narrowed := true }
def FnExactDisputeNameUptoSaid : Prop := fnExactDisputeNameUptoRow.holds Try.pinned (OpenSpec.upto fnExactDisputeNameSpec)

/-- 'laws.FnExactIsBucket', WHERE WHAT IT READS IS OF BULK AT MOST 1048576: true; the input reads as it did. -/
def fnExactIsBucketUptoRow : OpenClaim := { program := "ytjppleahcmpfjaa", sum := "804dd90b2f2308882af46420489222b0f77497045b8b587fa59d11cc29942d4b", func := "loop.example/g00958/laws.FnExactIsBucket", spec := "fnExactIsBucket", apart := false, narrowed := true }
def FnExactIsBucketUptoSaid : Prop := fnExactIsBucketUptoRow.holds Try.pinned (OpenSpec.upto fnExactIsBucketSpec)

/-- 'laws.FnExactMostIn', WHERE WHAT IT READS IS OF BULK AT MOST 1048576: true; the input reads as it did. -/
def fnExactMostInUptoRow : OpenClaim := { program := "ytjppleahcmpfjaa", sum := "804dd90b2f2308882af46420489222b0f77497045b8b587fa59d11cc29942d4b", func := "loop.example/g00958/laws.FnExactMostIn", spec := "fnExactMostIn", apart := false, narrowed := true }
def FnExactMostInUptoSaid : Prop := fnExactMostInUptoRow.holds Try.pinned (OpenSpec.upto fnExactMostInSpec)

/-- 'laws.FnExactWaitFor', WHERE WHAT IT READS IS OF BULK AT MOST 1048576: true; the input reads as it did. -/
def fnExactWaitForUptoRow : OpenClaim := { program := "ytjppleahcmpfjaa", sum := "804dd90b2f2308882af46420489222b0f77497045b8b587fa59d11cc29942d4b", func := "loop.example/g00958/laws.FnExactWaitFor", spec := "fnExactWaitFor", apart := false, narrowed := true }
def FnExactWaitForUptoSaid : Prop := fnExactWaitForUptoRow.holds Try.pinned (OpenSpec.upto fnExactWaitForSpec)

/-- 'laws.FnExactFillBucket', WHERE WHAT IT READS IS OF BULK AT MOST 1048576: true; the input reads as it did. -/
def fnExactFillBucketUptoRow : OpenClaim := { program := "ytjppleahcmpfjaa", sum := "804dd90b2f2308882af46420489222b0f77497045b8b587fa59d11cc29942d4b", func := "loop.example/g00958/laws.FnExactFillBucket", spec := "fnExactFillBucket", apart := false, narrowed := true }
def FnExactFillBucketUptoSaid : Prop := fnExactFillBucketUptoRow.holds Try.pinned (OpenSpec.upto fnExactFillBucketSpec)

/-- 'laws.FnExactTakeFrom', WHERE WHAT IT READS IS OF BULK AT MOST 1048576: true; the input reads as it did. -/
def fnExactTakeFromUptoRow : OpenClaim := { program := "ytjppleahcmpfjaa", sum := "804dd90b2f2308882af46420489222b0f77497045b8b587fa59d11cc29942d4b", func := "loop.example/g00958/laws.FnExactTakeFrom", spec := "fnExactTakeFrom", apart := false, narrowed := true }
def FnExactTakeFromUptoSaid : Prop := fnExactTakeFromUptoRow.holds Try.pinned (OpenSpec.upto fnExactTakeFromSpec)

/-- 'laws.FnBudgets', WHERE WHAT IT READS IS OF BULK AT MOST 1048576: true; the input reads as it did. -/
def fnBudgetsUptoRow : OpenClaim := { program := "ytjppleahcmpfjaa", sum := "804dd90b2f2308882af46420489222b0f77497045b8b587fa59d11cc29942d4b", func := "loop.example/g00958/laws.FnBudgets", spec := "fnBudgets", apart := false, narrowed := true }
def FnBudgetsUptoSaid : Prop := fnBudgetsUptoRow.holds Try.pinned (OpenSpec.upto fnBudgetsSpec)

end Rows
end Go.Proofs.Ytjppleahcmpfjaa
