-- Written by a program of this session out of the translation (wip/gen/hprint.sh). Lean checks it.
import Derived.Test.YtkiebefaancmiaaProg
import Derived.Below
import Derived.Deep.Draws
import Derived.Deep.AppendLies
import Derived.Maps.AppendAt
import Derived.OwnWalk
import Derived.Laws.BytesArg
import Derived.Laws.MakeOwn
import Derived.Laws.OwnMore
import Derived.Deep.OwnRows
import Derived.Tactics
import Derived.Lib.ConvBytes
import Derived.Laws.Slices
import Derived.WalkKit
import Derived.KernelRfl
import Derived.RowKit3
import Derived.Deep.LoopGhost
import Derived.Deep.QuietTactic
import Derived.BigQuiet
import Derived.WideLaws
import Derived.Deep.DeepCutAuto
import Derived.Deep.CutBlock
import Derived.Deep.RegionHeld3
import Derived.Laws.Rows
import Derived.Lib.AppendStr
import Derived.ArgAppend
import Derived.Laws.IdiomCopy
import Derived.OrdersHeld
import Derived.Laws.BitsLemmas
import Derived.RowKit
import Derived.Lib.SliceRun
import Derived.WalkSpells
import Derived.Test.YtkiebefaancmiaaWWords
import Derived.Test.YtkiebefaancmiaaWLast
import Derived.Test.YtkiebefaancmiaaWTab
import Derived.Test.YtkiebefaancmiaaWFour
import Derived.Test.YtkiebefaancmiaaWQPut
import Derived.Test.YtkiebefaancmiaaWApart
import Derived.Test.YtkiebefaancmiaaWArr
import Derived.Test.YtkiebefaancmiaaWZeros
import Derived.Test.YtkiebefaancmiaaWFoot
import Derived.Test.YtkiebefaancmiaaWKept
import Derived.Test.YtkiebefaancmiaaWShare
import Derived.Test.YtkiebefaancmiaaWN
import Derived.Test.YtkiebefaancmiaaWFootNe
import Derived.Test.YtkiebefaancmiaaWAt
import Derived.Test.YtkiebefaancmiaaWEqStruct
import Derived.Test.YtkiebefaancmiaaWRepsOne
import Derived.Test.YtkiebefaancmiaaWInv
import Derived.Test.YtkiebefaancmiaaWInvWords
import Derived.Test.YtkiebefaancmiaaWGuard
import Derived.Test.YtkiebefaancmiaaWNEv
import Derived.Test.YtkiebefaancmiaaWMore
namespace Go.Proofs.Ytkiebefaancmiaa.PFnExactJudgeClaims
open Go.RowKit Go.Proofs.YtkiebefaancmiaaW.PrintWords Go.Proofs.YtkiebefaancmiaaW.PrintLast Go.Proofs.YtkiebefaancmiaaW.PrintMore
attribute [local go_sem] max2_int min2_int max_two min_two max_three min_three max_four min_four   -- for this text's walks alone
set_option linter.unusedVariables false
set_option linter.unusedSimpArgs false



def errW : Option Int → Value
  | none => .nilIface
  | some c => .iface 0 (.int .i64 c)
theorem errW_none : errW none = .nilIface := rfl
theorem errW_some (c : Int) : errW (some c) = .iface 0 (.int .i64 c) := rfl

theorem info3 : (Try.prog.info? 3).map (fun i => (i.zero, i.size, i.bytes)) = some (some (.int .i64 0), 1, 8) := by kernel_rfl
-- the values' own types

end Go.Proofs.Ytkiebefaancmiaa.PFnExactJudgeClaims
