-- Written by a program of this session out of the translation (wip/gen/hprint.sh). Lean checks it.
import Derived.Test.YtjdppjkjegdcgaaProg
import Derived.Below
import Derived.Deep.Draws
import Derived.Deep.AppendLies
import Derived.Maps.AppendAt
import Derived.OwnWalk
import Derived.Laws.BytesArg
import Derived.Laws.MakeOwn
import Derived.Laws.OwnMore
import Derived.Deep.OwnRows
import Derived.Tactics
import Derived.Lib.ConvBytes
import Derived.Laws.Slices
import Derived.WalkKit
import Derived.KernelRfl
import Derived.RowKit3
import Derived.Deep.LoopGhost
import Derived.Deep.QuietTactic
import Derived.BigQuiet
import Derived.WideLaws
import Derived.Deep.DeepCutAuto
import Derived.Deep.CutBlock
import Derived.Deep.RegionHeld3
import Derived.Laws.Rows
import Derived.Lib.AppendStr
import Derived.ArgAppend
import Derived.Laws.IdiomCopy
import Derived.OrdersHeld
import Derived.Laws.BitsLemmas
import Derived.RowKit
import Derived.Test.YtjdppjkjegdcgaaWWords
import Derived.Test.YtjdppjkjegdcgaaWLast
import Derived.Test.YtjdppjkjegdcgaaWTab
import Derived.Test.YtjdppjkjegdcgaaWFour
import Derived.Test.YtjdppjkjegdcgaaWQPut
import Derived.Test.YtjdppjkjegdcgaaWApart
import Derived.Test.YtjdppjkjegdcgaaWArr
import Derived.Test.YtjdppjkjegdcgaaWZeros
import Derived.Test.YtjdppjkjegdcgaaWFoot
import Derived.Test.YtjdppjkjegdcgaaWKept
import Derived.Test.YtjdppjkjegdcgaaWShare
import Derived.Test.YtjdppjkjegdcgaaWN
import Derived.Test.YtjdppjkjegdcgaaWFootNe
import Derived.Test.YtjdppjkjegdcgaaWAt
import Derived.Test.YtjdppjkjegdcgaaWEqStruct
import Derived.Test.YtjdppjkjegdcgaaWRepsOne
import Derived.Test.YtjdppjkjegdcgaaWInv
import Derived.Test.YtjdppjkjegdcgaaWInvWords
import Derived.Test.YtjdppjkjegdcgaaWGuard
import Derived.Test.YtjdppjkjegdcgaaWNEv
import Derived.Test.YtjdppjkjegdcgaaWMore
namespace Go.Proofs.Ytjdppjkjegdcgaa.PFnChances
open Go.RowKit Go.Proofs.YtjdppjkjegdcgaaW.PrintWords Go.Proofs.YtjdppjkjegdcgaaW.PrintLast Go.Proofs.YtjdppjkjegdcgaaW.PrintMore
attribute [local go_sem] max2_int min2_int max_two min_two max_three min_three max_four min_four   -- for this text's walks alone
set_option linter.unusedVariables false
set_option linter.unusedSimpArgs false



def errW : Option Int → Value
  | none => .nilIface
  | some c => .iface 0 (.int .i64 c)
theorem errW_none : errW none = .nilIface := rfl
theorem errW_some (c : Int) : errW (some c) = .iface 0 (.int .i64 c) := rfl

theorem info3 : (Try.prog.info? 3).map (fun i => (i.zero, i.size, i.bytes)) = some (some (.int .i64 0), 1, 8) := by kernel_rfl
-- the values' own types

end Go.Proofs.Ytjdppjkjegdcgaa.PFnChances
