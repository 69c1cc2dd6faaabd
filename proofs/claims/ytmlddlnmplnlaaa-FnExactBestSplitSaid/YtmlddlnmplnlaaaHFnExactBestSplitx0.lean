-- Written by a program of this session out of the translation (wip/gen/hprint.sh). Lean checks it.
import Derived.Test.YtmlddlnmplnlaaaProg
import Derived.Below
import Derived.Deep.Draws
import Derived.Deep.AppendLies
import Derived.Maps.AppendAt
import Derived.OwnWalk
import Derived.Laws.BytesArg
import Derived.Laws.MakeOwn
import Derived.Laws.OwnMore
import Derived.Deep.OwnRows
import Derived.Tactics
import Derived.Lib.ConvBytes
import Derived.Laws.Slices
import Derived.WalkKit
import Derived.KernelRfl
import Derived.RowKit3
import Derived.Deep.LoopGhost
import Derived.Deep.QuietTactic
import Derived.BigQuiet
import Derived.WideLaws
import Derived.Deep.DeepCutAuto
import Derived.Deep.CutBlock
import Derived.Deep.RegionHeld3
import Derived.Laws.Rows
import Derived.Lib.AppendStr
import Derived.ArgAppend
import Derived.Laws.IdiomCopy
import Derived.OrdersHeld
import Derived.Laws.BitsLemmas
import Derived.RowKit
import Derived.Lib.SliceRun
import Derived.WalkSpells
import Derived.Test.YtmlddlnmplnlaaaSort
import Derived.Sort.OwnSortedInts
import Derived.Test.YtmlddlnmplnlaaaWWords
import Derived.Test.YtmlddlnmplnlaaaWLast
import Derived.Test.YtmlddlnmplnlaaaWTab
import Derived.Test.YtmlddlnmplnlaaaWFour
import Derived.Test.YtmlddlnmplnlaaaWQPut
import Derived.Test.YtmlddlnmplnlaaaWApart
import Derived.Test.YtmlddlnmplnlaaaWArr
import Derived.Test.YtmlddlnmplnlaaaWZeros
import Derived.Test.YtmlddlnmplnlaaaWFoot
import Derived.Test.YtmlddlnmplnlaaaWKept
import Derived.Test.YtmlddlnmplnlaaaWShare
import Derived.Test.YtmlddlnmplnlaaaWN
import Derived.Test.YtmlddlnmplnlaaaWFootNe
import Derived.Test.YtmlddlnmplnlaaaWAt
import Derived.Test.YtmlddlnmplnlaaaWEqStruct
import Derived.Test.YtmlddlnmplnlaaaWRepsOne
import Derived.Test.YtmlddlnmplnlaaaWInv
import Derived.Test.YtmlddlnmplnlaaaWInvWords
import Derived.Test.YtmlddlnmplnlaaaWGuard
import Derived.Test.YtmlddlnmplnlaaaWNEv
import Derived.Test.YtmlddlnmplnlaaaWMore
namespace Go.Proofs.Ytmlddlnmplnlaaa.PFnExactBestSplit
open Go.RowKit Go.Proofs.YtmlddlnmplnlaaaW.PrintWords Go.Proofs.YtmlddlnmplnlaaaW.PrintLast Go.Proofs.YtmlddlnmplnlaaaW.PrintMore
attribute [local go_sem] max2_int min2_int max_two min_two max_three min_three max_four min_four   -- for this text's walks alone
set_option linter.unusedVariables false
set_option linter.unusedSimpArgs false



def errW : Option Int → Value
  | none => .nilIface
  | some c => .iface 0 (.int .i64 c)
theorem errW_none : errW none = .nilIface := rfl
theorem errW_some (c : Int) : errW (some c) = .iface 0 (.int .i64 c) := rfl

theorem info3 : (Try.prog.info? 3).map (fun i => (i.zero, i.size, i.bytes)) = some (some (.int .i64 0), 1, 8) := by kernel_rfl
-- the values' own types

end Go.Proofs.Ytmlddlnmplnlaaa.PFnExactBestSplit
