-- Laid by wip/own_print.py: the kit's printer, run with hand-made parts (see NOTES.md).
import Derived.Test.YtilcnbommpncgaaProg
import Derived.Lib.SliceRun
import Derived.Below
import Derived.Deep.Draws
import Derived.Deep.AppendLies
import Derived.Maps.AppendAt
import Derived.OwnWalk
import Derived.Laws.BytesArg
import Derived.Laws.MakeOwn
import Derived.Laws.OwnMore
import Derived.Deep.OwnRows
import Derived.Tactics
import Derived.Lib.ConvBytes
import Derived.Laws.Slices
import Derived.WalkKit
import Derived.KernelRfl
import Derived.RowKit3
import Derived.Deep.LoopGhost
import Derived.Deep.QuietTactic
import Derived.BigQuiet
import Derived.WideLaws
import Derived.Deep.DeepCutAuto
import Derived.Deep.CutBlock
import Derived.Deep.RegionHeld3
import Derived.Laws.Rows
import Derived.Lib.AppendStr
import Derived.ArgAppend
import Derived.Laws.IdiomCopy
import Derived.OrdersHeld
import Derived.Laws.BitsLemmas
import Derived.RowKit
import Derived.Test.YtilcnbommpncgaaWWords
import Derived.Test.YtilcnbommpncgaaWLast
import Derived.Test.YtilcnbommpncgaaWTab
import Derived.Test.YtilcnbommpncgaaWFour
import Derived.Test.YtilcnbommpncgaaWQPut
import Derived.Test.YtilcnbommpncgaaWApart
import Derived.Test.YtilcnbommpncgaaWArr
import Derived.Test.YtilcnbommpncgaaWZeros
import Derived.Test.YtilcnbommpncgaaWFoot
import Derived.Test.YtilcnbommpncgaaWKept
import Derived.Test.YtilcnbommpncgaaWShare
import Derived.Test.YtilcnbommpncgaaWN
import Derived.Test.YtilcnbommpncgaaWFootNe
import Derived.Test.YtilcnbommpncgaaWAt
import Derived.Test.YtilcnbommpncgaaWEqStruct
import Derived.Test.YtilcnbommpncgaaWRepsOne
import Derived.Test.YtilcnbommpncgaaWInv
import Derived.Test.YtilcnbommpncgaaWInvWords
import Derived.Test.YtilcnbommpncgaaWGuard
import Derived.Test.YtilcnbommpncgaaWNEv
import Derived.Test.YtilcnbommpncgaaWMore
namespace Go.Proofs.Ytilcnbommpncgaa.QFnBlocksAlike
open Go.RowKit Go.Proofs.YtilcnbommpncgaaW.PrintWords Go.Proofs.YtilcnbommpncgaaW.PrintLast Go.Proofs.YtilcnbommpncgaaW.PrintMore
attribute [local go_sem] max2_int min2_int max_two min_two max_three min_three max_four min_four   -- for this text's walks alone
set_option linter.unusedVariables false
set_option linter.unusedSimpArgs false



def errW : Option Int → Value
  | none => .nilIface
  | some c => .iface 0 (.int .i64 c)
theorem errW_none : errW none = .nilIface := rfl
theorem errW_some (c : Int) : errW (some c) = .iface 0 (.int .i64 c) := rfl

theorem info3 : (Try.prog.info? 3).map (fun i => (i.zero, i.size, i.bytes)) = some (some (.int .i64 0), 1, 8) := by kernel_rfl
theorem info5 : (Try.prog.info? 5).map (fun i => (i.zero, i.size, i.bytes)) = some (some (.int .u8 0), 1, 1) := by kernel_rfl
-- the values' own types

end Go.Proofs.Ytilcnbommpncgaa.QFnBlocksAlike
