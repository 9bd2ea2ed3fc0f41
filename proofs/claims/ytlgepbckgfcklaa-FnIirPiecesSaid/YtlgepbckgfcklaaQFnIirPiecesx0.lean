-- Laid by wip/own_print.py: the kit's printer, run with hand-made parts (see NOTES.md).
import Derived.Test.YtlgepbckgfcklaaProg
import Derived.Lib.SliceRun
import Derived.Below
import Derived.Deep.Draws
import Derived.Deep.AppendLies
import Derived.Maps.AppendAt
import Derived.OwnWalk
import Derived.Laws.BytesArg
import Derived.Laws.MakeOwn
import Derived.Laws.OwnMore
import Derived.Deep.OwnRows
import Derived.Tactics
import Derived.Lib.ConvBytes
import Derived.Laws.Slices
import Derived.WalkKit
import Derived.KernelRfl
import Derived.RowKit3
import Derived.Deep.LoopGhost
import Derived.Deep.QuietTactic
import Derived.BigQuiet
import Derived.WideLaws
import Derived.Deep.DeepCutAuto
import Derived.Deep.CutBlock
import Derived.Deep.RegionHeld3
import Derived.Laws.Rows
import Derived.Lib.AppendStr
import Derived.ArgAppend
import Derived.Laws.IdiomCopy
import Derived.OrdersHeld
import Derived.Laws.BitsLemmas
import Derived.RowKit
import Derived.Test.YtlgepbckgfcklaaWWords
import Derived.Test.YtlgepbckgfcklaaWLast
import Derived.Test.YtlgepbckgfcklaaWTab
import Derived.Test.YtlgepbckgfcklaaWQPut
import Derived.Test.YtlgepbckgfcklaaWApart
import Derived.Test.YtlgepbckgfcklaaWArr
import Derived.Test.YtlgepbckgfcklaaWZeros
import Derived.Test.YtlgepbckgfcklaaWFoot
import Derived.Test.YtlgepbckgfcklaaWKept
import Derived.Test.YtlgepbckgfcklaaWShare
import Derived.Test.YtlgepbckgfcklaaWN
import Derived.Test.YtlgepbckgfcklaaWFootNe
import Derived.Test.YtlgepbckgfcklaaWAt
import Derived.Test.YtlgepbckgfcklaaWEqStruct
import Derived.Test.YtlgepbckgfcklaaWRepsOne
import Derived.Test.YtlgepbckgfcklaaWGuard
import Derived.Test.YtlgepbckgfcklaaWNEv
import Derived.Test.YtlgepbckgfcklaaWMore
namespace Go.Proofs.Ytlgepbckgfcklaa.QFnIirPieces
open Go.RowKit Go.Proofs.YtlgepbckgfcklaaW.PrintWords Go.Proofs.YtlgepbckgfcklaaW.PrintLast Go.Proofs.YtlgepbckgfcklaaW.PrintMore
attribute [local go_sem] max2_int min2_int max_two min_two max_three min_three max_four min_four   -- for this text's walks alone
set_option linter.unusedVariables false
set_option linter.unusedSimpArgs false



def errW : Option Int → Value
  | none => .nilIface
  | some c => .iface 0 (.int .i64 c)
theorem errW_none : errW none = .nilIface := rfl
theorem errW_some (c : Int) : errW (some c) = .iface 0 (.int .i64 c) := rfl

theorem info3 : (Try.prog.info? 3).map (fun i => (i.zero, i.size, i.bytes)) = some (some (.int .i64 0), 1, 8) := by kernel_rfl
-- the values' own types

end Go.Proofs.Ytlgepbckgfcklaa.QFnIirPieces
