-- Laid by wip/own_print.py: the kit's printer, run with hand-made parts (see NOTES.md).
import Derived.Test.YtinpmpdkoedjnaaProg
import Derived.Lib.SliceRun
import Derived.Below
import Derived.Deep.Draws
import Derived.Deep.AppendLies
import Derived.Maps.AppendAt
import Derived.OwnWalk
import Derived.Laws.BytesArg
import Derived.Laws.MakeOwn
import Derived.Laws.OwnMore
import Derived.Deep.OwnRows
import Derived.Tactics
import Derived.Lib.ConvBytes
import Derived.Laws.Slices
import Derived.WalkKit
import Derived.KernelRfl
import Derived.RowKit3
import Derived.Deep.LoopGhost
import Derived.Deep.QuietTactic
import Derived.BigQuiet
import Derived.WideLaws
import Derived.Deep.DeepCutAuto
import Derived.Deep.CutBlock
import Derived.Deep.RegionHeld3
import Derived.Laws.Rows
import Derived.Lib.AppendStr
import Derived.ArgAppend
import Derived.Laws.IdiomCopy
import Derived.OrdersHeld
import Derived.Laws.BitsLemmas
import Derived.RowKit
import Derived.Test.YtinpmpdkoedjnaaWWords
import Derived.Test.YtinpmpdkoedjnaaWLast
import Derived.Test.YtinpmpdkoedjnaaWTab
import Derived.Test.YtinpmpdkoedjnaaWFour
import Derived.Test.YtinpmpdkoedjnaaWQPut
import Derived.Test.YtinpmpdkoedjnaaWApart
import Derived.Test.YtinpmpdkoedjnaaWArr
import Derived.Test.YtinpmpdkoedjnaaWZeros
import Derived.Test.YtinpmpdkoedjnaaWFoot
import Derived.Test.YtinpmpdkoedjnaaWKept
import Derived.Test.YtinpmpdkoedjnaaWShare
import Derived.Test.YtinpmpdkoedjnaaWN
import Derived.Test.YtinpmpdkoedjnaaWFootNe
import Derived.Test.YtinpmpdkoedjnaaWAt
import Derived.Test.YtinpmpdkoedjnaaWEqStruct
import Derived.Test.YtinpmpdkoedjnaaWRepsOne
import Derived.Test.YtinpmpdkoedjnaaWInv
import Derived.Test.YtinpmpdkoedjnaaWInvWords
import Derived.Test.YtinpmpdkoedjnaaWGuard
import Derived.Test.YtinpmpdkoedjnaaWNEv
import Derived.Test.YtinpmpdkoedjnaaWMore
namespace Go.Proofs.Ytinpmpdkoedjnaa.QFnExactTap
open Go.RowKit Go.Proofs.YtinpmpdkoedjnaaW.PrintWords Go.Proofs.YtinpmpdkoedjnaaW.PrintLast Go.Proofs.YtinpmpdkoedjnaaW.PrintMore
attribute [local go_sem] max2_int min2_int max_two min_two max_three min_three max_four min_four   -- for this text's walks alone
set_option linter.unusedVariables false
set_option linter.unusedSimpArgs false



def errW : Option Int → Value
  | none => .nilIface
  | some c => .iface 0 (.int .i64 c)
theorem errW_none : errW none = .nilIface := rfl
theorem errW_some (c : Int) : errW (some c) = .iface 0 (.int .i64 c) := rfl

theorem info3 : (Try.prog.info? 3).map (fun i => (i.zero, i.size, i.bytes)) = some (some (.int .i64 0), 1, 8) := by kernel_rfl
-- the values' own types

end Go.Proofs.Ytinpmpdkoedjnaa.QFnExactTap
