-- written for this claim by the session's own program (wip/xprint)
import Derived.Test.YtdlififooknddaaProg
import Derived.Below
import Derived.Deep.Draws
import Derived.Deep.AppendLies
import Derived.Maps.AppendAt
import Derived.OwnWalk
import Derived.Laws.BytesArg
import Derived.Laws.MakeOwn
import Derived.Laws.OwnMore
import Derived.Deep.OwnRows
import Derived.Tactics
import Derived.Lib.ConvBytes
import Derived.Laws.Slices
import Derived.WalkKit
import Derived.KernelRfl
import Derived.RowKit3
import Derived.Deep.LoopGhost
import Derived.Deep.QuietTactic
import Derived.BigQuiet
import Derived.WideLaws
import Derived.Deep.DeepCutAuto
import Derived.Deep.CutBlock
import Derived.Deep.RegionHeld3
import Derived.Laws.Rows
import Derived.Lib.AppendStr
import Derived.ArgAppend
import Derived.Laws.IdiomCopy
import Derived.OrdersHeld
import Derived.Laws.BitsLemmas
import Derived.RowKit
import Derived.WalkSpells
import Derived.Test.YtdlififooknddaaWWords
import Derived.Test.YtdlififooknddaaWLast
import Derived.Test.YtdlififooknddaaWTab
import Derived.Test.YtdlififooknddaaWFour
import Derived.Test.YtdlififooknddaaWQPut
import Derived.Test.YtdlififooknddaaWApart
import Derived.Test.YtdlififooknddaaWArr
import Derived.Test.YtdlififooknddaaWZeros
import Derived.Test.YtdlififooknddaaWFoot
import Derived.Test.YtdlififooknddaaWKept
import Derived.Test.YtdlififooknddaaWShare
import Derived.Test.YtdlififooknddaaWN
import Derived.Test.YtdlififooknddaaWFootNe
import Derived.Test.YtdlififooknddaaWAt
import Derived.Test.YtdlififooknddaaWEqStruct
import Derived.Test.YtdlififooknddaaWRepsOne
import Derived.Test.YtdlififooknddaaWInv
import Derived.Test.YtdlififooknddaaWInvWords
import Derived.Test.YtdlififooknddaaWGuard
import Derived.Test.YtdlififooknddaaWNEv
import Derived.Test.YtdlififooknddaaWMore
namespace Go.Proofs.Ytdlififooknddaa.P
open Go.RowKit Go.Proofs.YtdlififooknddaaW.PrintWords Go.Proofs.YtdlififooknddaaW.PrintLast Go.Proofs.YtdlififooknddaaW.PrintMore
attribute [local go_sem] max2_int min2_int max_two min_two max_three min_three max_four min_four   -- for this text's walks alone
set_option linter.unusedVariables false
set_option linter.unusedSimpArgs false



def errW : Option Int → Value
  | none => .nilIface
  | some c => .iface 0 (.int .i64 c)
theorem errW_none : errW none = .nilIface := rfl
theorem errW_some (c : Int) : errW (some c) = .iface 0 (.int .i64 c) := rfl

theorem info3 : (Try.prog.info? 3).map (fun i => (i.zero, i.size, i.bytes)) = some (some (.int .i64 0), 1, 8) := by kernel_rfl
-- the values' own types

end Go.Proofs.Ytdlififooknddaa.P
