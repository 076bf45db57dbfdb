-- written for this claim by the session's own program (wip/xprint)
import Derived.Test.YtakdcikmflpioaaDoorProg
import Derived.Below
import Derived.Deep.Draws
import Derived.Deep.AppendLies
import Derived.Maps.AppendAt
import Derived.OwnWalk
import Derived.Laws.BytesArg
import Derived.Laws.MakeOwn
import Derived.Laws.OwnMore
import Derived.Deep.OwnRows
import Derived.Tactics
import Derived.Lib.ConvBytes
import Derived.Laws.Slices
import Derived.WalkKit
import Derived.KernelRfl
import Derived.RowKit3
import Derived.Deep.LoopGhost
import Derived.Deep.QuietTactic
import Derived.BigQuiet
import Derived.WideLaws
import Derived.Deep.DeepCutAuto
import Derived.Deep.CutBlock
import Derived.Deep.RegionHeld3
import Derived.Laws.Rows
import Derived.Lib.AppendStr
import Derived.ArgAppend
import Derived.Laws.IdiomCopy
import Derived.OrdersHeld
import Derived.Laws.BitsLemmas
import Derived.RowKit
import Derived.WalkSpells
import Derived.Test.YtakdcikmflpioaaDoorWWords
import Derived.Test.YtakdcikmflpioaaDoorWLast
import Derived.Test.YtakdcikmflpioaaDoorWTab
import Derived.Test.YtakdcikmflpioaaDoorWFour
import Derived.Test.YtakdcikmflpioaaDoorWQPut
import Derived.Test.YtakdcikmflpioaaDoorWApart
import Derived.Test.YtakdcikmflpioaaDoorWArr
import Derived.Test.YtakdcikmflpioaaDoorWZeros
import Derived.Test.YtakdcikmflpioaaDoorWFoot
import Derived.Test.YtakdcikmflpioaaDoorWKept
import Derived.Test.YtakdcikmflpioaaDoorWShare
import Derived.Test.YtakdcikmflpioaaDoorWN
import Derived.Test.YtakdcikmflpioaaDoorWFootNe
import Derived.Test.YtakdcikmflpioaaDoorWAt
import Derived.Test.YtakdcikmflpioaaDoorWEqStruct
import Derived.Test.YtakdcikmflpioaaDoorWRepsOne
import Derived.Test.YtakdcikmflpioaaDoorWInv
import Derived.Test.YtakdcikmflpioaaDoorWInvWords
import Derived.Test.YtakdcikmflpioaaDoorWGuard
import Derived.Test.YtakdcikmflpioaaDoorWNEv
import Derived.Test.YtakdcikmflpioaaDoorWMore
namespace Go.Proofs.YtakdcikmflpioaaDoor.P
open Go.RowKit Go.Proofs.YtakdcikmflpioaaDoorW.PrintWords Go.Proofs.YtakdcikmflpioaaDoorW.PrintLast Go.Proofs.YtakdcikmflpioaaDoorW.PrintMore
attribute [local go_sem] max2_int min2_int max_two min_two max_three min_three max_four min_four   -- for this text's walks alone
set_option linter.unusedVariables false
set_option linter.unusedSimpArgs false



def errW : Option Int → Value
  | none => .nilIface
  | some c => .iface 0 (.int .i64 c)
theorem errW_none : errW none = .nilIface := rfl
theorem errW_some (c : Int) : errW (some c) = .iface 0 (.int .i64 c) := rfl

theorem info3 : (Tryd.prog.info? 3).map (fun i => (i.zero, i.size, i.bytes)) = some (some (.int .i64 0), 1, 8) := by kernel_rfl
theorem info5 : (Tryd.prog.info? 5).map (fun i => (i.zero, i.size, i.bytes)) = some (some (.int .u8 0), 1, 1) := by kernel_rfl
-- the values' own types

end Go.Proofs.YtakdcikmflpioaaDoor.P
