-- written for this claim by the session's own program (wip/xprint)
import Derived.Test.YtcnfhfjhpicpkaaProg
import Derived.BigRegion
import Derived.Below
import Derived.Deep.Draws
import Derived.Deep.AppendLies
import Derived.Maps.AppendAt
import Derived.OwnWalk
import Derived.Laws.BytesArg
import Derived.Laws.MakeOwn
import Derived.Laws.OwnMore
import Derived.Deep.OwnRows
import Derived.Tactics
import Derived.Lib.ConvBytes
import Derived.Laws.Slices
import Derived.WalkKit
import Derived.KernelRfl
import Derived.RowKit3
import Derived.Deep.LoopGhost
import Derived.Deep.QuietTactic
import Derived.BigQuiet
import Derived.WideLaws
import Derived.Deep.DeepCutAuto
import Derived.Deep.CutBlock
import Derived.Deep.RegionHeld3
import Derived.Laws.Rows
import Derived.Lib.AppendStr
import Derived.ArgAppend
import Derived.Laws.IdiomCopy
import Derived.OrdersHeld
import Derived.Laws.BitsLemmas
import Derived.RowKit
import Derived.WalkSpells
import Derived.Test.YtcnfhfjhpicpkaaWWords
import Derived.Test.YtcnfhfjhpicpkaaWLast
import Derived.Test.YtcnfhfjhpicpkaaWTab
import Derived.Test.YtcnfhfjhpicpkaaWFour
import Derived.Test.YtcnfhfjhpicpkaaWQPut
import Derived.Test.YtcnfhfjhpicpkaaWApart
import Derived.Test.YtcnfhfjhpicpkaaWArr
import Derived.Test.YtcnfhfjhpicpkaaWZeros
import Derived.Test.YtcnfhfjhpicpkaaWFoot
import Derived.Test.YtcnfhfjhpicpkaaWKept
import Derived.Test.YtcnfhfjhpicpkaaWShare
import Derived.Test.YtcnfhfjhpicpkaaWN
import Derived.Test.YtcnfhfjhpicpkaaWFootNe
import Derived.Test.YtcnfhfjhpicpkaaWAt
import Derived.Test.YtcnfhfjhpicpkaaWEqStruct
import Derived.Test.YtcnfhfjhpicpkaaWRepsOne
import Derived.Test.YtcnfhfjhpicpkaaWInv
import Derived.Test.YtcnfhfjhpicpkaaWInvWords
import Derived.Test.YtcnfhfjhpicpkaaWGuard
import Derived.Test.YtcnfhfjhpicpkaaWNEv
import Derived.Test.YtcnfhfjhpicpkaaWMore
namespace Go.Proofs.Ytcnfhfjhpicpkaa.P
open Go.RowKit Go.Proofs.YtcnfhfjhpicpkaaW.PrintWords Go.Proofs.YtcnfhfjhpicpkaaW.PrintLast Go.Proofs.YtcnfhfjhpicpkaaW.PrintMore
attribute [local go_sem] max2_int min2_int max_two min_two max_three min_three max_four min_four   -- for this text's walks alone
set_option linter.unusedVariables false
set_option linter.unusedSimpArgs false



def errW : Option Int → Value
  | none => .nilIface
  | some c => .iface 0 (.int .i64 c)
theorem errW_none : errW none = .nilIface := rfl
theorem errW_some (c : Int) : errW (some c) = .iface 0 (.int .i64 c) := rfl

theorem info3 : (Try.prog.info? 3).map (fun i => (i.zero, i.size, i.bytes)) = some (some (.int .i64 0), 1, 8) := by kernel_rfl
-- the values' own types

end Go.Proofs.Ytcnfhfjhpicpkaa.P
