-- written for this claim by the session's own program (wip/xprint)
import Derived.Test.YtmgajkllkmmbgaaProg
import Derived.Below
import Derived.Deep.Draws
import Derived.Deep.AppendLies
import Derived.Maps.AppendAt
import Derived.OwnWalk
import Derived.Laws.BytesArg
import Derived.Laws.MakeOwn
import Derived.Laws.OwnMore
import Derived.Deep.OwnRows
import Derived.Tactics
import Derived.Lib.ConvBytes
import Derived.Laws.Slices
import Derived.WalkKit
import Derived.KernelRfl
import Derived.RowKit3
import Derived.Deep.LoopGhost
import Derived.Deep.QuietTactic
import Derived.BigQuiet
import Derived.WideLaws
import Derived.Deep.DeepCutAuto
import Derived.Deep.CutBlock
import Derived.Deep.RegionHeld3
import Derived.Laws.Rows
import Derived.Lib.AppendStr
import Derived.ArgAppend
import Derived.Laws.IdiomCopy
import Derived.OrdersHeld
import Derived.Laws.BitsLemmas
import Derived.RowKit
import Derived.WalkSpells
import Derived.Test.YtmgajkllkmmbgaaWWords
import Derived.Test.YtmgajkllkmmbgaaWLast
import Derived.Test.YtmgajkllkmmbgaaWTab
import Derived.Test.YtmgajkllkmmbgaaWFour
import Derived.Test.YtmgajkllkmmbgaaWQPut
import Derived.Test.YtmgajkllkmmbgaaWApart
import Derived.Test.YtmgajkllkmmbgaaWArr
import Derived.Test.YtmgajkllkmmbgaaWZeros
import Derived.Test.YtmgajkllkmmbgaaWFoot
import Derived.Test.YtmgajkllkmmbgaaWKept
import Derived.Test.YtmgajkllkmmbgaaWShare
import Derived.Test.YtmgajkllkmmbgaaWN
import Derived.Test.YtmgajkllkmmbgaaWFootNe
import Derived.Test.YtmgajkllkmmbgaaWAt
import Derived.Test.YtmgajkllkmmbgaaWEqStruct
import Derived.Test.YtmgajkllkmmbgaaWRepsOne
import Derived.Test.YtmgajkllkmmbgaaWInv
import Derived.Test.YtmgajkllkmmbgaaWInvWords
import Derived.Test.YtmgajkllkmmbgaaWGuard
import Derived.Test.YtmgajkllkmmbgaaWNEv
import Derived.Test.YtmgajkllkmmbgaaWMore
namespace Go.Proofs.Ytmgajkllkmmbgaa.P
open Go.RowKit Go.Proofs.YtmgajkllkmmbgaaW.PrintWords Go.Proofs.YtmgajkllkmmbgaaW.PrintLast Go.Proofs.YtmgajkllkmmbgaaW.PrintMore
attribute [local go_sem] max2_int min2_int max_two min_two max_three min_three max_four min_four   -- for this text's walks alone
set_option linter.unusedVariables false
set_option linter.unusedSimpArgs false



def errW : Option Int → Value
  | none => .nilIface
  | some c => .iface 0 (.int .i64 c)
theorem errW_none : errW none = .nilIface := rfl
theorem errW_some (c : Int) : errW (some c) = .iface 0 (.int .i64 c) := rfl

theorem info3 : (Try.prog.info? 3).map (fun i => (i.zero, i.size, i.bytes)) = some (some (.int .i64 0), 1, 8) := by kernel_rfl
-- the values' own types

end Go.Proofs.Ytmgajkllkmmbgaa.P
