-- written for this claim by the session's own program (wip/xprint)
import Derived.Test.YtjldifjfgeifcaaProg
import Derived.BigRegion
import Derived.RangeFuncBox
import Derived.RangeFuncLeaves
import Derived.Shelf.Abstract
import Derived.OwnWalkIn
import Derived.TacticsInMore
import Derived.LoopNIn
import Derived.LoopIn
import Derived.Shelf.Sort.Plain
import Derived.Shelf.SlicesE.DeleteFunc
import Derived.Below
import Derived.Deep.Draws
import Derived.Deep.AppendLies
import Derived.Maps.AppendAt
import Derived.OwnWalk
import Derived.Laws.BytesArg
import Derived.Laws.MakeOwn
import Derived.Laws.OwnMore
import Derived.Deep.OwnRows
import Derived.Tactics
import Derived.Lib.ConvBytes
import Derived.Laws.Slices
import Derived.WalkKit
import Derived.KernelRfl
import Derived.RowKit3
import Derived.Deep.LoopGhost
import Derived.Deep.QuietTactic
import Derived.BigQuiet
import Derived.WideLaws
import Derived.Deep.DeepCutAuto
import Derived.Deep.CutBlock
import Derived.Deep.RegionHeld3
import Derived.Laws.Rows
import Derived.Lib.AppendStr
import Derived.ArgAppend
import Derived.Laws.IdiomCopy
import Derived.OrdersHeld
import Derived.Laws.BitsLemmas
import Derived.RowKit
import Derived.WalkSpells
import Derived.Test.YtjldifjfgeifcaaWWords
import Derived.Test.YtjldifjfgeifcaaWLast
import Derived.Test.YtjldifjfgeifcaaWTab
import Derived.Test.YtjldifjfgeifcaaWFour
import Derived.Test.YtjldifjfgeifcaaWQPut
import Derived.Test.YtjldifjfgeifcaaWApart
import Derived.Test.YtjldifjfgeifcaaWArr
import Derived.Test.YtjldifjfgeifcaaWZeros
import Derived.Test.YtjldifjfgeifcaaWFoot
import Derived.Test.YtjldifjfgeifcaaWKept
import Derived.Test.YtjldifjfgeifcaaWShare
import Derived.Test.YtjldifjfgeifcaaWN
import Derived.Test.YtjldifjfgeifcaaWFootNe
import Derived.Test.YtjldifjfgeifcaaWAt
import Derived.Test.YtjldifjfgeifcaaWEqStruct
import Derived.Test.YtjldifjfgeifcaaWRepsOne
import Derived.Test.YtjldifjfgeifcaaWInv
import Derived.Test.YtjldifjfgeifcaaWInvWords
import Derived.Test.YtjldifjfgeifcaaWGuard
import Derived.Test.YtjldifjfgeifcaaWNEv
import Derived.Test.YtjldifjfgeifcaaWMore
namespace Go.Proofs.Ytjldifjfgeifcaa.P
open Go.RowKit Go.Proofs.YtjldifjfgeifcaaW.PrintWords Go.Proofs.YtjldifjfgeifcaaW.PrintLast Go.Proofs.YtjldifjfgeifcaaW.PrintMore
attribute [local go_sem] max2_int min2_int max_two min_two max_three min_three max_four min_four   -- for this text's walks alone
set_option linter.unusedVariables false
set_option linter.unusedSimpArgs false



def errW : Option Int → Value
  | none => .nilIface
  | some c => .iface 0 (.int .i64 c)
theorem errW_none : errW none = .nilIface := rfl
theorem errW_some (c : Int) : errW (some c) = .iface 0 (.int .i64 c) := rfl

theorem info3 : (Try.prog.info? 3).map (fun i => (i.zero, i.size, i.bytes)) = some (some (.int .i64 0), 1, 8) := by kernel_rfl
-- the values' own types

end Go.Proofs.Ytjldifjfgeifcaa.P
