-- PRINTED BY print.sh 35421559b90ae4d0a3588c463048766b98c2df88dd9212a6774a882060cdf62d: not written by this session
import Derived.Test.YtaeoidjgppekfaaProg
import Derived.Below
import Derived.Deep.Draws
import Derived.Deep.AppendLies
import Derived.Maps.AppendAt
import Derived.OwnWalk
import Derived.Laws.BytesArg
import Derived.Laws.MakeOwn
import Derived.Laws.OwnMore
import Derived.Deep.OwnRows
import Derived.Tactics
import Derived.Lib.ConvBytes
import Derived.Laws.Slices
import Derived.WalkKit
import Derived.KernelRfl
import Derived.RowKit3
import Derived.Deep.LoopGhost
import Derived.Deep.QuietTactic
import Derived.BigQuiet
import Derived.WideLaws
import Derived.Deep.DeepCutAuto
import Derived.Deep.CutBlock
import Derived.Deep.RegionHeld3
import Derived.Laws.Rows
import Derived.Lib.AppendStr
import Derived.ArgAppend
import Derived.Laws.IdiomCopy
import Derived.OrdersHeld
import Derived.Laws.BitsLemmas
import Derived.RowKit
import Derived.Test.YtaeoidjgppekfaaWWords
import Derived.Test.YtaeoidjgppekfaaWLast
import Derived.Test.YtaeoidjgppekfaaWTab
import Derived.Test.YtaeoidjgppekfaaWFour
import Derived.Test.YtaeoidjgppekfaaWQPut
import Derived.Test.YtaeoidjgppekfaaWApart
import Derived.Test.YtaeoidjgppekfaaWArr
import Derived.Test.YtaeoidjgppekfaaWZeros
import Derived.Test.YtaeoidjgppekfaaWFoot
import Derived.Test.YtaeoidjgppekfaaWKept
import Derived.Test.YtaeoidjgppekfaaWShare
import Derived.Test.YtaeoidjgppekfaaWN
import Derived.Test.YtaeoidjgppekfaaWFootNe
import Derived.Test.YtaeoidjgppekfaaWAt
import Derived.Test.YtaeoidjgppekfaaWEqStruct
import Derived.Test.YtaeoidjgppekfaaWRepsOne
import Derived.Test.YtaeoidjgppekfaaWInv
import Derived.Test.YtaeoidjgppekfaaWInvWords
import Derived.Test.YtaeoidjgppekfaaWGuard
import Derived.Test.YtaeoidjgppekfaaWNEv
import Derived.Test.YtaeoidjgppekfaaWMore
namespace Go.Proofs.Ytaeoidjgppekfaa.PGridStarts
open Go.RowKit Go.Proofs.YtaeoidjgppekfaaW.PrintWords Go.Proofs.YtaeoidjgppekfaaW.PrintLast Go.Proofs.YtaeoidjgppekfaaW.PrintMore
attribute [local go_sem] max2_int min2_int max_two min_two max_three min_three max_four min_four   -- for this text's walks alone
set_option linter.unusedVariables false
set_option linter.unusedSimpArgs false



def errW : Option Int → Value
  | none => .nilIface
  | some c => .iface 0 (.int .i64 c)
theorem errW_none : errW none = .nilIface := rfl
theorem errW_some (c : Int) : errW (some c) = .iface 0 (.int .i64 c) := rfl

theorem info3 : (Try.prog.info? 3).map (fun i => (i.zero, i.size, i.bytes)) = some (some (.int .i64 0), 1, 8) := by kernel_rfl
-- the values' own types

end Go.Proofs.Ytaeoidjgppekfaa.PGridStarts
