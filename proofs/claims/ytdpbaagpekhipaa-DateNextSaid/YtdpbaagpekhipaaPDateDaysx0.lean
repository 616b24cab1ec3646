-- PRINTED BY print.sh 35421559b90ae4d0a3588c463048766b98c2df88dd9212a6774a882060cdf62d: not written by this session
import Derived.Test.YtdpbaagpekhipaaProg
import Derived.Below
import Derived.Deep.Draws
import Derived.Deep.AppendLies
import Derived.Maps.AppendAt
import Derived.OwnWalk
import Derived.Laws.BytesArg
import Derived.Laws.MakeOwn
import Derived.Laws.OwnMore
import Derived.Deep.OwnRows
import Derived.Tactics
import Derived.Lib.ConvBytes
import Derived.Laws.Slices
import Derived.WalkKit
import Derived.KernelRfl
import Derived.RowKit3
import Derived.Deep.LoopGhost
import Derived.Deep.QuietTactic
import Derived.BigQuiet
import Derived.WideLaws
import Derived.Deep.DeepCutAuto
import Derived.Deep.CutBlock
import Derived.Deep.RegionHeld3
import Derived.Laws.Rows
import Derived.Lib.AppendStr
import Derived.ArgAppend
import Derived.Laws.IdiomCopy
import Derived.OrdersHeld
import Derived.Laws.BitsLemmas
import Derived.RowKit
import Derived.Test.YtdpbaagpekhipaaWWords
import Derived.Test.YtdpbaagpekhipaaWLast
import Derived.Test.YtdpbaagpekhipaaWTab
import Derived.Test.YtdpbaagpekhipaaWFour
import Derived.Test.YtdpbaagpekhipaaWQPut
import Derived.Test.YtdpbaagpekhipaaWApart
import Derived.Test.YtdpbaagpekhipaaWArr
import Derived.Test.YtdpbaagpekhipaaWZeros
import Derived.Test.YtdpbaagpekhipaaWFoot
import Derived.Test.YtdpbaagpekhipaaWKept
import Derived.Test.YtdpbaagpekhipaaWShare
import Derived.Test.YtdpbaagpekhipaaWN
import Derived.Test.YtdpbaagpekhipaaWFootNe
import Derived.Test.YtdpbaagpekhipaaWAt
import Derived.Test.YtdpbaagpekhipaaWEqStruct
import Derived.Test.YtdpbaagpekhipaaWRepsOne
import Derived.Test.YtdpbaagpekhipaaWInv
import Derived.Test.YtdpbaagpekhipaaWInvWords
import Derived.Test.YtdpbaagpekhipaaWGuard
import Derived.Test.YtdpbaagpekhipaaWNEv
import Derived.Test.YtdpbaagpekhipaaWMore
namespace Go.Proofs.Ytdpbaagpekhipaa.PDateDays
open Go.RowKit Go.Proofs.YtdpbaagpekhipaaW.PrintWords Go.Proofs.YtdpbaagpekhipaaW.PrintLast Go.Proofs.YtdpbaagpekhipaaW.PrintMore
attribute [local go_sem] max2_int min2_int max_two min_two max_three min_three max_four min_four   -- for this text's walks alone
set_option linter.unusedVariables false
set_option linter.unusedSimpArgs false



def errW : Option Int → Value
  | none => .nilIface
  | some c => .iface 0 (.int .i64 c)
theorem errW_none : errW none = .nilIface := rfl
theorem errW_some (c : Int) : errW (some c) = .iface 0 (.int .i64 c) := rfl

-- the values' own types

end Go.Proofs.Ytdpbaagpekhipaa.PDateDays
