-- PRINTED BY print.sh 35421559b90ae4d0a3588c463048766b98c2df88dd9212a6774a882060cdf62d: not written by this session
import Derived.Test.YtjfnmlheehbojaaProg
import Derived.Below
import Derived.Deep.Draws
import Derived.Deep.AppendLies
import Derived.Maps.AppendAt
import Derived.OwnWalk
import Derived.Laws.BytesArg
import Derived.Laws.MakeOwn
import Derived.Laws.OwnMore
import Derived.Deep.OwnRows
import Derived.Tactics
import Derived.Lib.ConvBytes
import Derived.Laws.Slices
import Derived.WalkKit
import Derived.KernelRfl
import Derived.RowKit3
import Derived.Deep.LoopGhost
import Derived.Deep.QuietTactic
import Derived.BigQuiet
import Derived.WideLaws
import Derived.Deep.DeepCutAuto
import Derived.Deep.CutBlock
import Derived.Deep.RegionHeld3
import Derived.Laws.Rows
import Derived.Lib.AppendStr
import Derived.ArgAppend
import Derived.Laws.IdiomCopy
import Derived.OrdersHeld
import Derived.Laws.BitsLemmas
import Derived.RowKit
import Derived.Test.YtjfnmlheehbojaaWWords
import Derived.Test.YtjfnmlheehbojaaWLast
import Derived.Test.YtjfnmlheehbojaaWTab
import Derived.Test.YtjfnmlheehbojaaWFour
import Derived.Test.YtjfnmlheehbojaaWQPut
import Derived.Test.YtjfnmlheehbojaaWApart
import Derived.Test.YtjfnmlheehbojaaWArr
import Derived.Test.YtjfnmlheehbojaaWZeros
import Derived.Test.YtjfnmlheehbojaaWFoot
import Derived.Test.YtjfnmlheehbojaaWKept
import Derived.Test.YtjfnmlheehbojaaWShare
import Derived.Test.YtjfnmlheehbojaaWN
import Derived.Test.YtjfnmlheehbojaaWFootNe
import Derived.Test.YtjfnmlheehbojaaWAt
import Derived.Test.YtjfnmlheehbojaaWEqStruct
import Derived.Test.YtjfnmlheehbojaaWRepsOne
import Derived.Test.YtjfnmlheehbojaaWInv
import Derived.Test.YtjfnmlheehbojaaWInvWords
import Derived.Test.YtjfnmlheehbojaaWGuard
import Derived.Test.YtjfnmlheehbojaaWNEv
import Derived.Test.YtjfnmlheehbojaaWMore
namespace Go.Proofs.Ytjfnmlheehbojaa.PSizeLengths
open Go.RowKit Go.Proofs.YtjfnmlheehbojaaW.PrintWords Go.Proofs.YtjfnmlheehbojaaW.PrintLast Go.Proofs.YtjfnmlheehbojaaW.PrintMore
attribute [local go_sem] max2_int min2_int max_two min_two max_three min_three max_four min_four   -- for this text's walks alone
set_option linter.unusedVariables false
set_option linter.unusedSimpArgs false



def errW : Option Int → Value
  | none => .nilIface
  | some c => .iface 0 (.int .i64 c)
theorem errW_none : errW none = .nilIface := rfl
theorem errW_some (c : Int) : errW (some c) = .iface 0 (.int .i64 c) := rfl

-- the values' own types

end Go.Proofs.Ytjfnmlheehbojaa.PSizeLengths
