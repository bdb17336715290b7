-- PRINTED BY print.sh 35421559b90ae4d0a3588c463048766b98c2df88dd9212a6774a882060cdf62d: not written by this session
import Derived.Test.YtjncfiipcceefaaProg
import Derived.Below
import Derived.Deep.Draws
import Derived.Deep.AppendLies
import Derived.Maps.AppendAt
import Derived.OwnWalk
import Derived.Laws.BytesArg
import Derived.Laws.MakeOwn
import Derived.Laws.OwnMore
import Derived.Deep.OwnRows
import Derived.Tactics
import Derived.Lib.ConvBytes
import Derived.Laws.Slices
import Derived.WalkKit
import Derived.KernelRfl
import Derived.RowKit3
import Derived.Deep.LoopGhost
import Derived.Deep.QuietTactic
import Derived.BigQuiet
import Derived.WideLaws
import Derived.Deep.DeepCutAuto
import Derived.Deep.CutBlock
import Derived.Deep.RegionHeld3
import Derived.Laws.Rows
import Derived.Lib.AppendStr
import Derived.ArgAppend
import Derived.Laws.IdiomCopy
import Derived.OrdersHeld
import Derived.Laws.BitsLemmas
import Derived.RowKit
import Derived.Test.YtjncfiipcceefaaWWords
import Derived.Test.YtjncfiipcceefaaWLast
import Derived.Test.YtjncfiipcceefaaWTab
import Derived.Test.YtjncfiipcceefaaWFour
import Derived.Test.YtjncfiipcceefaaWQPut
import Derived.Test.YtjncfiipcceefaaWApart
import Derived.Test.YtjncfiipcceefaaWArr
import Derived.Test.YtjncfiipcceefaaWZeros
import Derived.Test.YtjncfiipcceefaaWFoot
import Derived.Test.YtjncfiipcceefaaWKept
import Derived.Test.YtjncfiipcceefaaWShare
import Derived.Test.YtjncfiipcceefaaWN
import Derived.Test.YtjncfiipcceefaaWFootNe
import Derived.Test.YtjncfiipcceefaaWAt
import Derived.Test.YtjncfiipcceefaaWEqStruct
import Derived.Test.YtjncfiipcceefaaWRepsOne
import Derived.Test.YtjncfiipcceefaaWInv
import Derived.Test.YtjncfiipcceefaaWInvWords
import Derived.Test.YtjncfiipcceefaaWGuard
import Derived.Test.YtjncfiipcceefaaWNEv
import Derived.Test.YtjncfiipcceefaaWMore
namespace Go.Proofs.Ytjncfiipcceefaa.PGeomPlaces
open Go.RowKit Go.Proofs.YtjncfiipcceefaaW.PrintWords Go.Proofs.YtjncfiipcceefaaW.PrintLast Go.Proofs.YtjncfiipcceefaaW.PrintMore
attribute [local go_sem] max2_int min2_int max_two min_two max_three min_three max_four min_four   -- for this text's walks alone
set_option linter.unusedVariables false
set_option linter.unusedSimpArgs false



def errW : Option Int → Value
  | none => .nilIface
  | some c => .iface 0 (.int .i64 c)
theorem errW_none : errW none = .nilIface := rfl
theorem errW_some (c : Int) : errW (some c) = .iface 0 (.int .i64 c) := rfl

-- the values' own types

end Go.Proofs.Ytjncfiipcceefaa.PGeomPlaces
