-- PRINTED BY print.sh 35421559b90ae4d0a3588c463048766b98c2df88dd9212a6774a882060cdf62d: not written by this session
import Derived.Test.YtjpkopnkfpgahaaProg
import Derived.Below
import Derived.Deep.Draws
import Derived.Deep.AppendLies
import Derived.Maps.AppendAt
import Derived.OwnWalk
import Derived.Laws.BytesArg
import Derived.Laws.MakeOwn
import Derived.Laws.OwnMore
import Derived.Deep.OwnRows
import Derived.Tactics
import Derived.Lib.ConvBytes
import Derived.Laws.Slices
import Derived.WalkKit
import Derived.KernelRfl
import Derived.RowKit3
import Derived.Deep.LoopGhost
import Derived.Deep.QuietTactic
import Derived.BigQuiet
import Derived.WideLaws
import Derived.Deep.DeepCutAuto
import Derived.Deep.CutBlock
import Derived.Deep.RegionHeld3
import Derived.Laws.Rows
import Derived.Lib.AppendStr
import Derived.ArgAppend
import Derived.Laws.IdiomCopy
import Derived.OrdersHeld
import Derived.Laws.BitsLemmas
import Derived.RowKit
import Derived.Test.YtjpkopnkfpgahaaWWords
import Derived.Test.YtjpkopnkfpgahaaWLast
import Derived.Test.YtjpkopnkfpgahaaWTab
import Derived.Test.YtjpkopnkfpgahaaWFour
import Derived.Test.YtjpkopnkfpgahaaWQPut
import Derived.Test.YtjpkopnkfpgahaaWApart
import Derived.Test.YtjpkopnkfpgahaaWArr
import Derived.Test.YtjpkopnkfpgahaaWZeros
import Derived.Test.YtjpkopnkfpgahaaWFoot
import Derived.Test.YtjpkopnkfpgahaaWKept
import Derived.Test.YtjpkopnkfpgahaaWShare
import Derived.Test.YtjpkopnkfpgahaaWN
import Derived.Test.YtjpkopnkfpgahaaWFootNe
import Derived.Test.YtjpkopnkfpgahaaWAt
import Derived.Test.YtjpkopnkfpgahaaWEqStruct
import Derived.Test.YtjpkopnkfpgahaaWRepsOne
import Derived.Test.YtjpkopnkfpgahaaWInv
import Derived.Test.YtjpkopnkfpgahaaWInvWords
import Derived.Test.YtjpkopnkfpgahaaWGuard
import Derived.Test.YtjpkopnkfpgahaaWNEv
import Derived.Test.YtjpkopnkfpgahaaWMore
namespace Go.Proofs.Ytjpkopnkfpgahaa.Poften
open Go.RowKit Go.Proofs.YtjpkopnkfpgahaaW.PrintWords Go.Proofs.YtjpkopnkfpgahaaW.PrintLast Go.Proofs.YtjpkopnkfpgahaaW.PrintMore
attribute [local go_sem] max2_int min2_int max_two min_two max_three min_three max_four min_four   -- for this text's walks alone
set_option linter.unusedVariables false
set_option linter.unusedSimpArgs false



def errW : Option Int → Value
  | none => .nilIface
  | some c => .iface 0 (.int .i64 c)
theorem errW_none : errW none = .nilIface := rfl
theorem errW_some (c : Int) : errW (some c) = .iface 0 (.int .i64 c) := rfl

-- the values' own types

end Go.Proofs.Ytjpkopnkfpgahaa.Poften
