-- PRINTED BY print.sh 35421559b90ae4d0a3588c463048766b98c2df88dd9212a6774a882060cdf62d: not written by this session
import Derived.Test.YtjjbaebddkejnaaProg
import Derived.Below
import Derived.Deep.Draws
import Derived.Deep.AppendLies
import Derived.Maps.AppendAt
import Derived.OwnWalk
import Derived.Laws.BytesArg
import Derived.Laws.MakeOwn
import Derived.Laws.OwnMore
import Derived.Deep.OwnRows
import Derived.Tactics
import Derived.Lib.ConvBytes
import Derived.Laws.Slices
import Derived.WalkKit
import Derived.KernelRfl
import Derived.RowKit3
import Derived.Deep.LoopGhost
import Derived.Deep.QuietTactic
import Derived.BigQuiet
import Derived.WideLaws
import Derived.Deep.DeepCutAuto
import Derived.Deep.CutBlock
import Derived.Deep.RegionHeld3
import Derived.Laws.Rows
import Derived.Lib.AppendStr
import Derived.ArgAppend
import Derived.Laws.IdiomCopy
import Derived.OrdersHeld
import Derived.Laws.BitsLemmas
import Derived.RowKit
import Derived.Test.YtjjbaebddkejnaaWWords
import Derived.Test.YtjjbaebddkejnaaWLast
import Derived.Test.YtjjbaebddkejnaaWTab
import Derived.Test.YtjjbaebddkejnaaWFour
import Derived.Test.YtjjbaebddkejnaaWQPut
import Derived.Test.YtjjbaebddkejnaaWApart
import Derived.Test.YtjjbaebddkejnaaWArr
import Derived.Test.YtjjbaebddkejnaaWZeros
import Derived.Test.YtjjbaebddkejnaaWFoot
import Derived.Test.YtjjbaebddkejnaaWKept
import Derived.Test.YtjjbaebddkejnaaWShare
import Derived.Test.YtjjbaebddkejnaaWN
import Derived.Test.YtjjbaebddkejnaaWFootNe
import Derived.Test.YtjjbaebddkejnaaWAt
import Derived.Test.YtjjbaebddkejnaaWEqStruct
import Derived.Test.YtjjbaebddkejnaaWRepsOne
import Derived.Test.YtjjbaebddkejnaaWInv
import Derived.Test.YtjjbaebddkejnaaWInvWords
import Derived.Test.YtjjbaebddkejnaaWGuard
import Derived.Test.YtjjbaebddkejnaaWNEv
import Derived.Test.YtjjbaebddkejnaaWMore
namespace Go.Proofs.Ytjjbaebddkejnaa.Pl08Inverse
open Go.RowKit Go.Proofs.YtjjbaebddkejnaaW.PrintWords Go.Proofs.YtjjbaebddkejnaaW.PrintLast Go.Proofs.YtjjbaebddkejnaaW.PrintMore
attribute [local go_sem] max2_int min2_int max_two min_two max_three min_three max_four min_four   -- for this text's walks alone
set_option linter.unusedVariables false
set_option linter.unusedSimpArgs false



def errW : Option Int → Value
  | none => .nilIface
  | some c => .iface 0 (.int .i64 c)
theorem errW_none : errW none = .nilIface := rfl
theorem errW_some (c : Int) : errW (some c) = .iface 0 (.int .i64 c) := rfl

-- the values' own types

end Go.Proofs.Ytjjbaebddkejnaa.Pl08Inverse
