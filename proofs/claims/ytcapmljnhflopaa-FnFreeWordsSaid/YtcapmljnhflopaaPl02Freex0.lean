-- PRINTED BY print.sh 35421559b90ae4d0a3588c463048766b98c2df88dd9212a6774a882060cdf62d: not written by this session
import Derived.Test.YtcapmljnhflopaaProg
import Derived.Below
import Derived.Deep.Draws
import Derived.Deep.AppendLies
import Derived.Maps.AppendAt
import Derived.OwnWalk
import Derived.Laws.BytesArg
import Derived.Laws.MakeOwn
import Derived.Laws.OwnMore
import Derived.Deep.OwnRows
import Derived.Tactics
import Derived.Lib.ConvBytes
import Derived.Laws.Slices
import Derived.WalkKit
import Derived.KernelRfl
import Derived.RowKit3
import Derived.Deep.LoopGhost
import Derived.Deep.QuietTactic
import Derived.BigQuiet
import Derived.WideLaws
import Derived.Deep.DeepCutAuto
import Derived.Deep.CutBlock
import Derived.Deep.RegionHeld3
import Derived.Laws.Rows
import Derived.Lib.AppendStr
import Derived.ArgAppend
import Derived.Laws.IdiomCopy
import Derived.OrdersHeld
import Derived.Laws.BitsLemmas
import Derived.RowKit
import Derived.Test.YtcapmljnhflopaaWWords
import Derived.Test.YtcapmljnhflopaaWLast
import Derived.Test.YtcapmljnhflopaaWTab
import Derived.Test.YtcapmljnhflopaaWFour
import Derived.Test.YtcapmljnhflopaaWQPut
import Derived.Test.YtcapmljnhflopaaWApart
import Derived.Test.YtcapmljnhflopaaWArr
import Derived.Test.YtcapmljnhflopaaWZeros
import Derived.Test.YtcapmljnhflopaaWFoot
import Derived.Test.YtcapmljnhflopaaWKept
import Derived.Test.YtcapmljnhflopaaWShare
import Derived.Test.YtcapmljnhflopaaWN
import Derived.Test.YtcapmljnhflopaaWFootNe
import Derived.Test.YtcapmljnhflopaaWAt
import Derived.Test.YtcapmljnhflopaaWEqStruct
import Derived.Test.YtcapmljnhflopaaWRepsOne
import Derived.Test.YtcapmljnhflopaaWInv
import Derived.Test.YtcapmljnhflopaaWInvWords
import Derived.Test.YtcapmljnhflopaaWGuard
import Derived.Test.YtcapmljnhflopaaWNEv
import Derived.Test.YtcapmljnhflopaaWMore
namespace Go.Proofs.Ytcapmljnhflopaa.Pl02Free
open Go.RowKit Go.Proofs.YtcapmljnhflopaaW.PrintWords Go.Proofs.YtcapmljnhflopaaW.PrintLast Go.Proofs.YtcapmljnhflopaaW.PrintMore
attribute [local go_sem] max2_int min2_int max_two min_two max_three min_three max_four min_four   -- for this text's walks alone
set_option linter.unusedVariables false
set_option linter.unusedSimpArgs false



def errW : Option Int → Value
  | none => .nilIface
  | some c => .iface 0 (.int .i64 c)
theorem errW_none : errW none = .nilIface := rfl
theorem errW_some (c : Int) : errW (some c) = .iface 0 (.int .i64 c) := rfl

theorem info5 : (Try.prog.info? 5).map (fun i => (i.zero, i.size, i.bytes)) = some (some (.int .u8 0), 1, 1) := by kernel_rfl
-- the values' own types

end Go.Proofs.Ytcapmljnhflopaa.Pl02Free
