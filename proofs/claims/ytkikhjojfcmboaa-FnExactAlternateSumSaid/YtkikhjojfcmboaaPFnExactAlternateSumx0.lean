-- PRINTED BY print.sh 35421559b90ae4d0a3588c463048766b98c2df88dd9212a6774a882060cdf62d: not written by this session
import Derived.Test.YtkikhjojfcmboaaProg
import Derived.Below
import Derived.Deep.Draws
import Derived.Deep.AppendLies
import Derived.Maps.AppendAt
import Derived.OwnWalk
import Derived.Laws.BytesArg
import Derived.Laws.MakeOwn
import Derived.Laws.OwnMore
import Derived.Deep.OwnRows
import Derived.Tactics
import Derived.Lib.ConvBytes
import Derived.Laws.Slices
import Derived.WalkKit
import Derived.KernelRfl
import Derived.RowKit3
import Derived.Deep.LoopGhost
import Derived.Deep.QuietTactic
import Derived.BigQuiet
import Derived.WideLaws
import Derived.Deep.DeepCutAuto
import Derived.Deep.CutBlock
import Derived.Deep.RegionHeld3
import Derived.Laws.Rows
import Derived.Lib.AppendStr
import Derived.ArgAppend
import Derived.Laws.IdiomCopy
import Derived.OrdersHeld
import Derived.Laws.BitsLemmas
import Derived.RowKit
import Derived.Test.YtkikhjojfcmboaaWWords
import Derived.Test.YtkikhjojfcmboaaWLast
import Derived.Test.YtkikhjojfcmboaaWTab
import Derived.Test.YtkikhjojfcmboaaWFour
import Derived.Test.YtkikhjojfcmboaaWQPut
import Derived.Test.YtkikhjojfcmboaaWApart
import Derived.Test.YtkikhjojfcmboaaWArr
import Derived.Test.YtkikhjojfcmboaaWZeros
import Derived.Test.YtkikhjojfcmboaaWFoot
import Derived.Test.YtkikhjojfcmboaaWKept
import Derived.Test.YtkikhjojfcmboaaWShare
import Derived.Test.YtkikhjojfcmboaaWN
import Derived.Test.YtkikhjojfcmboaaWFootNe
import Derived.Test.YtkikhjojfcmboaaWAt
import Derived.Test.YtkikhjojfcmboaaWEqStruct
import Derived.Test.YtkikhjojfcmboaaWRepsOne
import Derived.Test.YtkikhjojfcmboaaWInv
import Derived.Test.YtkikhjojfcmboaaWInvWords
import Derived.Test.YtkikhjojfcmboaaWGuard
import Derived.Test.YtkikhjojfcmboaaWNEv
import Derived.Test.YtkikhjojfcmboaaWMore
namespace Go.Proofs.Ytkikhjojfcmboaa.PFnExactAlternateSum
open Go.RowKit Go.Proofs.YtkikhjojfcmboaaW.PrintWords Go.Proofs.YtkikhjojfcmboaaW.PrintLast Go.Proofs.YtkikhjojfcmboaaW.PrintMore
attribute [local go_sem] max2_int min2_int max_two min_two max_three min_three max_four min_four   -- for this text's walks alone
set_option linter.unusedVariables false
set_option linter.unusedSimpArgs false



def errW : Option Int → Value
  | none => .nilIface
  | some c => .iface 0 (.int .i64 c)
theorem errW_none : errW none = .nilIface := rfl
theorem errW_some (c : Int) : errW (some c) = .iface 0 (.int .i64 c) := rfl

theorem info3 : (Try.prog.info? 3).map (fun i => (i.zero, i.size, i.bytes)) = some (some (.int .i64 0), 1, 8) := by kernel_rfl
-- the values' own types

end Go.Proofs.Ytkikhjojfcmboaa.PFnExactAlternateSum
