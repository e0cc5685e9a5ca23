-- PRINTED BY print.sh 35421559b90ae4d0a3588c463048766b98c2df88dd9212a6774a882060cdf62d: not written by this session
import Derived.Test.YtgdnhidnojjpiabProg
import Derived.Below
import Derived.Deep.Draws
import Derived.Deep.AppendLies
import Derived.Maps.AppendAt
import Derived.OwnWalk
import Derived.Laws.BytesArg
import Derived.Laws.MakeOwn
import Derived.Laws.OwnMore
import Derived.Deep.OwnRows
import Derived.Tactics
import Derived.Lib.ConvBytes
import Derived.Laws.Slices
import Derived.WalkKit
import Derived.KernelRfl
import Derived.RowKit3
import Derived.Deep.LoopGhost
import Derived.Deep.QuietTactic
import Derived.BigQuiet
import Derived.WideLaws
import Derived.Deep.DeepCutAuto
import Derived.Deep.CutBlock
import Derived.Deep.RegionHeld3
import Derived.Laws.Rows
import Derived.Lib.AppendStr
import Derived.ArgAppend
import Derived.Laws.IdiomCopy
import Derived.OrdersHeld
import Derived.Laws.BitsLemmas
import Derived.RowKit
import Derived.Test.YtgdnhidnojjpiabWWords
import Derived.Test.YtgdnhidnojjpiabWLast
import Derived.Test.YtgdnhidnojjpiabWTab
import Derived.Test.YtgdnhidnojjpiabWFour
import Derived.Test.YtgdnhidnojjpiabWQPut
import Derived.Test.YtgdnhidnojjpiabWApart
import Derived.Test.YtgdnhidnojjpiabWArr
import Derived.Test.YtgdnhidnojjpiabWZeros
import Derived.Test.YtgdnhidnojjpiabWFoot
import Derived.Test.YtgdnhidnojjpiabWKept
import Derived.Test.YtgdnhidnojjpiabWShare
import Derived.Test.YtgdnhidnojjpiabWN
import Derived.Test.YtgdnhidnojjpiabWFootNe
import Derived.Test.YtgdnhidnojjpiabWAt
import Derived.Test.YtgdnhidnojjpiabWEqStruct
import Derived.Test.YtgdnhidnojjpiabWRepsOne
import Derived.Test.YtgdnhidnojjpiabWInv
import Derived.Test.YtgdnhidnojjpiabWInvWords
import Derived.Test.YtgdnhidnojjpiabWGuard
import Derived.Test.YtgdnhidnojjpiabWNEv
import Derived.Test.YtgdnhidnojjpiabWMore
namespace Go.Proofs.Ytgdnhidnojjpiab.PFnExactPolyAt
open Go.RowKit Go.Proofs.YtgdnhidnojjpiabW.PrintWords Go.Proofs.YtgdnhidnojjpiabW.PrintLast Go.Proofs.YtgdnhidnojjpiabW.PrintMore
attribute [local go_sem] max2_int min2_int max_two min_two max_three min_three max_four min_four   -- for this text's walks alone
set_option linter.unusedVariables false
set_option linter.unusedSimpArgs false



def errW : Option Int → Value
  | none => .nilIface
  | some c => .iface 0 (.int .i64 c)
theorem errW_none : errW none = .nilIface := rfl
theorem errW_some (c : Int) : errW (some c) = .iface 0 (.int .i64 c) := rfl

theorem info3 : (Try.prog.info? 3).map (fun i => (i.zero, i.size, i.bytes)) = some (some (.int .i64 0), 1, 8) := by kernel_rfl
-- the values' own types

end Go.Proofs.Ytgdnhidnojjpiab.PFnExactPolyAt
