/- The library's Div64, for a high word 0 and a divisor greater than 0, answers quotient and rest; the program's Vested and the law FnExactVested answer what their plain functions answer. -/
import Derived.Test.YtgdnhidnojjpiadPFnExactVestedx0
import Derived.Test.YtgdnhidnojjpiadQFnExactVestedx1
namespace Go.Proofs.Ytgdnhidnojjpiad.PFnExactVested
open Go.RowKit Go.Proofs.YtgdnhidnojjpiadW.PrintWords Go.Proofs.YtgdnhidnojjpiadW.PrintLast Go.Proofs.YtgdnhidnojjpiadW.PrintMore
set_option linter.unusedVariables false
set_option linter.unusedSimpArgs false

set_option maxHeartbeats 8000000 in
set_option maxRecDepth 100000 in
theorem bits_Div64.calls (lo y : Int) (w : World) (hy : 0 < y) :
    Calls Try.prog 26 #[.int .u64 0, .int .u64 lo, .int .u64 y] w fun e w' => e = .returned (.tuple #[.int .u64 (IntKind.u64.wrap (Int.tdiv lo y)), .int .u64 (Int.tmod lo y)]) ∧ Drawn0 w w' := by
  have c0 : (y == 0) = false := beq_eq_false_iff_ne.mpr (by omega)
  have c1 : (y != 0) = true := bne_iff_ne.mpr (by omega)
  have c2 : decide (y ≤ 0) = false := decide_eq_false (by omega)
  go_enter Try.func26, Try.ntmps26
  go_wp2
  repeat (go_quiet (fail); try go_wp2)
  go_ret2
  exact ⟨by first | rfl | (simp; done) | (simp [*]; done), ⟨_, rfl⟩⟩
end Go.Proofs.Ytgdnhidnojjpiad.PFnExactVested
