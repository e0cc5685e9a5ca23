/- The law FnExactValidRate, on plain values, holds: the program's ValidRate is the reference's. For all pairs of integers. -/
import Derived.Test.YtkikhjojfcmboaaPFnExactValidRatex1
namespace Go.Proofs.Ytkikhjojfcmboaa.Pure
open Go.RowKit Go.Proofs.Ytkikhjojfcmboaa.PFnExactValidRate

theorem FnExactValidRate (a b : Int) (_ : (Lit.int .i64 a).wf = true) (_ : (Lit.int .i64 b).wf = true) : laws_FnExactValidRate.f a b = some true := by
  unfold laws_FnExactValidRate.f laws_toRate.f spec_ValidRate.f impl_ValidRate.f spec_validRate.f spec_inRange.f
  by_cases h1 : 1 ≤ b
  · by_cases h2 : b ≤ 1000
    · by_cases h3 : 0 ≤ a
      · simp [h1, h2, h3]
      · simp [h1, h2, h3]
    · simp [h1, h2]
  · simp [h1]

end Go.Proofs.Ytkikhjojfcmboaa.Pure
