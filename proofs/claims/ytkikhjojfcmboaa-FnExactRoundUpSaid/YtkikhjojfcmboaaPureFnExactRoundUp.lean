/- The law FnExactRoundUp, on plain values, holds: the program's RoundUp is the reference's. For all 64-bit integers and all rates of 64-bit integers. -/
import Derived.Test.YtkikhjojfcmboaaKit
import Derived.Test.YtkikhjojfcmboaaPFnExactRoundUpx1
namespace Go.Proofs.Ytkikhjojfcmboaa.Pure
open Go.RowKit Go.Proofs.Ytkikhjojfcmboaa.PFnExactRoundUp Go.Proofs.Ytkikhjojfcmboaa.Kit

theorem FnExactRoundUp (n p d : Int) (_ : (Lit.int .i64 n).wf = true) (_ : (Lit.int .i64 p).wf = true) (_ : (Lit.int .i64 d).wf = true) : laws_FnExactRoundUp.f n p d = some true := by
  simp only [laws_FnExactRoundUp.f, laws_toRate.f, spec_RoundUp.f, impl_RoundUp.f, spec_validAmount.f, spec_validRate.f, spec_inRange.f, impl_validPart.f, impl_ValidRate.f]
  by_cases h1 : 0 ≤ n
  · by_cases h2 : n ≤ 1000000
    · by_cases h3 : 1 ≤ d
      · by_cases h4 : d ≤ 1000
        · by_cases h5 : 0 ≤ p
          · by_cases h6 : p ≤ d
            · have e : ¬ d = 0 := by omega
              simp [h1, h2, h3, h4, h5, h6, e]
            · simp [h1, h2, h3, h4, h5, h6]
          · simp [h1, h2, h3, h4, h5]
        · simp [h1, h2, h3, h4]
      · simp [h1, h2, h3]
    · simp [h1, h2]
  · simp [h1]

end Go.Proofs.Ytkikhjojfcmboaa.Pure
