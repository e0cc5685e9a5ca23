/- The law FnExactRoundNear, on plain values, holds: the program's RoundNear is the reference's. For all 64-bit integers and all rates of 64-bit integers. -/
import Derived.Test.YtkikhjojfcmboaaKit
import Derived.Test.YtkikhjojfcmboaaPFnExactRoundNearx1
namespace Go.Proofs.Ytkikhjojfcmboaa.Pure
open Go.RowKit Go.Proofs.Ytkikhjojfcmboaa.PFnExactRoundNear Go.Proofs.Ytkikhjojfcmboaa.Kit

theorem FnExactRoundNear (n p d : Int) (_ : (Lit.int .i64 n).wf = true) (_ : (Lit.int .i64 p).wf = true) (_ : (Lit.int .i64 d).wf = true) : laws_FnExactRoundNear.f n p d = some true := by
  simp only [laws_FnExactRoundNear.f, laws_toRate.f, spec_RoundNear.f, impl_RoundNear.f, spec_validAmount.f, spec_validRate.f, spec_inRange.f, impl_validPart.f, impl_ValidRate.f, spec_near.f]
  by_cases h1 : 0 ≤ n
  · by_cases h2 : n ≤ 1000000
    · by_cases h3 : 1 ≤ d
      · by_cases h4 : d ≤ 1000
        · by_cases h5 : 0 ≤ p
          · by_cases h6 : p ≤ d
            · have e : ¬ wrap64 (2 * d) = 0 := by rw [w64 (by omega) (by omega)]; omega
              simp [h1, h2, h3, h4, h5, h6, e]
            · simp [h1, h2, h3, h4, h5, h6]
          · simp [h1, h2, h3, h4, h5]
        · simp [h1, h2, h3, h4]
      · simp [h1, h2, h3]
    · simp [h1, h2]
  · simp [h1]

end Go.Proofs.Ytkikhjojfcmboaa.Pure
