/- The law FnExactNineOf, as a statement on plain values, holds: the program's NineOf is the reference's. For every 64-bit integer. -/
import Derived.Test.YtkikhjojfcmboaaPFnExactNineOfx1
namespace Go.Proofs.Ytkikhjojfcmboaa.Pure
open Go.RowKit Go.Proofs.Ytkikhjojfcmboaa.PFnExactNineOf

theorem FnExactNineOf : laws_FnExactNineOf.Pure := by
  intro a _
  unfold laws_FnExactNineOf.f spec_NineOf.f impl_NineOf.f
  by_cases h : a < 0
  · simp [h]
  · simp [h]

end Go.Proofs.Ytkikhjojfcmboaa.Pure
