/- The law FnExactPotOf, as a statement on plain values, holds: the program's PotOf is the reference's. For all pairs of 64-bit integers. -/
import Derived.Test.YtkikhjojfcmboaaPFnExactPotOfx1
namespace Go.Proofs.Ytkikhjojfcmboaa.Pure
open Go.RowKit Go.Proofs.Ytkikhjojfcmboaa.PFnExactPotOf

theorem spec_eq (a b : Int) : spec_PotOf.f a b = impl_PotOf.f a b := by
  unfold spec_PotOf.f impl_PotOf.f spec_inRange.f
  by_cases h1 : 1 ≤ a
  · by_cases h2 : a ≤ 12
    · by_cases h3 : 0 ≤ b
      · by_cases h4 : b ≤ 10000
        · have e1 : ¬ a < 1 := by omega
          have e2 : ¬ a > 12 := by omega
          have e3 : ¬ b < 0 := by omega
          have e4 : ¬ b > 10000 := by omega
          simp [h1, h2, h3, h4, e1, e2, e3, e4]
        · have e1 : ¬ a < 1 := by omega
          have e2 : ¬ a > 12 := by omega
          have e3 : ¬ b < 0 := by omega
          have e4 : b > 10000 := by omega
          simp [h1, h2, h3, h4, e1, e2, e3, e4]
      · have e1 : ¬ a < 1 := by omega
        have e2 : ¬ a > 12 := by omega
        have e3 : b < 0 := by omega
        simp [h1, h2, h3, e1, e2, e3]
    · have e1 : ¬ a < 1 := by omega
      have e2 : a > 12 := by omega
      simp [h1, h2, e1, e2]
  · have e1 : a < 1 := by omega
    simp [h1, e1]

theorem impl_some (a b : Int) : ∃ r, impl_PotOf.f a b = some r := by
  unfold impl_PotOf.f
  repeat' split
  all_goals exact ⟨_, rfl⟩

theorem FnExactPotOf : laws_FnExactPotOf.Pure := by
  intro a b _ _
  obtain ⟨r, hr⟩ := impl_some a b
  unfold laws_FnExactPotOf.f
  rw [spec_eq, hr]
  simp

end Go.Proofs.Ytkikhjojfcmboaa.Pure
