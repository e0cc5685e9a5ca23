/- The law FnExactCommitTo, as a statement on plain values, holds: the program's CommitTo is the reference's. For all pairs of 64-bit integers. -/
import Derived.Test.YtkikhjojfcmboaaPFnExactCommitTox1
namespace Go.Proofs.Ytkikhjojfcmboaa.Pure
open Go.RowKit Go.Proofs.Ytkikhjojfcmboaa.PFnExactCommitTo

theorem spec_eq (a b : Int) : spec_CommitTo.f a b = impl_CommitTo.f a b := by
  unfold spec_CommitTo.f impl_CommitTo.f spec_inRange.f spec_commit.f
  by_cases h1 : 0 ≤ a
  · by_cases h2 : a ≤ 50000
    · by_cases h3 : 0 ≤ b
      · by_cases h4 : b ≤ 9999
        · have e1 : ¬ a < 0 := by omega
          have e2 : ¬ a > 50000 := by omega
          have e3 : ¬ b < 0 := by omega
          have e4 : ¬ b > 9999 := by omega
          simp [h1, h2, h3, h4, e1, e2, e3, e4]
        · have e1 : ¬ a < 0 := by omega
          have e2 : ¬ a > 50000 := by omega
          have e3 : ¬ b < 0 := by omega
          have e4 : b > 9999 := by omega
          simp [h1, h2, h3, h4, e1, e2, e3, e4]
      · have e1 : ¬ a < 0 := by omega
        have e2 : ¬ a > 50000 := by omega
        have e3 : b < 0 := by omega
        simp [h1, h2, h3, e1, e2, e3]
    · have e1 : ¬ a < 0 := by omega
      have e2 : a > 50000 := by omega
      simp [h1, h2, e1, e2]
  · have e1 : a < 0 := by omega
    simp [h1, e1]

theorem impl_some (a b : Int) : ∃ r, impl_CommitTo.f a b = some r := by
  unfold impl_CommitTo.f
  repeat' split
  all_goals exact ⟨_, rfl⟩

theorem FnExactCommitTo : laws_FnExactCommitTo.Pure := by
  intro a b _ _
  obtain ⟨r, hr⟩ := impl_some a b
  unfold laws_FnExactCommitTo.f
  rw [spec_eq, hr]
  simp

end Go.Proofs.Ytkikhjojfcmboaa.Pure
