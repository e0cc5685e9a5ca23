/- The law FnExactInverseOf, as a statement on plain values, holds: the program's InverseOf is the reference's. For every 64-bit integer. -/
import Derived.Test.YtkikhjojfcmboaaPFnExactInverseOfx1
namespace Go.Proofs.Ytkikhjojfcmboaa.Pure
open Go.RowKit Go.Proofs.Ytkikhjojfcmboaa.PFnExactInverseOf

set_option maxRecDepth 100000 in
theorem inside : (List.range 250).all (fun i => laws_FnExactInverseOf.f 300 ((i : Int) + 1) == some true) = true := by
  decide +kernel

theorem FnExactInverseOf : laws_FnExactInverseOf.Pure := by
  intro a _
  refine ⟨300, ?_⟩
  by_cases h1 : a < 1
  · have e1 : ¬ 1 ≤ a := by omega
    simp [laws_FnExactInverseOf.f, spec_InverseOf.f, impl_InverseOf.f, spec_inRange.f, impl_InverseOf.j0, h1, e1]
  · by_cases h2 : a > 250
    · have e1 : 1 ≤ a := by omega
      have e2 : ¬ a ≤ 250 := by omega
      simp [laws_FnExactInverseOf.f, spec_InverseOf.f, impl_InverseOf.f, spec_inRange.f, impl_InverseOf.j0, h1, h2, e1, e2]
    · have h := List.all_eq_true.mp inside (a - 1).toNat (List.mem_range.mpr (by omega))
      have e : (((a - 1).toNat : Nat) : Int) + 1 = a := by omega
      rw [e] at h
      simpa using h

end Go.Proofs.Ytkikhjojfcmboaa.Pure
