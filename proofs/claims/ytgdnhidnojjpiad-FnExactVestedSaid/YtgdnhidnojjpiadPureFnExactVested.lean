/- The law FnExactVested, on plain values, holds: the program's Vested is the reference's. For all 64-bit integers. -/
import Derived.Test.YtgdnhidnojjpiadKit
import Derived.Test.YtgdnhidnojjpiadQFnExactVestedx3
namespace Go.Proofs.Ytgdnhidnojjpiad.Pure
open Go.RowKit Go.Proofs.Ytgdnhidnojjpiad.PFnExactVested Go.Proofs.Ytgdnhidnojjpiad.Kit Go.Proofs.YtgdnhidnojjpiadW.PrintWords

theorem vrange {a lo hi : Int} : spec_inRange.f a lo hi = some (decide (lo ≤ a ∧ a ≤ hi)) := by
  unfold spec_inRange.f
  by_cases h1 : lo ≤ a
  · simp [h1]
  · simp [h1]
theorem same (s m t : Int) : spec_Vested.f s m t = some (impl_Vested.f s m t) := by
  unfold spec_Vested.f impl_Vested.f
  rw [vrange, vrange]
  simp only [Option.bind_some]
  by_cases h : 0 ≤ s ∧ s ≤ 100000
  · rw [decide_eq_true h, if_pos rfl, if_neg (c := s < 0) (by omega), if_neg (c := 100000 < s) (by omega)]
    by_cases hm : m < 0
    · rw [if_pos hm, if_pos hm]
    · rw [if_neg hm, if_neg hm]
      by_cases ht : 1 ≤ t ∧ t ≤ 999
      · rw [decide_eq_true ht, if_pos rfl, if_neg (c := t = 0) (by omega), if_neg (c := t < 1) (by omega), if_neg (c := 999 < t) (by omega)]
        have bd : ∀ x : Int, 0 ≤ x → x ≤ 999 → wrap64 (Int.tdiv (wrap64 (s * x)) t) = s * x / t := by
          intro x h0 h1
          have p0 : 0 ≤ s * x := Int.mul_nonneg h.1 h0
          have p1 : s * x ≤ 100000 * 999 := Int.le_trans (Int.mul_le_mul_of_nonneg_right h.2 h0) (Int.mul_le_mul_of_nonneg_left h1 (by omega))
          have q0 : 0 ≤ s * x / t := Int.ediv_nonneg p0 (by omega)
          have q1 : s * x / t ≤ s * x := Int.ediv_le_self _ p0
          rw [w64 (x := s * x) (by omega) (by omega), tdiv_nn _ p0, w64 (by omega) (by omega)]
        by_cases c : t ≤ m
        · have e : mn m t = t := by unfold mn; omega
          rw [if_pos c, e, bd t (by omega) (by omega), Int.mul_ediv_cancel _ (by omega)]
        · have e : mn m t = m := by unfold mn; omega
          rw [if_neg c, e, bd m (by omega) (by omega)]
      · rw [decide_eq_false ht, if_neg (by simp)]
        by_cases c : t < 1
        · rw [if_pos c]
        · rw [if_neg c, if_pos (c := 999 < t) (by omega)]
  · rw [decide_eq_false h, if_neg (by simp)]
    by_cases c : s < 0
    · rw [if_pos c]
    · rw [if_neg c, if_pos (c := 100000 < s) (by omega)]

theorem FnExactVested (s m t : Int) (_ : (Lit.int .i64 s).wf = true) (_ : (Lit.int .i64 m).wf = true) (_ : (Lit.int .i64 t).wf = true) : laws_FnExactVested.f s m t = some true := by
  unfold laws_FnExactVested.f
  rw [same]
  simp

end Go.Proofs.Ytgdnhidnojjpiad.Pure
