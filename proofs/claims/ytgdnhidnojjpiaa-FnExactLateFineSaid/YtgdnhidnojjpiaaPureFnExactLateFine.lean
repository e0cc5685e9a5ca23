/- The law FnExactLateFine, on plain values, holds: the program's LateFine is the reference's. For all 64-bit integers and all rates of 64-bit integers. -/
import Derived.Test.YtgdnhidnojjpiaaKit
import Derived.Test.YtgdnhidnojjpiaaPFnExactLateFinex1
namespace Go.Proofs.Ytgdnhidnojjpiaa.Pure
open Go.RowKit Go.Proofs.Ytgdnhidnojjpiaa.PFnExactLateFine Go.Proofs.Ytgdnhidnojjpiaa.Kit Go.Proofs.YtgdnhidnojjpiaaW.PrintWords

theorem implPart_in {n p d : Int} (hn : 0 ≤ n) (hn' : n ≤ 1000000) (hp : 0 ≤ p) (hd : 1 ≤ d) (hd' : d ≤ 1000) (hpd : p ≤ d) : impl_validPart.f n p d = some true := by
  unfold impl_validPart.f impl_ValidRate.f
  rw [if_pos hn, if_pos hn', if_pos hd, if_pos hd', if_pos hp, decide_eq_true hpd]
  rfl
theorem implPart_out {n p d : Int} (h : ¬ (0 ≤ n ∧ n ≤ 1000000 ∧ 0 ≤ p ∧ 1 ≤ d ∧ d ≤ 1000 ∧ p ≤ d)) : impl_validPart.f n p d = some false := by
  unfold impl_validPart.f impl_ValidRate.f
  by_cases h1 : n ≥ 0
  · by_cases h2 : n ≤ 1000000
    · by_cases h3 : d ≥ 1
      · by_cases h4 : d ≤ 1000
        · by_cases h5 : p ≥ 0
          · have h6 : ¬ p ≤ d := by omega
            simp [h1, h2, h3, h4, h5, h6]
          · simp [h1, h2, h3, h4, h5]
        · simp [h1, h2, h3, h4]
      · simp [h1, h2, h3]
    · simp [h1, h2]
  · simp [h1]
theorem specRate_in {p d : Int} (hp : 0 ≤ p) (hd : 1 ≤ d) (hd' : d ≤ 1000) (hpd : p ≤ d) : spec_validRate.f p d = some true := by
  unfold spec_validRate.f spec_inRange.f
  rw [if_pos hd, decide_eq_true hd', if_pos hp, decide_eq_true hpd]
  rfl
theorem specRate_out {p d : Int} (h : ¬ (0 ≤ p ∧ 1 ≤ d ∧ d ≤ 1000 ∧ p ≤ d)) : spec_validRate.f p d = some false := by
  unfold spec_validRate.f spec_inRange.f
  by_cases h1 : 1 ≤ d
  · by_cases h2 : d ≤ 1000
    · by_cases h3 : 0 ≤ p
      · have h4 : ¬ p ≤ d := by omega
        simp [h1, h2, h3, h4]
      · simp [h1, h2, h3]
    · simp [h1, h2]
  · simp [h1]
/-- n * p / d, rounded up -/
def up (n p d : Int) : Int := (n * p + d - 1) / d
theorem up_bd {n p d : Int} (hn : 0 ≤ n) (hn' : n ≤ 1000000) (hp : 0 ≤ p) (hd : 1 ≤ d) (hd' : d ≤ 1000) (hpd : p ≤ d) : 0 ≤ up n p d ∧ up n p d ≤ n ∧ wrap64 (Int.tdiv (wrap64 (wrap64 (wrap64 (n * p) + d) - 1)) d) = up n p d := by
  have hb := part_bd hn (by omega) hp (by omega)
  have h1 : n * p ≤ n * d := Int.mul_le_mul_of_nonneg_left hpd hn
  have a : 0 ≤ up n p d := Int.ediv_nonneg (by omega) (by omega)
  have b : up n p d < n + 1 := by
    unfold up
    refine Int.ediv_lt_of_lt_mul (by omega) ?_
    grind
  refine ⟨a, by omega, ?_⟩
  have e1 : wrap64 (wrap64 (wrap64 (n * p) + d) - 1) = n * p + d - 1 := by
    generalize n * p = P at hb ⊢
    simp (disch := omega) only [w64]
  rw [e1, tdiv_nn _ (by omega)]
  exact w64 (by unfold up at a; omega) (by unfold up at b; omega)
theorem implUp_is {n p d : Int} (hn : 0 ≤ n) (hn' : n ≤ 1000000) (hp : 0 ≤ p) (hd : 1 ≤ d) (hd' : d ≤ 1000) (hpd : p ≤ d) : impl_RoundUp.f n p d = some (up n p d) := by
  unfold impl_RoundUp.f
  rw [implPart_in hn hn' hp hd hd' hpd]
  simp only [Option.bind_some, if_true]
  rw [if_neg (by omega), (up_bd hn hn' hp hd hd' hpd).2.2]
theorem implUp_out {n p d : Int} (h : ¬ (0 ≤ n ∧ n ≤ 1000000 ∧ 0 ≤ p ∧ 1 ≤ d ∧ d ≤ 1000 ∧ p ≤ d)) : impl_RoundUp.f n p d = some (-1) := by
  unfold impl_RoundUp.f
  rw [implPart_out h]
  simp
/-- what is rounded up is what is rounded down, or 1 more where a rest is left -/
theorem up_down {P d : Int} (hd : 1 ≤ d) : (P + d - 1) / d = if P % d = 0 then P / d else P / d + 1 := by
  have h := Int.emod_add_mul_ediv P d
  have h0 := Int.emod_nonneg P (b := d) (by omega)
  have h1 := Int.emod_lt_of_pos P (b := d) (by omega)
  generalize P / d = q at h ⊢
  generalize P % d = r at h h0 h1 ⊢
  subst h
  split
  · exact div_of (by omega) (by grind) (by grind)
  · exact div_of (by omega) (by grind) (by grind)
/-- the fine of t days -/
def fine (n p d t : Int) : Int := if 0 < up n p d ∧ n / up n p d < t then n else up n p d * t
theorem fine_prod {n p d t : Int} (hn : 0 ≤ n) (ht : 0 ≤ t) (hu : 0 ≤ up n p d) (h : ¬ (0 < up n p d ∧ n / up n p d < t)) : 0 ≤ up n p d * t ∧ up n p d * t ≤ n := by
  refine ⟨Int.mul_nonneg hu ht, ?_⟩
  by_cases h0 : up n p d = 0
  · rw [h0]; omega
  · have h1 : t ≤ n / up n p d := by omega
    have h2 : up n p d * t ≤ up n p d * (n / up n p d) := Int.mul_le_mul_of_nonneg_left h1 hu
    have h3 : up n p d * (n / up n p d) ≤ n := Int.mul_ediv_self_le (by omega)
    omega
theorem implRate_in {p d : Int} (hp : 0 ≤ p) (hd : 1 ≤ d) (hd' : d ≤ 1000) (hpd : p ≤ d) : impl_ValidRate.f p d = some true := by
  unfold impl_ValidRate.f
  rw [if_pos hd, if_pos hd', if_pos hp, decide_eq_true hpd]
theorem implRate_out {p d : Int} (h : ¬ (0 ≤ p ∧ 1 ≤ d ∧ d ≤ 1000 ∧ p ≤ d)) : impl_ValidRate.f p d = some false := by
  unfold impl_ValidRate.f
  by_cases h1 : d ≥ 1
  · by_cases h2 : d ≤ 1000
    · by_cases h3 : p ≥ 0
      · have h4 : ¬ p ≤ d := by omega
        simp [h1, h2, h3, h4]
      · simp [h1, h2, h3]
    · simp [h1, h2]
  · simp [h1]
theorem implLate_in {n p d t : Int} (hn : 0 ≤ n) (hn' : n ≤ 100000) (hp : 0 ≤ p) (hd : 1 ≤ d) (hd' : d ≤ 1000) (hpd : p ≤ d) (ht : 0 ≤ t) {k : Nat} (hk : 1 ≤ k) : impl_LateFine.f k n p d t = some (fine n p d t) := by
  obtain ⟨k, rfl⟩ : ∃ j, k = j + 1 := ⟨k - 1, by omega⟩
  have hu := up_bd hn (by omega) hp hd hd' hpd
  have hq : 0 ≤ n / up n p d := Int.ediv_nonneg hn hu.1
  have hq' : n / up n p d ≤ n := Int.ediv_le_self _ hn
  unfold impl_LateFine.f
  rw [if_neg (by omega), if_neg (by omega), implRate_in hp hd hd' hpd]
  simp only [Option.bind_some, if_true, impl_LateFine.j0]
  rw [if_neg (by simp; omega), implUp_is hn (by omega) hp hd hd' hpd]
  simp only [Option.bind_some]
  unfold fine
  by_cases h0 : up n p d > 0
  · rw [if_pos h0, if_neg (by omega), tdiv_nn _ hn, w64 (x := n / up n p d) (by omega) (by omega)]
    by_cases h1 : t > n / up n p d
    · rw [if_pos h1, if_pos ⟨h0, h1⟩]
    · have hpr := fine_prod (t := t) hn ht hu.1 (fun x => h1 x.2)
      rw [if_neg h1, if_neg (fun x => h1 x.2), w64 (by omega) (by omega)]
  · have hpr := fine_prod (t := t) hn ht hu.1 (fun x => h0 x.1)
    rw [if_neg h0, if_neg (fun x => h0 x.1), w64 (by omega) (by omega)]
theorem implLate_out {n p d t : Int} (h : ¬ (0 ≤ n ∧ n ≤ 100000 ∧ (0 ≤ p ∧ 1 ≤ d ∧ d ≤ 1000 ∧ p ≤ d) ∧ 0 ≤ t)) {k : Nat} (hk : 1 ≤ k) : impl_LateFine.f k n p d t = some (-1) := by
  obtain ⟨k, rfl⟩ : ∃ j, k = j + 1 := ⟨k - 1, by omega⟩
  unfold impl_LateFine.f
  by_cases h1 : n < 0
  · simp [h1, impl_LateFine.j0]
  · by_cases h2 : n > 100000
    · simp [h1, h2, impl_LateFine.j0]
    · by_cases h3 : 0 ≤ p ∧ 1 ≤ d ∧ d ≤ 1000 ∧ p ≤ d
      · have h4 : t < 0 := by omega
        rw [implRate_in h3.1 h3.2.1 h3.2.2.1 h3.2.2.2]
        simp [h1, h2, h4, impl_LateFine.j0]
      · rw [implRate_out h3]
        simp [h1, h2, impl_LateFine.j0]
theorem specRange_in {a lo hi : Int} (h : lo ≤ a) (h' : a ≤ hi) : spec_inRange.f a lo hi = some true := by
  unfold spec_inRange.f
  rw [if_pos h, decide_eq_true h']
theorem specRange_out {a lo hi : Int} (h : ¬ (lo ≤ a ∧ a ≤ hi)) : spec_inRange.f a lo hi = some false := by
  unfold spec_inRange.f
  by_cases h1 : lo ≤ a
  · rw [if_pos h1, decide_eq_false (by omega)]
  · rw [if_neg h1]
theorem specLate_in {n p d t : Int} (hn : 0 ≤ n) (hn' : n ≤ 100000) (hp : 0 ≤ p) (hd : 1 ≤ d) (hd' : d ≤ 1000) (hpd : p ≤ d) (ht : 0 ≤ t) {k : Nat} (hk : 1 ≤ k) : spec_LateFine.f k n p d t = some (fine n p d t) := by
  obtain ⟨k, rfl⟩ : ∃ j, k = j + 1 := ⟨k - 1, by omega⟩
  have hu := up_bd hn (by omega) hp hd hd' hpd
  have hq : 0 ≤ n / up n p d := Int.ediv_nonneg hn hu.1
  have hq' : n / up n p d ≤ n := Int.ediv_le_self _ hn
  unfold spec_LateFine.f
  rw [specRange_in hn hn']
  simp only [Option.bind_some, if_true]
  rw [specRate_in hp hd hd' hpd]
  simp only [Option.bind_some, if_true, spec_LateFine.j0]
  rw [if_neg (by simp; omega), if_neg (by omega), hu.2.2]
  unfold fine
  by_cases h0 : up n p d = 0
  · rw [if_pos h0, if_neg (by omega), h0]
    simp
    exact w64 (by omega) (by omega)
  · rw [if_neg h0, tdiv_nn _ hn, w64 (x := n / up n p d) (by omega) (by omega)]
    by_cases h1 : t ≤ n / up n p d
    · have hpr := fine_prod (t := t) hn ht hu.1 (fun x => by omega)
      have hm : mn t n = t := by unfold mn; omega
      rw [if_pos h1, if_neg (fun x => by omega), hm, w64 (by omega) (by omega)]
    · rw [if_neg h1, if_pos ⟨by omega, by omega⟩]
theorem specLate_out {n p d t : Int} (h : ¬ (0 ≤ n ∧ n ≤ 100000 ∧ (0 ≤ p ∧ 1 ≤ d ∧ d ≤ 1000 ∧ p ≤ d) ∧ 0 ≤ t)) {k : Nat} (hk : 1 ≤ k) : spec_LateFine.f k n p d t = some (-1) := by
  obtain ⟨k, rfl⟩ : ∃ j, k = j + 1 := ⟨k - 1, by omega⟩
  unfold spec_LateFine.f
  by_cases h1 : 0 ≤ n ∧ n ≤ 100000
  · rw [specRange_in h1.1 h1.2]
    by_cases h3 : 0 ≤ p ∧ 1 ≤ d ∧ d ≤ 1000 ∧ p ≤ d
    · have h4 : t < 0 := by omega
      rw [specRate_in h3.1 h3.2.1 h3.2.2.1 h3.2.2.2]
      simp [h4, spec_LateFine.j0]
    · rw [specRate_out h3]
      simp [spec_LateFine.j0]
  · rw [specRange_out h1]
    simp [spec_LateFine.j0]

theorem FnExactLateFine (n p d t : Int) (_ : (Lit.int .i64 n).wf = true) (_ : (Lit.int .i64 p).wf = true) (_ : (Lit.int .i64 d).wf = true) (_ : (Lit.int .i64 t).wf = true) : ∃ k, laws_FnExactLateFine.f k n p d t = some true := by
  refine ⟨5, ?_⟩
  simp only [laws_FnExactLateFine.f, laws_toRate.f, Option.bind_some]
  by_cases h : 0 ≤ n ∧ n ≤ 100000 ∧ (0 ≤ p ∧ 1 ≤ d ∧ d ≤ 1000 ∧ p ≤ d) ∧ 0 ≤ t
  · obtain ⟨h1, h2, ⟨h3, h4, h5, h6⟩, h7⟩ := h
    rw [specLate_in h1 h2 h3 h4 h5 h6 h7 (by omega), implLate_in h1 h2 h3 h4 h5 h6 h7 (by omega)]
    simp
  · rw [specLate_out h (by omega), implLate_out h (by omega)]
    simp

end Go.Proofs.Ytgdnhidnojjpiaa.Pure
