/- The law FnExactRoundEven, on plain values, holds: the program's RoundEven is the reference's. For all 64-bit integers and all rates of 64-bit integers. -/
import Derived.Test.YtgdnhidnojjpiaaKit
import Derived.Test.YtgdnhidnojjpiaaPFnExactRoundEvenx1
namespace Go.Proofs.Ytgdnhidnojjpiaa.Pure
open Go.RowKit Go.Proofs.Ytgdnhidnojjpiaa.PFnExactRoundEven Go.Proofs.Ytgdnhidnojjpiaa.Kit Go.Proofs.YtgdnhidnojjpiaaW.PrintWords

theorem specEven_is {n p d : Int} (hn : 0 ≤ n) (hn' : n ≤ 4000000) (hp : 0 ≤ p) (hd : 1 ≤ d) (hd' : d ≤ 1000) (hpd : p ≤ d) : spec_even.f n p d = some (evn (n * p) d) := by
  have hb := part_bd hn hn' hp (by omega)
  have e0 : wrap64 (2 * d) = 2 * d := w64 (by omega) (by omega)
  have e1 : wrap64 (2 * n) = 2 * n := w64 (by omega) (by omega)
  have e2 : 2 * n * p = 2 * (n * p) := by grind
  unfold spec_even.f spec_near.f
  rw [e0, e1, e2]
  generalize n * p = P at hb ⊢
  have hq : 0 ≤ P / d ∧ P / d ≤ P := ⟨Int.ediv_nonneg hb.1 (by omega), Int.ediv_le_self _ hb.1⟩
  have key := even_key (P := P) (D := d) (by omega)
  have hr0 := Int.emod_nonneg P (b := d) (by omega)
  have e3 : wrap64 (2 * P) = 2 * P := w64 (by omega) (by omega)
  have e4 : wrap64 (2 * P + d) = 2 * P + d := w64 (by omega) (by omega)
  have hN : 0 ≤ (2 * P + d) / (2 * d) ∧ (2 * P + d) / (2 * d) ≤ 5000000000 := by
    rw [key.1]; split <;> omega
  have e5 : wrap64 ((2 * P + d) / (2 * d)) = (2 * P + d) / (2 * d) := w64 (by omega) (by omega)
  have hM : 0 ≤ 2 * P / d ∧ 2 * P / d ≤ 2 * P := ⟨Int.ediv_nonneg (by omega) (by omega), Int.ediv_le_self _ (by omega)⟩
  have e6 : wrap64 (2 * P / d) = 2 * P / d := w64 (by omega) (by omega)
  rw [if_neg (by omega), e3, e4, tdiv_nn _ (by omega), e5]
  simp only [Option.bind_some]
  rw [if_neg (by omega), tmod_nn _ (by omega), tdiv_nn _ (by omega), e6, tmod_nn _ (by omega), tmod_nn _ (by omega), w64 (x := (2 * P + d) / (2 * d) - 1) (by omega) (by omega), key.1]
  unfold evn
  by_cases c : 2 * (P % d) = d
  · obtain ⟨a, b⟩ := key.2.mpr c
    have hN1 : (if d ≤ 2 * (P % d) then P / d + 1 else P / d) = P / d + 1 := if_pos (by omega)
    have hlt : ¬ d < 2 * (P % d) := by omega
    rw [if_pos a, if_pos b, hN1, if_neg hlt]
    by_cases h : P / d % 2 = 1
    · have h2 : ¬ (P / d + 1) % 2 = 1 := by omega
      rw [if_neg h2, if_pos ⟨c, h⟩]
    · have h2 : (P / d + 1) % 2 = 1 := by omega
      rw [if_pos h2, if_neg (fun x => h x.2)]
      congr 1
      omega
  · have hr : (if d < 2 * (P % d) then P / d + 1 else if 2 * (P % d) = d ∧ P / d % 2 = 1 then P / d + 1 else P / d) = if d ≤ 2 * (P % d) then P / d + 1 else P / d := by
      by_cases h : d < 2 * (P % d)
      · rw [if_pos h, if_pos (by omega)]
      · rw [if_neg h, if_neg (by omega), if_neg (by omega)]
    rw [hr]
    by_cases a : (2 * P) % d = 0
    · by_cases b : (2 * P / d) % 2 = 1
      · exact absurd (key.2.mp ⟨a, b⟩) c
      · rw [if_pos a, if_neg b]
    · rw [if_neg a]
theorem implPart_in {n p d : Int} (hn : 0 ≤ n) (hn' : n ≤ 1000000) (hp : 0 ≤ p) (hd : 1 ≤ d) (hd' : d ≤ 1000) (hpd : p ≤ d) : impl_validPart.f n p d = some true := by
  unfold impl_validPart.f impl_ValidRate.f
  rw [if_pos hn, if_pos hn', if_pos hd, if_pos hd', if_pos hp, decide_eq_true hpd]
  rfl
theorem implPart_out {n p d : Int} (h : ¬ (0 ≤ n ∧ n ≤ 1000000 ∧ 0 ≤ p ∧ 1 ≤ d ∧ d ≤ 1000 ∧ p ≤ d)) : impl_validPart.f n p d = some false := by
  unfold impl_validPart.f impl_ValidRate.f
  by_cases h1 : n ≥ 0
  · by_cases h2 : n ≤ 1000000
    · by_cases h3 : d ≥ 1
      · by_cases h4 : d ≤ 1000
        · by_cases h5 : p ≥ 0
          · have h6 : ¬ p ≤ d := by omega
            simp [h1, h2, h3, h4, h5, h6]
          · simp [h1, h2, h3, h4, h5]
        · simp [h1, h2, h3, h4]
      · simp [h1, h2, h3]
    · simp [h1, h2]
  · simp [h1]
theorem implEven_is {n p d : Int} (hn : 0 ≤ n) (hn' : n ≤ 1000000) (hp : 0 ≤ p) (hd : 1 ≤ d) (hd' : d ≤ 1000) (hpd : p ≤ d) : impl_RoundEven.f n p d = some (evn (n * p) d) := by
  have hb := part_bd hn (by omega) hp (by omega)
  unfold impl_RoundEven.f
  rw [implPart_in hn hn' hp hd hd' hpd]
  simp only [Option.bind_some, if_true]
  generalize n * p = P at hb ⊢
  have hq : 0 ≤ P / d ∧ P / d ≤ P := ⟨Int.ediv_nonneg hb.1 (by omega), Int.ediv_le_self _ hb.1⟩
  have hr0 := Int.emod_nonneg P (b := d) (by omega)
  have hr1 := Int.emod_lt_of_pos P (b := d) (by omega)
  have e1 : wrap64 P = P := w64 (by omega) (by omega)
  have e2 : wrap64 (2 * (P % d)) = 2 * (P % d) := w64 (by omega) (by omega)
  have e3 : wrap64 (P / d) = P / d := w64 (by omega) (by omega)
  have e4 : wrap64 (P / d + 1) = P / d + 1 := w64 (by omega) (by omega)
  rw [if_neg (by omega), e1, tmod_nn _ hb.1, e2, tdiv_nn _ hb.1, e3, e4, tmod_nn _ hq.1]
  unfold evn
  by_cases c : d < 2 * (P % d)
  · rw [if_pos c, if_pos c]
  · rw [if_neg c, if_neg c]
    by_cases c2 : 2 * (P % d) = d
    · by_cases c3 : P / d % 2 = 1
      · rw [if_pos c2, if_pos c3, if_pos ⟨c2, c3⟩]
      · rw [if_pos c2, if_neg c3, if_neg (by omega)]
    · rw [if_neg c2, if_neg (by omega)]
theorem implEven_out {n p d : Int} (h : ¬ (0 ≤ n ∧ n ≤ 1000000 ∧ 0 ≤ p ∧ 1 ≤ d ∧ d ≤ 1000 ∧ p ≤ d)) : impl_RoundEven.f n p d = some (-1) := by
  unfold impl_RoundEven.f
  rw [implPart_out h]
  simp
theorem specAmount_in {n : Int} (hn : 0 ≤ n) (hn' : n ≤ 1000000) : spec_validAmount.f n = some true := by
  unfold spec_validAmount.f spec_inRange.f
  rw [if_pos hn, decide_eq_true hn']
  rfl
theorem specAmount_out {n : Int} (h : ¬ (0 ≤ n ∧ n ≤ 1000000)) : spec_validAmount.f n = some false := by
  unfold spec_validAmount.f spec_inRange.f
  by_cases h1 : 0 ≤ n
  · have h2 : ¬ n ≤ 1000000 := by omega
    simp [h1, h2]
  · simp [h1]
theorem specRate_in {p d : Int} (hp : 0 ≤ p) (hd : 1 ≤ d) (hd' : d ≤ 1000) (hpd : p ≤ d) : spec_validRate.f p d = some true := by
  unfold spec_validRate.f spec_inRange.f
  rw [if_pos hd, decide_eq_true hd', if_pos hp, decide_eq_true hpd]
  rfl
theorem specRate_out {p d : Int} (h : ¬ (0 ≤ p ∧ 1 ≤ d ∧ d ≤ 1000 ∧ p ≤ d)) : spec_validRate.f p d = some false := by
  unfold spec_validRate.f spec_inRange.f
  by_cases h1 : 1 ≤ d
  · by_cases h2 : d ≤ 1000
    · by_cases h3 : 0 ≤ p
      · have h4 : ¬ p ≤ d := by omega
        simp [h1, h2, h3, h4]
      · simp [h1, h2, h3]
    · simp [h1, h2]
  · simp [h1]
theorem specRE_in {n p d : Int} (hn : 0 ≤ n) (hn' : n ≤ 1000000) (hp : 0 ≤ p) (hd : 1 ≤ d) (hd' : d ≤ 1000) (hpd : p ≤ d) : spec_RoundEven.f n p d = some (evn (n * p) d) := by
  unfold spec_RoundEven.f
  rw [specAmount_in hn hn', specRate_in hp hd hd' hpd, specEven_is hn (by omega) hp hd hd' hpd]
  simp
theorem specRE_out {n p d : Int} (h : ¬ (0 ≤ n ∧ n ≤ 1000000 ∧ 0 ≤ p ∧ 1 ≤ d ∧ d ≤ 1000 ∧ p ≤ d)) : spec_RoundEven.f n p d = some (-1) := by
  unfold spec_RoundEven.f
  by_cases h1 : 0 ≤ n ∧ n ≤ 1000000
  · rw [specAmount_in h1.1 h1.2, specRate_out (by omega)]
    simp
  · rw [specAmount_out h1]
    simp

theorem FnExactRoundEven (n p d : Int) (_ : (Lit.int .i64 n).wf = true) (_ : (Lit.int .i64 p).wf = true) (_ : (Lit.int .i64 d).wf = true) : laws_FnExactRoundEven.f n p d = some true := by
  simp only [laws_FnExactRoundEven.f, laws_toRate.f, Option.bind_some]
  by_cases h : 0 ≤ n ∧ n ≤ 1000000 ∧ 0 ≤ p ∧ 1 ≤ d ∧ d ≤ 1000 ∧ p ≤ d
  · obtain ⟨h1, h2, h3, h4, h5, h6⟩ := h
    rw [specRE_in h1 h2 h3 h4 h5 h6, implEven_is h1 h2 h3 h4 h5 h6]
    simp
  · rw [specRE_out h, implEven_out h]
    simp

end Go.Proofs.Ytgdnhidnojjpiaa.Pure
