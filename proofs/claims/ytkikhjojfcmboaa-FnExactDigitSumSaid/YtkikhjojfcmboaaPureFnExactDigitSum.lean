/- The law FnExactDigitSum, as a statement on plain values, holds: the program's DigitSum is the reference's. For every 64-bit integer. -/
import Derived.Test.YtkikhjojfcmboaaKit
import Derived.Test.YtkikhjojfcmboaaPFnExactDigitSumx1
namespace Go.Proofs.Ytkikhjojfcmboaa.Pure
open Go.RowKit Go.Proofs.Ytkikhjojfcmboaa.PFnExactDigitSum Go.Proofs.Ytkikhjojfcmboaa.Kit Go.Proofs.YtkikhjojfcmboaaW.PrintWords

theorem digits_is {m : Nat} : ∀ {a : Nat}, a < 10 ^ m → a ≤ 1000000 → ∀ k, m < k → spec_digits.f k (a : Int) = some (digs a) := by
  induction m with
  | zero =>
    intro a ha hb k hk
    obtain ⟨k, rfl⟩ : ∃ j, k = j + 1 := ⟨k - 1, by omega⟩
    have h0 : a = 0 := by simpa using ha
    rw [h0]
    simp [spec_digits.f, digs_lt]
  | succ m ih =>
    intro a ha hb k hk
    obtain ⟨k, rfl⟩ : ∃ j, k = j + 1 := ⟨k - 1, by omega⟩
    by_cases h : a < 10
    · have h' : (a : Int) < 10 := by omega
      simp [spec_digits.f, digs_lt h, h']
    · have h' : ¬ (a : Int) < 10 := by omega
      have e1 : wrap64 (Int.tdiv (a : Int) 10) = ((a / 10 : Nat) : Int) := by
        rw [tdiv_nn _ (by omega), w64 (by omega) (by omega)]; omega
      have e2 : Int.tmod (a : Int) 10 = ((a % 10 : Nat) : Int) := by
        rw [tmod_nn _ (by omega)]; omega
      rw [Nat.pow_succ] at ha
      have hl : (digs (a / 10)).length ≤ 7 := (digs_len (k := 7) (by omega) (by omega)).2
      have hl' : (digs (a / 10)).length < 17592186044416 := by omega
      simp only [spec_digits.f]
      rw [if_neg h', e1, e2, ih (by omega) (by omega) k (by omega)]
      simp only [Option.bind_some]
      rw [if_pos hl', digs_ge (a := a) (by omega)]
theorem total_l0 (xs : List Int) (hx : ∀ x ∈ xs, 0 ≤ x ∧ x ≤ 1000000) (hl : xs.length ≤ 1000000) :
    ∀ (d k i : Nat) (s : Int), xs.length - i = d → d < k → i ≤ xs.length → 0 ≤ s → s ≤ i * 1000000 → spec_total.l0 k xs s (i : Int) = some (s + (xs.drop i).sum) := by
  intro d
  induction d with
  | zero =>
    intro k i s hd hk hi h0 h1
    obtain ⟨k, rfl⟩ : ∃ j, k = j + 1 := ⟨k - 1, by omega⟩
    have e : ¬ (i : Int) < (xs.length : Int) := by omega
    simp only [spec_total.l0]
    rw [if_neg e, List.drop_of_length_le (by omega)]
    simp
  | succ d ih =>
    intro k i s hd hk hi h0 h1
    obtain ⟨k, rfl⟩ : ∃ j, k = j + 1 := ⟨k - 1, by omega⟩
    have hlt : i < xs.length := by omega
    have e : (i : Int) < (xs.length : Int) := by omega
    have hm := hx _ (rd_mem hlt)
    have e1 : wrap64 (s + rd xs (i : Int)) = s + rd xs (i : Int) := w64 (by omega) (by omega)
    have e2 : wrap64 ((i : Int) + 1) = ((i + 1 : Nat) : Int) := by rw [w64 (by omega) (by omega)]; simp
    simp only [spec_total.l0]
    rw [if_pos e, if_pos (by omega), e1, e2, ih k (i + 1) _ (by omega) (by omega) (by omega) (by omega) (by push_cast; omega), drop_rd hlt, List.sum_cons]
    congr 1
    omega
theorem total_is (xs : List Int) (hx : ∀ x ∈ xs, 0 ≤ x ∧ x ≤ 1000000) (hl : xs.length ≤ 1000000) {k : Nat} (hk : xs.length < k) : spec_total.f k xs = some xs.sum := by
  unfold spec_total.f
  have h := total_l0 xs hx hl xs.length k 0 0 (by omega) hk (by omega) (by omega) (by omega)
  simpa using h
theorem spec_is {a : Nat} (ha : a ≤ 1000000) {k : Nat} (hk : 10 ≤ k) : spec_DigitSum.f k (a : Int) = some ((dsum a : Nat) : Int) := by
  have h0 : (0 : Int) ≤ (a : Int) := by omega
  have h1 : (a : Int) ≤ 1000000 := by omega
  have hl := (digs_len (a := a) (k := 7) (by omega) (by omega)).2
  have hs : spec_total.f k (digs a) = some ((dsum a : Nat) : Int) := by
    rw [total_is (digs a) (fun x hx => by have := digs_mem a x hx; omega) (by omega) (by omega), digs_sum]
  unfold spec_DigitSum.f spec_validAmount.f spec_inRange.f
  rw [if_pos h0]
  simp only [Option.bind_some, decide_eq_true h1, if_true]
  rw [digits_is (m := 7) (by omega) ha k (by omega)]
  simp only [Option.bind_some, hs]
theorem spec_out {a : Int} (ha : a < 0 ∨ 1000000 < a) (k : Nat) : spec_DigitSum.f k a = some (-1) := by
  unfold spec_DigitSum.f spec_validAmount.f spec_inRange.f
  by_cases h0 : 0 ≤ a
  · have h1 : ¬ a ≤ 1000000 := by omega
    simp [h0, h1]
  · simp [h0]
theorem impl_l0 (m : Nat) : ∀ (a : Nat) (s : Int) (k : Nat), a < 10 ^ m → a ≤ 1000000 → m < k → 0 ≤ s → s ≤ 1000 → impl_DigitSum.l0 k (a : Int) s = some (s + ((dsum a : Nat) : Int)) ∨ 1000 < s + 9 * m := by
  induction m with
  | zero =>
    intro a s k ha hb hk h0 h1
    obtain ⟨k, rfl⟩ : ∃ j, k = j + 1 := ⟨k - 1, by omega⟩
    have h0 : a = 0 := by simpa using ha
    rw [h0]
    simp [impl_DigitSum.l0, dsum_lt]
  | succ m ih =>
    intro a s k ha hb hk h0 h1
    obtain ⟨k, rfl⟩ : ∃ j, k = j + 1 := ⟨k - 1, by omega⟩
    by_cases hp : 0 < a
    · have h' : (a : Int) > 0 := by omega
      have e1 : wrap64 (Int.tdiv (a : Int) 10) = ((a / 10 : Nat) : Int) := by
        rw [tdiv_nn _ (by omega), w64 (by omega) (by omega)]; omega
      have e2 : Int.tmod (a : Int) 10 = ((a % 10 : Nat) : Int) := by
        rw [tmod_nn _ (by omega)]; omega
      have e3 : wrap64 (s + ((a % 10 : Nat) : Int)) = s + ((a % 10 : Nat) : Int) := w64 (by omega) (by omega)
      rw [Nat.pow_succ] at ha
      by_cases hs : s + ((a % 10 : Nat) : Int) ≤ 1000
      · rcases ih (a / 10) (s + ((a % 10 : Nat) : Int)) k (by omega) (by omega) (by omega) (by omega) hs with h | h
        · left
          simp only [impl_DigitSum.l0]
          rw [if_pos h', e1, e2, e3, h, dsum_step a]
          congr 1
          omega
        · right
          omega
      · right
        omega
    · have h0 : a = 0 := by omega
      left
      rw [h0]
      simp [impl_DigitSum.l0, dsum_lt]
theorem impl_is {a : Nat} (ha : a ≤ 1000000) {k : Nat} (hk : 10 ≤ k) : impl_DigitSum.f k (a : Int) = some ((dsum a : Nat) : Int) := by
  obtain ⟨k, rfl⟩ : ∃ j, k = j + 1 := ⟨k - 1, by omega⟩
  have h1 : ¬ (a : Int) < 0 := by omega
  have h2 : ¬ (a : Int) > 1000000 := by omega
  rcases impl_l0 7 a 0 k (by omega) ha (by omega) (by omega) (by omega) with h | h
  · unfold impl_DigitSum.f
    rw [if_neg h1, decide_eq_false h2]
    simp only [impl_DigitSum.j0]
    simpa using h
  · omega
theorem impl_out {a : Int} (ha : a < 0 ∨ 1000000 < a) {k : Nat} (hk : 1 ≤ k) : impl_DigitSum.f k a = some (-1) := by
  obtain ⟨k, rfl⟩ : ∃ j, k = j + 1 := ⟨k - 1, by omega⟩
  unfold impl_DigitSum.f
  by_cases h0 : a < 0
  · rw [if_pos h0]
    simp [impl_DigitSum.j0]
  · have h1 : a > 1000000 := by omega
    rw [if_neg h0]
    simp [impl_DigitSum.j0, h1]

theorem FnExactDigitSum : laws_FnExactDigitSum.Pure := by
  intro a _
  refine ⟨10, ?_⟩
  unfold laws_FnExactDigitSum.f
  by_cases h : a < 0 ∨ 1000000 < a
  · rw [spec_out h, impl_out h (by omega)]
    simp
  · obtain ⟨n, rfl⟩ : ∃ n : Nat, a = n := ⟨a.toNat, by omega⟩
    rw [spec_is (by omega) (by omega), impl_is (by omega) (by omega)]
    simp

end Go.Proofs.Ytkikhjojfcmboaa.Pure
