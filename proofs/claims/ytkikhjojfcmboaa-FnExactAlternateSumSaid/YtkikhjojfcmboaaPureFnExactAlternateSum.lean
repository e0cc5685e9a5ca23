/- The law FnExactAlternateSum, as a statement on plain values, holds: the program's AlternateSum is the reference's. For every 64-bit integer. -/
import Derived.Test.YtkikhjojfcmboaaKit
import Derived.Test.YtkikhjojfcmboaaPFnExactAlternateSumx1
namespace Go.Proofs.Ytkikhjojfcmboaa.Pure
open Go.RowKit Go.Proofs.Ytkikhjojfcmboaa.PFnExactAlternateSum Go.Proofs.Ytkikhjojfcmboaa.Kit Go.Proofs.YtkikhjojfcmboaaW.PrintWords

theorem digits_is {m : Nat} : ∀ {a : Nat}, a < 10 ^ m → a ≤ 1000000 → ∀ k, m < k → spec_digits.f k (a : Int) = some (digs a) := by
  induction m with
  | zero =>
    intro a ha hb k hk
    obtain ⟨k, rfl⟩ : ∃ j, k = j + 1 := ⟨k - 1, by omega⟩
    have h0 : a = 0 := by simpa using ha
    rw [h0]
    simp [spec_digits.f, digs_lt]
  | succ m ih =>
    intro a ha hb k hk
    obtain ⟨k, rfl⟩ : ∃ j, k = j + 1 := ⟨k - 1, by omega⟩
    by_cases h : a < 10
    · have h' : (a : Int) < 10 := by omega
      simp [spec_digits.f, digs_lt h, h']
    · have h' : ¬ (a : Int) < 10 := by omega
      have e1 : wrap64 (Int.tdiv (a : Int) 10) = ((a / 10 : Nat) : Int) := by
        rw [tdiv_nn _ (by omega), w64 (by omega) (by omega)]; omega
      have e2 : Int.tmod (a : Int) 10 = ((a % 10 : Nat) : Int) := by
        rw [tmod_nn _ (by omega)]; omega
      rw [Nat.pow_succ] at ha
      have hl : (digs (a / 10)).length ≤ 7 := (digs_len (k := 7) (by omega) (by omega)).2
      have hl' : (digs (a / 10)).length < 17592186044416 := by omega
      simp only [spec_digits.f]
      rw [if_neg h', e1, e2, ih (by omega) (by omega) k (by omega)]
      simp only [Option.bind_some]
      rw [if_pos hl', digs_ge (a := a) (by omega)]
theorem dalt_bd (m : Nat) : ∀ a : Nat, a < 10 ^ m → -(9 * (m : Int)) ≤ dalt a ∧ dalt a ≤ 9 * (m : Int) := by
  induction m with
  | zero =>
    intro a ha
    have h0 : a = 0 := by simpa using ha
    rw [h0, dalt_lt (by omega)]
    simp
  | succ m ih =>
    intro a ha
    rw [Nat.pow_succ] at ha
    have := ih (a / 10) (by omega)
    rw [dalt_step]
    push_cast
    omega
theorem spec_l0 (L : List Int) : ∀ (m a : Nat) (_ : (digs a).length ≤ L.length) (_ : L.take (digs a).length = digs a) (_ : (digs a).length = m) (k : Nat) (s g : Int), m < k → L.length ≤ 100 → (g = 1 ∨ g = -1) → -1000 + 9 * (m : Int) ≤ s → s ≤ 1000 - 9 * (m : Int) →
    spec_AlternateSum.l0 k s L g ((m : Int) - 1) = some (s + g * dalt a) := by
  intro m
  induction m with
  | zero =>
    intro a hi ht hm k s g hk hL hg h0 h1
    have := (digs_len (a := a) (k := a + 1) (Nat.lt_of_lt_of_le (Nat.lt_pow_self (by omega)) (Nat.pow_le_pow_right (by omega) (by omega))) (by omega)).1
    omega
  | succ m ih =>
    intro a hi ht hm k s g hk hL hg h0 h1
    obtain ⟨k, rfl⟩ : ∃ j, k = j + 1 := ⟨k - 1, by omega⟩
    have ei : ((m + 1 : Nat) : Int) - 1 = (m : Int) := by omega
    have hlt : m < L.length := by omega
    have hd : rd L (m : Int) = ((a % 10 : Nat) : Int) := by
      rw [hm, take_rd hlt] at ht
      by_cases h : a < 10
      · have hm0 : m = 0 := by rw [digs_lt h] at hm; simp at hm; omega
        rw [digs_lt h] at ht
        rw [hm0] at ht ⊢
        simp at ht
        simp [ht]
        omega
      · rw [digs_ge (by omega)] at ht
        have := List.append_inj_right' ht rfl
        simpa using this
    have b := digs_mem a
    have hr : 0 ≤ ((a % 10 : Nat) : Int) ∧ ((a % 10 : Nat) : Int) ≤ 9 := by omega
    have e1 : wrap64 (g * rd L (m : Int)) = g * ((a % 10 : Nat) : Int) := by
      rw [hd]
      rcases hg with rfl | rfl <;> rw [w64 (by omega) (by omega)]
    have e2 : wrap64 (s + g * ((a % 10 : Nat) : Int)) = s + g * ((a % 10 : Nat) : Int) := by
      rcases hg with rfl | rfl <;> rw [w64 (by omega) (by omega)]
    have e3 : wrap64 (-g) = -g := by rcases hg with rfl | rfl <;> exact w64 (by omega) (by omega)
    have e4 : wrap64 ((m : Int) - 1) = (m : Int) - 1 := w64 (by omega) (by omega)
    rw [ei]
    simp only [spec_AlternateSum.l0]
    rw [if_pos (by omega), if_pos (by omega), if_pos (by omega), e1, e2, e3, e4]
    by_cases h : a < 10
    · have hm0 : m = 0 := by rw [digs_lt h] at hm; simp at hm; omega
      obtain ⟨k, rfl⟩ : ∃ j, k = j + 1 := ⟨k - 1, by omega⟩
      rw [hm0]
      simp only [spec_AlternateSum.l0]
      rw [if_neg (by omega), dalt_lt h, Nat.mod_eq_of_lt h]
    · have hl : (digs (a / 10)).length = m := by rw [digs_ge (by omega)] at hm; simp at hm; exact hm
      have ht' : L.take (digs (a / 10)).length = digs (a / 10) := by
        rw [hm, take_rd hlt, digs_ge (by omega)] at ht
        rw [hl]
        exact List.append_inj_left' ht rfl
      rw [ih (a / 10) (by omega) ht' hl k _ (-g) (by omega) hL (by rcases hg with rfl | rfl <;> simp) (by push_cast at h0 h1; rcases hg with rfl | rfl <;> omega) (by push_cast at h0 h1; rcases hg with rfl | rfl <;> omega), dalt_step a]
      congr 1
      rcases hg with rfl | rfl <;> omega
theorem spec_is {a : Nat} (ha : a ≤ 1000000) {k : Nat} (hk : 10 ≤ k) : spec_AlternateSum.f k (a : Int) = some (dalt a) := by
  have h0 : (0 : Int) ≤ (a : Int) := by omega
  have h1 : (a : Int) ≤ 1000000 := by omega
  have hl := digs_len (a := a) (k := 7) (by omega) (by omega)
  unfold spec_AlternateSum.f spec_validAmount.f spec_inRange.f
  rw [if_pos h0]
  simp only [Option.bind_some, decide_eq_true h1, if_true]
  rw [digits_is (m := 7) (by omega) ha k (by omega)]
  simp only [Option.bind_some]
  rw [w64 (by omega) (by omega), spec_l0 (digs a) (digs a).length a (Nat.le_refl _) (List.take_length) rfl k 0 1 (by omega) (by omega) (by simp) (by omega) (by omega)]
  simp
theorem spec_out {a : Int} (ha : a < 0 ∨ 1000000 < a) (k : Nat) : spec_AlternateSum.f k a = some 0 := by
  unfold spec_AlternateSum.f spec_validAmount.f spec_inRange.f
  by_cases h0 : 0 ≤ a
  · have h1 : ¬ a ≤ 1000000 := by omega
    simp [h0, h1]
  · simp [h0]
theorem impl_l0 (m : Nat) : ∀ (a : Nat) (s g : Int) (k : Nat), a < 10 ^ m → a ≤ 1000000 → m < k → (g = 1 ∨ g = -1) → -1000 + 9 * (m : Int) ≤ s → s ≤ 1000 - 9 * (m : Int) → impl_AlternateSum.l0 k (a : Int) s g = some (s + g * dalt a) := by
  induction m with
  | zero =>
    intro a s g k ha hb hk hg h0 h1
    obtain ⟨k, rfl⟩ : ∃ j, k = j + 1 := ⟨k - 1, by omega⟩
    have h0 : a = 0 := by simpa using ha
    rw [h0]
    simp [impl_AlternateSum.l0, dalt_lt]
  | succ m ih =>
    intro a s g k ha hb hk hg h0 h1
    obtain ⟨k, rfl⟩ : ∃ j, k = j + 1 := ⟨k - 1, by omega⟩
    by_cases hp : 0 < a
    · have h' : (a : Int) > 0 := by omega
      have hr : 0 ≤ ((a % 10 : Nat) : Int) ∧ ((a % 10 : Nat) : Int) ≤ 9 := by omega
      have e1 : wrap64 (Int.tdiv (a : Int) 10) = ((a / 10 : Nat) : Int) := by
        rw [tdiv_nn _ (by omega), w64 (by omega) (by omega)]; omega
      have e2 : Int.tmod (a : Int) 10 = ((a % 10 : Nat) : Int) := by
        rw [tmod_nn _ (by omega)]; omega
      have e3 : wrap64 (g * ((a % 10 : Nat) : Int)) = g * ((a % 10 : Nat) : Int) := by
        rcases hg with rfl | rfl <;> rw [w64 (by omega) (by omega)]
      have e4 : wrap64 (s + g * ((a % 10 : Nat) : Int)) = s + g * ((a % 10 : Nat) : Int) := by
        rcases hg with rfl | rfl <;> rw [w64 (by omega) (by omega)]
      have e5 : wrap64 (-g) = -g := by rcases hg with rfl | rfl <;> exact w64 (by omega) (by omega)
      rw [Nat.pow_succ] at ha
      simp only [impl_AlternateSum.l0]
      rw [if_pos h', e1, e2, e3, e4, e5]
      rw [ih (a / 10) _ (-g) k (by omega) (by omega) (by omega) (by rcases hg with rfl | rfl <;> simp) (by push_cast at h0 h1; rcases hg with rfl | rfl <;> omega) (by push_cast at h0 h1; rcases hg with rfl | rfl <;> omega), dalt_step a]
      congr 1
      rcases hg with rfl | rfl <;> omega
    · have h0 : a = 0 := by omega
      rw [h0]
      simp [impl_AlternateSum.l0, dalt_lt]
theorem impl_is {a : Nat} (ha : a ≤ 1000000) {k : Nat} (hk : 10 ≤ k) : impl_AlternateSum.f k (a : Int) = some (dalt a) := by
  obtain ⟨k, rfl⟩ : ∃ j, k = j + 1 := ⟨k - 1, by omega⟩
  have h1 : ¬ (a : Int) < 0 := by omega
  have h2 : ¬ (a : Int) > 1000000 := by omega
  have h := impl_l0 7 a 0 1 k (by omega) ha (by omega) (by simp) (by omega) (by omega)
  unfold impl_AlternateSum.f
  rw [if_neg h1, decide_eq_false h2]
  simp only [impl_AlternateSum.j0]
  simpa using h
theorem impl_out {a : Int} (ha : a < 0 ∨ 1000000 < a) {k : Nat} (hk : 1 ≤ k) : impl_AlternateSum.f k a = some 0 := by
  obtain ⟨k, rfl⟩ : ∃ j, k = j + 1 := ⟨k - 1, by omega⟩
  unfold impl_AlternateSum.f
  by_cases h0 : a < 0
  · rw [if_pos h0]
    simp [impl_AlternateSum.j0]
  · have h1 : a > 1000000 := by omega
    rw [if_neg h0]
    simp [impl_AlternateSum.j0, h1]

theorem FnExactAlternateSum : laws_FnExactAlternateSum.Pure := by
  intro a _
  refine ⟨10, ?_⟩
  unfold laws_FnExactAlternateSum.f
  by_cases h : a < 0 ∨ 1000000 < a
  · rw [spec_out h, impl_out h (by omega)]
    simp
  · obtain ⟨n, rfl⟩ : ∃ n : Nat, a = n := ⟨a.toNat, by omega⟩
    rw [spec_is (by omega) (by omega), impl_is (by omega) (by omega)]
    simp

end Go.Proofs.Ytkikhjojfcmboaa.Pure
