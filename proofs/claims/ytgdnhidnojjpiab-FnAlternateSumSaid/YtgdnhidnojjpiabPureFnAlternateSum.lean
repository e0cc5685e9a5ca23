/- The law FnAlternateSum, as a statement on plain values, holds: AlternateSum is the reference's; the number less it is a multiple of 11, and a 0 behind the number turns its sign. For every code of at most 2^47 - 4096 bytes. -/
import Derived.Test.YtgdnhidnojjpiabKit
import Derived.Test.YtgdnhidnojjpiabPFnAlternateSumx2
namespace Go.Proofs.Ytgdnhidnojjpiab.Pure
open Go.RowKit Go.Proofs.Ytgdnhidnojjpiab.PFnAlternateSum Go.Proofs.Ytgdnhidnojjpiab.Kit Go.Proofs.YtgdnhidnojjpiabW.PrintWords

theorem newReader_is (l : List Int) (h : ∀ x ∈ l, (Lit.int .u8 x).wf = true) : ∃ b, RB b ∧ spec_newReader.f l = some (b, 0) := by
  have hb := bytes_bd h
  unfold spec_newReader.f
  by_cases c : (l.length : Int) > 2000
  · rw [if_pos c, if_pos (by omega)]
    exact ⟨l.take 2000, ⟨by rw [List.length_take]; omega, fun x hx => hb x (List.mem_of_mem_take hx)⟩, rfl⟩
  · rw [if_neg c]
    exact ⟨l, ⟨by omega, hb⟩, rfl⟩
theorem pick_is {b : List Int} (hb : RB b) {p : Int} (n : Int) (h0 : 0 ≤ p) (h1 : p ≤ 1000000) {k : Nat} (hk : 1 ≤ k) :
    ∃ r, spec_reader_pick.f k b p n = some (r, p + 1) ∧ 0 ≤ r ∧ (1 ≤ n → r < n) := by
  obtain ⟨k, rfl⟩ : ∃ j, k = j + 1 := ⟨k - 1, by omega⟩
  have e0 : wrap64 (p + 1) = p + 1 := w64 (by omega) (by omega)
  have e1 : wrap64 (p + 1 - 1) = p := by rw [w64 (by omega) (by omega)]; omega
  unfold spec_reader_pick.f
  rw [e0]
  by_cases hn : n < 1
  · rw [if_pos hn]
    exact ⟨0, by simp [spec_reader_pick.j0], by omega, by omega⟩
  · rw [if_neg hn]
    by_cases hz : b.length = 0
    · exact ⟨0, by simp [spec_reader_pick.j0, hz], by omega, by omega⟩
    · have hz' : ((b.length : Int) == 0) = false := by
        rw [beq_eq_false_iff_ne]; omega
      rw [hz']
      simp only [spec_reader_pick.j0, e1]
      rw [if_neg (by decide)]
      have hn0 : ¬ n = 0 := by omega
      by_cases hp : p < (b.length : Int)
      · have hr := rd_byte hb p
        rw [if_pos hp, if_pos h0, if_neg hn0, w64 (by omega) (by omega)]
        have ht := tmod_in hr.1 (n := n) (by omega)
        exact ⟨_, rfl, ht.1, fun _ => ht.2⟩
      · have hl : (1 : Int) ≤ (b.length : Int) := by omega
        have hl2 : (b.length : Int) ≤ 2000 := by have := hb.1; omega
        have q1 := tmod_in h0 hl
        have d1 := tdiv_in h0 hl
        have e2 : wrap64 (wrap64 (p * 7) + 3) = p * 7 + 3 := by simp (disch := omega) only [w64]
        have q2 := tmod_in (x := p * 7 + 3) (by omega) hl
        rw [if_neg hp, if_neg (by omega), if_pos q1.1, if_pos q1.2, e2, if_pos q2.1, if_pos q2.2, if_neg hn0]
        have r1 := rd_byte hb (Int.tmod p (b.length : Int))
        have r2 := rd_byte hb (Int.tmod (p * 7 + 3) (b.length : Int))
        generalize rd b (Int.tmod p (b.length : Int)) = x1 at r1 ⊢
        generalize rd b (Int.tmod (p * 7 + 3) (b.length : Int)) = x2 at r2 ⊢
        generalize Int.tdiv p (b.length : Int) = x3 at d1 ⊢
        have e3 : wrap64 (wrap64 (wrap64 (wrap64 (wrap64 x1 * 131) + wrap64 (wrap64 x2 * 1117)) + wrap64 (p * 29)) + wrap64 (wrap64 x3 * 53)) = x1 * 131 + x2 * 1117 + p * 29 + x3 * 53 := by
          simp (disch := omega) only [w64]
        rw [e3]
        have e4 : wrap64 (Int.tdiv (x1 * 131 + x2 * 1117 + p * 29 + x3 * 53) 64) = (x1 * 131 + x2 * 1117 + p * 29 + x3 * 53) / 64 := by
          rw [tdiv_nn _ (by omega), w64 (by omega) (by omega)]
        rw [e4]
        have hx := xor_nn (a := x1 * 131 + x2 * 1117 + p * 29 + x3 * 53) (b := (x1 * 131 + x2 * 1117 + p * 29 + x3 * 53) / 64) (by omega) (by omega) (by omega) (by omega)
        have ht := tmod_in hx (n := n) (by omega)
        exact ⟨_, rfl, ht.1, fun _ => ht.2⟩
theorem one_is {b : List Int} (hb : RB b) {p : Int} (L : List Int) (hL : 1 ≤ L.length) (h0 : 0 ≤ p) (h1 : p ≤ 1000000) {k : Nat} (hk : 1 ≤ k) :
    ∃ v, spec_reader_one.f k b p L = some (v, p + 1) ∧ v ∈ L := by
  obtain ⟨r, hr, hr0, hr1⟩ := pick_is hb (L.length : Int) h0 h1 hk
  have hlt := hr1 (by omega)
  unfold spec_reader_one.f
  rw [hr]
  simp only [Option.bind_some]
  rw [if_pos hr0, if_pos hlt]
  have e : r = ((r.toNat : Nat) : Int) := by omega
  refine ⟨_, rfl, ?_⟩
  rw [e]
  exact rd_mem (by omega)
theorem anAmount_is {b : List Int} (hb : RB b) {p : Int} (h0 : 0 ≤ p) (h1 : p ≤ 1000) {k : Nat} (hk : 1 ≤ k) : ∃ n, spec_anAmount.f k b p = some (n, p + 3) ∧ -1 ≤ n ∧ n ≤ 1000001 := by
  obtain ⟨x, hx, x0, x1⟩ := pick_is hb 200 (p := p) (by omega) (by omega) hk
  obtain ⟨y, hy, y0, y1⟩ := pick_is hb 250 (p := p + 1) (by omega) (by omega) hk
  have x2 := x1 (by omega)
  have y2 := y1 (by omega)
  have e : wrap64 (10 * x) = 10 * x := w64 (by omega) (by omega)
  obtain ⟨n, hn, hm⟩ := one_is hb [1000, 10 * x, y, 0, 12345, 1000000, 999999, (-1), 1000001, 25, 90909, 50] (by simp) (p := p + 1 + 1) (by omega) (by omega) hk
  refine ⟨n, ?_, ?_⟩
  · unfold spec_anAmount.f
    rw [hx]
    simp only [Option.bind_some, hy, e, hn]
    congr 2
    omega
  · simp only [List.mem_cons, List.not_mem_nil, or_false] at hm
    omega
theorem digits_is {m : Nat} : ∀ {a : Nat}, a < 10 ^ m → a ≤ 1000000 → ∀ k, m < k → spec_digits.f k (a : Int) = some (digs a) := by
  induction m with
  | zero =>
    intro a ha hb k hk
    obtain ⟨k, rfl⟩ : ∃ j, k = j + 1 := ⟨k - 1, by omega⟩
    have h0 : a = 0 := by simpa using ha
    rw [h0]
    simp [spec_digits.f, digs_lt]
  | succ m ih =>
    intro a ha hb k hk
    obtain ⟨k, rfl⟩ : ∃ j, k = j + 1 := ⟨k - 1, by omega⟩
    by_cases h : a < 10
    · have h' : (a : Int) < 10 := by omega
      simp [spec_digits.f, digs_lt h, h']
    · have h' : ¬ (a : Int) < 10 := by omega
      have e1 : wrap64 (Int.tdiv (a : Int) 10) = ((a / 10 : Nat) : Int) := by
        rw [tdiv_nn _ (by omega), w64 (by omega) (by omega)]; omega
      have e2 : Int.tmod (a : Int) 10 = ((a % 10 : Nat) : Int) := by
        rw [tmod_nn _ (by omega)]; omega
      rw [Nat.pow_succ] at ha
      have hl : (digs (a / 10)).length ≤ 7 := (digs_len (k := 7) (by omega) (by omega)).2
      have hl' : (digs (a / 10)).length < 17592186044416 := by omega
      simp only [spec_digits.f]
      rw [if_neg h', e1, e2, ih (by omega) (by omega) k (by omega)]
      simp only [Option.bind_some]
      rw [if_pos hl', digs_ge (a := a) (by omega)]
theorem dalt_bd (m : Nat) : ∀ a : Nat, a < 10 ^ m → -(9 * (m : Int)) ≤ dalt a ∧ dalt a ≤ 9 * (m : Int) := by
  induction m with
  | zero =>
    intro a ha
    have h0 : a = 0 := by simpa using ha
    rw [h0, dalt_lt (by omega)]
    simp
  | succ m ih =>
    intro a ha
    rw [Nat.pow_succ] at ha
    have := ih (a / 10) (by omega)
    rw [dalt_step]
    push_cast
    omega
theorem spec_l0 (L : List Int) : ∀ (m a : Nat) (_ : (digs a).length ≤ L.length) (_ : L.take (digs a).length = digs a) (_ : (digs a).length = m) (k : Nat) (s g : Int), m < k → L.length ≤ 100 → (g = 1 ∨ g = -1) → -1000 + 9 * (m : Int) ≤ s → s ≤ 1000 - 9 * (m : Int) →
    spec_AlternateSum.l0 k s L g ((m : Int) - 1) = some (s + g * dalt a) := by
  intro m
  induction m with
  | zero =>
    intro a hi ht hm k s g hk hL hg h0 h1
    have := (digs_len (a := a) (k := a + 1) (Nat.lt_of_lt_of_le (Nat.lt_pow_self (by omega)) (Nat.pow_le_pow_right (by omega) (by omega))) (by omega)).1
    omega
  | succ m ih =>
    intro a hi ht hm k s g hk hL hg h0 h1
    obtain ⟨k, rfl⟩ : ∃ j, k = j + 1 := ⟨k - 1, by omega⟩
    have ei : ((m + 1 : Nat) : Int) - 1 = (m : Int) := by omega
    have hlt : m < L.length := by omega
    have hd : rd L (m : Int) = ((a % 10 : Nat) : Int) := by
      rw [hm, take_rd hlt] at ht
      by_cases h : a < 10
      · have hm0 : m = 0 := by rw [digs_lt h] at hm; simp at hm; omega
        rw [digs_lt h] at ht
        rw [hm0] at ht ⊢
        simp at ht
        simp [ht]
        omega
      · rw [digs_ge (by omega)] at ht
        have := List.append_inj_right' ht rfl
        simpa using this
    have b := digs_mem a
    have hr : 0 ≤ ((a % 10 : Nat) : Int) ∧ ((a % 10 : Nat) : Int) ≤ 9 := by omega
    have e1 : wrap64 (g * rd L (m : Int)) = g * ((a % 10 : Nat) : Int) := by
      rw [hd]
      rcases hg with rfl | rfl <;> rw [w64 (by omega) (by omega)]
    have e2 : wrap64 (s + g * ((a % 10 : Nat) : Int)) = s + g * ((a % 10 : Nat) : Int) := by
      rcases hg with rfl | rfl <;> rw [w64 (by omega) (by omega)]
    have e3 : wrap64 (-g) = -g := by rcases hg with rfl | rfl <;> exact w64 (by omega) (by omega)
    have e4 : wrap64 ((m : Int) - 1) = (m : Int) - 1 := w64 (by omega) (by omega)
    rw [ei]
    simp only [spec_AlternateSum.l0]
    rw [if_pos (by omega), if_pos (by omega), if_pos (by omega), e1, e2, e3, e4]
    by_cases h : a < 10
    · have hm0 : m = 0 := by rw [digs_lt h] at hm; simp at hm; omega
      obtain ⟨k, rfl⟩ : ∃ j, k = j + 1 := ⟨k - 1, by omega⟩
      rw [hm0]
      simp only [spec_AlternateSum.l0]
      rw [if_neg (by omega), dalt_lt h, Nat.mod_eq_of_lt h]
    · have hl : (digs (a / 10)).length = m := by rw [digs_ge (by omega)] at hm; simp at hm; exact hm
      have ht' : L.take (digs (a / 10)).length = digs (a / 10) := by
        rw [hm, take_rd hlt, digs_ge (by omega)] at ht
        rw [hl]
        exact List.append_inj_left' ht rfl
      rw [ih (a / 10) (by omega) ht' hl k _ (-g) (by omega) hL (by rcases hg with rfl | rfl <;> simp) (by push_cast at h0 h1; rcases hg with rfl | rfl <;> omega) (by push_cast at h0 h1; rcases hg with rfl | rfl <;> omega), dalt_step a]
      congr 1
      rcases hg with rfl | rfl <;> omega
theorem spec_is {a : Nat} (ha : a ≤ 1000000) {k : Nat} (hk : 10 ≤ k) : spec_AlternateSum.f k (a : Int) = some (dalt a) := by
  have h0 : (0 : Int) ≤ (a : Int) := by omega
  have h1 : (a : Int) ≤ 1000000 := by omega
  have hl := digs_len (a := a) (k := 7) (by omega) (by omega)
  unfold spec_AlternateSum.f spec_validAmount.f spec_inRange.f
  rw [if_pos h0]
  simp only [Option.bind_some, decide_eq_true h1, if_true]
  rw [digits_is (m := 7) (by omega) ha k (by omega)]
  simp only [Option.bind_some]
  rw [w64 (by omega) (by omega), spec_l0 (digs a) (digs a).length a (Nat.le_refl _) (List.take_length) rfl k 0 1 (by omega) (by omega) (by simp) (by omega) (by omega)]
  simp
theorem spec_out {a : Int} (ha : a < 0 ∨ 1000000 < a) (k : Nat) : spec_AlternateSum.f k a = some 0 := by
  unfold spec_AlternateSum.f spec_validAmount.f spec_inRange.f
  by_cases h0 : 0 ≤ a
  · have h1 : ¬ a ≤ 1000000 := by omega
    simp [h0, h1]
  · simp [h0]
theorem impl_l0 (m : Nat) : ∀ (a : Nat) (s g : Int) (k : Nat), a < 10 ^ m → a ≤ 1000000 → m < k → (g = 1 ∨ g = -1) → -1000 + 9 * (m : Int) ≤ s → s ≤ 1000 - 9 * (m : Int) → impl_AlternateSum.l0 k (a : Int) s g = some (s + g * dalt a) := by
  induction m with
  | zero =>
    intro a s g k ha hb hk hg h0 h1
    obtain ⟨k, rfl⟩ : ∃ j, k = j + 1 := ⟨k - 1, by omega⟩
    have h0 : a = 0 := by simpa using ha
    rw [h0]
    simp [impl_AlternateSum.l0, dalt_lt]
  | succ m ih =>
    intro a s g k ha hb hk hg h0 h1
    obtain ⟨k, rfl⟩ : ∃ j, k = j + 1 := ⟨k - 1, by omega⟩
    by_cases hp : 0 < a
    · have h' : (a : Int) > 0 := by omega
      have hr : 0 ≤ ((a % 10 : Nat) : Int) ∧ ((a % 10 : Nat) : Int) ≤ 9 := by omega
      have e1 : wrap64 (Int.tdiv (a : Int) 10) = ((a / 10 : Nat) : Int) := by
        rw [tdiv_nn _ (by omega), w64 (by omega) (by omega)]; omega
      have e2 : Int.tmod (a : Int) 10 = ((a % 10 : Nat) : Int) := by
        rw [tmod_nn _ (by omega)]; omega
      have e3 : wrap64 (g * ((a % 10 : Nat) : Int)) = g * ((a % 10 : Nat) : Int) := by
        rcases hg with rfl | rfl <;> rw [w64 (by omega) (by omega)]
      have e4 : wrap64 (s + g * ((a % 10 : Nat) : Int)) = s + g * ((a % 10 : Nat) : Int) := by
        rcases hg with rfl | rfl <;> rw [w64 (by omega) (by omega)]
      have e5 : wrap64 (-g) = -g := by rcases hg with rfl | rfl <;> exact w64 (by omega) (by omega)
      rw [Nat.pow_succ] at ha
      simp only [impl_AlternateSum.l0]
      rw [if_pos h', e1, e2, e3, e4, e5]
      rw [ih (a / 10) _ (-g) k (by omega) (by omega) (by omega) (by rcases hg with rfl | rfl <;> simp) (by push_cast at h0 h1; rcases hg with rfl | rfl <;> omega) (by push_cast at h0 h1; rcases hg with rfl | rfl <;> omega), dalt_step a]
      congr 1
      rcases hg with rfl | rfl <;> omega
    · have h0 : a = 0 := by omega
      rw [h0]
      simp [impl_AlternateSum.l0, dalt_lt]
theorem impl_is {a : Nat} (ha : a ≤ 1000000) {k : Nat} (hk : 10 ≤ k) : impl_AlternateSum.f k (a : Int) = some (dalt a) := by
  obtain ⟨k, rfl⟩ : ∃ j, k = j + 1 := ⟨k - 1, by omega⟩
  have h1 : ¬ (a : Int) < 0 := by omega
  have h2 : ¬ (a : Int) > 1000000 := by omega
  have h := impl_l0 7 a 0 1 k (by omega) ha (by omega) (by simp) (by omega) (by omega)
  unfold impl_AlternateSum.f
  rw [if_neg h1, decide_eq_false h2]
  simp only [impl_AlternateSum.j0]
  simpa using h
theorem impl_out {a : Int} (ha : a < 0 ∨ 1000000 < a) {k : Nat} (hk : 1 ≤ k) : impl_AlternateSum.f k a = some 0 := by
  obtain ⟨k, rfl⟩ : ∃ j, k = j + 1 := ⟨k - 1, by omega⟩
  unfold impl_AlternateSum.f
  by_cases h0 : a < 0
  · rw [if_pos h0]
    simp [impl_AlternateSum.j0]
  · have h1 : a > 1000000 := by omega
    rw [if_neg h0]
    simp [impl_AlternateSum.j0, h1]

theorem dalt_eleven (a : Nat) : ∃ t : Int, (a : Int) - dalt a = 11 * t := by
  induction a using Nat.strongRecOn with
  | _ a ih =>
    by_cases h : a < 10
    · exact ⟨0, by rw [dalt_lt h]; omega⟩
    · obtain ⟨t, ht⟩ := ih (a / 10) (by omega)
      refine ⟨((a / 10 : Nat) : Int) - t, ?_⟩
      rw [dalt_step a]
      omega

theorem FnAlternateSum : laws_FnAlternateSum.Pure := by
  intro l _ _ hl
  refine ⟨20, ?_⟩
  unfold laws_FnAlternateSum.f
  by_cases c : (l.length : Int) > 1048576
  · rw [if_pos c]
  · rw [if_neg c]
    obtain ⟨b, hb, hr⟩ := newReader_is l hl
    obtain ⟨n, hn, n0, n1⟩ := anAmount_is hb (p := 0) (by omega) (by omega) (k := 20) (by omega)
    have hd : spec_DrawAlternateSum.f 20 l = some n := by
      unfold spec_DrawAlternateSum.f
      rw [hr]
      simp only [Option.bind_some, hn]
    rw [hd]
    simp only [Option.bind_some]
    by_cases hv : n < 0 ∨ 1000000 < n
    · rw [impl_out hv (by omega), spec_out hv]
      by_cases h0 : n < 0
      · simp [laws_FnAlternateSum.j0, spec_out hv, h0]
      · have h1 : 1000000 < n := by omega
        simp [laws_FnAlternateSum.j0, spec_out hv, h0, h1]
    · obtain ⟨m, rfl⟩ : ∃ m : Nat, n = m := ⟨n.toNat, by omega⟩
      have hm : m ≤ 1000000 := by omega
      have hs := dalt_bd 7 m (by omega)
      obtain ⟨t, ht⟩ := dalt_eleven m
      rw [impl_is hm (by omega), spec_is hm (by omega)]
      simp only [Option.bind_some, if_true]
      rw [if_neg (by omega), decide_eq_false (by omega)]
      simp only [laws_FnAlternateSum.j0]
      have e1 : wrap64 (10 * (m : Int)) = ((10 * m : Nat) : Int) := by rw [w64 (by omega) (by omega)]; omega
      have e2 : wrap64 (-dalt m) = -dalt m := w64 (by omega) (by omega)
      rw [if_neg (by simp), w64 (x := (m : Int) - dalt m) (by omega) (by omega), Int.tmod_eq_zero_of_dvd ⟨t, ht⟩, if_pos rfl, e1, e2]
      by_cases c1 : ((10 * m : Nat) : Int) > 1000000
      · rw [if_pos c1]
      · have e3 : dalt (10 * m) = -dalt m := by
          rw [dalt_step (10 * m)]
          have h1 : 10 * m / 10 = m := by omega
          have h2 : 10 * m % 10 = 0 := by omega
          rw [h1, h2]
          omega
        rw [if_neg c1, impl_is (by omega) (by omega), e3]
        simp

end Go.Proofs.Ytgdnhidnojjpiab.Pure
