/- The law FnCommitTo, as a statement on plain values, holds: what CommitTo returns is the reference's, below Modulus, and 1 more of the value adds Mixer. For every code of at most 2^47 - 4096 bytes. -/
import Derived.Test.YtgdnhidnojjpiaaKit
import Derived.Test.YtgdnhidnojjpiaaPFnCommitTox1
namespace Go.Proofs.Ytgdnhidnojjpiaa.Pure
open Go.RowKit Go.Proofs.Ytgdnhidnojjpiaa.PFnCommitTo Go.Proofs.Ytgdnhidnojjpiaa.Kit Go.Proofs.YtgdnhidnojjpiaaW.PrintWords

theorem newReader_is (l : List Int) (h : ∀ x ∈ l, (Lit.int .u8 x).wf = true) : ∃ b, RB b ∧ spec_newReader.f l = some (b, 0) := by
  have hb := bytes_bd h
  unfold spec_newReader.f
  by_cases c : (l.length : Int) > 2000
  · rw [if_pos c, if_pos (by omega)]
    exact ⟨l.take 2000, ⟨by rw [List.length_take]; omega, fun x hx => hb x (List.mem_of_mem_take hx)⟩, rfl⟩
  · rw [if_neg c]
    exact ⟨l, ⟨by omega, hb⟩, rfl⟩
theorem pick_is {b : List Int} (hb : RB b) {p : Int} (n : Int) (h0 : 0 ≤ p) (h1 : p ≤ 1000000) {k : Nat} (hk : 1 ≤ k) :
    ∃ r, spec_reader_pick.f k b p n = some (r, p + 1) ∧ 0 ≤ r ∧ (1 ≤ n → r < n) := by
  obtain ⟨k, rfl⟩ : ∃ j, k = j + 1 := ⟨k - 1, by omega⟩
  have e0 : wrap64 (p + 1) = p + 1 := w64 (by omega) (by omega)
  have e1 : wrap64 (p + 1 - 1) = p := by rw [w64 (by omega) (by omega)]; omega
  unfold spec_reader_pick.f
  rw [e0]
  by_cases hn : n < 1
  · rw [if_pos hn]
    exact ⟨0, by simp [spec_reader_pick.j0], by omega, by omega⟩
  · rw [if_neg hn]
    by_cases hz : b.length = 0
    · exact ⟨0, by simp [spec_reader_pick.j0, hz], by omega, by omega⟩
    · have hz' : ((b.length : Int) == 0) = false := by
        rw [beq_eq_false_iff_ne]; omega
      rw [hz']
      simp only [spec_reader_pick.j0, e1]
      rw [if_neg (by decide)]
      have hn0 : ¬ n = 0 := by omega
      by_cases hp : p < (b.length : Int)
      · have hr := rd_byte hb p
        rw [if_pos hp, if_pos h0, if_neg hn0, w64 (by omega) (by omega)]
        have ht := tmod_in hr.1 (n := n) (by omega)
        exact ⟨_, rfl, ht.1, fun _ => ht.2⟩
      · have hl : (1 : Int) ≤ (b.length : Int) := by omega
        have hl2 : (b.length : Int) ≤ 2000 := by have := hb.1; omega
        have q1 := tmod_in h0 hl
        have d1 := tdiv_in h0 hl
        have e2 : wrap64 (wrap64 (p * 7) + 3) = p * 7 + 3 := by simp (disch := omega) only [w64]
        have q2 := tmod_in (x := p * 7 + 3) (by omega) hl
        rw [if_neg hp, if_neg (by omega), if_pos q1.1, if_pos q1.2, e2, if_pos q2.1, if_pos q2.2, if_neg hn0]
        have r1 := rd_byte hb (Int.tmod p (b.length : Int))
        have r2 := rd_byte hb (Int.tmod (p * 7 + 3) (b.length : Int))
        generalize rd b (Int.tmod p (b.length : Int)) = x1 at r1 ⊢
        generalize rd b (Int.tmod (p * 7 + 3) (b.length : Int)) = x2 at r2 ⊢
        generalize Int.tdiv p (b.length : Int) = x3 at d1 ⊢
        have e3 : wrap64 (wrap64 (wrap64 (wrap64 (wrap64 x1 * 131) + wrap64 (wrap64 x2 * 1117)) + wrap64 (p * 29)) + wrap64 (wrap64 x3 * 53)) = x1 * 131 + x2 * 1117 + p * 29 + x3 * 53 := by
          simp (disch := omega) only [w64]
        rw [e3]
        have e4 : wrap64 (Int.tdiv (x1 * 131 + x2 * 1117 + p * 29 + x3 * 53) 64) = (x1 * 131 + x2 * 1117 + p * 29 + x3 * 53) / 64 := by
          rw [tdiv_nn _ (by omega), w64 (by omega) (by omega)]
        rw [e4]
        have hx := xor_nn (a := x1 * 131 + x2 * 1117 + p * 29 + x3 * 53) (b := (x1 * 131 + x2 * 1117 + p * 29 + x3 * 53) / 64) (by omega) (by omega) (by omega) (by omega)
        have ht := tmod_in hx (n := n) (by omega)
        exact ⟨_, rfl, ht.1, fun _ => ht.2⟩
theorem one_is {b : List Int} (hb : RB b) {p : Int} (L : List Int) (hL : 1 ≤ L.length) (h0 : 0 ≤ p) (h1 : p ≤ 1000000) {k : Nat} (hk : 1 ≤ k) :
    ∃ v, spec_reader_one.f k b p L = some (v, p + 1) ∧ v ∈ L := by
  obtain ⟨r, hr, hr0, hr1⟩ := pick_is hb (L.length : Int) h0 h1 hk
  have hlt := hr1 (by omega)
  unfold spec_reader_one.f
  rw [hr]
  simp only [Option.bind_some]
  rw [if_pos hr0, if_pos hlt]
  have e : r = ((r.toNat : Nat) : Int) := by omega
  refine ⟨_, rfl, ?_⟩
  rw [e]
  exact rd_mem (by omega)
theorem spec_eq (a b : Int) : spec_CommitTo.f a b = impl_CommitTo.f a b := by
  unfold spec_CommitTo.f impl_CommitTo.f spec_inRange.f spec_commit.f
  by_cases h1 : 0 ≤ a
  · by_cases h2 : a ≤ 50000
    · by_cases h3 : 0 ≤ b
      · by_cases h4 : b ≤ 9999
        · have e1 : ¬ a < 0 := by omega
          have e2 : ¬ a > 50000 := by omega
          have e3 : ¬ b < 0 := by omega
          have e4 : ¬ b > 9999 := by omega
          simp [h1, h2, h3, h4, e1, e2, e3, e4]
        · have e1 : ¬ a < 0 := by omega
          have e2 : ¬ a > 50000 := by omega
          have e3 : ¬ b < 0 := by omega
          have e4 : b > 9999 := by omega
          simp [h1, h2, h3, h4, e1, e2, e3, e4]
      · have e1 : ¬ a < 0 := by omega
        have e2 : ¬ a > 50000 := by omega
        have e3 : b < 0 := by omega
        simp [h1, h2, h3, e1, e2, e3]
    · have e1 : ¬ a < 0 := by omega
      have e2 : a > 50000 := by omega
      simp [h1, h2, e1, e2]
  · have e1 : a < 0 := by omega
    simp [h1, e1]
theorem impl_in {a b : Int} (h1 : 0 ≤ a) (h2 : a ≤ 50000) (h3 : 0 ≤ b) (h4 : b ≤ 9999) : impl_CommitTo.f a b = some ((a * 7919 + b * b + b) % 99991) := by
  have h5 : 0 ≤ b * b := Int.mul_nonneg h3 h3
  have h6 : b * b ≤ 9999 * 9999 := Int.mul_le_mul h4 h4 h3 (by omega)
  unfold impl_CommitTo.f
  rw [if_neg (by omega), if_neg (by omega), if_neg (by omega), if_neg (by omega)]
  generalize b * b = q at h5 h6 ⊢
  have e : wrap64 (wrap64 (wrap64 (a * 7919) + wrap64 q) + b) = a * 7919 + q + b := by simp (disch := omega) only [w64]
  rw [e, tmod_nn _ (by omega)]
theorem impl_out {a b : Int} (h : ¬ (0 ≤ a ∧ a ≤ 50000 ∧ 0 ≤ b ∧ b ≤ 9999)) : impl_CommitTo.f a b = some (-1) := by
  unfold impl_CommitTo.f
  repeat' split
  all_goals first | rfl | omega
theorem draw_is {l : List Int} (hl : ∀ x ∈ l, (Lit.int .u8 x).wf = true) {k : Nat} (hk : 1 ≤ k) : ∃ a y, spec_DrawCommitTo.f k l = some (a, y) := by
  obtain ⟨b, hb, hr⟩ := newReader_is l hl
  obtain ⟨x1, h1, _, _⟩ := pick_is hb 250 (p := 0) (by omega) (by omega) hk
  obtain ⟨x2, h2, _, _⟩ := pick_is hb 250 (p := 0 + 1) (by omega) (by omega) hk
  obtain ⟨a, h3, _⟩ := one_is hb [x1, 50000, 0, 50001, (-1), wrap64 (200 * x2)] (by simp) (p := 0 + 1 + 1) (by omega) (by omega) hk
  obtain ⟨x4, h4, _, _⟩ := pick_is hb 250 (p := 0 + 1 + 1 + 1) (by omega) (by omega) hk
  obtain ⟨y, h5, _⟩ := one_is hb [x4, 9999, 0, 10000, (-1)] (by simp) (p := 0 + 1 + 1 + 1 + 1) (by omega) (by omega) hk
  refine ⟨a, y, ?_⟩
  unfold spec_DrawCommitTo.f
  rw [hr]
  simp only [Option.bind_some, h1, h2, h3, h4, h5]

theorem FnCommitTo : laws_FnCommitTo.Pure := by
  intro l _ _ hl
  refine ⟨10, ?_⟩
  unfold laws_FnCommitTo.f
  by_cases c : (l.length : Int) > 1048576
  · rw [if_pos c]
  · rw [if_neg c]
    obtain ⟨v, s, hd⟩ := draw_is hl (k := 10) (by omega)
    rw [hd]
    simp only [Option.bind_some, spec_eq]
    by_cases hv : 0 ≤ v ∧ v ≤ 50000 ∧ 0 ≤ s ∧ s ≤ 9999
    · obtain ⟨h1, h2, h3, h4⟩ := hv
      rw [impl_in h1 h2 h3 h4]
      simp only [Option.bind_some, if_true, laws_FnCommitTo.j0]
      rw [if_neg (by simp; omega), if_pos (by omega)]
      by_cases h5 : v = 50000
      · rw [if_pos h5]
      · rw [if_neg h5, w64 (x := v + 1) (by omega) (by omega), impl_in (by omega) (by omega) h3 h4]
        simp only [Option.bind_some]
        generalize s * s = q
        have e : wrap64 (wrap64 (((v + 1) * 7919 + q + s) % 99991 - (v * 7919 + q + s) % 99991) - 7919) = ((v + 1) * 7919 + q + s) % 99991 - (v * 7919 + q + s) % 99991 - 7919 := by
          simp (disch := omega) only [w64]
        rw [e, Int.tmod_eq_zero_of_dvd (Int.dvd_of_emod_eq_zero (by omega))]
        simp
    · rw [impl_out hv]
      simp [laws_FnCommitTo.j0, spec_eq, impl_out hv]

end Go.Proofs.Ytgdnhidnojjpiaa.Pure
