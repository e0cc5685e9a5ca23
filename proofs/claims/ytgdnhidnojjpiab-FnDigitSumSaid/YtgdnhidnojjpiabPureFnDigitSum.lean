/- The law FnDigitSum, as a statement on plain values, holds: DigitSum is the reference's; a 0 behind the number does not change it, 1 more adds 1 but behind a 9, and its rest by nine is the number's. For every code of at most 2^47 - 4096 bytes. -/
import Derived.Test.YtgdnhidnojjpiabKit
import Derived.Test.YtgdnhidnojjpiabPFnDigitSumx2
namespace Go.Proofs.Ytgdnhidnojjpiab.Pure
open Go.RowKit Go.Proofs.Ytgdnhidnojjpiab.PFnDigitSum Go.Proofs.Ytgdnhidnojjpiab.Kit Go.Proofs.YtgdnhidnojjpiabW.PrintWords

theorem newReader_is (l : List Int) (h : ∀ x ∈ l, (Lit.int .u8 x).wf = true) : ∃ b, RB b ∧ spec_newReader.f l = some (b, 0) := by
  have hb := bytes_bd h
  unfold spec_newReader.f
  by_cases c : (l.length : Int) > 2000
  · rw [if_pos c, if_pos (by omega)]
    exact ⟨l.take 2000, ⟨by rw [List.length_take]; omega, fun x hx => hb x (List.mem_of_mem_take hx)⟩, rfl⟩
  · rw [if_neg c]
    exact ⟨l, ⟨by omega, hb⟩, rfl⟩
theorem pick_is {b : List Int} (hb : RB b) {p : Int} (n : Int) (h0 : 0 ≤ p) (h1 : p ≤ 1000000) {k : Nat} (hk : 1 ≤ k) :
    ∃ r, spec_reader_pick.f k b p n = some (r, p + 1) ∧ 0 ≤ r ∧ (1 ≤ n → r < n) := by
  obtain ⟨k, rfl⟩ : ∃ j, k = j + 1 := ⟨k - 1, by omega⟩
  have e0 : wrap64 (p + 1) = p + 1 := w64 (by omega) (by omega)
  have e1 : wrap64 (p + 1 - 1) = p := by rw [w64 (by omega) (by omega)]; omega
  unfold spec_reader_pick.f
  rw [e0]
  by_cases hn : n < 1
  · rw [if_pos hn]
    exact ⟨0, by simp [spec_reader_pick.j0], by omega, by omega⟩
  · rw [if_neg hn]
    by_cases hz : b.length = 0
    · exact ⟨0, by simp [spec_reader_pick.j0, hz], by omega, by omega⟩
    · have hz' : ((b.length : Int) == 0) = false := by
        rw [beq_eq_false_iff_ne]; omega
      rw [hz']
      simp only [spec_reader_pick.j0, e1]
      rw [if_neg (by decide)]
      have hn0 : ¬ n = 0 := by omega
      by_cases hp : p < (b.length : Int)
      · have hr := rd_byte hb p
        rw [if_pos hp, if_pos h0, if_neg hn0, w64 (by omega) (by omega)]
        have ht := tmod_in hr.1 (n := n) (by omega)
        exact ⟨_, rfl, ht.1, fun _ => ht.2⟩
      · have hl : (1 : Int) ≤ (b.length : Int) := by omega
        have hl2 : (b.length : Int) ≤ 2000 := by have := hb.1; omega
        have q1 := tmod_in h0 hl
        have d1 := tdiv_in h0 hl
        have e2 : wrap64 (wrap64 (p * 7) + 3) = p * 7 + 3 := by simp (disch := omega) only [w64]
        have q2 := tmod_in (x := p * 7 + 3) (by omega) hl
        rw [if_neg hp, if_neg (by omega), if_pos q1.1, if_pos q1.2, e2, if_pos q2.1, if_pos q2.2, if_neg hn0]
        have r1 := rd_byte hb (Int.tmod p (b.length : Int))
        have r2 := rd_byte hb (Int.tmod (p * 7 + 3) (b.length : Int))
        generalize rd b (Int.tmod p (b.length : Int)) = x1 at r1 ⊢
        generalize rd b (Int.tmod (p * 7 + 3) (b.length : Int)) = x2 at r2 ⊢
        generalize Int.tdiv p (b.length : Int) = x3 at d1 ⊢
        have e3 : wrap64 (wrap64 (wrap64 (wrap64 (wrap64 x1 * 131) + wrap64 (wrap64 x2 * 1117)) + wrap64 (p * 29)) + wrap64 (wrap64 x3 * 53)) = x1 * 131 + x2 * 1117 + p * 29 + x3 * 53 := by
          simp (disch := omega) only [w64]
        rw [e3]
        have e4 : wrap64 (Int.tdiv (x1 * 131 + x2 * 1117 + p * 29 + x3 * 53) 64) = (x1 * 131 + x2 * 1117 + p * 29 + x3 * 53) / 64 := by
          rw [tdiv_nn _ (by omega), w64 (by omega) (by omega)]
        rw [e4]
        have hx := xor_nn (a := x1 * 131 + x2 * 1117 + p * 29 + x3 * 53) (b := (x1 * 131 + x2 * 1117 + p * 29 + x3 * 53) / 64) (by omega) (by omega) (by omega) (by omega)
        have ht := tmod_in hx (n := n) (by omega)
        exact ⟨_, rfl, ht.1, fun _ => ht.2⟩
theorem one_is {b : List Int} (hb : RB b) {p : Int} (L : List Int) (hL : 1 ≤ L.length) (h0 : 0 ≤ p) (h1 : p ≤ 1000000) {k : Nat} (hk : 1 ≤ k) :
    ∃ v, spec_reader_one.f k b p L = some (v, p + 1) ∧ v ∈ L := by
  obtain ⟨r, hr, hr0, hr1⟩ := pick_is hb (L.length : Int) h0 h1 hk
  have hlt := hr1 (by omega)
  unfold spec_reader_one.f
  rw [hr]
  simp only [Option.bind_some]
  rw [if_pos hr0, if_pos hlt]
  have e : r = ((r.toNat : Nat) : Int) := by omega
  refine ⟨_, rfl, ?_⟩
  rw [e]
  exact rd_mem (by omega)
theorem anAmount_is {b : List Int} (hb : RB b) {p : Int} (h0 : 0 ≤ p) (h1 : p ≤ 1000) {k : Nat} (hk : 1 ≤ k) : ∃ n, spec_anAmount.f k b p = some (n, p + 3) ∧ -1 ≤ n ∧ n ≤ 1000001 := by
  obtain ⟨x, hx, x0, x1⟩ := pick_is hb 200 (p := p) (by omega) (by omega) hk
  obtain ⟨y, hy, y0, y1⟩ := pick_is hb 250 (p := p + 1) (by omega) (by omega) hk
  have x2 := x1 (by omega)
  have y2 := y1 (by omega)
  have e : wrap64 (10 * x) = 10 * x := w64 (by omega) (by omega)
  obtain ⟨n, hn, hm⟩ := one_is hb [1000, 10 * x, y, 0, 12345, 1000000, 999999, (-1), 1000001, 25, 90909, 50] (by simp) (p := p + 1 + 1) (by omega) (by omega) hk
  refine ⟨n, ?_, ?_⟩
  · unfold spec_anAmount.f
    rw [hx]
    simp only [Option.bind_some, hy, e, hn]
    congr 2
    omega
  · simp only [List.mem_cons, List.not_mem_nil, or_false] at hm
    omega
theorem digits_is {m : Nat} : ∀ {a : Nat}, a < 10 ^ m → a ≤ 1000000 → ∀ k, m < k → spec_digits.f k (a : Int) = some (digs a) := by
  induction m with
  | zero =>
    intro a ha hb k hk
    obtain ⟨k, rfl⟩ : ∃ j, k = j + 1 := ⟨k - 1, by omega⟩
    have h0 : a = 0 := by simpa using ha
    rw [h0]
    simp [spec_digits.f, digs_lt]
  | succ m ih =>
    intro a ha hb k hk
    obtain ⟨k, rfl⟩ : ∃ j, k = j + 1 := ⟨k - 1, by omega⟩
    by_cases h : a < 10
    · have h' : (a : Int) < 10 := by omega
      simp [spec_digits.f, digs_lt h, h']
    · have h' : ¬ (a : Int) < 10 := by omega
      have e1 : wrap64 (Int.tdiv (a : Int) 10) = ((a / 10 : Nat) : Int) := by
        rw [tdiv_nn _ (by omega), w64 (by omega) (by omega)]; omega
      have e2 : Int.tmod (a : Int) 10 = ((a % 10 : Nat) : Int) := by
        rw [tmod_nn _ (by omega)]; omega
      rw [Nat.pow_succ] at ha
      have hl : (digs (a / 10)).length ≤ 7 := (digs_len (k := 7) (by omega) (by omega)).2
      have hl' : (digs (a / 10)).length < 17592186044416 := by omega
      simp only [spec_digits.f]
      rw [if_neg h', e1, e2, ih (by omega) (by omega) k (by omega)]
      simp only [Option.bind_some]
      rw [if_pos hl', digs_ge (a := a) (by omega)]
theorem total_l0 (xs : List Int) (hx : ∀ x ∈ xs, 0 ≤ x ∧ x ≤ 1000000) (hl : xs.length ≤ 1000000) :
    ∀ (d k i : Nat) (s : Int), xs.length - i = d → d < k → i ≤ xs.length → 0 ≤ s → s ≤ i * 1000000 → spec_total.l0 k xs s (i : Int) = some (s + (xs.drop i).sum) := by
  intro d
  induction d with
  | zero =>
    intro k i s hd hk hi h0 h1
    obtain ⟨k, rfl⟩ : ∃ j, k = j + 1 := ⟨k - 1, by omega⟩
    have e : ¬ (i : Int) < (xs.length : Int) := by omega
    simp only [spec_total.l0]
    rw [if_neg e, List.drop_of_length_le (by omega)]
    simp
  | succ d ih =>
    intro k i s hd hk hi h0 h1
    obtain ⟨k, rfl⟩ : ∃ j, k = j + 1 := ⟨k - 1, by omega⟩
    have hlt : i < xs.length := by omega
    have e : (i : Int) < (xs.length : Int) := by omega
    have hm := hx _ (rd_mem hlt)
    have e1 : wrap64 (s + rd xs (i : Int)) = s + rd xs (i : Int) := w64 (by omega) (by omega)
    have e2 : wrap64 ((i : Int) + 1) = ((i + 1 : Nat) : Int) := by rw [w64 (by omega) (by omega)]; simp
    simp only [spec_total.l0]
    rw [if_pos e, if_pos (by omega), e1, e2, ih k (i + 1) _ (by omega) (by omega) (by omega) (by omega) (by push_cast; omega), drop_rd hlt, List.sum_cons]
    congr 1
    omega
theorem total_is (xs : List Int) (hx : ∀ x ∈ xs, 0 ≤ x ∧ x ≤ 1000000) (hl : xs.length ≤ 1000000) {k : Nat} (hk : xs.length < k) : spec_total.f k xs = some xs.sum := by
  unfold spec_total.f
  have h := total_l0 xs hx hl xs.length k 0 0 (by omega) hk (by omega) (by omega) (by omega)
  simpa using h
theorem spec_is {a : Nat} (ha : a ≤ 1000000) {k : Nat} (hk : 10 ≤ k) : spec_DigitSum.f k (a : Int) = some ((dsum a : Nat) : Int) := by
  have h0 : (0 : Int) ≤ (a : Int) := by omega
  have h1 : (a : Int) ≤ 1000000 := by omega
  have hl := (digs_len (a := a) (k := 7) (by omega) (by omega)).2
  have hs : spec_total.f k (digs a) = some ((dsum a : Nat) : Int) := by
    rw [total_is (digs a) (fun x hx => by have := digs_mem a x hx; omega) (by omega) (by omega), digs_sum]
  unfold spec_DigitSum.f spec_validAmount.f spec_inRange.f
  rw [if_pos h0]
  simp only [Option.bind_some, decide_eq_true h1, if_true]
  rw [digits_is (m := 7) (by omega) ha k (by omega)]
  simp only [Option.bind_some, hs]
theorem spec_out {a : Int} (ha : a < 0 ∨ 1000000 < a) (k : Nat) : spec_DigitSum.f k a = some (-1) := by
  unfold spec_DigitSum.f spec_validAmount.f spec_inRange.f
  by_cases h0 : 0 ≤ a
  · have h1 : ¬ a ≤ 1000000 := by omega
    simp [h0, h1]
  · simp [h0]
theorem impl_l0 (m : Nat) : ∀ (a : Nat) (s : Int) (k : Nat), a < 10 ^ m → a ≤ 1000000 → m < k → 0 ≤ s → s ≤ 1000 → impl_DigitSum.l0 k (a : Int) s = some (s + ((dsum a : Nat) : Int)) ∨ 1000 < s + 9 * m := by
  induction m with
  | zero =>
    intro a s k ha hb hk h0 h1
    obtain ⟨k, rfl⟩ : ∃ j, k = j + 1 := ⟨k - 1, by omega⟩
    have h0 : a = 0 := by simpa using ha
    rw [h0]
    simp [impl_DigitSum.l0, dsum_lt]
  | succ m ih =>
    intro a s k ha hb hk h0 h1
    obtain ⟨k, rfl⟩ : ∃ j, k = j + 1 := ⟨k - 1, by omega⟩
    by_cases hp : 0 < a
    · have h' : (a : Int) > 0 := by omega
      have e1 : wrap64 (Int.tdiv (a : Int) 10) = ((a / 10 : Nat) : Int) := by
        rw [tdiv_nn _ (by omega), w64 (by omega) (by omega)]; omega
      have e2 : Int.tmod (a : Int) 10 = ((a % 10 : Nat) : Int) := by
        rw [tmod_nn _ (by omega)]; omega
      have e3 : wrap64 (s + ((a % 10 : Nat) : Int)) = s + ((a % 10 : Nat) : Int) := w64 (by omega) (by omega)
      rw [Nat.pow_succ] at ha
      by_cases hs : s + ((a % 10 : Nat) : Int) ≤ 1000
      · rcases ih (a / 10) (s + ((a % 10 : Nat) : Int)) k (by omega) (by omega) (by omega) (by omega) hs with h | h
        · left
          simp only [impl_DigitSum.l0]
          rw [if_pos h', e1, e2, e3, h, dsum_step a]
          congr 1
          omega
        · right
          omega
      · right
        omega
    · have h0 : a = 0 := by omega
      left
      rw [h0]
      simp [impl_DigitSum.l0, dsum_lt]
theorem impl_is {a : Nat} (ha : a ≤ 1000000) {k : Nat} (hk : 10 ≤ k) : impl_DigitSum.f k (a : Int) = some ((dsum a : Nat) : Int) := by
  obtain ⟨k, rfl⟩ : ∃ j, k = j + 1 := ⟨k - 1, by omega⟩
  have h1 : ¬ (a : Int) < 0 := by omega
  have h2 : ¬ (a : Int) > 1000000 := by omega
  rcases impl_l0 7 a 0 k (by omega) ha (by omega) (by omega) (by omega) with h | h
  · unfold impl_DigitSum.f
    rw [if_neg h1, decide_eq_false h2]
    simp only [impl_DigitSum.j0]
    simpa using h
  · omega
theorem impl_out {a : Int} (ha : a < 0 ∨ 1000000 < a) {k : Nat} (hk : 1 ≤ k) : impl_DigitSum.f k a = some (-1) := by
  obtain ⟨k, rfl⟩ : ∃ j, k = j + 1 := ⟨k - 1, by omega⟩
  unfold impl_DigitSum.f
  by_cases h0 : a < 0
  · rw [if_pos h0]
    simp [impl_DigitSum.j0]
  · have h1 : a > 1000000 := by omega
    rw [if_neg h0]
    simp [impl_DigitSum.j0, h1]

theorem FnDigitSum : laws_FnDigitSum.Pure := by
  intro l _ _ hl
  refine ⟨20, ?_⟩
  unfold laws_FnDigitSum.f
  by_cases c : (l.length : Int) > 1048576
  · rw [if_pos c]
  · rw [if_neg c]
    obtain ⟨b, hb, hr⟩ := newReader_is l hl
    obtain ⟨n, hn, n0, n1⟩ := anAmount_is hb (p := 0) (by omega) (by omega) (k := 20) (by omega)
    have hd : spec_DrawDigitSum.f 20 l = some n := by
      unfold spec_DrawDigitSum.f
      rw [hr]
      simp only [Option.bind_some, hn]
    rw [hd]
    simp only [Option.bind_some]
    by_cases hv : n < 0 ∨ 1000000 < n
    · rw [impl_out hv (by omega), spec_out hv]
      simp [laws_FnDigitSum.j0, spec_out hv]
    · obtain ⟨m, rfl⟩ : ∃ m : Nat, n = m := ⟨n.toNat, by omega⟩
      have hm : m ≤ 1000000 := by omega
      have hs := dsum_le (k := 7) (a := m) (by omega)
      have e1 : wrap64 (10 * (m : Int)) = ((10 * m : Nat) : Int) := by rw [w64 (by omega) (by omega)]; omega
      have e2 : wrap64 ((m : Int) + 1) = ((m + 1 : Nat) : Int) := by rw [w64 (by omega) (by omega)]; omega
      have e3 : wrap64 (((dsum m : Nat) : Int) + 1) = ((dsum m + 1 : Nat) : Int) := by rw [w64 (by omega) (by omega)]; omega
      have e4 : (Int.tmod ((dsum m : Nat) : Int) 9 == Int.tmod (m : Int) 9) = true := by
        rw [tmod_nn _ (by omega), tmod_nn _ (by omega), beq_iff_eq]
        have := dsum_mod m
        omega
      have hlast : (if (m : Int) = 1000000 then some true else if Int.tmod (m : Int) 10 = 9 then some true else (impl_DigitSum.f 19 ((m + 1 : Nat) : Int)).bind fun t => if t = ((dsum m + 1 : Nat) : Int) then some true else some false) = some true := by
        by_cases c1 : (m : Int) = 1000000
        · rw [if_pos c1]
        · rw [if_neg c1, tmod_nn _ (by omega)]
          by_cases c2 : (m : Int) % 10 = 9
          · rw [if_pos c2]
          · have e5 : dsum (m + 1) = dsum m + 1 := by
              rw [dsum_step (m + 1), dsum_step m]
              have h1 : (m + 1) / 10 = m / 10 := by omega
              rw [h1]
              omega
            rw [if_neg c2, impl_is (by omega) (by omega), e5]
            simp
      rw [impl_is hm (by omega), spec_is hm (by omega)]
      simp only [Option.bind_some, if_true, laws_FnDigitSum.j0]
      rw [if_neg (by simp), e1, e2, e3, e4]
      by_cases c1 : ((10 * m : Nat) : Int) > 1000000
      · rw [if_pos c1]
        exact hlast
      · have e6 : dsum (10 * m) = dsum m := by
          rw [dsum_step (10 * m)]
          have h1 : 10 * m / 10 = m := by omega
          rw [h1]
          omega
        rw [if_neg c1, impl_is (by omega) (by omega), e6]
        simp only [Option.bind_some, if_true]
        exact hlast

end Go.Proofs.Ytgdnhidnojjpiab.Pure
