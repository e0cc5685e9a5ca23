/- The law FnValidRate, as a statement on plain values, holds: ValidRate is the reference's; a valid rate has a valid complement, and what one takes of 1234, rounded down, and the other, rounded up, are 1234. For every code of at most 2^47 - 4096 bytes. -/
import Derived.Test.YtgdnhidnojjpiabKit
import Derived.Test.YtgdnhidnojjpiabPFnValidRatex2
namespace Go.Proofs.Ytgdnhidnojjpiab.Pure
open Go.RowKit Go.Proofs.Ytgdnhidnojjpiab.PFnValidRate Go.Proofs.Ytgdnhidnojjpiab.Kit Go.Proofs.YtgdnhidnojjpiabW.PrintWords

theorem newReader_is (l : List Int) (h : ∀ x ∈ l, (Lit.int .u8 x).wf = true) : ∃ b, RB b ∧ spec_newReader.f l = some (b, 0) := by
  have hb := bytes_bd h
  unfold spec_newReader.f
  by_cases c : (l.length : Int) > 2000
  · rw [if_pos c, if_pos (by omega)]
    exact ⟨l.take 2000, ⟨by rw [List.length_take]; omega, fun x hx => hb x (List.mem_of_mem_take hx)⟩, rfl⟩
  · rw [if_neg c]
    exact ⟨l, ⟨by omega, hb⟩, rfl⟩
theorem pick_is {b : List Int} (hb : RB b) {p : Int} (n : Int) (h0 : 0 ≤ p) (h1 : p ≤ 1000000) {k : Nat} (hk : 1 ≤ k) :
    ∃ r, spec_reader_pick.f k b p n = some (r, p + 1) ∧ 0 ≤ r ∧ (1 ≤ n → r < n) := by
  obtain ⟨k, rfl⟩ : ∃ j, k = j + 1 := ⟨k - 1, by omega⟩
  have e0 : wrap64 (p + 1) = p + 1 := w64 (by omega) (by omega)
  have e1 : wrap64 (p + 1 - 1) = p := by rw [w64 (by omega) (by omega)]; omega
  unfold spec_reader_pick.f
  rw [e0]
  by_cases hn : n < 1
  · rw [if_pos hn]
    exact ⟨0, by simp [spec_reader_pick.j0], by omega, by omega⟩
  · rw [if_neg hn]
    by_cases hz : b.length = 0
    · exact ⟨0, by simp [spec_reader_pick.j0, hz], by omega, by omega⟩
    · have hz' : ((b.length : Int) == 0) = false := by
        rw [beq_eq_false_iff_ne]; omega
      rw [hz']
      simp only [spec_reader_pick.j0, e1]
      rw [if_neg (by decide)]
      have hn0 : ¬ n = 0 := by omega
      by_cases hp : p < (b.length : Int)
      · have hr := rd_byte hb p
        rw [if_pos hp, if_pos h0, if_neg hn0, w64 (by omega) (by omega)]
        have ht := tmod_in hr.1 (n := n) (by omega)
        exact ⟨_, rfl, ht.1, fun _ => ht.2⟩
      · have hl : (1 : Int) ≤ (b.length : Int) := by omega
        have hl2 : (b.length : Int) ≤ 2000 := by have := hb.1; omega
        have q1 := tmod_in h0 hl
        have d1 := tdiv_in h0 hl
        have e2 : wrap64 (wrap64 (p * 7) + 3) = p * 7 + 3 := by simp (disch := omega) only [w64]
        have q2 := tmod_in (x := p * 7 + 3) (by omega) hl
        rw [if_neg hp, if_neg (by omega), if_pos q1.1, if_pos q1.2, e2, if_pos q2.1, if_pos q2.2, if_neg hn0]
        have r1 := rd_byte hb (Int.tmod p (b.length : Int))
        have r2 := rd_byte hb (Int.tmod (p * 7 + 3) (b.length : Int))
        generalize rd b (Int.tmod p (b.length : Int)) = x1 at r1 ⊢
        generalize rd b (Int.tmod (p * 7 + 3) (b.length : Int)) = x2 at r2 ⊢
        generalize Int.tdiv p (b.length : Int) = x3 at d1 ⊢
        have e3 : wrap64 (wrap64 (wrap64 (wrap64 (wrap64 x1 * 131) + wrap64 (wrap64 x2 * 1117)) + wrap64 (p * 29)) + wrap64 (wrap64 x3 * 53)) = x1 * 131 + x2 * 1117 + p * 29 + x3 * 53 := by
          simp (disch := omega) only [w64]
        rw [e3]
        have e4 : wrap64 (Int.tdiv (x1 * 131 + x2 * 1117 + p * 29 + x3 * 53) 64) = (x1 * 131 + x2 * 1117 + p * 29 + x3 * 53) / 64 := by
          rw [tdiv_nn _ (by omega), w64 (by omega) (by omega)]
        rw [e4]
        have hx := xor_nn (a := x1 * 131 + x2 * 1117 + p * 29 + x3 * 53) (b := (x1 * 131 + x2 * 1117 + p * 29 + x3 * 53) / 64) (by omega) (by omega) (by omega) (by omega)
        have ht := tmod_in hx (n := n) (by omega)
        exact ⟨_, rfl, ht.1, fun _ => ht.2⟩
theorem one_is {b : List Int} (hb : RB b) {p : Int} (L : List Int) (hL : 1 ≤ L.length) (h0 : 0 ≤ p) (h1 : p ≤ 1000000) {k : Nat} (hk : 1 ≤ k) :
    ∃ v, spec_reader_one.f k b p L = some (v, p + 1) ∧ v ∈ L := by
  obtain ⟨r, hr, hr0, hr1⟩ := pick_is hb (L.length : Int) h0 h1 hk
  have hlt := hr1 (by omega)
  unfold spec_reader_one.f
  rw [hr]
  simp only [Option.bind_some]
  rw [if_pos hr0, if_pos hlt]
  have e : r = ((r.toNat : Nat) : Int) := by omega
  refine ⟨_, rfl, ?_⟩
  rw [e]
  exact rd_mem (by omega)
theorem someRate_is {b : List Int} (hb : RB b) {p : Int} (h0 : 0 ≤ p) (h1 : p ≤ 1000) {k : Nat} (hk : 1 ≤ k) :
    ∃ n d, spec_someRate.f k b p = some (n, d, p + 4) ∧ 0 ≤ n ∧ n ≤ 1000 ∧ 1 ≤ d ∧ d ≤ 1000 := by
  obtain ⟨x, hx, x0, x1⟩ := pick_is hb 50 (p := p) (by omega) (by omega) hk
  have x2 := x1 (by omega)
  have ex : wrap64 (1 + x) = 1 + x := w64 (by omega) (by omega)
  obtain ⟨d, hd, dm⟩ := one_is hb [100, 12, 2, 4, 1000, 8, 1, 365, 1 + x] (by simp) (p := p + 1) (by omega) (by omega) hk
  have d0 : 1 ≤ d ∧ d ≤ 1000 := by
    simp only [List.mem_cons, List.not_mem_nil, or_false] at dm
    omega
  have ed : wrap64 (d + 1) = d + 1 := w64 (by omega) (by omega)
  obtain ⟨y, hy, y0, y1⟩ := pick_is hb (d + 1) (p := p + 1 + 1) (by omega) (by omega) hk
  have y2 := y1 (by omega)
  obtain ⟨n, hn, nm⟩ := one_is hb [1, 0, mn 5 d, d, y, mn 3 d] (by simp) (p := p + 1 + 1 + 1) (by omega) (by omega) hk
  refine ⟨n, d, ?_, ?_⟩
  · unfold spec_someRate.f
    rw [hx]
    simp only [Option.bind_some, ex, hd, ed, hy, hn]
    congr 3
    omega
  · have m5 : mn 5 d ≤ 5 ∧ 0 ≤ mn 5 d := by unfold mn; omega
    have m3 : mn 3 d ≤ 3 ∧ 0 ≤ mn 3 d := by unfold mn; omega
    simp only [List.mem_cons, List.not_mem_nil, or_false] at nm
    omega
theorem anyRate_is {b : List Int} (hb : RB b) {p : Int} (h0 : 0 ≤ p) (h1 : p ≤ 900) {k : Nat} (hk : 1 ≤ k) :
    ∃ n d q, spec_anyRate.f k b p = some (n, d, q) ∧ -1 ≤ n ∧ n ≤ 1001 ∧ 0 ≤ d ∧ d ≤ 1001 ∧ 0 ≤ q ∧ q ≤ p + 10 := by
  obtain ⟨n, d, hs, n0, n1, d0, d1⟩ := someRate_is hb h0 (by omega) hk
  obtain ⟨x, hx, x0, x1⟩ := pick_is hb 16 (p := p + 4) (by omega) (by omega) hk
  have ed : wrap64 (d + 1) = d + 1 := w64 (by omega) (by omega)
  unfold spec_anyRate.f
  rw [hs]
  simp only [Option.bind_some, hx, ed]
  by_cases c1 : x = 0
  · obtain ⟨y, hy, ym⟩ := one_is hb [(-1), d + 1] (by simp) (p := p + 4 + 1) (by omega) (by omega) hk
    simp only [List.mem_cons, List.not_mem_nil, or_false] at ym
    rw [if_pos c1, hy]
    exact ⟨y, d, _, rfl, by omega, by omega, by omega, by omega, by omega, by omega⟩
  · rw [if_neg c1]
    by_cases c2 : x = 1
    · obtain ⟨y, hy, ym⟩ := one_is hb [0, 1001] (by simp) (p := p + 4 + 1) (by omega) (by omega) hk
      simp only [List.mem_cons, List.not_mem_nil, or_false] at ym
      rw [if_pos c2, hy]
      exact ⟨n, y, _, rfl, by omega, by omega, by omega, by omega, by omega, by omega⟩
    · rw [if_neg c2]
      exact ⟨n, d, _, rfl, by omega, by omega, by omega, by omega, by omega, by omega⟩
theorem implPart_in {n p d : Int} (hn : 0 ≤ n) (hn' : n ≤ 1000000) (hp : 0 ≤ p) (hd : 1 ≤ d) (hd' : d ≤ 1000) (hpd : p ≤ d) : impl_validPart.f n p d = some true := by
  unfold impl_validPart.f impl_ValidRate.f
  rw [if_pos hn, if_pos hn', if_pos hd, if_pos hd', if_pos hp, decide_eq_true hpd]
  rfl
theorem implPart_out {n p d : Int} (h : ¬ (0 ≤ n ∧ n ≤ 1000000 ∧ 0 ≤ p ∧ 1 ≤ d ∧ d ≤ 1000 ∧ p ≤ d)) : impl_validPart.f n p d = some false := by
  unfold impl_validPart.f impl_ValidRate.f
  by_cases h1 : n ≥ 0
  · by_cases h2 : n ≤ 1000000
    · by_cases h3 : d ≥ 1
      · by_cases h4 : d ≤ 1000
        · by_cases h5 : p ≥ 0
          · have h6 : ¬ p ≤ d := by omega
            simp [h1, h2, h3, h4, h5, h6]
          · simp [h1, h2, h3, h4, h5]
        · simp [h1, h2, h3, h4]
      · simp [h1, h2, h3]
    · simp [h1, h2]
  · simp [h1]
theorem specRate_in {p d : Int} (hp : 0 ≤ p) (hd : 1 ≤ d) (hd' : d ≤ 1000) (hpd : p ≤ d) : spec_validRate.f p d = some true := by
  unfold spec_validRate.f spec_inRange.f
  rw [if_pos hd, decide_eq_true hd', if_pos hp, decide_eq_true hpd]
  rfl
theorem specRate_out {p d : Int} (h : ¬ (0 ≤ p ∧ 1 ≤ d ∧ d ≤ 1000 ∧ p ≤ d)) : spec_validRate.f p d = some false := by
  unfold spec_validRate.f spec_inRange.f
  by_cases h1 : 1 ≤ d
  · by_cases h2 : d ≤ 1000
    · by_cases h3 : 0 ≤ p
      · have h4 : ¬ p ≤ d := by omega
        simp [h1, h2, h3, h4]
      · simp [h1, h2, h3]
    · simp [h1, h2]
  · simp [h1]
theorem implDown_is {n p d : Int} (hn : 0 ≤ n) (hn' : n ≤ 1000000) (hp : 0 ≤ p) (hd : 1 ≤ d) (hd' : d ≤ 1000) (hpd : p ≤ d) : impl_RoundDown.f n p d = some (n * p / d) := by
  have hb := part_bd hn (by omega) hp (by omega)
  unfold impl_RoundDown.f
  rw [implPart_in hn hn' hp hd hd' hpd]
  simp only [Option.bind_some, if_true]
  generalize n * p = P at hb ⊢
  have hq : 0 ≤ P / d ∧ P / d ≤ P := ⟨Int.ediv_nonneg hb.1 (by omega), Int.ediv_le_self _ hb.1⟩
  rw [if_neg (by omega), w64 (x := P) (by omega) (by omega), tdiv_nn _ hb.1, w64 (by omega) (by omega)]
theorem implDown_out {n p d : Int} (h : ¬ (0 ≤ n ∧ n ≤ 1000000 ∧ 0 ≤ p ∧ 1 ≤ d ∧ d ≤ 1000 ∧ p ≤ d)) : impl_RoundDown.f n p d = some (-1) := by
  unfold impl_RoundDown.f
  rw [implPart_out h]
  simp
/-- n * p / d, rounded up -/
def up (n p d : Int) : Int := (n * p + d - 1) / d
theorem up_bd {n p d : Int} (hn : 0 ≤ n) (hn' : n ≤ 1000000) (hp : 0 ≤ p) (hd : 1 ≤ d) (hd' : d ≤ 1000) (hpd : p ≤ d) : 0 ≤ up n p d ∧ up n p d ≤ n ∧ wrap64 (Int.tdiv (wrap64 (wrap64 (wrap64 (n * p) + d) - 1)) d) = up n p d := by
  have hb := part_bd hn (by omega) hp (by omega)
  have h1 : n * p ≤ n * d := Int.mul_le_mul_of_nonneg_left hpd hn
  have a : 0 ≤ up n p d := Int.ediv_nonneg (by omega) (by omega)
  have b : up n p d < n + 1 := by
    unfold up
    refine Int.ediv_lt_of_lt_mul (by omega) ?_
    grind
  refine ⟨a, by omega, ?_⟩
  have e1 : wrap64 (wrap64 (wrap64 (n * p) + d) - 1) = n * p + d - 1 := by
    generalize n * p = P at hb ⊢
    simp (disch := omega) only [w64]
  rw [e1, tdiv_nn _ (by omega)]
  exact w64 (by unfold up at a; omega) (by unfold up at b; omega)
theorem implUp_is {n p d : Int} (hn : 0 ≤ n) (hn' : n ≤ 1000000) (hp : 0 ≤ p) (hd : 1 ≤ d) (hd' : d ≤ 1000) (hpd : p ≤ d) : impl_RoundUp.f n p d = some (up n p d) := by
  unfold impl_RoundUp.f
  rw [implPart_in hn hn' hp hd hd' hpd]
  simp only [Option.bind_some, if_true]
  rw [if_neg (by omega), (up_bd hn hn' hp hd hd' hpd).2.2]
theorem implUp_out {n p d : Int} (h : ¬ (0 ≤ n ∧ n ≤ 1000000 ∧ 0 ≤ p ∧ 1 ≤ d ∧ d ≤ 1000 ∧ p ≤ d)) : impl_RoundUp.f n p d = some (-1) := by
  unfold impl_RoundUp.f
  rw [implPart_out h]
  simp
/-- what is rounded up is what is rounded down, or 1 more where a rest is left -/
theorem up_down {P d : Int} (hd : 1 ≤ d) : (P + d - 1) / d = if P % d = 0 then P / d else P / d + 1 := by
  have h := Int.emod_add_mul_ediv P d
  have h0 := Int.emod_nonneg P (b := d) (by omega)
  have h1 := Int.emod_lt_of_pos P (b := d) (by omega)
  generalize P / d = q at h ⊢
  generalize P % d = r at h h0 h1 ⊢
  subst h
  split
  · exact div_of (by omega) (by grind) (by grind)
  · exact div_of (by omega) (by grind) (by grind)

theorem rate_in {p d : Int} (hp : 0 ≤ p) (hd : 1 ≤ d) (hd' : d ≤ 1000) (hpd : p ≤ d) : impl_ValidRate.f p d = some true := by
  unfold impl_ValidRate.f
  rw [if_pos hd, if_pos hd', if_pos hp, decide_eq_true hpd]
theorem rate_out {p d : Int} (h : ¬ (0 ≤ p ∧ 1 ≤ d ∧ d ≤ 1000 ∧ p ≤ d)) : impl_ValidRate.f p d = some false := by
  unfold impl_ValidRate.f
  by_cases h1 : d ≥ 1
  · by_cases h2 : d ≤ 1000
    · by_cases h3 : p ≥ 0
      · have h4 : ¬ p ≤ d := by omega
        simp [h1, h2, h3, h4]
      · simp [h1, h2, h3]
    · simp [h1, h2]
  · simp [h1]
theorem both {p d : Int} (hd : 1 ≤ d) : 1234 * p / d + (1234 * (d - p) + d - 1) / d = 1234 := by
  have h := Int.emod_add_mul_ediv (1234 * p) d
  have h0 := Int.emod_nonneg (1234 * p) (b := d) (by omega)
  have h1 := Int.emod_lt_of_pos (1234 * p) (b := d) (by omega)
  generalize 1234 * p / d = q at h ⊢
  generalize 1234 * p % d = r at h h0 h1 ⊢
  have e : (1234 * (d - p) + d - 1) / d = 1234 - q := div_of (by omega) (by grind) (by grind)
  omega

theorem FnValidRate : laws_FnValidRate.Pure := by
  intro l _ _ hl
  refine ⟨20, ?_⟩
  unfold laws_FnValidRate.f spec_DrawValidRate.f
  by_cases c : (l.length : Int) > 1048576
  · rw [if_pos c]
  · rw [if_neg c]
    obtain ⟨b, hb, hr⟩ := newReader_is l hl
    obtain ⟨p, d, q, hq, _, _, _, _, _, _⟩ := anyRate_is hb (p := 0) (by omega) (by omega) (k := 20) (by omega)
    rw [hr]
    simp only [Option.bind_some, hq]
    unfold spec_ValidRate.f
    by_cases h : 0 ≤ p ∧ 1 ≤ d ∧ d ≤ 1000 ∧ p ≤ d
    · obtain ⟨h3, h4, h5, h6⟩ := h
      have e : wrap64 (d - p) = d - p := w64 (by omega) (by omega)
      have hu := up_bd (n := 1234) (p := d - p) (d := d) (by omega) (by omega) (by omega) h4 h5 (by omega)
      have hb2 := both (p := p) h4
      unfold up at hu
      rw [rate_in h3 h4 h5 h6, specRate_in h3 h4 h5 h6]
      simp only [Option.bind_some, laws_FnValidRate.j0, e]
      rw [rate_in (by omega) h4 h5 (by omega), implDown_is (by omega) (by omega) h3 h4 h5 h6, implUp_is (by omega) (by omega) (by omega) h4 h5 (by omega)]
      simp only [Option.bind_some]
      unfold up
      rw [w64 (by omega) (by omega), hb2]
      simp
    · rw [rate_out h, specRate_out h]
      simp [laws_FnValidRate.j0, spec_ValidRate.f, specRate_out h]

end Go.Proofs.Ytgdnhidnojjpiab.Pure
