/- The law FnRoundEven, as a statement on plain values, holds: RoundEven is the reference's; it is RoundNear, but where that is half too much and odd, 1 less. For every code of at most 2^47 - 4096 bytes. -/
import Derived.Test.YtgdnhidnojjpiacKit
import Derived.Test.YtgdnhidnojjpiacQFnRoundEvenx2
namespace Go.Proofs.Ytgdnhidnojjpiac.Pure
open Go.RowKit Go.Proofs.Ytgdnhidnojjpiac.PFnRoundEven Go.Proofs.Ytgdnhidnojjpiac.Kit Go.Proofs.YtgdnhidnojjpiacW.PrintWords

theorem newReader_is (l : List Int) (h : ∀ x ∈ l, (Lit.int .u8 x).wf = true) : ∃ b, RB b ∧ spec_newReader.f l = some (b, 0) := by
  have hb := bytes_bd h
  unfold spec_newReader.f
  by_cases c : (l.length : Int) > 2000
  · rw [if_pos c, if_pos (by omega)]
    exact ⟨l.take 2000, ⟨by rw [List.length_take]; omega, fun x hx => hb x (List.mem_of_mem_take hx)⟩, rfl⟩
  · rw [if_neg c]
    exact ⟨l, ⟨by omega, hb⟩, rfl⟩
theorem pick_is {b : List Int} (hb : RB b) {p : Int} (n : Int) (h0 : 0 ≤ p) (h1 : p ≤ 1000000) {k : Nat} (hk : 1 ≤ k) :
    ∃ r, spec_reader_pick.f k b p n = some (r, p + 1) ∧ 0 ≤ r ∧ (1 ≤ n → r < n) := by
  obtain ⟨k, rfl⟩ : ∃ j, k = j + 1 := ⟨k - 1, by omega⟩
  have e0 : wrap64 (p + 1) = p + 1 := w64 (by omega) (by omega)
  have e1 : wrap64 (p + 1 - 1) = p := by rw [w64 (by omega) (by omega)]; omega
  unfold spec_reader_pick.f
  rw [e0]
  by_cases hn : n < 1
  · rw [if_pos hn]
    exact ⟨0, by simp [spec_reader_pick.j0], by omega, by omega⟩
  · rw [if_neg hn]
    by_cases hz : b.length = 0
    · exact ⟨0, by simp [spec_reader_pick.j0, hz], by omega, by omega⟩
    · have hz' : ((b.length : Int) == 0) = false := by
        rw [beq_eq_false_iff_ne]; omega
      rw [hz']
      simp only [spec_reader_pick.j0, e1]
      rw [if_neg (by decide)]
      have hn0 : ¬ n = 0 := by omega
      by_cases hp : p < (b.length : Int)
      · have hr := rd_byte hb p
        rw [if_pos hp, if_pos h0, if_neg hn0, w64 (by omega) (by omega)]
        have ht := tmod_in hr.1 (n := n) (by omega)
        exact ⟨_, rfl, ht.1, fun _ => ht.2⟩
      · have hl : (1 : Int) ≤ (b.length : Int) := by omega
        have hl2 : (b.length : Int) ≤ 2000 := by have := hb.1; omega
        have q1 := tmod_in h0 hl
        have d1 := tdiv_in h0 hl
        have e2 : wrap64 (wrap64 (p * 7) + 3) = p * 7 + 3 := by simp (disch := omega) only [w64]
        have q2 := tmod_in (x := p * 7 + 3) (by omega) hl
        rw [if_neg hp, if_neg (by omega), if_pos q1.1, if_pos q1.2, e2, if_pos q2.1, if_pos q2.2, if_neg hn0]
        have r1 := rd_byte hb (Int.tmod p (b.length : Int))
        have r2 := rd_byte hb (Int.tmod (p * 7 + 3) (b.length : Int))
        generalize rd b (Int.tmod p (b.length : Int)) = x1 at r1 ⊢
        generalize rd b (Int.tmod (p * 7 + 3) (b.length : Int)) = x2 at r2 ⊢
        generalize Int.tdiv p (b.length : Int) = x3 at d1 ⊢
        have e3 : wrap64 (wrap64 (wrap64 (wrap64 (wrap64 x1 * 131) + wrap64 (wrap64 x2 * 1117)) + wrap64 (p * 29)) + wrap64 (wrap64 x3 * 53)) = x1 * 131 + x2 * 1117 + p * 29 + x3 * 53 := by
          simp (disch := omega) only [w64]
        rw [e3]
        have e4 : wrap64 (Int.tdiv (x1 * 131 + x2 * 1117 + p * 29 + x3 * 53) 64) = (x1 * 131 + x2 * 1117 + p * 29 + x3 * 53) / 64 := by
          rw [tdiv_nn _ (by omega), w64 (by omega) (by omega)]
        rw [e4]
        have hx := xor_nn (a := x1 * 131 + x2 * 1117 + p * 29 + x3 * 53) (b := (x1 * 131 + x2 * 1117 + p * 29 + x3 * 53) / 64) (by omega) (by omega) (by omega) (by omega)
        have ht := tmod_in hx (n := n) (by omega)
        exact ⟨_, rfl, ht.1, fun _ => ht.2⟩
theorem one_is {b : List Int} (hb : RB b) {p : Int} (L : List Int) (hL : 1 ≤ L.length) (h0 : 0 ≤ p) (h1 : p ≤ 1000000) {k : Nat} (hk : 1 ≤ k) :
    ∃ v, spec_reader_one.f k b p L = some (v, p + 1) ∧ v ∈ L := by
  obtain ⟨r, hr, hr0, hr1⟩ := pick_is hb (L.length : Int) h0 h1 hk
  have hlt := hr1 (by omega)
  unfold spec_reader_one.f
  rw [hr]
  simp only [Option.bind_some]
  rw [if_pos hr0, if_pos hlt]
  have e : r = ((r.toNat : Nat) : Int) := by omega
  refine ⟨_, rfl, ?_⟩
  rw [e]
  exact rd_mem (by omega)
theorem anAmount_is {b : List Int} (hb : RB b) {p : Int} (h0 : 0 ≤ p) (h1 : p ≤ 1000) {k : Nat} (hk : 1 ≤ k) : ∃ n, spec_anAmount.f k b p = some (n, p + 3) ∧ -1 ≤ n ∧ n ≤ 1000001 := by
  obtain ⟨x, hx, x0, x1⟩ := pick_is hb 200 (p := p) (by omega) (by omega) hk
  obtain ⟨y, hy, y0, y1⟩ := pick_is hb 250 (p := p + 1) (by omega) (by omega) hk
  have x2 := x1 (by omega)
  have y2 := y1 (by omega)
  have e : wrap64 (10 * x) = 10 * x := w64 (by omega) (by omega)
  obtain ⟨n, hn, hm⟩ := one_is hb [1000, 10 * x, y, 0, 12345, 1000000, 999999, (-1), 1000001, 25, 90909, 50] (by simp) (p := p + 1 + 1) (by omega) (by omega) hk
  refine ⟨n, ?_, ?_⟩
  · unfold spec_anAmount.f
    rw [hx]
    simp only [Option.bind_some, hy, e, hn]
    congr 2
    omega
  · simp only [List.mem_cons, List.not_mem_nil, or_false] at hm
    omega
theorem someRate_is {b : List Int} (hb : RB b) {p : Int} (h0 : 0 ≤ p) (h1 : p ≤ 1000) {k : Nat} (hk : 1 ≤ k) :
    ∃ n d, spec_someRate.f k b p = some (n, d, p + 4) ∧ 0 ≤ n ∧ n ≤ 1000 ∧ 1 ≤ d ∧ d ≤ 1000 := by
  obtain ⟨x, hx, x0, x1⟩ := pick_is hb 50 (p := p) (by omega) (by omega) hk
  have x2 := x1 (by omega)
  have ex : wrap64 (1 + x) = 1 + x := w64 (by omega) (by omega)
  obtain ⟨d, hd, dm⟩ := one_is hb [100, 12, 2, 4, 1000, 8, 1, 365, 1 + x] (by simp) (p := p + 1) (by omega) (by omega) hk
  have d0 : 1 ≤ d ∧ d ≤ 1000 := by
    simp only [List.mem_cons, List.not_mem_nil, or_false] at dm
    omega
  have ed : wrap64 (d + 1) = d + 1 := w64 (by omega) (by omega)
  obtain ⟨y, hy, y0, y1⟩ := pick_is hb (d + 1) (p := p + 1 + 1) (by omega) (by omega) hk
  have y2 := y1 (by omega)
  obtain ⟨n, hn, nm⟩ := one_is hb [1, 0, mn 5 d, d, y, mn 3 d] (by simp) (p := p + 1 + 1 + 1) (by omega) (by omega) hk
  refine ⟨n, d, ?_, ?_⟩
  · unfold spec_someRate.f
    rw [hx]
    simp only [Option.bind_some, ex, hd, ed, hy, hn]
    congr 3
    omega
  · have m5 : mn 5 d ≤ 5 ∧ 0 ≤ mn 5 d := by unfold mn; omega
    have m3 : mn 3 d ≤ 3 ∧ 0 ≤ mn 3 d := by unfold mn; omega
    simp only [List.mem_cons, List.not_mem_nil, or_false] at nm
    omega
theorem anyRate_is {b : List Int} (hb : RB b) {p : Int} (h0 : 0 ≤ p) (h1 : p ≤ 900) {k : Nat} (hk : 1 ≤ k) :
    ∃ n d q, spec_anyRate.f k b p = some (n, d, q) ∧ -1 ≤ n ∧ n ≤ 1001 ∧ 0 ≤ d ∧ d ≤ 1001 ∧ 0 ≤ q ∧ q ≤ p + 10 := by
  obtain ⟨n, d, hs, n0, n1, d0, d1⟩ := someRate_is hb h0 (by omega) hk
  obtain ⟨x, hx, x0, x1⟩ := pick_is hb 16 (p := p + 4) (by omega) (by omega) hk
  have ed : wrap64 (d + 1) = d + 1 := w64 (by omega) (by omega)
  unfold spec_anyRate.f
  rw [hs]
  simp only [Option.bind_some, hx, ed]
  by_cases c1 : x = 0
  · obtain ⟨y, hy, ym⟩ := one_is hb [(-1), d + 1] (by simp) (p := p + 4 + 1) (by omega) (by omega) hk
    simp only [List.mem_cons, List.not_mem_nil, or_false] at ym
    rw [if_pos c1, hy]
    exact ⟨y, d, _, rfl, by omega, by omega, by omega, by omega, by omega, by omega⟩
  · rw [if_neg c1]
    by_cases c2 : x = 1
    · obtain ⟨y, hy, ym⟩ := one_is hb [0, 1001] (by simp) (p := p + 4 + 1) (by omega) (by omega) hk
      simp only [List.mem_cons, List.not_mem_nil, or_false] at ym
      rw [if_pos c2, hy]
      exact ⟨n, y, _, rfl, by omega, by omega, by omega, by omega, by omega, by omega⟩
    · rw [if_neg c2]
      exact ⟨n, d, _, rfl, by omega, by omega, by omega, by omega, by omega, by omega⟩
theorem specEven_is {n p d : Int} (hn : 0 ≤ n) (hn' : n ≤ 4000000) (hp : 0 ≤ p) (hd : 1 ≤ d) (hd' : d ≤ 1000) (hpd : p ≤ d) : spec_even.f n p d = some (evn (n * p) d) := by
  have hb := part_bd hn hn' hp (by omega)
  have e0 : wrap64 (2 * d) = 2 * d := w64 (by omega) (by omega)
  have e1 : wrap64 (2 * n) = 2 * n := w64 (by omega) (by omega)
  have e2 : 2 * n * p = 2 * (n * p) := by grind
  unfold spec_even.f spec_near.f
  rw [e0, e1, e2]
  generalize n * p = P at hb ⊢
  have hq : 0 ≤ P / d ∧ P / d ≤ P := ⟨Int.ediv_nonneg hb.1 (by omega), Int.ediv_le_self _ hb.1⟩
  have key := even_key (P := P) (D := d) (by omega)
  have hr0 := Int.emod_nonneg P (b := d) (by omega)
  have e3 : wrap64 (2 * P) = 2 * P := w64 (by omega) (by omega)
  have e4 : wrap64 (2 * P + d) = 2 * P + d := w64 (by omega) (by omega)
  have hN : 0 ≤ (2 * P + d) / (2 * d) ∧ (2 * P + d) / (2 * d) ≤ 5000000000 := by
    rw [key.1]; split <;> omega
  have e5 : wrap64 ((2 * P + d) / (2 * d)) = (2 * P + d) / (2 * d) := w64 (by omega) (by omega)
  have hM : 0 ≤ 2 * P / d ∧ 2 * P / d ≤ 2 * P := ⟨Int.ediv_nonneg (by omega) (by omega), Int.ediv_le_self _ (by omega)⟩
  have e6 : wrap64 (2 * P / d) = 2 * P / d := w64 (by omega) (by omega)
  rw [if_neg (by omega), e3, e4, tdiv_nn _ (by omega), e5]
  simp only [Option.bind_some]
  rw [if_neg (by omega), tmod_nn _ (by omega), tdiv_nn _ (by omega), e6, tmod_nn _ (by omega), tmod_nn _ (by omega), w64 (x := (2 * P + d) / (2 * d) - 1) (by omega) (by omega), key.1]
  unfold evn
  by_cases c : 2 * (P % d) = d
  · obtain ⟨a, b⟩ := key.2.mpr c
    have hN1 : (if d ≤ 2 * (P % d) then P / d + 1 else P / d) = P / d + 1 := if_pos (by omega)
    have hlt : ¬ d < 2 * (P % d) := by omega
    rw [if_pos a, if_pos b, hN1, if_neg hlt]
    by_cases h : P / d % 2 = 1
    · have h2 : ¬ (P / d + 1) % 2 = 1 := by omega
      rw [if_neg h2, if_pos ⟨c, h⟩]
    · have h2 : (P / d + 1) % 2 = 1 := by omega
      rw [if_pos h2, if_neg (fun x => h x.2)]
      congr 1
      omega
  · have hr : (if d < 2 * (P % d) then P / d + 1 else if 2 * (P % d) = d ∧ P / d % 2 = 1 then P / d + 1 else P / d) = if d ≤ 2 * (P % d) then P / d + 1 else P / d := by
      by_cases h : d < 2 * (P % d)
      · rw [if_pos h, if_pos (by omega)]
      · rw [if_neg h, if_neg (by omega), if_neg (by omega)]
    rw [hr]
    by_cases a : (2 * P) % d = 0
    · by_cases b : (2 * P / d) % 2 = 1
      · exact absurd (key.2.mp ⟨a, b⟩) c
      · rw [if_pos a, if_neg b]
    · rw [if_neg a]
theorem implPart_in {n p d : Int} (hn : 0 ≤ n) (hn' : n ≤ 1000000) (hp : 0 ≤ p) (hd : 1 ≤ d) (hd' : d ≤ 1000) (hpd : p ≤ d) : impl_validPart.f n p d = some true := by
  unfold impl_validPart.f impl_ValidRate.f
  rw [if_pos hn, if_pos hn', if_pos hd, if_pos hd', if_pos hp, decide_eq_true hpd]
  rfl
theorem implPart_out {n p d : Int} (h : ¬ (0 ≤ n ∧ n ≤ 1000000 ∧ 0 ≤ p ∧ 1 ≤ d ∧ d ≤ 1000 ∧ p ≤ d)) : impl_validPart.f n p d = some false := by
  unfold impl_validPart.f impl_ValidRate.f
  by_cases h1 : n ≥ 0
  · by_cases h2 : n ≤ 1000000
    · by_cases h3 : d ≥ 1
      · by_cases h4 : d ≤ 1000
        · by_cases h5 : p ≥ 0
          · have h6 : ¬ p ≤ d := by omega
            simp [h1, h2, h3, h4, h5, h6]
          · simp [h1, h2, h3, h4, h5]
        · simp [h1, h2, h3, h4]
      · simp [h1, h2, h3]
    · simp [h1, h2]
  · simp [h1]
theorem implEven_is {n p d : Int} (hn : 0 ≤ n) (hn' : n ≤ 1000000) (hp : 0 ≤ p) (hd : 1 ≤ d) (hd' : d ≤ 1000) (hpd : p ≤ d) : impl_RoundEven.f n p d = some (evn (n * p) d) := by
  have hb := part_bd hn (by omega) hp (by omega)
  unfold impl_RoundEven.f
  rw [implPart_in hn hn' hp hd hd' hpd]
  simp only [Option.bind_some, if_true]
  generalize n * p = P at hb ⊢
  have hq : 0 ≤ P / d ∧ P / d ≤ P := ⟨Int.ediv_nonneg hb.1 (by omega), Int.ediv_le_self _ hb.1⟩
  have hr0 := Int.emod_nonneg P (b := d) (by omega)
  have hr1 := Int.emod_lt_of_pos P (b := d) (by omega)
  have e1 : wrap64 P = P := w64 (by omega) (by omega)
  have e2 : wrap64 (2 * (P % d)) = 2 * (P % d) := w64 (by omega) (by omega)
  have e3 : wrap64 (P / d) = P / d := w64 (by omega) (by omega)
  have e4 : wrap64 (P / d + 1) = P / d + 1 := w64 (by omega) (by omega)
  rw [if_neg (by omega), e1, tmod_nn _ hb.1, e2, tdiv_nn _ hb.1, e3, e4, tmod_nn _ hq.1]
  unfold evn
  by_cases c : d < 2 * (P % d)
  · rw [if_pos c, if_pos c]
  · rw [if_neg c, if_neg c]
    by_cases c2 : 2 * (P % d) = d
    · by_cases c3 : P / d % 2 = 1
      · rw [if_pos c2, if_pos c3, if_pos ⟨c2, c3⟩]
      · rw [if_pos c2, if_neg c3, if_neg (by omega)]
    · rw [if_neg c2, if_neg (by omega)]
theorem implEven_out {n p d : Int} (h : ¬ (0 ≤ n ∧ n ≤ 1000000 ∧ 0 ≤ p ∧ 1 ≤ d ∧ d ≤ 1000 ∧ p ≤ d)) : impl_RoundEven.f n p d = some (-1) := by
  unfold impl_RoundEven.f
  rw [implPart_out h]
  simp
theorem specAmount_in {n : Int} (hn : 0 ≤ n) (hn' : n ≤ 1000000) : spec_validAmount.f n = some true := by
  unfold spec_validAmount.f spec_inRange.f
  rw [if_pos hn, decide_eq_true hn']
  rfl
theorem specAmount_out {n : Int} (h : ¬ (0 ≤ n ∧ n ≤ 1000000)) : spec_validAmount.f n = some false := by
  unfold spec_validAmount.f spec_inRange.f
  by_cases h1 : 0 ≤ n
  · have h2 : ¬ n ≤ 1000000 := by omega
    simp [h1, h2]
  · simp [h1]
theorem specRate_in {p d : Int} (hp : 0 ≤ p) (hd : 1 ≤ d) (hd' : d ≤ 1000) (hpd : p ≤ d) : spec_validRate.f p d = some true := by
  unfold spec_validRate.f spec_inRange.f
  rw [if_pos hd, decide_eq_true hd', if_pos hp, decide_eq_true hpd]
  rfl
theorem specRate_out {p d : Int} (h : ¬ (0 ≤ p ∧ 1 ≤ d ∧ d ≤ 1000 ∧ p ≤ d)) : spec_validRate.f p d = some false := by
  unfold spec_validRate.f spec_inRange.f
  by_cases h1 : 1 ≤ d
  · by_cases h2 : d ≤ 1000
    · by_cases h3 : 0 ≤ p
      · have h4 : ¬ p ≤ d := by omega
        simp [h1, h2, h3, h4]
      · simp [h1, h2, h3]
    · simp [h1, h2]
  · simp [h1]
theorem specRE_in {n p d : Int} (hn : 0 ≤ n) (hn' : n ≤ 1000000) (hp : 0 ≤ p) (hd : 1 ≤ d) (hd' : d ≤ 1000) (hpd : p ≤ d) : spec_RoundEven.f n p d = some (evn (n * p) d) := by
  unfold spec_RoundEven.f
  rw [specAmount_in hn hn', specRate_in hp hd hd' hpd, specEven_is hn (by omega) hp hd hd' hpd]
  simp
theorem specRE_out {n p d : Int} (h : ¬ (0 ≤ n ∧ n ≤ 1000000 ∧ 0 ≤ p ∧ 1 ≤ d ∧ d ≤ 1000 ∧ p ≤ d)) : spec_RoundEven.f n p d = some (-1) := by
  unfold spec_RoundEven.f
  by_cases h1 : 0 ≤ n ∧ n ≤ 1000000
  · rw [specAmount_in h1.1 h1.2, specRate_out (by omega)]
    simp
  · rw [specAmount_out h1]
    simp
theorem implNear_is {n p d : Int} (hn : 0 ≤ n) (hn' : n ≤ 1000000) (hp : 0 ≤ p) (hd : 1 ≤ d) (hd' : d ≤ 1000) (hpd : p ≤ d) : impl_RoundNear.f n p d = some ((2 * (n * p) + d) / (2 * d)) ∧ 0 ≤ (2 * (n * p) + d) / (2 * d) ∧ (2 * (n * p) + d) / (2 * d) ≤ n * p + 1 := by
  have hb := part_bd hn (by omega) hp (by omega)
  have e0 : wrap64 (2 * d) = 2 * d := w64 (by omega) (by omega)
  have e1 : wrap64 (2 * n) = 2 * n := w64 (by omega) (by omega)
  have e2 : 2 * n * p = 2 * (n * p) := by grind
  unfold impl_RoundNear.f
  rw [implPart_in hn hn' hp hd hd' hpd]
  simp only [Option.bind_some, if_true]
  rw [e0, e1, e2]
  generalize n * p = P at hb ⊢
  have hq : 0 ≤ P / d ∧ P / d ≤ P := ⟨Int.ediv_nonneg hb.1 (by omega), Int.ediv_le_self _ hb.1⟩
  have key := even_key (P := P) (D := d) (by omega)
  have hN : 0 ≤ (2 * P + d) / (2 * d) ∧ (2 * P + d) / (2 * d) ≤ P + 1 := by
    rw [key.1]; split <;> omega
  refine ⟨?_, hN⟩
  have e3 : wrap64 (2 * P) = 2 * P := w64 (by omega) (by omega)
  have e4 : wrap64 (2 * P + d) = 2 * P + d := w64 (by omega) (by omega)
  rw [if_neg (by omega), e3, e4, tdiv_nn _ (by omega), w64 (by omega) (by omega)]
theorem implNear_out {n p d : Int} (h : ¬ (0 ≤ n ∧ n ≤ 1000000 ∧ 0 ≤ p ∧ 1 ≤ d ∧ d ≤ 1000 ∧ p ≤ d)) : impl_RoundNear.f n p d = some (-1) := by
  unfold impl_RoundNear.f
  rw [implPart_out h]
  simp

theorem draw_is {l : List Int} (hl : ∀ x ∈ l, (Lit.int .u8 x).wf = true) {k : Nat} (hk : 1 ≤ k) : ∃ n p d, spec_DrawRoundEven.f k l = some (n, p, d) := by
  obtain ⟨b, hb, hr⟩ := newReader_is l hl
  obtain ⟨x, hx, _, _⟩ := pick_is hb 2 (p := 0) (by omega) (by omega) hk
  unfold spec_DrawRoundEven.f
  rw [hr]
  simp only [Option.bind_some]
  rw [hx]
  simp only [Option.bind_some]
  by_cases c : x = 0
  · obtain ⟨n, hn, _, _⟩ := pick_is hb 100 (p := 0 + 1) (by omega) (by omega) hk
    obtain ⟨p, hp, _⟩ := one_is hb [1, 3, 5] (by simp) (p := 0 + 1 + 1) (by omega) (by omega) hk
    obtain ⟨d, hd, _⟩ := one_is hb [2, 10, 6] (by simp) (p := 0 + 1 + 1 + 1) (by omega) (by omega) hk
    rw [if_pos c, hn]
    simp only [Option.bind_some]
    rw [hp]
    simp only [Option.bind_some]
    rw [hd]
    exact ⟨n, p, d, rfl⟩
  · obtain ⟨n, hn, _, _⟩ := anAmount_is hb (p := 0 + 1) (by omega) (by omega) hk
    obtain ⟨p, d, q, hq, _⟩ := anyRate_is hb (p := 0 + 1 + 3) (by omega) (by omega) hk
    rw [if_neg c, hn]
    simp only [Option.bind_some]
    rw [hq]
    exact ⟨n, p, d, rfl⟩

theorem FnRoundEven : laws_FnRoundEven.Pure := by
  intro l _ _ hl
  refine ⟨20, ?_⟩
  unfold laws_FnRoundEven.f
  by_cases c : (l.length : Int) > 1048576
  · rw [if_pos c]
  · rw [if_neg c]
    obtain ⟨n, p, d, hd⟩ := draw_is hl (k := 20) (by omega)
    rw [hd]
    simp only [Option.bind_some]
    by_cases h : 0 ≤ n ∧ n ≤ 1000000 ∧ 0 ≤ p ∧ 1 ≤ d ∧ d ≤ 1000 ∧ p ≤ d
    · obtain ⟨h1, h2, h3, h4, h5, h6⟩ := h
      have hi := implNear_is h1 h2 h3 h4 h5 h6
      have he := evn_part (n := n) (p := p) (d := d) h1 h3 (by omega) h6
      rw [implEven_is h1 h2 h3 h4 h5 h6, specRE_in h1 h2 h3 h4 h5 h6]
      simp only [Option.bind_some, if_true, laws_FnRoundEven.j0]
      rw [if_neg (by simp; omega), hi.1]
      simp only [Option.bind_some]
      have hb := part_bd h1 (by omega) h3 (by omega)
      have hq := hi.2
      clear hi
      have key := even_key (P := n * p) (D := d) (by omega)
      have a := Int.emod_add_mul_ediv (n * p) d
      have b := Int.emod_nonneg (n * p) (b := d) (by omega)
      have b' := Int.emod_lt_of_pos (n * p) (b := d) (by omega)
      have hN := key.1
      have hq0 : 0 ≤ n * p / d := Int.ediv_nonneg hb.1 (by omega)
      clear key
      unfold evn at he ⊢
      generalize n * p = P at hb a b b' hq hN he hq0 ⊢
      generalize (2 * P + d) / (2 * d) = N at hq hN ⊢
      generalize P / d = q at a hN he hq0 ⊢
      generalize P % d = r at a b b' hN he ⊢
      have e1 : N * d = d * q + (if d ≤ 2 * r then d else 0) := by
        rw [hN]
        split
        · grind
        · grind
      have hb1 : 0 ≤ d * q ∧ d * q ≤ 4000000000 := ⟨Int.mul_nonneg (by omega) hq0, by clear e1; omega⟩
      have hb2 : 0 ≤ N * d ∧ N * d ≤ 4000001000 := by
        rw [e1]
        split <;> omega
      have e2 : wrap64 (2 * wrap64 (wrap64 (N * d) - wrap64 P)) = 2 * (N * d - P) := by
        rw [w64 (x := N * d) (by omega) (by omega), w64 (x := P) (by omega) (by omega), w64 (x := N * d - P) (by omega) (by omega), w64 (by omega) (by omega)]
      rw [e2, tmod_nn _ hq.1, w64 (x := N - 1) (by omega) (by omega)]
      clear e2
      by_cases c1 : 2 * r = d
      · have c2 : d ≤ 2 * r := by omega
        rw [if_pos c2] at hN e1
        have c3 : 2 * (N * d - P) = d := by omega
        have c4 : ¬ d < 2 * r := by omega
        rw [if_neg c4]
        simp only [c1, c3, true_and, if_true]
        by_cases c5 : q % 2 = 1
        · rw [if_pos c5, if_pos hN.symm, if_pos (by omega)]
        · have c6 : ¬ q = N := by omega
          have c7 : q = N - 1 := by omega
          have c8 : N % 2 = 1 := by omega
          rw [if_neg c5, if_neg c6, if_pos c7, c8]
          rfl
      · have c3 : ¬ 2 * (N * d - P) = d := by
          by_cases c2 : d ≤ 2 * r
          · rw [if_pos c2] at hN e1
            omega
          · rw [if_neg c2] at hN e1
            omega
        have c6 : (if d < 2 * r then q + 1 else if 2 * r = d ∧ q % 2 = 1 then q + 1 else q) = N := by
          rw [hN]
          by_cases c2 : d ≤ 2 * r
          · have c7 : d < 2 * r := by clear e1 hb2; omega
            rw [if_pos c2, if_pos c7]
          · have c7 : ¬ d < 2 * r := by clear e1 hb2; omega
            have c8 : ¬ (2 * r = d ∧ q % 2 = 1) := fun y => c1 y.1
            rw [if_neg c2, if_neg c7, if_neg c8]
        rw [c6, if_pos rfl, if_neg c3]
    · rw [implEven_out h, specRE_out h]
      simp [laws_FnRoundEven.j0, specRE_out h]

end Go.Proofs.Ytgdnhidnojjpiac.Pure
