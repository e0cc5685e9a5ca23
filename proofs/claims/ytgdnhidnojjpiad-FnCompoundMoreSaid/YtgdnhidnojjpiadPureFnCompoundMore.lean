/- The law FnCompoundMore, as a statement on plain values, holds: Compound is the reference's, 1 more of the amount grows to no less, and nothing grows at the rate 0. For every code of at most 2^47 - 4096 bytes. -/
import Derived.Test.YtgdnhidnojjpiadKit
import Derived.Test.YtgdnhidnojjpiadQFnCompoundMorex3
namespace Go.Proofs.Ytgdnhidnojjpiad.Pure
open Go.RowKit Go.Proofs.Ytgdnhidnojjpiad.PFnCompoundMore Go.Proofs.Ytgdnhidnojjpiad.Kit Go.Proofs.YtgdnhidnojjpiadW.PrintWords

theorem newReader_is (l : List Int) (h : ∀ x ∈ l, (Lit.int .u8 x).wf = true) : ∃ b, RB b ∧ spec_newReader.f l = some (b, 0) := by
  have hb := bytes_bd h
  unfold spec_newReader.f
  by_cases c : (l.length : Int) > 2000
  · rw [if_pos c, if_pos (by omega)]
    exact ⟨l.take 2000, ⟨by rw [List.length_take]; omega, fun x hx => hb x (List.mem_of_mem_take hx)⟩, rfl⟩
  · rw [if_neg c]
    exact ⟨l, ⟨by omega, hb⟩, rfl⟩
theorem pick_is {b : List Int} (hb : RB b) {p : Int} (n : Int) (h0 : 0 ≤ p) (h1 : p ≤ 1000000) {k : Nat} (hk : 1 ≤ k) :
    ∃ r, spec_reader_pick.f k b p n = some (r, p + 1) ∧ 0 ≤ r ∧ (1 ≤ n → r < n) := by
  obtain ⟨k, rfl⟩ : ∃ j, k = j + 1 := ⟨k - 1, by omega⟩
  have e0 : wrap64 (p + 1) = p + 1 := w64 (by omega) (by omega)
  have e1 : wrap64 (p + 1 - 1) = p := by rw [w64 (by omega) (by omega)]; omega
  unfold spec_reader_pick.f
  rw [e0]
  by_cases hn : n < 1
  · rw [if_pos hn]
    exact ⟨0, by simp [spec_reader_pick.j0], by omega, by omega⟩
  · rw [if_neg hn]
    by_cases hz : b.length = 0
    · exact ⟨0, by simp [spec_reader_pick.j0, hz], by omega, by omega⟩
    · have hz' : ((b.length : Int) == 0) = false := by
        rw [beq_eq_false_iff_ne]; omega
      rw [hz']
      simp only [spec_reader_pick.j0, e1]
      rw [if_neg (by decide)]
      have hn0 : ¬ n = 0 := by omega
      by_cases hp : p < (b.length : Int)
      · have hr := rd_byte hb p
        rw [if_pos hp, if_pos h0, if_neg hn0, w64 (by omega) (by omega)]
        have ht := tmod_in hr.1 (n := n) (by omega)
        exact ⟨_, rfl, ht.1, fun _ => ht.2⟩
      · have hl : (1 : Int) ≤ (b.length : Int) := by omega
        have hl2 : (b.length : Int) ≤ 2000 := by have := hb.1; omega
        have q1 := tmod_in h0 hl
        have d1 := tdiv_in h0 hl
        have e2 : wrap64 (wrap64 (p * 7) + 3) = p * 7 + 3 := by simp (disch := omega) only [w64]
        have q2 := tmod_in (x := p * 7 + 3) (by omega) hl
        rw [if_neg hp, if_neg (by omega), if_pos q1.1, if_pos q1.2, e2, if_pos q2.1, if_pos q2.2, if_neg hn0]
        have r1 := rd_byte hb (Int.tmod p (b.length : Int))
        have r2 := rd_byte hb (Int.tmod (p * 7 + 3) (b.length : Int))
        generalize rd b (Int.tmod p (b.length : Int)) = x1 at r1 ⊢
        generalize rd b (Int.tmod (p * 7 + 3) (b.length : Int)) = x2 at r2 ⊢
        generalize Int.tdiv p (b.length : Int) = x3 at d1 ⊢
        have e3 : wrap64 (wrap64 (wrap64 (wrap64 (wrap64 x1 * 131) + wrap64 (wrap64 x2 * 1117)) + wrap64 (p * 29)) + wrap64 (wrap64 x3 * 53)) = x1 * 131 + x2 * 1117 + p * 29 + x3 * 53 := by
          simp (disch := omega) only [w64]
        rw [e3]
        have e4 : wrap64 (Int.tdiv (x1 * 131 + x2 * 1117 + p * 29 + x3 * 53) 64) = (x1 * 131 + x2 * 1117 + p * 29 + x3 * 53) / 64 := by
          rw [tdiv_nn _ (by omega), w64 (by omega) (by omega)]
        rw [e4]
        have hx := xor_nn (a := x1 * 131 + x2 * 1117 + p * 29 + x3 * 53) (b := (x1 * 131 + x2 * 1117 + p * 29 + x3 * 53) / 64) (by omega) (by omega) (by omega) (by omega)
        have ht := tmod_in hx (n := n) (by omega)
        exact ⟨_, rfl, ht.1, fun _ => ht.2⟩
theorem one_is {b : List Int} (hb : RB b) {p : Int} (L : List Int) (hL : 1 ≤ L.length) (h0 : 0 ≤ p) (h1 : p ≤ 1000000) {k : Nat} (hk : 1 ≤ k) :
    ∃ v, spec_reader_one.f k b p L = some (v, p + 1) ∧ v ∈ L := by
  obtain ⟨r, hr, hr0, hr1⟩ := pick_is hb (L.length : Int) h0 h1 hk
  have hlt := hr1 (by omega)
  unfold spec_reader_one.f
  rw [hr]
  simp only [Option.bind_some]
  rw [if_pos hr0, if_pos hlt]
  have e : r = ((r.toNat : Nat) : Int) := by omega
  refine ⟨_, rfl, ?_⟩
  rw [e]
  exact rd_mem (by omega)
theorem anAmount_is {b : List Int} (hb : RB b) {p : Int} (h0 : 0 ≤ p) (h1 : p ≤ 1000) {k : Nat} (hk : 1 ≤ k) : ∃ n, spec_anAmount.f k b p = some (n, p + 3) ∧ -1 ≤ n ∧ n ≤ 1000001 := by
  obtain ⟨x, hx, x0, x1⟩ := pick_is hb 200 (p := p) (by omega) (by omega) hk
  obtain ⟨y, hy, y0, y1⟩ := pick_is hb 250 (p := p + 1) (by omega) (by omega) hk
  have x2 := x1 (by omega)
  have y2 := y1 (by omega)
  have e : wrap64 (10 * x) = 10 * x := w64 (by omega) (by omega)
  obtain ⟨n, hn, hm⟩ := one_is hb [1000, 10 * x, y, 0, 12345, 1000000, 999999, (-1), 1000001, 25, 90909, 50] (by simp) (p := p + 1 + 1) (by omega) (by omega) hk
  refine ⟨n, ?_, ?_⟩
  · unfold spec_anAmount.f
    rw [hx]
    simp only [Option.bind_some, hy, e, hn]
    congr 2
    omega
  · simp only [List.mem_cons, List.not_mem_nil, or_false] at hm
    omega
theorem someRate_is {b : List Int} (hb : RB b) {p : Int} (h0 : 0 ≤ p) (h1 : p ≤ 1000) {k : Nat} (hk : 1 ≤ k) :
    ∃ n d, spec_someRate.f k b p = some (n, d, p + 4) ∧ 0 ≤ n ∧ n ≤ 1000 ∧ 1 ≤ d ∧ d ≤ 1000 := by
  obtain ⟨x, hx, x0, x1⟩ := pick_is hb 50 (p := p) (by omega) (by omega) hk
  have x2 := x1 (by omega)
  have ex : wrap64 (1 + x) = 1 + x := w64 (by omega) (by omega)
  obtain ⟨d, hd, dm⟩ := one_is hb [100, 12, 2, 4, 1000, 8, 1, 365, 1 + x] (by simp) (p := p + 1) (by omega) (by omega) hk
  have d0 : 1 ≤ d ∧ d ≤ 1000 := by
    simp only [List.mem_cons, List.not_mem_nil, or_false] at dm
    omega
  have ed : wrap64 (d + 1) = d + 1 := w64 (by omega) (by omega)
  obtain ⟨y, hy, y0, y1⟩ := pick_is hb (d + 1) (p := p + 1 + 1) (by omega) (by omega) hk
  have y2 := y1 (by omega)
  obtain ⟨n, hn, nm⟩ := one_is hb [1, 0, mn 5 d, d, y, mn 3 d] (by simp) (p := p + 1 + 1 + 1) (by omega) (by omega) hk
  refine ⟨n, d, ?_, ?_⟩
  · unfold spec_someRate.f
    rw [hx]
    simp only [Option.bind_some, ex, hd, ed, hy, hn]
    congr 3
    omega
  · have m5 : mn 5 d ≤ 5 ∧ 0 ≤ mn 5 d := by unfold mn; omega
    have m3 : mn 3 d ≤ 3 ∧ 0 ≤ mn 3 d := by unfold mn; omega
    simp only [List.mem_cons, List.not_mem_nil, or_false] at nm
    omega
theorem anyRate_is {b : List Int} (hb : RB b) {p : Int} (h0 : 0 ≤ p) (h1 : p ≤ 900) {k : Nat} (hk : 1 ≤ k) :
    ∃ n d q, spec_anyRate.f k b p = some (n, d, q) ∧ -1 ≤ n ∧ n ≤ 1001 ∧ 0 ≤ d ∧ d ≤ 1001 ∧ 0 ≤ q ∧ q ≤ p + 10 := by
  obtain ⟨n, d, hs, n0, n1, d0, d1⟩ := someRate_is hb h0 (by omega) hk
  obtain ⟨x, hx, x0, x1⟩ := pick_is hb 16 (p := p + 4) (by omega) (by omega) hk
  have ed : wrap64 (d + 1) = d + 1 := w64 (by omega) (by omega)
  unfold spec_anyRate.f
  rw [hs]
  simp only [Option.bind_some, hx, ed]
  by_cases c1 : x = 0
  · obtain ⟨y, hy, ym⟩ := one_is hb [(-1), d + 1] (by simp) (p := p + 4 + 1) (by omega) (by omega) hk
    simp only [List.mem_cons, List.not_mem_nil, or_false] at ym
    rw [if_pos c1, hy]
    exact ⟨y, d, _, rfl, by omega, by omega, by omega, by omega, by omega, by omega⟩
  · rw [if_neg c1]
    by_cases c2 : x = 1
    · obtain ⟨y, hy, ym⟩ := one_is hb [0, 1001] (by simp) (p := p + 4 + 1) (by omega) (by omega) hk
      simp only [List.mem_cons, List.not_mem_nil, or_false] at ym
      rw [if_pos c2, hy]
      exact ⟨n, y, _, rfl, by omega, by omega, by omega, by omega, by omega, by omega⟩
    · rw [if_neg c2]
      exact ⟨n, d, _, rfl, by omega, by omega, by omega, by omega, by omega, by omega⟩
theorem specEven_is {n p d : Int} (hn : 0 ≤ n) (hn' : n ≤ 4000000) (hp : 0 ≤ p) (hd : 1 ≤ d) (hd' : d ≤ 1000) (hpd : p ≤ d) : spec_even.f n p d = some (evn (n * p) d) := by
  have hb := part_bd hn hn' hp (by omega)
  have e0 : wrap64 (2 * d) = 2 * d := w64 (by omega) (by omega)
  have e1 : wrap64 (2 * n) = 2 * n := w64 (by omega) (by omega)
  have e2 : 2 * n * p = 2 * (n * p) := by grind
  unfold spec_even.f spec_near.f
  rw [e0, e1, e2]
  generalize n * p = P at hb ⊢
  have hq : 0 ≤ P / d ∧ P / d ≤ P := ⟨Int.ediv_nonneg hb.1 (by omega), Int.ediv_le_self _ hb.1⟩
  have key := even_key (P := P) (D := d) (by omega)
  have hr0 := Int.emod_nonneg P (b := d) (by omega)
  have e3 : wrap64 (2 * P) = 2 * P := w64 (by omega) (by omega)
  have e4 : wrap64 (2 * P + d) = 2 * P + d := w64 (by omega) (by omega)
  have hN : 0 ≤ (2 * P + d) / (2 * d) ∧ (2 * P + d) / (2 * d) ≤ 5000000000 := by
    rw [key.1]; split <;> omega
  have e5 : wrap64 ((2 * P + d) / (2 * d)) = (2 * P + d) / (2 * d) := w64 (by omega) (by omega)
  have hM : 0 ≤ 2 * P / d ∧ 2 * P / d ≤ 2 * P := ⟨Int.ediv_nonneg (by omega) (by omega), Int.ediv_le_self _ (by omega)⟩
  have e6 : wrap64 (2 * P / d) = 2 * P / d := w64 (by omega) (by omega)
  rw [if_neg (by omega), e3, e4, tdiv_nn _ (by omega), e5]
  simp only [Option.bind_some]
  rw [if_neg (by omega), tmod_nn _ (by omega), tdiv_nn _ (by omega), e6, tmod_nn _ (by omega), tmod_nn _ (by omega), w64 (x := (2 * P + d) / (2 * d) - 1) (by omega) (by omega), key.1]
  unfold evn
  by_cases c : 2 * (P % d) = d
  · obtain ⟨a, b⟩ := key.2.mpr c
    have hN1 : (if d ≤ 2 * (P % d) then P / d + 1 else P / d) = P / d + 1 := if_pos (by omega)
    have hlt : ¬ d < 2 * (P % d) := by omega
    rw [if_pos a, if_pos b, hN1, if_neg hlt]
    by_cases h : P / d % 2 = 1
    · have h2 : ¬ (P / d + 1) % 2 = 1 := by omega
      rw [if_neg h2, if_pos ⟨c, h⟩]
    · have h2 : (P / d + 1) % 2 = 1 := by omega
      rw [if_pos h2, if_neg (fun x => h x.2)]
      congr 1
      omega
  · have hr : (if d < 2 * (P % d) then P / d + 1 else if 2 * (P % d) = d ∧ P / d % 2 = 1 then P / d + 1 else P / d) = if d ≤ 2 * (P % d) then P / d + 1 else P / d := by
      by_cases h : d < 2 * (P % d)
      · rw [if_pos h, if_pos (by omega)]
      · rw [if_neg h, if_neg (by omega), if_neg (by omega)]
    rw [hr]
    by_cases a : (2 * P) % d = 0
    · by_cases b : (2 * P / d) % 2 = 1
      · exact absurd (key.2.mp ⟨a, b⟩) c
      · rw [if_pos a, if_neg b]
    · rw [if_neg a]
theorem implPart_in {n p d : Int} (hn : 0 ≤ n) (hn' : n ≤ 1000000) (hp : 0 ≤ p) (hd : 1 ≤ d) (hd' : d ≤ 1000) (hpd : p ≤ d) : impl_validPart.f n p d = some true := by
  unfold impl_validPart.f impl_ValidRate.f
  rw [if_pos hn, if_pos hn', if_pos hd, if_pos hd', if_pos hp, decide_eq_true hpd]
  rfl
theorem implPart_out {n p d : Int} (h : ¬ (0 ≤ n ∧ n ≤ 1000000 ∧ 0 ≤ p ∧ 1 ≤ d ∧ d ≤ 1000 ∧ p ≤ d)) : impl_validPart.f n p d = some false := by
  unfold impl_validPart.f impl_ValidRate.f
  by_cases h1 : n ≥ 0
  · by_cases h2 : n ≤ 1000000
    · by_cases h3 : d ≥ 1
      · by_cases h4 : d ≤ 1000
        · by_cases h5 : p ≥ 0
          · have h6 : ¬ p ≤ d := by omega
            simp [h1, h2, h3, h4, h5, h6]
          · simp [h1, h2, h3, h4, h5]
        · simp [h1, h2, h3, h4]
      · simp [h1, h2, h3]
    · simp [h1, h2]
  · simp [h1]
theorem implEven_is {n p d : Int} (hn : 0 ≤ n) (hn' : n ≤ 1000000) (hp : 0 ≤ p) (hd : 1 ≤ d) (hd' : d ≤ 1000) (hpd : p ≤ d) : impl_RoundEven.f n p d = some (evn (n * p) d) := by
  have hb := part_bd hn (by omega) hp (by omega)
  unfold impl_RoundEven.f
  rw [implPart_in hn hn' hp hd hd' hpd]
  simp only [Option.bind_some, if_true]
  generalize n * p = P at hb ⊢
  have hq : 0 ≤ P / d ∧ P / d ≤ P := ⟨Int.ediv_nonneg hb.1 (by omega), Int.ediv_le_self _ hb.1⟩
  have hr0 := Int.emod_nonneg P (b := d) (by omega)
  have hr1 := Int.emod_lt_of_pos P (b := d) (by omega)
  have e1 : wrap64 P = P := w64 (by omega) (by omega)
  have e2 : wrap64 (2 * (P % d)) = 2 * (P % d) := w64 (by omega) (by omega)
  have e3 : wrap64 (P / d) = P / d := w64 (by omega) (by omega)
  have e4 : wrap64 (P / d + 1) = P / d + 1 := w64 (by omega) (by omega)
  rw [if_neg (by omega), e1, tmod_nn _ hb.1, e2, tdiv_nn _ hb.1, e3, e4, tmod_nn _ hq.1]
  unfold evn
  by_cases c : d < 2 * (P % d)
  · rw [if_pos c, if_pos c]
  · rw [if_neg c, if_neg c]
    by_cases c2 : 2 * (P % d) = d
    · by_cases c3 : P / d % 2 = 1
      · rw [if_pos c2, if_pos c3, if_pos ⟨c2, c3⟩]
      · rw [if_pos c2, if_neg c3, if_neg (by omega)]
    · rw [if_neg c2, if_neg (by omega)]
theorem implEven_out {n p d : Int} (h : ¬ (0 ≤ n ∧ n ≤ 1000000 ∧ 0 ≤ p ∧ 1 ≤ d ∧ d ≤ 1000 ∧ p ≤ d)) : impl_RoundEven.f n p d = some (-1) := by
  unfold impl_RoundEven.f
  rw [implPart_out h]
  simp
theorem specAmount_in {n : Int} (hn : 0 ≤ n) (hn' : n ≤ 1000000) : spec_validAmount.f n = some true := by
  unfold spec_validAmount.f spec_inRange.f
  rw [if_pos hn, decide_eq_true hn']
  rfl
theorem specAmount_out {n : Int} (h : ¬ (0 ≤ n ∧ n ≤ 1000000)) : spec_validAmount.f n = some false := by
  unfold spec_validAmount.f spec_inRange.f
  by_cases h1 : 0 ≤ n
  · have h2 : ¬ n ≤ 1000000 := by omega
    simp [h1, h2]
  · simp [h1]
theorem specRate_in {p d : Int} (hp : 0 ≤ p) (hd : 1 ≤ d) (hd' : d ≤ 1000) (hpd : p ≤ d) : spec_validRate.f p d = some true := by
  unfold spec_validRate.f spec_inRange.f
  rw [if_pos hd, decide_eq_true hd', if_pos hp, decide_eq_true hpd]
  rfl
theorem specRate_out {p d : Int} (h : ¬ (0 ≤ p ∧ 1 ≤ d ∧ d ≤ 1000 ∧ p ≤ d)) : spec_validRate.f p d = some false := by
  unfold spec_validRate.f spec_inRange.f
  by_cases h1 : 1 ≤ d
  · by_cases h2 : d ≤ 1000
    · by_cases h3 : 0 ≤ p
      · have h4 : ¬ p ≤ d := by omega
        simp [h1, h2, h3, h4]
      · simp [h1, h2, h3]
    · simp [h1, h2]
  · simp [h1]
theorem range_in {a lo hi : Int} (h : lo ≤ a) (h' : a ≤ hi) : spec_inRange.f a lo hi = some true := by
  unfold spec_inRange.f
  rw [if_pos h, decide_eq_true h']
theorem range_out {a lo hi : Int} (h : ¬ (lo ≤ a ∧ a ≤ hi)) : spec_inRange.f a lo hi = some false := by
  unfold spec_inRange.f
  by_cases h1 : lo ≤ a
  · rw [if_pos h1, decide_eq_false (by omega)]
  · rw [if_neg h1]
/-- what an amount grows to in some periods, -1 if it is too much after one of them -/
def grw (p d : Int) : Nat → Int → Int
  | 0, n => n
  | m + 1, n => if n + evn (n * p) d > 1000000 then -1 else grw p d m (n + evn (n * p) d)
theorem specGrow_l0 {p d : Int} (hp : 0 ≤ p) (hd : 1 ≤ d) (hd' : d ≤ 1000) (hpd : p ≤ d) (P : Nat) (hP : P ≤ 60) : ∀ (m k i : Nat) (n : Int), P - i = m → m < k → i ≤ P → 0 ≤ n → n ≤ 1000000 → spec_grow.l0 k n (P : Int) (i : Int) p d = some (grw p d m n) := by
  intro m
  induction m with
  | zero =>
    intro k i n hm hk hi h0 h1
    obtain ⟨k, rfl⟩ : ∃ j, k = j + 1 := ⟨k - 1, by omega⟩
    simp only [spec_grow.l0]
    rw [if_neg (by omega)]
    rfl
  | succ m ih =>
    intro k i n hm hk hi h0 h1
    obtain ⟨k, rfl⟩ : ∃ j, k = j + 1 := ⟨k - 1, by omega⟩
    have hb := evn_part (n := n) (p := p) (d := d) h0 hp (by omega) hpd
    have e : wrap64 ((i : Int) + 1) = ((i + 1 : Nat) : Int) := by rw [w64 (by omega) (by omega)]; simp
    have hstep := ih k (i + 1) (n + evn (n * p) d) (by omega) (by omega) (by omega) (by omega)
    simp only [spec_grow.l0]
    rw [e, if_pos (by omega), specEven_is h0 (by omega) hp hd hd' hpd]
    simp only [Option.bind_some]
    unfold grw
    generalize evn (n * p) d = g at hb hstep ⊢
    rw [w64 (x := n + g) (by omega) (by omega)]
    by_cases c : n + g > 1000000
    · rw [if_pos c, if_pos c]
    · rw [if_neg c, if_neg c]
      exact hstep (by omega)
theorem implGrow_l0 {p d : Int} (hp : 0 ≤ p) (hd : 1 ≤ d) (hd' : d ≤ 1000) (hpd : p ≤ d) (P : Nat) (hP : P ≤ 60) : ∀ (m k i : Nat) (n : Int), P - i = m → m < k → i ≤ P → 0 ≤ n → n ≤ 1000000 → impl_Compound.l0 k n (P : Int) (i : Int) p d = some (grw p d m n) := by
  intro m
  induction m with
  | zero =>
    intro k i n hm hk hi h0 h1
    obtain ⟨k, rfl⟩ : ∃ j, k = j + 1 := ⟨k - 1, by omega⟩
    simp only [impl_Compound.l0]
    rw [if_neg (by omega)]
    rfl
  | succ m ih =>
    intro k i n hm hk hi h0 h1
    obtain ⟨k, rfl⟩ : ∃ j, k = j + 1 := ⟨k - 1, by omega⟩
    have hb := evn_part (n := n) (p := p) (d := d) h0 hp (by omega) hpd
    have e : wrap64 ((i : Int) + 1) = ((i + 1 : Nat) : Int) := by rw [w64 (by omega) (by omega)]; simp
    have hstep := ih k (i + 1) (n + evn (n * p) d) (by omega) (by omega) (by omega) (by omega)
    simp only [impl_Compound.l0]
    rw [e, if_pos (by omega), implEven_is h0 h1 hp hd hd' hpd]
    simp only [Option.bind_some]
    unfold grw
    generalize evn (n * p) d = g at hb hstep ⊢
    rw [w64 (x := n + g) (by omega) (by omega)]
    by_cases c : n + g > 1000000
    · rw [if_pos c, if_pos c]
    · rw [if_neg c, if_neg c]
      exact hstep (by omega)
theorem specCompound_in {n p d P : Int} (hn : 0 ≤ n) (hn' : n ≤ 1000000) (hp : 0 ≤ p) (hd : 1 ≤ d) (hd' : d ≤ 1000) (hpd : p ≤ d) (h0 : 0 ≤ P) (h1 : P ≤ 60) {k : Nat} (hk : 70 ≤ k) : spec_Compound.f k n p d P = some (grw p d P.toNat n) := by
  unfold spec_Compound.f
  rw [specAmount_in hn hn', specRate_in hp hd hd' hpd]
  simp only [Option.bind_some, if_true]
  rw [range_in h0 h1]
  simp only [Option.bind_some, if_true]
  unfold spec_grow.f
  have h := specGrow_l0 hp hd hd' hpd P.toNat (by omega) P.toNat k 0 n (by omega) (by omega) (by omega) hn hn'
  have e : ((P.toNat : Nat) : Int) = P := by omega
  rw [e, Int.natCast_zero] at h
  rw [h]
  rfl
theorem specCompound_out {n p d P : Int} (h : ¬ (0 ≤ n ∧ n ≤ 1000000 ∧ 0 ≤ p ∧ 1 ≤ d ∧ d ≤ 1000 ∧ p ≤ d ∧ 0 ≤ P ∧ P ≤ 60)) (k : Nat) : spec_Compound.f k n p d P = some (-1) := by
  unfold spec_Compound.f
  by_cases c : 0 ≤ n ∧ n ≤ 1000000
  · by_cases c2 : 0 ≤ p ∧ 1 ≤ d ∧ d ≤ 1000 ∧ p ≤ d
    · rw [specAmount_in c.1 c.2, specRate_in c2.1 c2.2.1 c2.2.2.1 c2.2.2.2]
      simp only [Option.bind_some, if_true]
      rw [range_out (by omega)]
      simp
    · rw [specAmount_in c.1 c.2, specRate_out c2]
      simp
  · rw [specAmount_out c]
    simp
theorem implCompound_in {n p d P : Int} (hn : 0 ≤ n) (hn' : n ≤ 1000000) (hp : 0 ≤ p) (hd : 1 ≤ d) (hd' : d ≤ 1000) (hpd : p ≤ d) (h0 : 0 ≤ P) (h1 : P ≤ 60) {k : Nat} (hk : 70 ≤ k) : impl_Compound.f k n p d P = some (grw p d P.toNat n) := by
  obtain ⟨k, rfl⟩ : ∃ j, k = j + 1 := ⟨k - 1, by omega⟩
  unfold impl_Compound.f
  rw [implPart_in hn hn' hp hd hd' hpd]
  simp only [Option.bind_some, if_true]
  rw [if_neg (by omega), decide_eq_false (by omega)]
  simp only [impl_Compound.j0]
  rw [if_neg (by simp)]
  have h := implGrow_l0 hp hd hd' hpd P.toNat (by omega) P.toNat k 0 n (by omega) (by omega) (by omega) hn hn'
  have e : ((P.toNat : Nat) : Int) = P := by omega
  rw [e, Int.natCast_zero] at h
  exact h
theorem implCompound_out {n p d P : Int} (h : ¬ (0 ≤ n ∧ n ≤ 1000000 ∧ 0 ≤ p ∧ 1 ≤ d ∧ d ≤ 1000 ∧ p ≤ d ∧ 0 ≤ P ∧ P ≤ 60)) {k : Nat} (hk : 1 ≤ k) : impl_Compound.f k n p d P = some (-1) := by
  obtain ⟨k, rfl⟩ : ∃ j, k = j + 1 := ⟨k - 1, by omega⟩
  unfold impl_Compound.f
  by_cases c : 0 ≤ n ∧ n ≤ 1000000 ∧ 0 ≤ p ∧ 1 ≤ d ∧ d ≤ 1000 ∧ p ≤ d
  · rw [implPart_in c.1 c.2.1 c.2.2.1 c.2.2.2.1 c.2.2.2.2.1 c.2.2.2.2.2]
    simp only [Option.bind_some, if_true]
    by_cases c2 : P < 0
    · rw [if_pos c2]
      simp [impl_Compound.j0]
    · rw [if_neg c2, decide_eq_true (by omega)]
      simp [impl_Compound.j0]
  · rw [implPart_out c]
    simp [impl_Compound.j0]
theorem grw_bd {p d : Int} (hp : 0 ≤ p) (hd : 1 ≤ d) (hpd : p ≤ d) : ∀ (m : Nat) (n : Int), 0 ≤ n → n ≤ 1000000 → grw p d m n = -1 ∨ (n ≤ grw p d m n ∧ grw p d m n ≤ 1000000)
  | 0, n => fun h0 h1 => Or.inr (by unfold grw; omega)
  | m + 1, n => fun h0 h1 => by
    have hb := evn_part (n := n) (p := p) (d := d) h0 hp (by omega) hpd
    have ih := grw_bd hp hd hpd m (n + evn (n * p) d)
    unfold grw
    generalize evn (n * p) d = g at hb ih ⊢
    by_cases c : n + g > 1000000
    · rw [if_pos c]
      exact Or.inl rfl
    · rw [if_neg c]
      rcases ih (by omega) (by omega) with h | h
      · exact Or.inl h
      · exact Or.inr (by omega)
theorem grw_end {p d : Int} (hp : 0 ≤ p) (hd : 1 ≤ d) (hpd : p ≤ d) : ∀ (m : Nat) (n : Int), 0 ≤ n → n ≤ 1000000 → 0 ≤ grw p d (m + 1) n → 0 ≤ grw p d m n ∧ grw p d 1 (grw p d m n) = grw p d (m + 1) n
  | 0, n => fun h0 h1 h => by
    have : grw p d 0 n = n := rfl
    rw [this]
    exact ⟨h0, rfl⟩
  | m + 1, n => fun h0 h1 h => by
    have hb := evn_part (n := n) (p := p) (d := d) h0 hp (by omega) hpd
    have ih := grw_end hp hd hpd m (n + evn (n * p) d)
    have e1 : grw p d (m + 1) n = if n + evn (n * p) d > 1000000 then -1 else grw p d m (n + evn (n * p) d) := rfl
    have e2 : grw p d (m + 1 + 1) n = if n + evn (n * p) d > 1000000 then -1 else grw p d (m + 1) (n + evn (n * p) d) := rfl
    rw [e2] at h
    rw [e1, e2]
    by_cases c : n + evn (n * p) d > 1000000
    · rw [if_pos c] at h
      omega
    · rw [if_neg c] at h
      rw [if_neg c, if_neg c]
      exact ih (by omega) (by omega) h
theorem grw_mono {p d : Int} (hp : 0 ≤ p) (hd : 1 ≤ d) (hpd : p ≤ d) : ∀ (m : Nat) (n n' : Int), 0 ≤ n → n ≤ n' → n' ≤ 1000000 → 0 ≤ grw p d m n' → 0 ≤ grw p d m n ∧ grw p d m n ≤ grw p d m n'
  | 0, n, n' => fun h0 h1 h2 h => by
    have a : grw p d 0 n = n := rfl
    have b : grw p d 0 n' = n' := rfl
    omega
  | m + 1, n, n' => fun h0 h1 h2 h => by
    have hb := evn_part (n := n) (p := p) (d := d) h0 hp (by omega) hpd
    have hb' := evn_part (n := n') (p := p) (d := d) (by omega) hp (by omega) hpd
    have hm : evn (n * p) d ≤ evn (n' * p) d := evn_mono (by omega) (Int.mul_le_mul_of_nonneg_right h1 hp)
    have ih := grw_mono hp hd hpd m (n + evn (n * p) d) (n' + evn (n' * p) d)
    have e1 : grw p d (m + 1) n = if n + evn (n * p) d > 1000000 then -1 else grw p d m (n + evn (n * p) d) := rfl
    have e2 : grw p d (m + 1) n' = if n' + evn (n' * p) d > 1000000 then -1 else grw p d m (n' + evn (n' * p) d) := rfl
    rw [e2] at h
    rw [e1, e2]
    by_cases c : n' + evn (n' * p) d > 1000000
    · rw [if_pos c] at h
      omega
    · have c2 : ¬ n + evn (n * p) d > 1000000 := by omega
      rw [if_neg c] at h
      rw [if_neg c, if_neg c2]
      exact ih (by omega) (by omega) (by omega) h
theorem grw_none : ∀ (m : Nat) (n : Int), 0 ≤ n → n ≤ 1000000 → grw 0 7 m n = n
  | 0, n => fun _ _ => rfl
  | m + 1, n => fun h0 h1 => by
    have e : evn (n * 0) 7 = 0 := by rw [Int.mul_zero]; exact evn_zero (by omega)
    have e1 : grw 0 7 (m + 1) n = if n + evn (n * 0) 7 > 1000000 then -1 else grw 0 7 m (n + evn (n * 0) 7) := rfl
    rw [e1, e, Int.add_zero, if_neg (by omega)]
    exact grw_none m n h0 h1
theorem drawCompound_is {l : List Int} (hl : ∀ x ∈ l, (Lit.int .u8 x).wf = true) {k : Nat} (hk : 1 ≤ k) : ∃ n p d P, spec_DrawCompound.f k l = some (n, p, d, P) := by
  obtain ⟨b, hb, hr⟩ := newReader_is l hl
  obtain ⟨n, hn, _, _⟩ := anAmount_is hb (p := 0) (by omega) (by omega) hk
  obtain ⟨p, d, q, hq, _, _, _, _, q0, q1⟩ := anyRate_is hb (p := 0 + 3) (by omega) (by omega) hk
  obtain ⟨P, hP, _⟩ := one_is hb [3, 1, 0, 12, 60, 61, (-1)] (by simp) (p := q) (by omega) (by omega) hk
  refine ⟨n, p, d, P, ?_⟩
  unfold spec_DrawCompound.f
  rw [hr]
  simp only [Option.bind_some]
  rw [hn]
  simp only [Option.bind_some]
  rw [hq]
  simp only [Option.bind_some]
  rw [hP]
  rfl

theorem FnCompoundMore : laws_FnCompoundMore.Pure := by
  intro l _ _ hl
  refine ⟨100, ?_⟩
  unfold laws_FnCompoundMore.f
  by_cases c : (l.length : Int) > 1048576
  · rw [if_pos c]
  · rw [if_neg c]
    obtain ⟨n, p, d, P, hd⟩ := drawCompound_is hl (k := 100) (by omega)
    rw [hd]
    simp only [Option.bind_some]
    by_cases h : 0 ≤ n ∧ n ≤ 1000000 ∧ 0 ≤ p ∧ 1 ≤ d ∧ d ≤ 1000 ∧ p ≤ d ∧ 0 ≤ P ∧ P ≤ 60
    · obtain ⟨h1, h2, h3, h4, h5, h6, h7, h8⟩ := h
      have hb := grw_bd h3 h4 h6 P.toNat n h1 h2
      rw [implCompound_in h1 h2 h3 h4 h5 h6 h7 h8 (by omega), specCompound_in h1 h2 h3 h4 h5 h6 h7 h8 (by omega)]
      simp only [Option.bind_some, if_true]
      have hz : (impl_Compound.f 99 n 0 7 P).bind (fun t => some (t == n)) = some true := by
        rw [implCompound_in h1 h2 (by omega) (by omega) (by omega) (by omega) h7 h8 (by omega), grw_none _ _ h1 h2]
        simp
      by_cases c1 : grw p d P.toNat n < 0
      · rw [decide_eq_true c1]
        simp only [laws_FnCompoundMore.j0]
        rw [if_pos trivial, specCompound_in h1 h2 h3 h4 h5 h6 h7 h8 (by omega)]
        simp
      · rw [decide_eq_false c1]
        simp only [laws_FnCompoundMore.j0]
        rw [if_neg (by simp)]
        by_cases c2 : n < 1000000
        · have e1 : wrap64 (n + 1) = n + 1 := w64 (by omega) (by omega)
          rw [if_pos c2, e1, implCompound_in (by omega) (by omega) h3 h4 h5 h6 h7 h8 (by omega)]
          simp only [Option.bind_some]
          by_cases c3 : grw p d P.toNat (n + 1) < 0
          · rw [if_pos c3, hz]
          · have hm := grw_mono h3 h4 h6 P.toNat n (n + 1) h1 (by omega) (by omega) (by omega)
            rw [if_neg c3, if_pos hm.2, hz]
        · rw [if_neg c2, if_pos (by omega), hz]
    · rw [implCompound_out h (by omega), specCompound_out h 100]
      simp [laws_FnCompoundMore.j0, specCompound_out h 99]

end Go.Proofs.Ytgdnhidnojjpiad.Pure
