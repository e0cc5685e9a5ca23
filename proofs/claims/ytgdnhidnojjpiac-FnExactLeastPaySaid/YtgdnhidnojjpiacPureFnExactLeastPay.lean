/- The law FnExactLeastPay, on plain values, holds: the program's LeastPay is the reference's. For all 64-bit integers and all rates of 64-bit integers. -/
import Derived.Test.YtgdnhidnojjpiacKit
import Derived.Test.YtgdnhidnojjpiacPFnExactLeastPayx2
namespace Go.Proofs.Ytgdnhidnojjpiac.Pure
open Go.RowKit Go.Proofs.Ytgdnhidnojjpiac.PFnExactLeastPay Go.Proofs.Ytgdnhidnojjpiac.Kit Go.Proofs.YtgdnhidnojjpiacW.PrintWords

theorem specEven_is {n p d : Int} (hn : 0 ≤ n) (hn' : n ≤ 4000000) (hp : 0 ≤ p) (hd : 1 ≤ d) (hd' : d ≤ 1000) (hpd : p ≤ d) : spec_even.f n p d = some (evn (n * p) d) := by
  have hb := part_bd hn hn' hp (by omega)
  have e0 : wrap64 (2 * d) = 2 * d := w64 (by omega) (by omega)
  have e1 : wrap64 (2 * n) = 2 * n := w64 (by omega) (by omega)
  have e2 : 2 * n * p = 2 * (n * p) := by grind
  unfold spec_even.f spec_near.f
  rw [e0, e1, e2]
  generalize n * p = P at hb ⊢
  have hq : 0 ≤ P / d ∧ P / d ≤ P := ⟨Int.ediv_nonneg hb.1 (by omega), Int.ediv_le_self _ hb.1⟩
  have key := even_key (P := P) (D := d) (by omega)
  have hr0 := Int.emod_nonneg P (b := d) (by omega)
  have e3 : wrap64 (2 * P) = 2 * P := w64 (by omega) (by omega)
  have e4 : wrap64 (2 * P + d) = 2 * P + d := w64 (by omega) (by omega)
  have hN : 0 ≤ (2 * P + d) / (2 * d) ∧ (2 * P + d) / (2 * d) ≤ 5000000000 := by
    rw [key.1]; split <;> omega
  have e5 : wrap64 ((2 * P + d) / (2 * d)) = (2 * P + d) / (2 * d) := w64 (by omega) (by omega)
  have hM : 0 ≤ 2 * P / d ∧ 2 * P / d ≤ 2 * P := ⟨Int.ediv_nonneg (by omega) (by omega), Int.ediv_le_self _ (by omega)⟩
  have e6 : wrap64 (2 * P / d) = 2 * P / d := w64 (by omega) (by omega)
  rw [if_neg (by omega), e3, e4, tdiv_nn _ (by omega), e5]
  simp only [Option.bind_some]
  rw [if_neg (by omega), tmod_nn _ (by omega), tdiv_nn _ (by omega), e6, tmod_nn _ (by omega), tmod_nn _ (by omega), w64 (x := (2 * P + d) / (2 * d) - 1) (by omega) (by omega), key.1]
  unfold evn
  by_cases c : 2 * (P % d) = d
  · obtain ⟨a, b⟩ := key.2.mpr c
    have hN1 : (if d ≤ 2 * (P % d) then P / d + 1 else P / d) = P / d + 1 := if_pos (by omega)
    have hlt : ¬ d < 2 * (P % d) := by omega
    rw [if_pos a, if_pos b, hN1, if_neg hlt]
    by_cases h : P / d % 2 = 1
    · have h2 : ¬ (P / d + 1) % 2 = 1 := by omega
      rw [if_neg h2, if_pos ⟨c, h⟩]
    · have h2 : (P / d + 1) % 2 = 1 := by omega
      rw [if_pos h2, if_neg (fun x => h x.2)]
      congr 1
      omega
  · have hr : (if d < 2 * (P % d) then P / d + 1 else if 2 * (P % d) = d ∧ P / d % 2 = 1 then P / d + 1 else P / d) = if d ≤ 2 * (P % d) then P / d + 1 else P / d := by
      by_cases h : d < 2 * (P % d)
      · rw [if_pos h, if_pos (by omega)]
      · rw [if_neg h, if_neg (by omega), if_neg (by omega)]
    rw [hr]
    by_cases a : (2 * P) % d = 0
    · by_cases b : (2 * P / d) % 2 = 1
      · exact absurd (key.2.mp ⟨a, b⟩) c
      · rw [if_pos a, if_neg b]
    · rw [if_neg a]
theorem implPart_in {n p d : Int} (hn : 0 ≤ n) (hn' : n ≤ 1000000) (hp : 0 ≤ p) (hd : 1 ≤ d) (hd' : d ≤ 1000) (hpd : p ≤ d) : impl_validPart.f n p d = some true := by
  unfold impl_validPart.f impl_ValidRate.f
  rw [if_pos hn, if_pos hn', if_pos hd, if_pos hd', if_pos hp, decide_eq_true hpd]
  rfl
theorem implPart_out {n p d : Int} (h : ¬ (0 ≤ n ∧ n ≤ 1000000 ∧ 0 ≤ p ∧ 1 ≤ d ∧ d ≤ 1000 ∧ p ≤ d)) : impl_validPart.f n p d = some false := by
  unfold impl_validPart.f impl_ValidRate.f
  by_cases h1 : n ≥ 0
  · by_cases h2 : n ≤ 1000000
    · by_cases h3 : d ≥ 1
      · by_cases h4 : d ≤ 1000
        · by_cases h5 : p ≥ 0
          · have h6 : ¬ p ≤ d := by omega
            simp [h1, h2, h3, h4, h5, h6]
          · simp [h1, h2, h3, h4, h5]
        · simp [h1, h2, h3, h4]
      · simp [h1, h2, h3]
    · simp [h1, h2]
  · simp [h1]
theorem implEven_is {n p d : Int} (hn : 0 ≤ n) (hn' : n ≤ 1000000) (hp : 0 ≤ p) (hd : 1 ≤ d) (hd' : d ≤ 1000) (hpd : p ≤ d) : impl_RoundEven.f n p d = some (evn (n * p) d) := by
  have hb := part_bd hn (by omega) hp (by omega)
  unfold impl_RoundEven.f
  rw [implPart_in hn hn' hp hd hd' hpd]
  simp only [Option.bind_some, if_true]
  generalize n * p = P at hb ⊢
  have hq : 0 ≤ P / d ∧ P / d ≤ P := ⟨Int.ediv_nonneg hb.1 (by omega), Int.ediv_le_self _ hb.1⟩
  have hr0 := Int.emod_nonneg P (b := d) (by omega)
  have hr1 := Int.emod_lt_of_pos P (b := d) (by omega)
  have e1 : wrap64 P = P := w64 (by omega) (by omega)
  have e2 : wrap64 (2 * (P % d)) = 2 * (P % d) := w64 (by omega) (by omega)
  have e3 : wrap64 (P / d) = P / d := w64 (by omega) (by omega)
  have e4 : wrap64 (P / d + 1) = P / d + 1 := w64 (by omega) (by omega)
  rw [if_neg (by omega), e1, tmod_nn _ hb.1, e2, tdiv_nn _ hb.1, e3, e4, tmod_nn _ hq.1]
  unfold evn
  by_cases c : d < 2 * (P % d)
  · rw [if_pos c, if_pos c]
  · rw [if_neg c, if_neg c]
    by_cases c2 : 2 * (P % d) = d
    · by_cases c3 : P / d % 2 = 1
      · rw [if_pos c2, if_pos c3, if_pos ⟨c2, c3⟩]
      · rw [if_pos c2, if_neg c3, if_neg (by omega)]
    · rw [if_neg c2, if_neg (by omega)]
theorem implEven_out {n p d : Int} (h : ¬ (0 ≤ n ∧ n ≤ 1000000 ∧ 0 ≤ p ∧ 1 ≤ d ∧ d ≤ 1000 ∧ p ≤ d)) : impl_RoundEven.f n p d = some (-1) := by
  unfold impl_RoundEven.f
  rw [implPart_out h]
  simp
theorem specAmount_in {n : Int} (hn : 0 ≤ n) (hn' : n ≤ 1000000) : spec_validAmount.f n = some true := by
  unfold spec_validAmount.f spec_inRange.f
  rw [if_pos hn, decide_eq_true hn']
  rfl
theorem specAmount_out {n : Int} (h : ¬ (0 ≤ n ∧ n ≤ 1000000)) : spec_validAmount.f n = some false := by
  unfold spec_validAmount.f spec_inRange.f
  by_cases h1 : 0 ≤ n
  · have h2 : ¬ n ≤ 1000000 := by omega
    simp [h1, h2]
  · simp [h1]
theorem specRate_in {p d : Int} (hp : 0 ≤ p) (hd : 1 ≤ d) (hd' : d ≤ 1000) (hpd : p ≤ d) : spec_validRate.f p d = some true := by
  unfold spec_validRate.f spec_inRange.f
  rw [if_pos hd, decide_eq_true hd', if_pos hp, decide_eq_true hpd]
  rfl
theorem specRate_out {p d : Int} (h : ¬ (0 ≤ p ∧ 1 ≤ d ∧ d ≤ 1000 ∧ p ≤ d)) : spec_validRate.f p d = some false := by
  unfold spec_validRate.f spec_inRange.f
  by_cases h1 : 1 ≤ d
  · by_cases h2 : d ≤ 1000
    · by_cases h3 : 0 ≤ p
      · have h4 : ¬ p ≤ d := by omega
        simp [h1, h2, h3, h4]
      · simp [h1, h2, h3]
    · simp [h1, h2]
  · simp [h1]
theorem range_in {a lo hi : Int} (h : lo ≤ a) (h' : a ≤ hi) : spec_inRange.f a lo hi = some true := by
  unfold spec_inRange.f
  rw [if_pos h, decide_eq_true h']
theorem range_out {a lo hi : Int} (h : ¬ (lo ≤ a ∧ a ≤ hi)) : spec_inRange.f a lo hi = some false := by
  unfold spec_inRange.f
  by_cases h1 : lo ≤ a
  · rw [if_pos h1, decide_eq_false (by omega)]
  · rw [if_neg h1]

/-- paid back in m periods, as the reference reckons -/
def sp (p d y : Int) : Nat → Int → Bool
  | 0, n => decide (n ≤ 0)
  | m + 1, n => if 0 < n then (if n + evn (n * p) d - y > 2000000 then false else sp p d y m (n + evn (n * p) d - y)) else true
theorem sp_low (p d y : Int) : ∀ (m : Nat) (n : Int), n ≤ 0 → sp p d y m n = true
  | 0, n => fun h => by unfold sp; exact decide_eq_true h
  | m + 1, n => fun h => by unfold sp; rw [if_neg (by omega)]
theorem sp_high {p d y n : Int} (hp : 0 ≤ p) (hd : 1 ≤ d) (hn : 0 < n) (hg : n ≤ n + evn (n * p) d - y) : ∀ (m : Nat) (z : Int), n ≤ z → sp p d y m z = false
  | 0, z => fun h => by unfold sp; exact decide_eq_false (by omega)
  | m + 1, z => fun h => by
    have hm : evn (n * p) d ≤ evn (z * p) d := evn_mono (by omega) (Int.mul_le_mul_of_nonneg_right h hp)
    unfold sp
    rw [if_pos (by omega)]
    by_cases c : z + evn (z * p) d - y > 2000000
    · rw [if_pos c]
    · rw [if_neg c]
      exact sp_high hp hd hn hg m _ (by omega)
theorem specPaid_l0 {p d y : Int} (hp : 0 ≤ p) (hd : 1 ≤ d) (hd' : d ≤ 1000) (hpd : p ≤ d) (hy : 0 ≤ y) (hy' : y ≤ 2000000) (P : Nat) (hP : P ≤ 60) : ∀ (m k i : Nat) (n : Int), P - i = m → 2 * m + 2 ≤ k → i ≤ P → -4000000 ≤ n → n ≤ 2000000 → spec_paidIn.l0 k n y (P : Int) (i : Int) p d = some (sp p d y m n) := by
  intro m
  induction m with
  | zero =>
    intro k i n hm hk hi h0 h1
    obtain ⟨k, rfl⟩ : ∃ j, k = j + 1 + 1 := ⟨k - 2, by omega⟩
    simp only [spec_paidIn.l0]
    rw [if_neg (by omega)]
    simp [spec_paidIn.j1, sp]
  | succ m ih =>
    intro k i n hm hk hi h0 h1
    obtain ⟨k, rfl⟩ : ∃ j, k = j + 1 + 1 := ⟨k - 2, by omega⟩
    have e : wrap64 ((i : Int) + 1) = ((i + 1 : Nat) : Int) := by rw [w64 (by omega) (by omega)]; simp
    simp only [spec_paidIn.l0]
    rw [if_pos (by omega)]
    by_cases c : n > 0
    · have hb := evn_part (n := n) (p := p) (d := d) (by omega) hp (by omega) hpd
      have hstep := ih k (i + 1) (n + evn (n * p) d - y) (by omega) (by omega) (by omega)
      rw [decide_eq_true c]
      simp only [spec_paidIn.j1]
      rw [if_pos trivial, specEven_is (by omega) (by omega) hp hd hd' hpd, e]
      clear e
      simp only [Option.bind_some]
      unfold sp
      rw [if_pos (c := 0 < n) (by omega)]
      generalize evn (n * p) d = g at hb hstep ⊢
      rw [w64 (x := n + g) (by omega) (by omega), w64 (x := n + g - y) (by omega) (by omega)]
      by_cases c2 : n + g - y > 2000000
      · rw [if_pos c2, if_pos c2]
      · rw [if_neg c2, if_neg c2]
        exact hstep (by omega) (by omega)
    · rw [decide_eq_false c, sp_low p d y (m + 1) n (by omega)]
      simp only [spec_paidIn.j1]
      rw [if_neg (by simp), decide_eq_true (by omega)]
theorem mx0 (x : Int) : mx x 0 = if x ≤ 0 then 0 else x := by
  unfold mx
  split <;> split <;> omega
theorem implPaid_l0 {p d y : Int} (hp : 0 ≤ p) (hd : 1 ≤ d) (hd' : d ≤ 1000) (hpd : p ≤ d) (hy : 0 ≤ y) (hy' : y ≤ 2000000) (P : Nat) (hP : P ≤ 60) : ∀ (m k i : Nat) (n : Int), P - i = m → m + 1 ≤ k → i ≤ P → 0 ≤ n → n ≤ 1000000 → impl_paidIn.l0 k n y (P : Int) (i : Int) p d = some (sp p d y m n) := by
  intro m
  induction m with
  | zero =>
    intro k i n hm hk hi h0 h1
    obtain ⟨k, rfl⟩ : ∃ j, k = j + 1 := ⟨k - 1, by omega⟩
    simp only [impl_paidIn.l0]
    rw [if_neg (by omega)]
    unfold sp
    by_cases c : n = 0
    · rw [c]
      simp
    · rw [decide_eq_false (by omega), beq_eq_false_iff_ne.mpr c]
  | succ m ih =>
    intro k i n hm hk hi h0 h1
    obtain ⟨k, rfl⟩ : ∃ j, k = j + 1 := ⟨k - 1, by omega⟩
    have e : wrap64 ((i : Int) + 1) = ((i + 1 : Nat) : Int) := by rw [w64 (by omega) (by omega)]; simp
    simp only [impl_paidIn.l0]
    rw [if_pos (by omega), e]
    clear e
    by_cases c : n = 0
    · rw [if_pos c, sp_low p d y (m + 1) n (by omega)]
    · have hb := evn_part (n := n) (p := p) (d := d) h0 hp (by omega) hpd
      have hstep0 := ih k (i + 1) 0 (by omega) (by omega) (by omega) (by omega) (by omega)
      have hstep := ih k (i + 1) (n + evn (n * p) d - y) (by omega) (by omega) (by omega)
      have hhigh := sp_high (p := p) (d := d) (y := y) (n := n) hp hd (by omega)
      have hlow := sp_low p d y m
      rw [if_neg c, implEven_is h0 h1 hp hd hd' hpd]
      simp only [Option.bind_some]
      unfold sp
      rw [if_pos (c := 0 < n) (by omega)]
      generalize evn (n * p) d = g at hb hstep hhigh ⊢
      rw [w64 (x := n + g) (by omega) (by omega), w64 (x := n + g - y) (by omega) (by omega), mx0, if_neg (c := n + g - y > 2000000) (by omega)]
      by_cases c2 : n + g - y ≤ 0
      · rw [if_pos c2, if_neg (by omega), hstep0, hlow 0 (by omega), hlow _ c2]
      · rw [if_neg c2]
        by_cases c3 : n + g - y ≥ n
        · rw [if_pos c3, hhigh c3 m _ c3]
        · rw [if_neg c3]
          exact hstep (by omega) (by omega)
theorem both {n p d P : Int} (hn : 0 ≤ n) (hn' : n ≤ 1000000) (hp : 0 ≤ p) (hd : 1 ≤ d) (hd' : d ≤ 1000) (hpd : p ≤ d) (hP : 1 ≤ P) (hP' : P ≤ 60) : ∀ (m k : Nat) (lo hi : Int), m + 140 ≤ k → 0 ≤ lo → lo ≤ hi → hi ≤ 2000000 → hi - lo < ((2 ^ m : Nat) : Int) →
    ∃ r, spec_LeastPay.l0 k n P lo hi p d = some r ∧ impl_LeastPay.l0 k n P lo hi p d = some r := by
  intro m
  induction m with
  | zero =>
    intro k lo hi hk h0 h1 h2 h3
    obtain ⟨k, rfl⟩ : ∃ j, k = j + 1 := ⟨k - 1, by omega⟩
    have h4 : ¬ lo < hi := by simp at h3; omega
    refine ⟨lo, ?_, ?_⟩
    · simp only [spec_LeastPay.l0]
      rw [if_neg h4]
    · simp only [impl_LeastPay.l0]
      rw [if_neg h4]
  | succ m ih =>
    intro k lo hi hk h0 h1 h2 h3
    obtain ⟨k, rfl⟩ : ∃ j, k = j + 1 := ⟨k - 1, by omega⟩
    by_cases h4 : lo < hi
    · have e1 : wrap64 (lo + hi) = lo + hi := w64 (by omega) (by omega)
      have e2 : wrap64 (Int.tdiv (lo + hi) 2) = (lo + hi) / 2 := by rw [tdiv_nn _ (by omega), w64 (by omega) (by omega)]
      have e3 : wrap64 ((lo + hi) / 2 + 1) = (lo + hi) / 2 + 1 := w64 (by omega) (by omega)
      have eP : ((P.toNat : Nat) : Int) = P := by omega
      have hs := specPaid_l0 (y := (lo + hi) / 2) hp hd hd' hpd (by omega) (by omega) P.toNat (by omega) P.toNat k 0 n (by omega) (by omega) (by omega) (by omega) (by omega)
      have hi' := implPaid_l0 (y := (lo + hi) / 2) hp hd hd' hpd (by omega) (by omega) P.toNat (by omega) P.toNat k 0 n (by omega) (by omega) (by omega) (by omega) (by omega)
      rw [eP, Int.natCast_zero] at hs hi'
      rw [Nat.pow_succ] at h3
      simp only [spec_LeastPay.l0, impl_LeastPay.l0]
      rw [if_pos h4, if_pos h4, e1, e2, e3]
      unfold spec_paidIn.f impl_paidIn.f
      rw [hs, hi']
      simp only [Option.bind_some]
      cases sp p d ((lo + hi) / 2) P.toNat n with
      | true =>
        obtain ⟨r, a, b⟩ := ih k lo ((lo + hi) / 2) (by omega) (by omega) (by omega) (by omega) (by push_cast at h3 ⊢; omega)
        exact ⟨r, by rw [if_pos rfl, a], by rw [if_pos rfl, b]⟩
      | false =>
        obtain ⟨r, a, b⟩ := ih k ((lo + hi) / 2 + 1) hi (by omega) (by omega) (by omega) (by omega) (by push_cast at h3 ⊢; omega)
        exact ⟨r, by rw [if_neg (by simp), a], by rw [if_neg (by simp), b]⟩
    · refine ⟨lo, ?_, ?_⟩
      · simp only [spec_LeastPay.l0]
        rw [if_neg h4]
      · simp only [impl_LeastPay.l0]
        rw [if_neg h4]

theorem pow21 : (2000000 : Int) - 0 < ((2 ^ 21 : Nat) : Int) := by
  rw [show (2 ^ 21 : Nat) = 2097152 from rfl]
  omega

theorem answers (n p d P : Int) {k : Nat} (hk : 190 ≤ k) : ∃ r, spec_LeastPay.f k n p d P = some r ∧ impl_LeastPay.f k n p d P = some r := by
  obtain ⟨k, rfl⟩ : ∃ j, k = j + 1 := ⟨k - 1, by omega⟩
  unfold spec_LeastPay.f impl_LeastPay.f
  by_cases h : 0 ≤ n ∧ n ≤ 1000000 ∧ 0 ≤ p ∧ 1 ≤ d ∧ d ≤ 1000 ∧ p ≤ d
  · obtain ⟨h1, h2, h3, h4, h5, h6⟩ := h
    rw [specAmount_in h1 h2, specRate_in h3 h4 h5 h6, implPart_in h1 h2 h3 h4 h5 h6]
    simp only [Option.bind_some, if_true]
    by_cases c : 1 ≤ P ∧ P ≤ 60
    · obtain ⟨r, a, b⟩ := both h1 h2 h3 h4 h5 h6 c.1 c.2 21 k 0 2000000 (by omega) (by omega) (by omega) (by omega) pow21
      rw [range_in c.1 c.2, if_neg (by omega), decide_eq_false (by omega)]
      simp only [Option.bind_some, spec_LeastPay.j0, impl_LeastPay.j0, Bool.not_true]
      rw [if_neg (by simp), if_neg (by simp)]
      exact ⟨r, a, b⟩
    · rw [range_out c]
      refine ⟨-1, by simp [spec_LeastPay.j0], ?_⟩
      by_cases c2 : P < 1
      · rw [if_pos c2]
        simp [impl_LeastPay.j0]
      · rw [if_neg c2, decide_eq_true (by omega)]
        simp [impl_LeastPay.j0]
  · rw [implPart_out h]
    refine ⟨-1, ?_, by simp [impl_LeastPay.j0]⟩
    by_cases c : 0 ≤ n ∧ n ≤ 1000000
    · rw [specAmount_in c.1 c.2, specRate_out (by omega)]
      simp [spec_LeastPay.j0]
    · rw [specAmount_out c]
      simp [spec_LeastPay.j0]

theorem FnExactLeastPay (n p d P : Int) (_ : (Lit.int .i64 n).wf = true) (_ : (Lit.int .i64 p).wf = true) (_ : (Lit.int .i64 d).wf = true) (_ : (Lit.int .i64 P).wf = true) : ∃ k, laws_FnExactLeastPay.f k n p d P = some true := by
  obtain ⟨r, a, b⟩ := answers n p d P (k := 200) (by omega)
  refine ⟨200, ?_⟩
  simp only [laws_FnExactLeastPay.f, laws_toRate.f, Option.bind_some]
  rw [a, b]
  simp only [Option.bind_some, if_true]

end Go.Proofs.Ytgdnhidnojjpiac.Pure
