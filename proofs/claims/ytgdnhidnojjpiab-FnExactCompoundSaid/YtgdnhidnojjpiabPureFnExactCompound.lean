/- The law FnExactCompound, on plain values, holds: the program's Compound is the reference's. For all 64-bit integers and all rates of 64-bit integers. -/
import Derived.Test.YtgdnhidnojjpiabKit
import Derived.Test.YtgdnhidnojjpiabPFnExactCompoundx1
namespace Go.Proofs.Ytgdnhidnojjpiab.Pure
open Go.RowKit Go.Proofs.Ytgdnhidnojjpiab.PFnExactCompound Go.Proofs.Ytgdnhidnojjpiab.Kit Go.Proofs.YtgdnhidnojjpiabW.PrintWords

theorem specEven_is {n p d : Int} (hn : 0 ≤ n) (hn' : n ≤ 4000000) (hp : 0 ≤ p) (hd : 1 ≤ d) (hd' : d ≤ 1000) (hpd : p ≤ d) : spec_even.f n p d = some (evn (n * p) d) := by
  have hb := part_bd hn hn' hp (by omega)
  have e0 : wrap64 (2 * d) = 2 * d := w64 (by omega) (by omega)
  have e1 : wrap64 (2 * n) = 2 * n := w64 (by omega) (by omega)
  have e2 : 2 * n * p = 2 * (n * p) := by grind
  unfold spec_even.f spec_near.f
  rw [e0, e1, e2]
  generalize n * p = P at hb ⊢
  have hq : 0 ≤ P / d ∧ P / d ≤ P := ⟨Int.ediv_nonneg hb.1 (by omega), Int.ediv_le_self _ hb.1⟩
  have key := even_key (P := P) (D := d) (by omega)
  have hr0 := Int.emod_nonneg P (b := d) (by omega)
  have e3 : wrap64 (2 * P) = 2 * P := w64 (by omega) (by omega)
  have e4 : wrap64 (2 * P + d) = 2 * P + d := w64 (by omega) (by omega)
  have hN : 0 ≤ (2 * P + d) / (2 * d) ∧ (2 * P + d) / (2 * d) ≤ 5000000000 := by
    rw [key.1]; split <;> omega
  have e5 : wrap64 ((2 * P + d) / (2 * d)) = (2 * P + d) / (2 * d) := w64 (by omega) (by omega)
  have hM : 0 ≤ 2 * P / d ∧ 2 * P / d ≤ 2 * P := ⟨Int.ediv_nonneg (by omega) (by omega), Int.ediv_le_self _ (by omega)⟩
  have e6 : wrap64 (2 * P / d) = 2 * P / d := w64 (by omega) (by omega)
  rw [if_neg (by omega), e3, e4, tdiv_nn _ (by omega), e5]
  simp only [Option.bind_some]
  rw [if_neg (by omega), tmod_nn _ (by omega), tdiv_nn _ (by omega), e6, tmod_nn _ (by omega), tmod_nn _ (by omega), w64 (x := (2 * P + d) / (2 * d) - 1) (by omega) (by omega), key.1]
  unfold evn
  by_cases c : 2 * (P % d) = d
  · obtain ⟨a, b⟩ := key.2.mpr c
    have hN1 : (if d ≤ 2 * (P % d) then P / d + 1 else P / d) = P / d + 1 := if_pos (by omega)
    have hlt : ¬ d < 2 * (P % d) := by omega
    rw [if_pos a, if_pos b, hN1, if_neg hlt]
    by_cases h : P / d % 2 = 1
    · have h2 : ¬ (P / d + 1) % 2 = 1 := by omega
      rw [if_neg h2, if_pos ⟨c, h⟩]
    · have h2 : (P / d + 1) % 2 = 1 := by omega
      rw [if_pos h2, if_neg (fun x => h x.2)]
      congr 1
      omega
  · have hr : (if d < 2 * (P % d) then P / d + 1 else if 2 * (P % d) = d ∧ P / d % 2 = 1 then P / d + 1 else P / d) = if d ≤ 2 * (P % d) then P / d + 1 else P / d := by
      by_cases h : d < 2 * (P % d)
      · rw [if_pos h, if_pos (by omega)]
      · rw [if_neg h, if_neg (by omega), if_neg (by omega)]
    rw [hr]
    by_cases a : (2 * P) % d = 0
    · by_cases b : (2 * P / d) % 2 = 1
      · exact absurd (key.2.mp ⟨a, b⟩) c
      · rw [if_pos a, if_neg b]
    · rw [if_neg a]
theorem implPart_in {n p d : Int} (hn : 0 ≤ n) (hn' : n ≤ 1000000) (hp : 0 ≤ p) (hd : 1 ≤ d) (hd' : d ≤ 1000) (hpd : p ≤ d) : impl_validPart.f n p d = some true := by
  unfold impl_validPart.f impl_ValidRate.f
  rw [if_pos hn, if_pos hn', if_pos hd, if_pos hd', if_pos hp, decide_eq_true hpd]
  rfl
theorem implPart_out {n p d : Int} (h : ¬ (0 ≤ n ∧ n ≤ 1000000 ∧ 0 ≤ p ∧ 1 ≤ d ∧ d ≤ 1000 ∧ p ≤ d)) : impl_validPart.f n p d = some false := by
  unfold impl_validPart.f impl_ValidRate.f
  by_cases h1 : n ≥ 0
  · by_cases h2 : n ≤ 1000000
    · by_cases h3 : d ≥ 1
      · by_cases h4 : d ≤ 1000
        · by_cases h5 : p ≥ 0
          · have h6 : ¬ p ≤ d := by omega
            simp [h1, h2, h3, h4, h5, h6]
          · simp [h1, h2, h3, h4, h5]
        · simp [h1, h2, h3, h4]
      · simp [h1, h2, h3]
    · simp [h1, h2]
  · simp [h1]
theorem implEven_is {n p d : Int} (hn : 0 ≤ n) (hn' : n ≤ 1000000) (hp : 0 ≤ p) (hd : 1 ≤ d) (hd' : d ≤ 1000) (hpd : p ≤ d) : impl_RoundEven.f n p d = some (evn (n * p) d) := by
  have hb := part_bd hn (by omega) hp (by omega)
  unfold impl_RoundEven.f
  rw [implPart_in hn hn' hp hd hd' hpd]
  simp only [Option.bind_some, if_true]
  generalize n * p = P at hb ⊢
  have hq : 0 ≤ P / d ∧ P / d ≤ P := ⟨Int.ediv_nonneg hb.1 (by omega), Int.ediv_le_self _ hb.1⟩
  have hr0 := Int.emod_nonneg P (b := d) (by omega)
  have hr1 := Int.emod_lt_of_pos P (b := d) (by omega)
  have e1 : wrap64 P = P := w64 (by omega) (by omega)
  have e2 : wrap64 (2 * (P % d)) = 2 * (P % d) := w64 (by omega) (by omega)
  have e3 : wrap64 (P / d) = P / d := w64 (by omega) (by omega)
  have e4 : wrap64 (P / d + 1) = P / d + 1 := w64 (by omega) (by omega)
  rw [if_neg (by omega), e1, tmod_nn _ hb.1, e2, tdiv_nn _ hb.1, e3, e4, tmod_nn _ hq.1]
  unfold evn
  by_cases c : d < 2 * (P % d)
  · rw [if_pos c, if_pos c]
  · rw [if_neg c, if_neg c]
    by_cases c2 : 2 * (P % d) = d
    · by_cases c3 : P / d % 2 = 1
      · rw [if_pos c2, if_pos c3, if_pos ⟨c2, c3⟩]
      · rw [if_pos c2, if_neg c3, if_neg (by omega)]
    · rw [if_neg c2, if_neg (by omega)]
theorem implEven_out {n p d : Int} (h : ¬ (0 ≤ n ∧ n ≤ 1000000 ∧ 0 ≤ p ∧ 1 ≤ d ∧ d ≤ 1000 ∧ p ≤ d)) : impl_RoundEven.f n p d = some (-1) := by
  unfold impl_RoundEven.f
  rw [implPart_out h]
  simp
theorem specAmount_in {n : Int} (hn : 0 ≤ n) (hn' : n ≤ 1000000) : spec_validAmount.f n = some true := by
  unfold spec_validAmount.f spec_inRange.f
  rw [if_pos hn, decide_eq_true hn']
  rfl
theorem specAmount_out {n : Int} (h : ¬ (0 ≤ n ∧ n ≤ 1000000)) : spec_validAmount.f n = some false := by
  unfold spec_validAmount.f spec_inRange.f
  by_cases h1 : 0 ≤ n
  · have h2 : ¬ n ≤ 1000000 := by omega
    simp [h1, h2]
  · simp [h1]
theorem specRate_in {p d : Int} (hp : 0 ≤ p) (hd : 1 ≤ d) (hd' : d ≤ 1000) (hpd : p ≤ d) : spec_validRate.f p d = some true := by
  unfold spec_validRate.f spec_inRange.f
  rw [if_pos hd, decide_eq_true hd', if_pos hp, decide_eq_true hpd]
  rfl
theorem specRate_out {p d : Int} (h : ¬ (0 ≤ p ∧ 1 ≤ d ∧ d ≤ 1000 ∧ p ≤ d)) : spec_validRate.f p d = some false := by
  unfold spec_validRate.f spec_inRange.f
  by_cases h1 : 1 ≤ d
  · by_cases h2 : d ≤ 1000
    · by_cases h3 : 0 ≤ p
      · have h4 : ¬ p ≤ d := by omega
        simp [h1, h2, h3, h4]
      · simp [h1, h2, h3]
    · simp [h1, h2]
  · simp [h1]
theorem range_in {a lo hi : Int} (h : lo ≤ a) (h' : a ≤ hi) : spec_inRange.f a lo hi = some true := by
  unfold spec_inRange.f
  rw [if_pos h, decide_eq_true h']
theorem range_out {a lo hi : Int} (h : ¬ (lo ≤ a ∧ a ≤ hi)) : spec_inRange.f a lo hi = some false := by
  unfold spec_inRange.f
  by_cases h1 : lo ≤ a
  · rw [if_pos h1, decide_eq_false (by omega)]
  · rw [if_neg h1]
/-- what an amount grows to in some periods, -1 if it is too much after one of them -/
def grw (p d : Int) : Nat → Int → Int
  | 0, n => n
  | m + 1, n => if n + evn (n * p) d > 1000000 then -1 else grw p d m (n + evn (n * p) d)
theorem specGrow_l0 {p d : Int} (hp : 0 ≤ p) (hd : 1 ≤ d) (hd' : d ≤ 1000) (hpd : p ≤ d) (P : Nat) (hP : P ≤ 60) : ∀ (m k i : Nat) (n : Int), P - i = m → m < k → i ≤ P → 0 ≤ n → n ≤ 1000000 → spec_grow.l0 k n (P : Int) (i : Int) p d = some (grw p d m n) := by
  intro m
  induction m with
  | zero =>
    intro k i n hm hk hi h0 h1
    obtain ⟨k, rfl⟩ : ∃ j, k = j + 1 := ⟨k - 1, by omega⟩
    simp only [spec_grow.l0]
    rw [if_neg (by omega)]
    rfl
  | succ m ih =>
    intro k i n hm hk hi h0 h1
    obtain ⟨k, rfl⟩ : ∃ j, k = j + 1 := ⟨k - 1, by omega⟩
    have hb := evn_part (n := n) (p := p) (d := d) h0 hp (by omega) hpd
    have e : wrap64 ((i : Int) + 1) = ((i + 1 : Nat) : Int) := by rw [w64 (by omega) (by omega)]; simp
    have hstep := ih k (i + 1) (n + evn (n * p) d) (by omega) (by omega) (by omega) (by omega)
    simp only [spec_grow.l0]
    rw [e, if_pos (by omega), specEven_is h0 (by omega) hp hd hd' hpd]
    simp only [Option.bind_some]
    unfold grw
    generalize evn (n * p) d = g at hb hstep ⊢
    rw [w64 (x := n + g) (by omega) (by omega)]
    by_cases c : n + g > 1000000
    · rw [if_pos c, if_pos c]
    · rw [if_neg c, if_neg c]
      exact hstep (by omega)
theorem implGrow_l0 {p d : Int} (hp : 0 ≤ p) (hd : 1 ≤ d) (hd' : d ≤ 1000) (hpd : p ≤ d) (P : Nat) (hP : P ≤ 60) : ∀ (m k i : Nat) (n : Int), P - i = m → m < k → i ≤ P → 0 ≤ n → n ≤ 1000000 → impl_Compound.l0 k n (P : Int) (i : Int) p d = some (grw p d m n) := by
  intro m
  induction m with
  | zero =>
    intro k i n hm hk hi h0 h1
    obtain ⟨k, rfl⟩ : ∃ j, k = j + 1 := ⟨k - 1, by omega⟩
    simp only [impl_Compound.l0]
    rw [if_neg (by omega)]
    rfl
  | succ m ih =>
    intro k i n hm hk hi h0 h1
    obtain ⟨k, rfl⟩ : ∃ j, k = j + 1 := ⟨k - 1, by omega⟩
    have hb := evn_part (n := n) (p := p) (d := d) h0 hp (by omega) hpd
    have e : wrap64 ((i : Int) + 1) = ((i + 1 : Nat) : Int) := by rw [w64 (by omega) (by omega)]; simp
    have hstep := ih k (i + 1) (n + evn (n * p) d) (by omega) (by omega) (by omega) (by omega)
    simp only [impl_Compound.l0]
    rw [e, if_pos (by omega), implEven_is h0 h1 hp hd hd' hpd]
    simp only [Option.bind_some]
    unfold grw
    generalize evn (n * p) d = g at hb hstep ⊢
    rw [w64 (x := n + g) (by omega) (by omega)]
    by_cases c : n + g > 1000000
    · rw [if_pos c, if_pos c]
    · rw [if_neg c, if_neg c]
      exact hstep (by omega)
theorem specCompound_in {n p d P : Int} (hn : 0 ≤ n) (hn' : n ≤ 1000000) (hp : 0 ≤ p) (hd : 1 ≤ d) (hd' : d ≤ 1000) (hpd : p ≤ d) (h0 : 0 ≤ P) (h1 : P ≤ 60) {k : Nat} (hk : 70 ≤ k) : spec_Compound.f k n p d P = some (grw p d P.toNat n) := by
  unfold spec_Compound.f
  rw [specAmount_in hn hn', specRate_in hp hd hd' hpd]
  simp only [Option.bind_some, if_true]
  rw [range_in h0 h1]
  simp only [Option.bind_some, if_true]
  unfold spec_grow.f
  have h := specGrow_l0 hp hd hd' hpd P.toNat (by omega) P.toNat k 0 n (by omega) (by omega) (by omega) hn hn'
  have e : ((P.toNat : Nat) : Int) = P := by omega
  rw [e, Int.natCast_zero] at h
  rw [h]
  rfl
theorem specCompound_out {n p d P : Int} (h : ¬ (0 ≤ n ∧ n ≤ 1000000 ∧ 0 ≤ p ∧ 1 ≤ d ∧ d ≤ 1000 ∧ p ≤ d ∧ 0 ≤ P ∧ P ≤ 60)) (k : Nat) : spec_Compound.f k n p d P = some (-1) := by
  unfold spec_Compound.f
  by_cases c : 0 ≤ n ∧ n ≤ 1000000
  · by_cases c2 : 0 ≤ p ∧ 1 ≤ d ∧ d ≤ 1000 ∧ p ≤ d
    · rw [specAmount_in c.1 c.2, specRate_in c2.1 c2.2.1 c2.2.2.1 c2.2.2.2]
      simp only [Option.bind_some, if_true]
      rw [range_out (by omega)]
      simp
    · rw [specAmount_in c.1 c.2, specRate_out c2]
      simp
  · rw [specAmount_out c]
    simp
theorem implCompound_in {n p d P : Int} (hn : 0 ≤ n) (hn' : n ≤ 1000000) (hp : 0 ≤ p) (hd : 1 ≤ d) (hd' : d ≤ 1000) (hpd : p ≤ d) (h0 : 0 ≤ P) (h1 : P ≤ 60) {k : Nat} (hk : 70 ≤ k) : impl_Compound.f k n p d P = some (grw p d P.toNat n) := by
  obtain ⟨k, rfl⟩ : ∃ j, k = j + 1 := ⟨k - 1, by omega⟩
  unfold impl_Compound.f
  rw [implPart_in hn hn' hp hd hd' hpd]
  simp only [Option.bind_some, if_true]
  rw [if_neg (by omega), decide_eq_false (by omega)]
  simp only [impl_Compound.j0]
  rw [if_neg (by simp)]
  have h := implGrow_l0 hp hd hd' hpd P.toNat (by omega) P.toNat k 0 n (by omega) (by omega) (by omega) hn hn'
  have e : ((P.toNat : Nat) : Int) = P := by omega
  rw [e, Int.natCast_zero] at h
  exact h
theorem implCompound_out {n p d P : Int} (h : ¬ (0 ≤ n ∧ n ≤ 1000000 ∧ 0 ≤ p ∧ 1 ≤ d ∧ d ≤ 1000 ∧ p ≤ d ∧ 0 ≤ P ∧ P ≤ 60)) {k : Nat} (hk : 1 ≤ k) : impl_Compound.f k n p d P = some (-1) := by
  obtain ⟨k, rfl⟩ : ∃ j, k = j + 1 := ⟨k - 1, by omega⟩
  unfold impl_Compound.f
  by_cases c : 0 ≤ n ∧ n ≤ 1000000 ∧ 0 ≤ p ∧ 1 ≤ d ∧ d ≤ 1000 ∧ p ≤ d
  · rw [implPart_in c.1 c.2.1 c.2.2.1 c.2.2.2.1 c.2.2.2.2.1 c.2.2.2.2.2]
    simp only [Option.bind_some, if_true]
    by_cases c2 : P < 0
    · rw [if_pos c2]
      simp [impl_Compound.j0]
    · rw [if_neg c2, decide_eq_true (by omega)]
      simp [impl_Compound.j0]
  · rw [implPart_out c]
    simp [impl_Compound.j0]

theorem FnExactCompound (n p d P : Int) (_ : (Lit.int .i64 n).wf = true) (_ : (Lit.int .i64 p).wf = true) (_ : (Lit.int .i64 d).wf = true) (_ : (Lit.int .i64 P).wf = true) : ∃ k, laws_FnExactCompound.f k n p d P = some true := by
  refine ⟨80, ?_⟩
  simp only [laws_FnExactCompound.f, laws_toRate.f, Option.bind_some]
  by_cases h : 0 ≤ n ∧ n ≤ 1000000 ∧ 0 ≤ p ∧ 1 ≤ d ∧ d ≤ 1000 ∧ p ≤ d ∧ 0 ≤ P ∧ P ≤ 60
  · obtain ⟨h1, h2, h3, h4, h5, h6, h7, h8⟩ := h
    rw [specCompound_in h1 h2 h3 h4 h5 h6 h7 h8 (by omega), implCompound_in h1 h2 h3 h4 h5 h6 h7 h8 (by omega)]
    simp
  · rw [specCompound_out h 80, implCompound_out h (by omega)]
    simp

end Go.Proofs.Ytgdnhidnojjpiab.Pure
