/- The law FnExactInterestOf, on plain values, holds: the program's InterestOf is the reference's. For all 64-bit integers and all rates of 64-bit integers. -/
import Derived.Test.YtgdnhidnojjpiadKit
import Derived.Test.YtgdnhidnojjpiadPFnExactInterestOfx2
namespace Go.Proofs.Ytgdnhidnojjpiad.Pure
open Go.RowKit Go.Proofs.Ytgdnhidnojjpiad.PFnExactInterestOf Go.Proofs.Ytgdnhidnojjpiad.Kit Go.Proofs.YtgdnhidnojjpiadW.PrintWords

theorem specEven_is {n p d : Int} (hn : 0 ≤ n) (hn' : n ≤ 4000000) (hp : 0 ≤ p) (hd : 1 ≤ d) (hd' : d ≤ 1000) (hpd : p ≤ d) : spec_even.f n p d = some (evn (n * p) d) := by
  have hb := part_bd hn hn' hp (by omega)
  have e0 : wrap64 (2 * d) = 2 * d := w64 (by omega) (by omega)
  have e1 : wrap64 (2 * n) = 2 * n := w64 (by omega) (by omega)
  have e2 : 2 * n * p = 2 * (n * p) := by grind
  unfold spec_even.f spec_near.f
  rw [e0, e1, e2]
  generalize n * p = P at hb ⊢
  have hq : 0 ≤ P / d ∧ P / d ≤ P := ⟨Int.ediv_nonneg hb.1 (by omega), Int.ediv_le_self _ hb.1⟩
  have key := even_key (P := P) (D := d) (by omega)
  have hr0 := Int.emod_nonneg P (b := d) (by omega)
  have e3 : wrap64 (2 * P) = 2 * P := w64 (by omega) (by omega)
  have e4 : wrap64 (2 * P + d) = 2 * P + d := w64 (by omega) (by omega)
  have hN : 0 ≤ (2 * P + d) / (2 * d) ∧ (2 * P + d) / (2 * d) ≤ 5000000000 := by
    rw [key.1]; split <;> omega
  have e5 : wrap64 ((2 * P + d) / (2 * d)) = (2 * P + d) / (2 * d) := w64 (by omega) (by omega)
  have hM : 0 ≤ 2 * P / d ∧ 2 * P / d ≤ 2 * P := ⟨Int.ediv_nonneg (by omega) (by omega), Int.ediv_le_self _ (by omega)⟩
  have e6 : wrap64 (2 * P / d) = 2 * P / d := w64 (by omega) (by omega)
  rw [if_neg (by omega), e3, e4, tdiv_nn _ (by omega), e5]
  simp only [Option.bind_some]
  rw [if_neg (by omega), tmod_nn _ (by omega), tdiv_nn _ (by omega), e6, tmod_nn _ (by omega), tmod_nn _ (by omega), w64 (x := (2 * P + d) / (2 * d) - 1) (by omega) (by omega), key.1]
  unfold evn
  by_cases c : 2 * (P % d) = d
  · obtain ⟨a, b⟩ := key.2.mpr c
    have hN1 : (if d ≤ 2 * (P % d) then P / d + 1 else P / d) = P / d + 1 := if_pos (by omega)
    have hlt : ¬ d < 2 * (P % d) := by omega
    rw [if_pos a, if_pos b, hN1, if_neg hlt]
    by_cases h : P / d % 2 = 1
    · have h2 : ¬ (P / d + 1) % 2 = 1 := by omega
      rw [if_neg h2, if_pos ⟨c, h⟩]
    · have h2 : (P / d + 1) % 2 = 1 := by omega
      rw [if_pos h2, if_neg (fun x => h x.2)]
      congr 1
      omega
  · have hr : (if d < 2 * (P % d) then P / d + 1 else if 2 * (P % d) = d ∧ P / d % 2 = 1 then P / d + 1 else P / d) = if d ≤ 2 * (P % d) then P / d + 1 else P / d := by
      by_cases h : d < 2 * (P % d)
      · rw [if_pos h, if_pos (by omega)]
      · rw [if_neg h, if_neg (by omega), if_neg (by omega)]
    rw [hr]
    by_cases a : (2 * P) % d = 0
    · by_cases b : (2 * P / d) % 2 = 1
      · exact absurd (key.2.mp ⟨a, b⟩) c
      · rw [if_pos a, if_neg b]
    · rw [if_neg a]
theorem implPart_in {n p d : Int} (hn : 0 ≤ n) (hn' : n ≤ 1000000) (hp : 0 ≤ p) (hd : 1 ≤ d) (hd' : d ≤ 1000) (hpd : p ≤ d) : impl_validPart.f n p d = some true := by
  unfold impl_validPart.f impl_ValidRate.f
  rw [if_pos hn, if_pos hn', if_pos hd, if_pos hd', if_pos hp, decide_eq_true hpd]
  rfl
theorem implPart_out {n p d : Int} (h : ¬ (0 ≤ n ∧ n ≤ 1000000 ∧ 0 ≤ p ∧ 1 ≤ d ∧ d ≤ 1000 ∧ p ≤ d)) : impl_validPart.f n p d = some false := by
  unfold impl_validPart.f impl_ValidRate.f
  by_cases h1 : n ≥ 0
  · by_cases h2 : n ≤ 1000000
    · by_cases h3 : d ≥ 1
      · by_cases h4 : d ≤ 1000
        · by_cases h5 : p ≥ 0
          · have h6 : ¬ p ≤ d := by omega
            simp [h1, h2, h3, h4, h5, h6]
          · simp [h1, h2, h3, h4, h5]
        · simp [h1, h2, h3, h4]
      · simp [h1, h2, h3]
    · simp [h1, h2]
  · simp [h1]
theorem implEven_is {n p d : Int} (hn : 0 ≤ n) (hn' : n ≤ 1000000) (hp : 0 ≤ p) (hd : 1 ≤ d) (hd' : d ≤ 1000) (hpd : p ≤ d) : impl_RoundEven.f n p d = some (evn (n * p) d) := by
  have hb := part_bd hn (by omega) hp (by omega)
  unfold impl_RoundEven.f
  rw [implPart_in hn hn' hp hd hd' hpd]
  simp only [Option.bind_some, if_true]
  generalize n * p = P at hb ⊢
  have hq : 0 ≤ P / d ∧ P / d ≤ P := ⟨Int.ediv_nonneg hb.1 (by omega), Int.ediv_le_self _ hb.1⟩
  have hr0 := Int.emod_nonneg P (b := d) (by omega)
  have hr1 := Int.emod_lt_of_pos P (b := d) (by omega)
  have e1 : wrap64 P = P := w64 (by omega) (by omega)
  have e2 : wrap64 (2 * (P % d)) = 2 * (P % d) := w64 (by omega) (by omega)
  have e3 : wrap64 (P / d) = P / d := w64 (by omega) (by omega)
  have e4 : wrap64 (P / d + 1) = P / d + 1 := w64 (by omega) (by omega)
  rw [if_neg (by omega), e1, tmod_nn _ hb.1, e2, tdiv_nn _ hb.1, e3, e4, tmod_nn _ hq.1]
  unfold evn
  by_cases c : d < 2 * (P % d)
  · rw [if_pos c, if_pos c]
  · rw [if_neg c, if_neg c]
    by_cases c2 : 2 * (P % d) = d
    · by_cases c3 : P / d % 2 = 1
      · rw [if_pos c2, if_pos c3, if_pos ⟨c2, c3⟩]
      · rw [if_pos c2, if_neg c3, if_neg (by omega)]
    · rw [if_neg c2, if_neg (by omega)]
theorem implEven_out {n p d : Int} (h : ¬ (0 ≤ n ∧ n ≤ 1000000 ∧ 0 ≤ p ∧ 1 ≤ d ∧ d ≤ 1000 ∧ p ≤ d)) : impl_RoundEven.f n p d = some (-1) := by
  unfold impl_RoundEven.f
  rw [implPart_out h]
  simp
theorem specAmount_in {n : Int} (hn : 0 ≤ n) (hn' : n ≤ 1000000) : spec_validAmount.f n = some true := by
  unfold spec_validAmount.f spec_inRange.f
  rw [if_pos hn, decide_eq_true hn']
  rfl
theorem specAmount_out {n : Int} (h : ¬ (0 ≤ n ∧ n ≤ 1000000)) : spec_validAmount.f n = some false := by
  unfold spec_validAmount.f spec_inRange.f
  by_cases h1 : 0 ≤ n
  · have h2 : ¬ n ≤ 1000000 := by omega
    simp [h1, h2]
  · simp [h1]
theorem specRate_in {p d : Int} (hp : 0 ≤ p) (hd : 1 ≤ d) (hd' : d ≤ 1000) (hpd : p ≤ d) : spec_validRate.f p d = some true := by
  unfold spec_validRate.f spec_inRange.f
  rw [if_pos hd, decide_eq_true hd', if_pos hp, decide_eq_true hpd]
  rfl
theorem specRate_out {p d : Int} (h : ¬ (0 ≤ p ∧ 1 ≤ d ∧ d ≤ 1000 ∧ p ≤ d)) : spec_validRate.f p d = some false := by
  unfold spec_validRate.f spec_inRange.f
  by_cases h1 : 1 ≤ d
  · by_cases h2 : d ≤ 1000
    · by_cases h3 : 0 ≤ p
      · have h4 : ¬ p ≤ d := by omega
        simp [h1, h2, h3, h4]
      · simp [h1, h2, h3]
    · simp [h1, h2]
  · simp [h1]
theorem range_in {a lo hi : Int} (h : lo ≤ a) (h' : a ≤ hi) : spec_inRange.f a lo hi = some true := by
  unfold spec_inRange.f
  rw [if_pos h, decide_eq_true h']
theorem range_out {a lo hi : Int} (h : ¬ (lo ≤ a ∧ a ≤ hi)) : spec_inRange.f a lo hi = some false := by
  unfold spec_inRange.f
  by_cases h1 : lo ≤ a
  · rw [if_pos h1, decide_eq_false (by omega)]
  · rw [if_neg h1]
def inAll (l : List Int) (lo hi : Int) : Bool := l.all (fun x => decide (lo ≤ x ∧ x ≤ hi))
theorem inAll_mem {l : List Int} {lo hi : Int} (h : inAll l lo hi = true) : ∀ x ∈ l, lo ≤ x ∧ x ≤ hi := by
  unfold inAll at h
  intro x hx
  have := List.all_eq_true.mp h x hx
  simpa using this
theorem allIn_l0 (lo hi : Int) (l : List Int) (hl : l.length ≤ 1048576) : ∀ (d k i : Nat), l.length - i = d → d < k → i ≤ l.length → spec_allIn.l0 k l lo hi (i : Int) = some (inAll (l.drop i) lo hi) := by
  intro d
  induction d with
  | zero =>
    intro k i hd hk hle
    obtain ⟨k, rfl⟩ : ∃ j, k = j + 1 := ⟨k - 1, by omega⟩
    simp only [spec_allIn.l0]
    rw [if_neg (by omega), List.drop_of_length_le (by omega)]
    rfl
  | succ d ih =>
    intro k i hd hk hle
    obtain ⟨k, rfl⟩ : ∃ j, k = j + 1 := ⟨k - 1, by omega⟩
    have e : wrap64 ((i : Int) + 1) = ((i + 1 : Nat) : Int) := by rw [w64 (by omega) (by omega)]; simp
    have hstep := ih k (i + 1) (by omega) (by omega) (by omega)
    simp only [spec_allIn.l0]
    rw [e, if_pos (by omega), if_pos (by omega), drop_rd (by omega), hstep]
    unfold inAll
    rw [List.all_cons]
    generalize rd l (i : Int) = x
    by_cases c1 : lo ≤ x ∧ x ≤ hi
    · rw [range_in c1.1 c1.2, decide_eq_true c1]
      rfl
    · rw [range_out c1, decide_eq_false c1]
      rfl
theorem allIn_is {l : List Int} (lo hi : Int) (hl : l.length ≤ 1048576) {k : Nat} (hk : l.length < k) : spec_allIn.f k l lo hi = some (inAll l lo hi) := by
  unfold spec_allIn.f
  have h := allIn_l0 lo hi l hl l.length k 0 (by omega) hk (by omega)
  simpa using h

def step (p d y n : Int) : Int := if n + evn (n * p) d - y ≤ 0 then 0 else n + evn (n * p) d - y
/-- what is owed after each of m periods -/
def bal (p d y : Int) : Nat → Int → List Int
  | 0, _ => []
  | m + 1, n => if 0 < n ∧ n ≤ 1000000 then step p d y n :: bal p d y m (step p d y n) else []
/-- the interest of m periods -/
def itr (p d y : Int) : Nat → Int → Int
  | 0, _ => 0
  | m + 1, n => if 0 < n ∧ n ≤ 1000000 then evn (n * p) d + itr p d y m (step p d y n) else 0
theorem mx0 (x : Int) : mx x 0 = (if x ≤ 0 then 0 else x) ∧ mx 0 x = (if x ≤ 0 then 0 else x) := by
  unfold mx
  constructor
  · split <;> split <;> omega
  · split <;> split <;> omega
theorem step_bd {p d y n : Int} (hp : 0 ≤ p) (hd : 1 ≤ d) (hpd : p ≤ d) (hy : 0 ≤ y) (hn : 0 ≤ n) (hn' : n ≤ 1000000) : 0 ≤ step p d y n ∧ step p d y n ≤ 2000000 := by
  have hb := evn_part (n := n) (p := p) (d := d) hn hp (by omega) hpd
  unfold step
  generalize evn (n * p) d = g at hb ⊢
  split <;> omega
theorem bal_len (p d y : Int) : ∀ (m : Nat) (n : Int), (bal p d y m n).length ≤ m
  | 0, n => by simp [bal]
  | m + 1, n => by
    have ih := bal_len p d y m (step p d y n)
    unfold bal
    split
    · simp
      exact ih
    · simp
theorem bal_mem {p d y : Int} (hp : 0 ≤ p) (hd : 1 ≤ d) (hpd : p ≤ d) (hy : 0 ≤ y) : ∀ (m : Nat) (n : Int), ∀ x ∈ bal p d y m n, 0 ≤ x ∧ x ≤ 2000000
  | 0, n => by simp [bal]
  | m + 1, n => by
    intro x hx
    unfold bal at hx
    by_cases c : 0 < n ∧ n ≤ 1000000
    · rw [if_pos c] at hx
      rcases List.mem_cons.mp hx with rfl | hx
      · exact step_bd hp hd hpd hy (by omega) c.2
      · exact bal_mem hp hd hpd hy m _ x hx
    · rw [if_neg c] at hx
      cases hx
theorem itr_bd {p d y : Int} (hp : 0 ≤ p) (hd : 1 ≤ d) (hpd : p ≤ d) : ∀ (m : Nat) (n : Int), 0 ≤ itr p d y m n ∧ itr p d y m n ≤ 1000000 * (m : Int)
  | 0, n => by simp [itr]
  | m + 1, n => by
    have ih := itr_bd (y := y) hp hd hpd m (step p d y n)
    unfold itr
    by_cases c : 0 < n ∧ n ≤ 1000000
    · have hb := evn_part (n := n) (p := p) (d := d) (by omega) hp (by omega) hpd
      rw [if_pos c]
      push_cast
      omega
    · rw [if_neg c]
      clear ih c
      omega
/-! the reference -/
theorem specBal_l0 {p d y : Int} (hp : 0 ≤ p) (hd : 1 ≤ d) (hd' : d ≤ 1000) (hpd : p ≤ d) (hy : 0 ≤ y) (hy' : y ≤ 1000000) : ∀ (m k i : Nat) (n : Int) (acc : List Int), 60 - i = m → m + 1 ≤ k → i ≤ 60 → acc.length = i → 0 ≤ n → n ≤ 2000000 →
    spec_balances.l0 k n y 60 acc (i : Int) p d = some (acc ++ bal p d y m n) := by
  intro m
  induction m with
  | zero =>
    intro k i n acc hm hk hi ha h0 h1
    obtain ⟨k, rfl⟩ : ∃ j, k = j + 1 := ⟨k - 1, by omega⟩
    simp only [spec_balances.l0]
    rw [if_neg (by omega)]
    simp [bal]
  | succ m ih =>
    intro k i n acc hm hk hi ha h0 h1
    obtain ⟨k, rfl⟩ : ∃ j, k = j + 1 := ⟨k - 1, by omega⟩
    have e : wrap64 ((i : Int) + 1) = ((i + 1 : Nat) : Int) := by rw [w64 (by omega) (by omega)]; simp
    simp only [spec_balances.l0]
    rw [if_pos (by omega), e]
    clear e
    unfold bal
    by_cases c : 0 < n ∧ n ≤ 1000000
    · have hb := evn_part (n := n) (p := p) (d := d) (by omega) hp (by omega) hpd
      have hs := step_bd (y := y) hp hd hpd hy (n := n) (by omega) c.2
      have hstep := ih k (i + 1) (step p d y n) (acc ++ [step p d y n]) (by omega) (by omega) (by omega) (by simp; omega) hs.1 hs.2
      have e2 : mx 0 (wrap64 (wrap64 (n + evn (n * p) d) - y)) = step p d y n := by
        unfold step
        generalize evn (n * p) d = g at hb ⊢
        rw [w64 (x := n + g) (by omega) (by omega), w64 (x := n + g - y) (by omega) (by omega), (mx0 _).2]
      rw [if_pos (c := n > 0) c.1, if_pos c.2, specEven_is (by omega) (by omega) hp hd hd' hpd]
      simp only [Option.bind_some]
      rw [e2, if_pos (by omega), hstep, if_pos c]
      simp
    · rw [if_neg c]
      by_cases c2 : n > 0
      · rw [if_pos c2, if_neg (by omega)]
        simp
      · rw [if_neg c2]
        simp
theorem specSum_l0 {p d y : Int} (hp : 0 ≤ p) (hd : 1 ≤ d) (hd' : d ≤ 1000) (hpd : p ≤ d) (hy : 0 ≤ y) : ∀ (m k i : Nat) (n s : Int) (pre : List Int), pre.length = i → m + 1 ≤ k → i + m ≤ 60 → 0 ≤ n → n ≤ 2000000 → 0 ≤ s → s ≤ 1000000 * (i : Int) →
    spec_InterestOf.l0 k (pre ++ bal p d y m n) s n (i : Int) p d = some (s + itr p d y m n) := by
  intro m
  induction m with
  | zero =>
    intro k i n s pre hl hk hi h0 h1 s0 s1
    obtain ⟨k, rfl⟩ : ∃ j, k = j + 1 := ⟨k - 1, by omega⟩
    simp only [spec_InterestOf.l0]
    rw [if_neg (by simp [bal]; omega)]
    simp [itr]
  | succ m ih =>
    intro k i n s pre hl hk hi h0 h1 s0 s1
    obtain ⟨k, rfl⟩ : ∃ j, k = j + 1 := ⟨k - 1, by omega⟩
    have e : wrap64 ((i : Int) + 1) = ((i + 1 : Nat) : Int) := by rw [w64 (by omega) (by omega)]; simp
    simp only [spec_InterestOf.l0]
    rw [e]
    clear e
    unfold itr bal
    by_cases c : 0 < n ∧ n ≤ 1000000
    · have hb := evn_part (n := n) (p := p) (d := d) (by omega) hp (by omega) hpd
      have hs := step_bd (y := y) hp hd hpd hy (n := n) (by omega) c.2
      have hstep := ih k (i + 1) (step p d y n) (s + evn (n * p) d) (pre ++ [step p d y n]) (by simp; omega) (by omega) (by omega) hs.1 hs.2 (by omega) (by push_cast; omega)
      rw [List.append_assoc, List.singleton_append] at hstep
      rw [if_pos c, if_pos c]
      have hr : rd (pre ++ step p d y n :: bal p d y m (step p d y n)) (i : Int) = step p d y n := by
        rw [rd_at (by simp; omega)]
        rw [List.getElem_append_right (by omega)]
        simp [hl]
      have e2 : wrap64 (s + evn (n * p) d) = s + evn (n * p) d := w64 (by omega) (by omega)
      rw [hr, if_pos (by simp; omega), specEven_is (by omega) (by omega) hp hd hd' hpd]
      simp only [Option.bind_some]
      rw [if_pos (by omega), e2, hstep]
      congr 1
      omega
    · rw [if_neg c, if_neg c, if_neg (by simp; omega)]
      simp
/-! the program -/
theorem implBal_l0 {p d y : Int} (hp : 0 ≤ p) (hd : 1 ≤ d) (hd' : d ≤ 1000) (hpd : p ≤ d) (hy : 0 ≤ y) (hy' : y ≤ 1000000) : ∀ (m k : Nat) (n s : Int) (acc : List Int), acc.length + m = 60 → 2 * m + 2 ≤ k → 0 ≤ n → n ≤ 1000000 → 0 ≤ s → s ≤ 1000000 * (acc.length : Int) →
    impl_payBack.l0 k n y acc s p d = some (if inAll (bal p d y m n) 0 1000000 = true then (acc ++ bal p d y m n, s + itr p d y m n, true) else ([], 0, false)) := by
  intro m
  induction m with
  | zero =>
    intro k n s acc ha hk h0 h1 s0 s1
    obtain ⟨k, rfl⟩ : ∃ j, k = j + 1 + 1 := ⟨k - 2, by omega⟩
    simp only [impl_payBack.l0]
    have e : decide ((acc.length : Int) < 60) = false := decide_eq_false (by omega)
    rw [e]
    by_cases c : n > 0
    · rw [if_pos c]
      simp [impl_payBack.j2, bal, itr, inAll]
    · rw [if_neg c]
      simp [impl_payBack.j2, bal, itr, inAll]
  | succ m ih =>
    intro k n s acc ha hk h0 h1 s0 s1
    obtain ⟨k, rfl⟩ : ∃ j, k = j + 1 + 1 := ⟨k - 2, by omega⟩
    simp only [impl_payBack.l0]
    by_cases c : n > 0
    · have hb := evn_part (n := n) (p := p) (d := d) (by omega) hp (by omega) hpd
      have hs := step_bd (y := y) hp hd hpd hy (n := n) (by omega) h1
      have hstep := ih k (step p d y n) (s + evn (n * p) d) (acc ++ [step p d y n]) (by simp; omega) (by omega) hs.1
      have e : decide ((acc.length : Int) < 60) = true := decide_eq_true (by omega)
      have e2 : mx (wrap64 (wrap64 (n + evn (n * p) d) - y)) 0 = step p d y n := by
        unfold step
        generalize evn (n * p) d = g at hb ⊢
        rw [w64 (x := n + g) (by omega) (by omega), w64 (x := n + g - y) (by omega) (by omega), (mx0 _).1]
      have e3 : wrap64 (s + evn (n * p) d) = s + evn (n * p) d := w64 (by omega) (by omega)
      have cc : 0 < n ∧ n ≤ 1000000 := ⟨c, h1⟩
      rw [if_pos c, e]
      simp only [impl_payBack.j2]
      rw [if_pos trivial, implEven_is (by omega) h1 hp hd hd' hpd]
      simp only [Option.bind_some]
      rw [e2, e3]
      clear e e2 e3
      unfold bal itr
      rw [if_pos cc, if_pos cc]
      by_cases c2 : step p d y n > 1000000
      · have hin : inAll (step p d y n :: bal p d y m (step p d y n)) 0 1000000 = false := by
          unfold inAll
          rw [List.all_cons, decide_eq_false (by omega)]
          rfl
        rw [if_pos c2, hin]
        simp
      · have hin : inAll (step p d y n :: bal p d y m (step p d y n)) 0 1000000 = inAll (bal p d y m (step p d y n)) 0 1000000 := by
          unfold inAll
          rw [List.all_cons, decide_eq_true (by omega)]
          rfl
        rw [if_neg c2, if_pos (by omega), hstep (by omega) (by omega) (by simp; omega), hin, List.append_assoc, List.singleton_append, Int.add_assoc]
    · have hn : n = 0 := by omega
      have cc : ¬ (0 < n ∧ n ≤ 1000000) := by omega
      rw [if_neg c]
      simp only [impl_payBack.j2]
      unfold bal itr
      rw [if_neg cc, if_neg cc]
      simp [inAll]
theorem last_is {l : List Int} (h : 1 ≤ l.length) (hl : l.length ≤ 1000) : wrap64 ((l.length : Int) - 1) = ((l.length - 1 : Nat) : Int) := (w64 (x := (l.length : Int) - 1) (by omega) (by omega)).trans (by omega)
theorem bal_pos {p d y n : Int} (h : 0 < n) (h1 : n ≤ 1000000) (m : Nat) : 1 ≤ (bal p d y (m + 1) n).length := by
  unfold bal
  rw [if_pos ⟨h, h1⟩]
  simp

theorem answers (n p d y : Int) {k : Nat} (hk : 190 ≤ k) : ∃ r, spec_InterestOf.f k n p d y = some r ∧ impl_InterestOf.f k n p d y = some r := by
  obtain ⟨k, rfl⟩ : ∃ j, k = j + 1 := ⟨k - 1, by omega⟩
  unfold spec_InterestOf.f impl_InterestOf.f spec_validLoan.f impl_payBack.f
  by_cases h : 0 ≤ n ∧ n ≤ 1000000 ∧ 0 ≤ p ∧ 1 ≤ d ∧ d ≤ 1000 ∧ p ≤ d
  · obtain ⟨h1, h2, h3, h4, h5, h6⟩ := h
    rw [specAmount_in h1 h2, specRate_in h3 h4 h5 h6, implPart_in h1 h2 h3 h4 h5 h6]
    simp only [Option.bind_some, if_true]
    by_cases c : 0 ≤ y ∧ y ≤ 1000000
    · have hsb := specBal_l0 h3 h4 h5 h6 c.1 c.2 60 (k + 1) 0 n [] (by omega) (by omega) (by omega) rfl h1 (by omega)
      have hib := implBal_l0 h3 h4 h5 h6 c.1 c.2 60 k n 0 [] (by simp) (by omega) h1 h2 (by omega) (by simp)
      have hss := specSum_l0 (y := y) h3 h4 h5 h6 c.1 60 k 0 n 0 [] rfl (by omega) (by omega) h1 (by omega) (by omega) (by omega)
      have hlen := bal_len p d y 60 n
      simp only [List.nil_append, Int.natCast_zero, Int.zero_add] at hsb hib hss
      rw [range_in c.1 c.2, if_neg (by omega), decide_eq_false (by omega)]
      simp only [Option.bind_some, if_true]
      unfold spec_balances.f
      rw [hsb]
      simp only [Option.bind_some, impl_payBack.j0]
      rw [allIn_is 0 1000000 (by omega) (by omega), if_neg (c := false = true) (by simp), hib]
      simp only [Option.bind_some]
      by_cases ca : inAll (bal p d y 60 n) 0 1000000 = true
      · rw [if_pos ca, if_pos ca]
        simp only [if_true]
        by_cases cn : n > 0
        · have hl1 : 1 ≤ (bal p d y 60 n).length := bal_pos (p := p) (d := d) (y := y) cn h2 59
          have e := last_is hl1 (by omega)
          rw [if_pos cn, e, if_pos (by omega), if_pos (by omega), if_pos (by omega), if_pos (by omega), if_pos (by omega)]
          simp only [spec_InterestOf.j0]
          by_cases cl : rd (bal p d y 60 n) (((bal p d y 60 n).length - 1 : Nat) : Int) > 0
          · rw [decide_eq_true cl, if_pos rfl, if_pos cl]
            exact ⟨_, rfl, rfl⟩
          · rw [decide_eq_false cl, if_neg (by simp), if_neg cl, hss]
            exact ⟨_, rfl, rfl⟩
        · have hb0 : bal p d y 60 n = [] := by
            unfold bal
            rw [if_neg (by omega)]
          rw [if_neg cn]
          simp only [spec_InterestOf.j0]
          rw [if_neg (by simp), hss, if_neg (by rw [hb0]; simp)]
          exact ⟨_, rfl, rfl⟩
      · rw [if_neg ca, if_neg ca]
        exact ⟨-1, by simp [spec_InterestOf.j0], by simp⟩
    · rw [range_out c]
      by_cases c2 : y < 0
      · rw [if_pos c2]
        exact ⟨-1, by simp, by simp [impl_payBack.j0]⟩
      · rw [if_neg c2, decide_eq_true (by omega)]
        exact ⟨-1, by simp, by simp [impl_payBack.j0]⟩
  · rw [implPart_out h]
    refine ⟨-1, ?_, by simp [impl_payBack.j0]⟩
    by_cases c : 0 ≤ n ∧ n ≤ 1000000
    · rw [specAmount_in c.1 c.2, specRate_out (by omega)]
      simp
    · rw [specAmount_out c]
      simp

theorem FnExactInterestOf (n p d y : Int) (_ : (Lit.int .i64 n).wf = true) (_ : (Lit.int .i64 p).wf = true) (_ : (Lit.int .i64 d).wf = true) (_ : (Lit.int .i64 y).wf = true) : ∃ k, laws_FnExactInterestOf.f k n p d y = some true := by
  obtain ⟨r, a, b⟩ := answers n p d y (k := 200) (by omega)
  refine ⟨200, ?_⟩
  simp only [laws_FnExactInterestOf.f, laws_toRate.f, Option.bind_some]
  rw [a, b]
  simp only [Option.bind_some, if_true]

end Go.Proofs.Ytgdnhidnojjpiad.Pure
