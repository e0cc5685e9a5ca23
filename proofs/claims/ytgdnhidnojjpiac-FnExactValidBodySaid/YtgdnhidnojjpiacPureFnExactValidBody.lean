/- The law FnExactValidBody, on plain values, holds: the program's ValidBody is the reference's, and the argument stays. For every list of 64-bit integers and every 64-bit integer. -/
import Derived.Test.YtgdnhidnojjpiacKit
import Derived.Test.YtgdnhidnojjpiacPFnExactValidBodyx2
namespace Go.Proofs.Ytgdnhidnojjpiac.Pure
open Go.RowKit Go.Proofs.Ytgdnhidnojjpiac.PFnExactValidBody Go.Proofs.Ytgdnhidnojjpiac.Kit Go.Proofs.YtgdnhidnojjpiacW.PrintWords

theorem toIntS_l0 (l : List Int) (hl : l.length ≤ 1048576) : ∀ (d k i : Nat) (x : List Int), l.length - i = d → d < k → i ≤ l.length → x.length = l.length → (∀ j, j < i → x[j]? = l[j]?) → laws_toIntS.l0 k l x (i : Int) = some l := by
  intro d
  induction d with
  | zero =>
    intro k i x hd hk hi hx h
    obtain ⟨k, rfl⟩ : ∃ j, k = j + 1 := ⟨k - 1, by omega⟩
    simp only [laws_toIntS.l0]
    rw [if_neg (by omega)]
    congr 1
    apply List.ext_getElem?
    intro j
    by_cases hj : j < i
    · exact h j hj
    · rw [List.getElem?_eq_none (by omega), List.getElem?_eq_none (by omega)]
  | succ d ih =>
    intro k i x hd hk hi hx h
    obtain ⟨k, rfl⟩ : ∃ j, k = j + 1 := ⟨k - 1, by omega⟩
    have e : wrap64 ((i : Int) + 1) = ((i + 1 : Nat) : Int) := by rw [w64 (by omega) (by omega)]; simp
    simp only [laws_toIntS.l0]
    rw [if_pos (by omega), if_pos (by omega), if_pos (by omega), e, Int.toNat_natCast]
    refine ih k (i + 1) _ (by omega) (by omega) (by omega) (by simpa using hx) ?_
    intro j hj
    rw [set_at (by omega)]
    by_cases c : i = j
    · rw [if_pos c, ← c, rd_get (by omega)]
    · rw [if_neg c]
      exact h j (by omega)
theorem toIntS_is {l : List Int} (hl : l.length ≤ 1048576) {k : Nat} (hk : l.length < k) : laws_toIntS.f k l = some l := by
  unfold laws_toIntS.f
  rw [if_pos (by omega), if_pos (by omega)]
  exact toIntS_l0 l hl l.length k 0 _ (by omega) hk (by omega) (by simp) (by intro j hj; omega)
theorem eqIntS_l0 (l : List Int) (hl : l.length ≤ 1048576) : ∀ (d k i : Nat), l.length - i = d → d < k → i ≤ l.length → laws_eqIntS.l0 k l l (i : Int) = some true := by
  intro d
  induction d with
  | zero =>
    intro k i hd hk hi
    obtain ⟨k, rfl⟩ : ∃ j, k = j + 1 := ⟨k - 1, by omega⟩
    simp only [laws_eqIntS.l0]
    rw [if_neg (by omega)]
  | succ d ih =>
    intro k i hd hk hi
    obtain ⟨k, rfl⟩ : ∃ j, k = j + 1 := ⟨k - 1, by omega⟩
    have e : wrap64 ((i : Int) + 1) = ((i + 1 : Nat) : Int) := by rw [w64 (by omega) (by omega)]; simp
    simp only [laws_eqIntS.l0]
    rw [if_pos (by omega), if_pos (by omega), if_pos (by omega), if_pos trivial, e]
    exact ih k (i + 1) (by omega) (by omega) (by omega)
theorem eqIntS_is {l : List Int} (hl : l.length ≤ 1048576) {k : Nat} (hk : l.length < k) : laws_eqIntS.f k l l = some true := by
  unfold laws_eqIntS.f
  rw [if_pos rfl]
  exact eqIntS_l0 l hl l.length k 0 (by omega) hk (by omega)
theorem total_l0 (xs : List Int) (hx : ∀ x ∈ xs, 0 ≤ x ∧ x ≤ 1000000) (hl : xs.length ≤ 1000000) :
    ∀ (d k i : Nat) (s : Int), xs.length - i = d → d < k → i ≤ xs.length → 0 ≤ s → s ≤ i * 1000000 → spec_total.l0 k xs s (i : Int) = some (s + (xs.drop i).sum) := by
  intro d
  induction d with
  | zero =>
    intro k i s hd hk hi h0 h1
    obtain ⟨k, rfl⟩ : ∃ j, k = j + 1 := ⟨k - 1, by omega⟩
    have e : ¬ (i : Int) < (xs.length : Int) := by omega
    simp only [spec_total.l0]
    rw [if_neg e, List.drop_of_length_le (by omega)]
    simp
  | succ d ih =>
    intro k i s hd hk hi h0 h1
    obtain ⟨k, rfl⟩ : ∃ j, k = j + 1 := ⟨k - 1, by omega⟩
    have hlt : i < xs.length := by omega
    have e : (i : Int) < (xs.length : Int) := by omega
    have hm := hx _ (rd_mem hlt)
    have e1 : wrap64 (s + rd xs (i : Int)) = s + rd xs (i : Int) := w64 (by omega) (by omega)
    have e2 : wrap64 ((i : Int) + 1) = ((i + 1 : Nat) : Int) := by rw [w64 (by omega) (by omega)]; simp
    simp only [spec_total.l0]
    rw [if_pos e, if_pos (by omega), e1, e2, ih k (i + 1) _ (by omega) (by omega) (by omega) (by omega) (by push_cast; omega), drop_rd hlt, List.sum_cons]
    congr 1
    omega
theorem total_is (xs : List Int) (hx : ∀ x ∈ xs, 0 ≤ x ∧ x ≤ 1000000) (hl : xs.length ≤ 1000000) {k : Nat} (hk : xs.length < k) : spec_total.f k xs = some xs.sum := by
  unfold spec_total.f
  have h := total_l0 xs hx hl xs.length k 0 0 (by omega) hk (by omega) (by omega) (by omega)
  simpa using h
theorem range_in {a lo hi : Int} (h : lo ≤ a) (h' : a ≤ hi) : spec_inRange.f a lo hi = some true := by
  unfold spec_inRange.f
  rw [if_pos h, decide_eq_true h']
theorem range_out {a lo hi : Int} (h : ¬ (lo ≤ a ∧ a ≤ hi)) : spec_inRange.f a lo hi = some false := by
  unfold spec_inRange.f
  by_cases h1 : lo ≤ a
  · rw [if_pos h1, decide_eq_false (by omega)]
  · rw [if_neg h1]
def inAll (l : List Int) (lo hi : Int) : Bool := l.all (fun x => decide (lo ≤ x ∧ x ≤ hi))
theorem inAll_mem {l : List Int} {lo hi : Int} (h : inAll l lo hi = true) : ∀ x ∈ l, lo ≤ x ∧ x ≤ hi := by
  unfold inAll at h
  intro x hx
  have := List.all_eq_true.mp h x hx
  simpa using this
theorem allWithin_l0 (lo hi : Int) (l : List Int) (hl : l.length ≤ 1048576) : ∀ (d k i : Nat), l.length - i = d → d < k → i ≤ l.length → impl_allWithin.l0 k lo hi l (l.length : Int) (i : Int) = some (inAll (l.drop i) lo hi) := by
  intro d
  induction d with
  | zero =>
    intro k i hd hk hle
    obtain ⟨k, rfl⟩ : ∃ j, k = j + 1 := ⟨k - 1, by omega⟩
    simp only [impl_allWithin.l0]
    rw [if_neg (by omega), List.drop_of_length_le (by omega)]
    rfl
  | succ d ih =>
    intro k i hd hk hle
    obtain ⟨k, rfl⟩ : ∃ j, k = j + 1 := ⟨k - 1, by omega⟩
    have e : wrap64 ((i : Int) + 1) = ((i + 1 : Nat) : Int) := by rw [w64 (by omega) (by omega)]; simp
    have hstep := ih k (i + 1) (by omega) (by omega) (by omega)
    simp only [impl_allWithin.l0]
    rw [e, if_pos (by omega), if_pos (by omega), if_pos (by omega), drop_rd (by omega), hstep]
    unfold inAll
    rw [List.all_cons]
    generalize rd l (i : Int) = x
    by_cases c1 : x < lo
    · rw [if_pos c1, decide_eq_false (by omega)]
      rfl
    · by_cases c2 : x > hi
      · rw [if_neg c1, if_pos c2, decide_eq_false (by omega)]
        rfl
      · rw [if_neg c1, if_neg c2, decide_eq_true (by omega)]
        rfl
theorem allWithin_is {l : List Int} (lo hi : Int) (hl : l.length ≤ 1048576) {k : Nat} (hk : l.length < k) : impl_allWithin.f k l lo hi = some (inAll l lo hi) := by
  unfold impl_allWithin.f
  have h := allWithin_l0 lo hi l hl l.length k 0 (by omega) hk (by omega)
  simpa using h
theorem allIn_l0 (lo hi : Int) (l : List Int) (hl : l.length ≤ 1048576) : ∀ (d k i : Nat), l.length - i = d → d < k → i ≤ l.length → spec_allIn.l0 k l lo hi (i : Int) = some (inAll (l.drop i) lo hi) := by
  intro d
  induction d with
  | zero =>
    intro k i hd hk hle
    obtain ⟨k, rfl⟩ : ∃ j, k = j + 1 := ⟨k - 1, by omega⟩
    simp only [spec_allIn.l0]
    rw [if_neg (by omega), List.drop_of_length_le (by omega)]
    rfl
  | succ d ih =>
    intro k i hd hk hle
    obtain ⟨k, rfl⟩ : ∃ j, k = j + 1 := ⟨k - 1, by omega⟩
    have e : wrap64 ((i : Int) + 1) = ((i + 1 : Nat) : Int) := by rw [w64 (by omega) (by omega)]; simp
    have hstep := ih k (i + 1) (by omega) (by omega) (by omega)
    simp only [spec_allIn.l0]
    rw [e, if_pos (by omega), if_pos (by omega), drop_rd (by omega), hstep]
    unfold inAll
    rw [List.all_cons]
    generalize rd l (i : Int) = x
    by_cases c1 : lo ≤ x ∧ x ≤ hi
    · rw [range_in c1.1 c1.2, decide_eq_true c1]
      rfl
    · rw [range_out c1, decide_eq_false c1]
      rfl
theorem allIn_is {l : List Int} (lo hi : Int) (hl : l.length ≤ 1048576) {k : Nat} (hk : l.length < k) : spec_allIn.f k l lo hi = some (inAll l lo hi) := by
  unfold spec_allIn.f
  have h := allIn_l0 lo hi l hl l.length k 0 (by omega) hk (by omega)
  simpa using h
theorem sumOf_l0 (xs : List Int) (hx : ∀ x ∈ xs, 0 ≤ x ∧ x ≤ 1000000) (hl : xs.length ≤ 1000000) :
    ∀ (d k i : Nat) (s : Int), xs.length - i = d → d < k → i ≤ xs.length → 0 ≤ s → s ≤ i * 1000000 → impl_sumOf.l0 k s xs (xs.length : Int) (i : Int) = some (s + (xs.drop i).sum) := by
  intro d
  induction d with
  | zero =>
    intro k i s hd hk hi h0 h1
    obtain ⟨k, rfl⟩ : ∃ j, k = j + 1 := ⟨k - 1, by omega⟩
    simp only [impl_sumOf.l0]
    rw [if_neg (by omega), List.drop_of_length_le (by omega)]
    simp
  | succ d ih =>
    intro k i s hd hk hi h0 h1
    obtain ⟨k, rfl⟩ : ∃ j, k = j + 1 := ⟨k - 1, by omega⟩
    have hlt : i < xs.length := by omega
    have hm := hx _ (rd_mem hlt)
    have e1 : wrap64 (s + rd xs (i : Int)) = s + rd xs (i : Int) := w64 (by omega) (by omega)
    have e2 : wrap64 ((i : Int) + 1) = ((i + 1 : Nat) : Int) := by rw [w64 (by omega) (by omega)]; simp
    simp only [impl_sumOf.l0]
    rw [if_pos (by omega), if_pos (by omega), if_pos (by omega), e1, e2, ih k (i + 1) _ (by omega) (by omega) (by omega) (by omega) (by push_cast; omega), drop_rd hlt, List.sum_cons]
    congr 1
    omega
theorem sumOf_is (xs : List Int) (hx : ∀ x ∈ xs, 0 ≤ x ∧ x ≤ 1000000) (hl : xs.length ≤ 1000000) {k : Nat} (hk : xs.length < k) : impl_sumOf.f k xs = some xs.sum := by
  unfold impl_sumOf.f
  have h := sumOf_l0 xs hx hl xs.length k 0 0 (by omega) hk (by omega) (by omega) (by omega)
  simpa using h
def okBody (l : List Int) (need : Int) : Bool := decide (1 ≤ l.length ∧ l.length ≤ 12) && (inAll l 0 100 && decide (1 ≤ need ∧ need ≤ l.sum))
theorem specBody_is (l : List Int) (need : Int) {k : Nat} (hk : 30 ≤ k) : spec_ValidBody.f k l need = some (okBody l need) := by
  unfold spec_ValidBody.f spec_validBody.f okBody
  by_cases c2 : 1 ≤ l.length ∧ l.length ≤ 12
  · rw [range_in (by omega) (by omega), decide_eq_true c2]
    simp only [Option.bind_some, if_true, Bool.true_and]
    rw [allIn_is 0 100 (by omega) (by omega)]
    simp only [Option.bind_some]
    by_cases c3 : inAll l 0 100 = true
    · rw [if_pos c3, c3, total_is l (fun x hx => by have := inAll_mem c3 x hx; omega) (by omega) (by omega)]
      simp only [Option.bind_some, Bool.true_and]
      by_cases c4 : 1 ≤ need ∧ need ≤ l.sum
      · rw [range_in c4.1 c4.2, decide_eq_true c4]
        rfl
      · rw [range_out c4, decide_eq_false c4]
        rfl
    · have c3' : inAll l 0 100 = false := by simpa using c3
      rw [if_neg c3, c3']
      rfl
  · rw [range_out (by omega), decide_eq_false c2]
    rfl
theorem implBody_is (l : List Int) (need : Int) {k : Nat} (hk : 30 ≤ k) : impl_ValidBody.f k l need = some (okBody l need) := by
  unfold impl_ValidBody.f okBody
  by_cases c2 : 1 ≤ l.length ∧ l.length ≤ 12
  · rw [if_neg (by omega), if_neg (by omega), decide_eq_true c2, allWithin_is 0 100 (by omega) (by omega)]
    simp only [Option.bind_some, Bool.true_and]
    by_cases c3 : inAll l 0 100 = true
    · rw [if_pos c3, c3, sumOf_is l (fun x hx => by have := inAll_mem c3 x hx; omega) (by omega) (by omega)]
      simp only [Option.bind_some, Bool.true_and]
      by_cases c4 : need ≥ 1
      · by_cases c5 : need ≤ l.sum
        · rw [if_pos c4, decide_eq_true c5, decide_eq_true ⟨c4, c5⟩]
        · rw [if_pos c4, decide_eq_false c5, decide_eq_false (fun y => c5 y.2)]
      · rw [if_neg c4, decide_eq_false (fun y => c4 y.1)]
    · have c3' : inAll l 0 100 = false := by simpa using c3
      rw [if_neg c3, c3']
      rfl
  · rw [decide_eq_false c2]
    by_cases c3 : l.length < 1
    · rw [if_pos (by omega)]
      rfl
    · rw [if_neg (by omega), if_pos (by omega)]
      rfl

theorem FnExactValidBody (l : List Int) (n : Int) (hm : l.length ≤ maxLen) (_ : ∀ x ∈ l, (Lit.int .i64 x).wf = true) (_ : (Lit.int .i64 n).wf = true) : ∃ k, laws_FnExactValidBody.f k l n = some true := by
  unfold maxLen at hm
  refine ⟨l.length + 80, ?_⟩
  have e : wrap64 (1048576 - (l.length : Int)) = 1048576 - (l.length : Int) := w64 (by omega) (by omega)
  unfold laws_FnExactValidBody.f laws_szBody.f laws_szIntS.f
  rw [e]
  clear e
  by_cases c : 1048576 - (l.length : Int) < 0
  · rw [if_pos c]
    simp
  · have hl : l.length ≤ 1048576 := by omega
    rw [if_neg c]
    simp only [Option.bind_some]
    rw [if_neg c]
    simp only [Option.bind_some]
    rw [if_neg c]
    unfold laws_toBody.f
    rw [toIntS_is hl (by omega)]
    simp only [Option.bind_some]
    rw [specBody_is l n (by omega), implBody_is l n (by omega)]
    simp only [Option.bind_some]
    unfold laws_eqBody.f
    rw [eqIntS_is hl (by omega)]
    simp

end Go.Proofs.Ytgdnhidnojjpiac.Pure
