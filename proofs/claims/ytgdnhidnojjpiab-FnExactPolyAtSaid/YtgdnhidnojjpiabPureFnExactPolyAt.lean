/- The law FnExactPolyAt, on plain values, holds: the program's PolyAt is the reference's, and the argument stays. For every list of 64-bit integers of at most 2^47 - 4096 bytes and every 64-bit integer. -/
import Derived.Test.YtgdnhidnojjpiabKit
import Derived.Test.YtgdnhidnojjpiabQFnExactPolyAtx2
namespace Go.Proofs.Ytgdnhidnojjpiab.Pure
open Go.RowKit Go.Proofs.Ytgdnhidnojjpiab.PFnExactPolyAt Go.Proofs.Ytgdnhidnojjpiab.Kit Go.Proofs.YtgdnhidnojjpiabW.PrintWords

theorem toIntS_l0 (l : List Int) (hl : l.length ≤ 1048576) : ∀ (d k i : Nat) (x : List Int), l.length - i = d → d < k → i ≤ l.length → x.length = l.length → (∀ j, j < i → x[j]? = l[j]?) → laws_toIntS.l0 k l x (i : Int) = some l := by
  intro d
  induction d with
  | zero =>
    intro k i x hd hk hi hx h
    obtain ⟨k, rfl⟩ : ∃ j, k = j + 1 := ⟨k - 1, by omega⟩
    simp only [laws_toIntS.l0]
    rw [if_neg (by omega)]
    congr 1
    apply List.ext_getElem?
    intro j
    by_cases hj : j < i
    · exact h j hj
    · rw [List.getElem?_eq_none (by omega), List.getElem?_eq_none (by omega)]
  | succ d ih =>
    intro k i x hd hk hi hx h
    obtain ⟨k, rfl⟩ : ∃ j, k = j + 1 := ⟨k - 1, by omega⟩
    have e : wrap64 ((i : Int) + 1) = ((i + 1 : Nat) : Int) := by rw [w64 (by omega) (by omega)]; simp
    simp only [laws_toIntS.l0]
    rw [if_pos (by omega), if_pos (by omega), if_pos (by omega), e, Int.toNat_natCast]
    refine ih k (i + 1) _ (by omega) (by omega) (by omega) (by simpa using hx) ?_
    intro j hj
    rw [set_at (by omega)]
    by_cases c : i = j
    · rw [if_pos c, ← c, rd_get (by omega)]
    · rw [if_neg c]
      exact h j (by omega)
theorem toIntS_is {l : List Int} (hl : l.length ≤ 1048576) {k : Nat} (hk : l.length < k) : laws_toIntS.f k l = some l := by
  unfold laws_toIntS.f
  rw [if_pos (by omega), if_pos (by omega)]
  exact toIntS_l0 l hl l.length k 0 _ (by omega) hk (by omega) (by simp) (by intro j hj; omega)
theorem eqIntS_l0 (l : List Int) (hl : l.length ≤ 1048576) : ∀ (d k i : Nat), l.length - i = d → d < k → i ≤ l.length → laws_eqIntS.l0 k l l (i : Int) = some true := by
  intro d
  induction d with
  | zero =>
    intro k i hd hk hi
    obtain ⟨k, rfl⟩ : ∃ j, k = j + 1 := ⟨k - 1, by omega⟩
    simp only [laws_eqIntS.l0]
    rw [if_neg (by omega)]
  | succ d ih =>
    intro k i hd hk hi
    obtain ⟨k, rfl⟩ : ∃ j, k = j + 1 := ⟨k - 1, by omega⟩
    have e : wrap64 ((i : Int) + 1) = ((i + 1 : Nat) : Int) := by rw [w64 (by omega) (by omega)]; simp
    simp only [laws_eqIntS.l0]
    rw [if_pos (by omega), if_pos (by omega), if_pos (by omega), if_pos trivial, e]
    exact ih k (i + 1) (by omega) (by omega) (by omega)
theorem eqIntS_is {l : List Int} (hl : l.length ≤ 1048576) {k : Nat} (hk : l.length < k) : laws_eqIntS.f k l l = some true := by
  unfold laws_eqIntS.f
  rw [if_pos rfl]
  exact eqIntS_l0 l hl l.length k 0 (by omega) hk (by omega)
theorem range_in {a lo hi : Int} (h : lo ≤ a) (h' : a ≤ hi) : spec_inRange.f a lo hi = some true := by
  unfold spec_inRange.f
  rw [if_pos h, decide_eq_true h']
theorem range_out {a lo hi : Int} (h : ¬ (lo ≤ a ∧ a ≤ hi)) : spec_inRange.f a lo hi = some false := by
  unfold spec_inRange.f
  by_cases h1 : lo ≤ a
  · rw [if_pos h1, decide_eq_false (by omega)]
  · rw [if_neg h1]
def inAll (l : List Int) (lo hi : Int) : Bool := l.all (fun x => decide (lo ≤ x ∧ x ≤ hi))
theorem inAll_mem {l : List Int} {lo hi : Int} (h : inAll l lo hi = true) : ∀ x ∈ l, lo ≤ x ∧ x ≤ hi := by
  unfold inAll at h
  intro x hx
  have := List.all_eq_true.mp h x hx
  simpa using this
theorem allWithin_l0 (lo hi : Int) (l : List Int) (hl : l.length ≤ 1048576) : ∀ (d k i : Nat), l.length - i = d → d < k → i ≤ l.length → impl_allWithin.l0 k lo hi l (l.length : Int) (i : Int) = some (inAll (l.drop i) lo hi) := by
  intro d
  induction d with
  | zero =>
    intro k i hd hk hle
    obtain ⟨k, rfl⟩ : ∃ j, k = j + 1 := ⟨k - 1, by omega⟩
    simp only [impl_allWithin.l0]
    rw [if_neg (by omega), List.drop_of_length_le (by omega)]
    rfl
  | succ d ih =>
    intro k i hd hk hle
    obtain ⟨k, rfl⟩ : ∃ j, k = j + 1 := ⟨k - 1, by omega⟩
    have e : wrap64 ((i : Int) + 1) = ((i + 1 : Nat) : Int) := by rw [w64 (by omega) (by omega)]; simp
    have hstep := ih k (i + 1) (by omega) (by omega) (by omega)
    simp only [impl_allWithin.l0]
    rw [e, if_pos (by omega), if_pos (by omega), if_pos (by omega), drop_rd (by omega), hstep]
    unfold inAll
    rw [List.all_cons]
    generalize rd l (i : Int) = x
    by_cases c1 : x < lo
    · rw [if_pos c1, decide_eq_false (by omega)]
      rfl
    · by_cases c2 : x > hi
      · rw [if_neg c1, if_pos c2, decide_eq_false (by omega)]
        rfl
      · rw [if_neg c1, if_neg c2, decide_eq_true (by omega)]
        rfl
theorem allWithin_is {l : List Int} (lo hi : Int) (hl : l.length ≤ 1048576) {k : Nat} (hk : l.length < k) : impl_allWithin.f k l lo hi = some (inAll l lo hi) := by
  unfold impl_allWithin.f
  have h := allWithin_l0 lo hi l hl l.length k 0 (by omega) hk (by omega)
  simpa using h
theorem allIn_l0 (lo hi : Int) (l : List Int) (hl : l.length ≤ 1048576) : ∀ (d k i : Nat), l.length - i = d → d < k → i ≤ l.length → spec_allIn.l0 k l lo hi (i : Int) = some (inAll (l.drop i) lo hi) := by
  intro d
  induction d with
  | zero =>
    intro k i hd hk hle
    obtain ⟨k, rfl⟩ : ∃ j, k = j + 1 := ⟨k - 1, by omega⟩
    simp only [spec_allIn.l0]
    rw [if_neg (by omega), List.drop_of_length_le (by omega)]
    rfl
  | succ d ih =>
    intro k i hd hk hle
    obtain ⟨k, rfl⟩ : ∃ j, k = j + 1 := ⟨k - 1, by omega⟩
    have e : wrap64 ((i : Int) + 1) = ((i + 1 : Nat) : Int) := by rw [w64 (by omega) (by omega)]; simp
    have hstep := ih k (i + 1) (by omega) (by omega) (by omega)
    simp only [spec_allIn.l0]
    rw [e, if_pos (by omega), if_pos (by omega), drop_rd (by omega), hstep]
    unfold inAll
    rw [List.all_cons]
    generalize rd l (i : Int) = x
    by_cases c1 : lo ≤ x ∧ x ≤ hi
    · rw [range_in c1.1 c1.2, decide_eq_true c1]
      rfl
    · rw [range_out c1, decide_eq_false c1]
      rfl
theorem allIn_is {l : List Int} (lo hi : Int) (hl : l.length ≤ 1048576) {k : Nat} (hk : l.length < k) : spec_allIn.f k l lo hi = some (inAll l lo hi) := by
  unfold spec_allIn.f
  have h := allIn_l0 lo hi l hl l.length k 0 (by omega) hk (by omega)
  simpa using h

theorem at_pr (l : List Int) {j m : Nat} (h : j + 1 + m = l.length) : Bw.pr l l.length j = (m, rd l (m : Int)) := by
  unfold Bw.pr rd
  have e : l.length - 1 - j = m := by omega
  rw [e, List.getD_eq_getElem?_getD, Int.toNat_natCast]
theorem poly_l0 (l : List Int) (hl : l.length ≤ 1048576) (x : Int) : ∀ (m k j : Nat), j + m = l.length → m < k →
    spec_polyAt.l0 k l x (acc x (Bw.upto (Bw.pr l l.length) j)) ((m : Int) - 1) = some (polyOf x l) := by
  intro m
  induction m with
  | zero =>
    intro k j hj hk
    obtain ⟨k, rfl⟩ : ∃ i, k = i + 1 := ⟨k - 1, by omega⟩
    have e : j = l.length := by omega
    have c : ¬ (((0 : Nat) : Int) - 1 ≥ 0) := by omega
    rw [spec_polyAt.l0, if_neg c, e]
    rfl
  | succ m ih =>
    intro k j hj hk
    obtain ⟨k, rfl⟩ : ∃ i, k = i + 1 := ⟨k - 1, by omega⟩
    have e0 : ((m + 1 : Nat) : Int) - 1 = (m : Int) := by omega
    have c1 : (m : Int) ≥ 0 := by omega
    have c2 : (0 : Int) ≤ (m : Int) := by omega
    have c3 : (m : Int) < (l.length : Int) := by omega
    have e1 : wrap64 ((m : Int) - 1) = (m : Int) - 1 := w64 (by omega) (by omega)
    have hstep := ih k (j + 1) (by omega) (by omega)
    rw [Bw.upto_succ, acc_snoc, at_pr l (j := j) (m := m) (by omega)] at hstep
    rw [e0, spec_polyAt.l0, if_pos c1, if_pos c2, if_pos c3, e1]
    exact hstep
theorem poly_is {l : List Int} (hl : l.length ≤ 1048576) (x : Int) {k : Nat} (hk : l.length < k) : spec_polyAt.f k l x = some (polyOf x l) := by
  unfold spec_polyAt.f
  rw [w64 (x := (l.length : Int) - 1) (by omega) (by omega)]
  exact poly_l0 l hl x l.length k 0 (by omega) hk
theorem spec_is {l : List Int} (hl : l.length ≤ 1048576) (x : Int) {k : Nat} (hk : l.length + 2 ≤ k) : spec_PolyAt.f k l x = impl_PolyAt.f k l x := by
  have hv : spec_validPoly.f k l = impl_validCoefs.f k l := by
    unfold spec_validPoly.f impl_validCoefs.f
    rw [allIn_is 0 250 hl (by omega), allWithin_is 0 250 hl (by omega)]
  unfold spec_PolyAt.f impl_PolyAt.f
  rw [hv, poly_is hl x (by omega)]
  congr 1
  funext t
  cases t with
  | false => simp
  | true =>
    unfold spec_validRest.f spec_inRange.f
    by_cases h0 : x < 0
    · have h1 : ¬ 0 ≤ x := by omega
      simp [h0, h1]
    · have h1 : 0 ≤ x := by omega
      by_cases h2 : 250 < x
      · have h3 : ¬ x ≤ 250 := by omega
        simp [h0, h1, h2, h3]
      · have h3 : x ≤ 250 := by omega
        simp [h0, h1, h2, h3]
theorem impl_some {l : List Int} (hl : l.length ≤ 1048576) (x : Int) {k : Nat} (hk : l.length + 2 ≤ k) : ∃ r, impl_PolyAt.f k l x = some r := by
  have hv : ∃ t, impl_validCoefs.f k l = some t := by
    unfold impl_validCoefs.f
    rw [allWithin_is 0 250 hl (by omega)]
    by_cases c : (l.length : Int) ≤ 8
    · rw [if_pos c]; exact ⟨_, rfl⟩
    · rw [if_neg c]; exact ⟨_, rfl⟩
  obtain ⟨t, ht⟩ := hv
  unfold impl_PolyAt.f
  rw [ht]
  simp only [Option.bind_some]
  by_cases c : t = true
  · rw [if_pos c]
    by_cases h0 : x < 0
    · rw [if_pos h0]; exact ⟨_, rfl⟩
    · rw [if_neg h0]
      by_cases h2 : 250 < x
      · rw [if_pos h2]; exact ⟨_, rfl⟩
      · rw [if_neg h2]; exact ⟨_, rfl⟩
  · rw [if_neg c]; exact ⟨_, rfl⟩

theorem FnExactPolyAt : laws_FnExactPolyAt.Pure := by
  intro l a _ _ _ _
  refine ⟨l.length + 80, ?_⟩
  unfold laws_FnExactPolyAt.f
  by_cases c : (l.length : Int) > 1048576
  · rw [if_pos c]
  · have hl : l.length ≤ 1048576 := by omega
    obtain ⟨r, hr⟩ := impl_some hl a (k := l.length + 80) (by omega)
    rw [if_neg c, toIntS_is hl (by omega)]
    simp only [Option.bind_some]
    rw [spec_is hl a (by omega), hr]
    simp only [Option.bind_some, if_true]
    rw [eqIntS_is hl (by omega)]
    simp

end Go.Proofs.Ytgdnhidnojjpiab.Pure
