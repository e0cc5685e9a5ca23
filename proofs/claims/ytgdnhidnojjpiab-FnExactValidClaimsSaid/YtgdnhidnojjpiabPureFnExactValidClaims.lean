/- The law FnExactValidClaims, on plain values, holds: the program's ValidClaims is the reference's, and the argument stays. For every list of claims. -/
import Derived.Test.YtgdnhidnojjpiabKit
import Derived.Test.YtgdnhidnojjpiabPFnExactValidClaimsx2
namespace Go.Proofs.Ytgdnhidnojjpiab.Pure
open Go.RowKit Go.Proofs.Ytgdnhidnojjpiab.PFnExactValidClaims Go.Proofs.Ytgdnhidnojjpiab.Kit Go.Proofs.YtgdnhidnojjpiabW.PrintWords

def conv (x : S60) : S58 := ⟨x.f0, x.f1⟩
theorem toClaimS_l0 (l : List S60) (hl : l.length ≤ 1048576) : ∀ (d k i : Nat) (x : List S58), l.length - i = d → d < k → i ≤ l.length → x.length = l.length → (∀ j, j < i → x[j]? = (l.map conv)[j]?) → laws_toClaimS.l0 k l x (i : Int) = some (l.map conv) := by
  intro d
  induction d with
  | zero =>
    intro k i x hd hk hi hx h
    obtain ⟨k, rfl⟩ : ∃ j, k = j + 1 := ⟨k - 1, by omega⟩
    simp only [laws_toClaimS.l0]
    rw [if_neg (by omega)]
    congr 1
    apply List.ext_getElem?
    intro j
    by_cases hj : j < i
    · exact h j hj
    · rw [List.getElem?_eq_none (by omega), List.getElem?_eq_none (by simp; omega)]
  | succ d ih =>
    intro k i x hd hk hi hx h
    obtain ⟨k, rfl⟩ : ∃ j, k = j + 1 := ⟨k - 1, by omega⟩
    have e : wrap64 ((i : Int) + 1) = ((i + 1 : Nat) : Int) := by rw [w64 (by omega) (by omega)]; simp
    simp only [laws_toClaimS.l0, laws_toClaim.f, Option.bind_some]
    rw [e, if_pos (by omega), if_pos (by omega), if_pos (by omega), Int.toNat_natCast]
    refine ih k (i + 1) _ (by omega) (by omega) (by omega) (by simpa using hx) ?_
    intro j hj
    rw [set_at (by omega)]
    by_cases c : i = j
    · have hi' : i < l.length := by omega
      rw [if_pos c, ← c, List.getElem?_map, List.getElem?_eq_getElem hi']
      simp [rd_T60, hi', conv]
    · rw [if_neg c]
      exact h j (by omega)
theorem toClaimS_is {l : List S60} (hl : l.length ≤ 1048576) {k : Nat} (hk : l.length < k) : laws_toClaimS.f k l = some (l.map conv) := by
  unfold laws_toClaimS.f
  rw [if_pos (by omega), if_pos (by omega)]
  exact toClaimS_l0 l hl l.length k 0 _ (by omega) hk (by omega) (by simp) (by intro j hj; omega)
theorem eqClaimS_l0 (l : List S58) (hl : l.length ≤ 1048576) : ∀ (d k i : Nat), l.length - i = d → d < k → i ≤ l.length → laws_eqClaimS.l0 k l l (i : Int) = some true := by
  intro d
  induction d with
  | zero =>
    intro k i hd hk hi
    obtain ⟨k, rfl⟩ : ∃ j, k = j + 1 := ⟨k - 1, by omega⟩
    simp only [laws_eqClaimS.l0]
    rw [if_neg (by omega)]
  | succ d ih =>
    intro k i hd hk hi
    obtain ⟨k, rfl⟩ : ∃ j, k = j + 1 := ⟨k - 1, by omega⟩
    have e : wrap64 ((i : Int) + 1) = ((i + 1 : Nat) : Int) := by rw [w64 (by omega) (by omega)]; simp
    simp only [laws_eqClaimS.l0, laws_eqClaim.f, if_true, Option.bind_some]
    rw [if_pos (by omega), if_pos (by omega), if_pos (by omega), e]
    exact ih k (i + 1) (by omega) (by omega) (by omega)
theorem eqClaimS_is {l : List S58} (hl : l.length ≤ 1048576) {k : Nat} (hk : l.length < k) : laws_eqClaimS.f k l l = some true := by
  unfold laws_eqClaimS.f
  rw [if_pos rfl]
  exact eqClaimS_l0 l hl l.length k 0 (by omega) hk (by omega)
theorem szClaimS_is {l : List S60} (hm : l.length ≤ maxLen) : laws_szClaimS.f l 1048576 = some (if 1048576 < (l.length : Int) then -1 else 1048576 - (l.length : Int)) := by
  unfold maxLen at hm
  have e : wrap64 (1048576 - (l.length : Int)) = 1048576 - (l.length : Int) := w64 (by omega) (by omega)
  unfold laws_szClaimS.f
  rw [e]
  by_cases c : 1048576 < (l.length : Int)
  · rw [if_pos (by omega), if_pos c]
  · rw [if_neg (by omega), if_neg c]
def okClaim (x : S58) : Bool := decide (0 ≤ x.f0 ∧ x.f0 ≤ 4 ∧ 0 ≤ x.f1 ∧ x.f1 ≤ 100000)
theorem range_is (a lo hi : Int) : spec_inRange.f a lo hi = some (decide (lo ≤ a ∧ a ≤ hi)) := by
  unfold spec_inRange.f
  by_cases h1 : lo ≤ a <;> simp [h1]
def okClaims (l : List S58) : Bool := l.all okClaim && decide (l.length ≤ 20)
theorem rdE {l : List S58} {i : Nat} (h : i < l.length) : l.drop i = rd_T58 l (i : Int) :: l.drop (i + 1) := by
  have e : rd_T58 l (i : Int) = l[i] := by simp [rd_T58, h]
  rw [e]
  exact List.drop_eq_getElem_cons h
theorem specClaims_l0 (l : List S58) (hl : l.length ≤ 1048576) : ∀ (d k i : Nat), l.length - i = d → d < k → i ≤ l.length → spec_validClaims.l0 k l (i : Int) = some ((l.drop i).all okClaim && decide (l.length ≤ 20)) := by
  intro d
  induction d with
  | zero =>
    intro k i hd hk hi
    obtain ⟨k, rfl⟩ : ∃ j, k = j + 1 := ⟨k - 1, by omega⟩
    simp only [spec_validClaims.l0]
    rw [if_neg (by omega), List.drop_of_length_le (by omega)]
    by_cases c : l.length ≤ 20
    · rw [decide_eq_true c, decide_eq_true (by omega)]
      rfl
    · rw [decide_eq_false c, decide_eq_false (by omega)]
      rfl
  | succ d ih =>
    intro k i hd hk hi
    obtain ⟨k, rfl⟩ : ∃ j, k = j + 1 := ⟨k - 1, by omega⟩
    have e : wrap64 ((i : Int) + 1) = ((i + 1 : Nat) : Int) := by rw [w64 (by omega) (by omega)]; simp
    have hstep := ih k (i + 1) (by omega) (by omega) (by omega)
    simp only [spec_validClaims.l0]
    rw [e, if_pos (by omega), if_pos (by omega), rdE (by omega), range_is, range_is, hstep]
    simp only [Option.bind_some, List.all_cons]
    unfold okClaim
    generalize rd_T58 l (i : Int) = x
    by_cases c1 : 0 ≤ x.f0 ∧ x.f0 ≤ 4
    · by_cases c2 : 0 ≤ x.f1 ∧ x.f1 ≤ 100000
      · have c3 : 0 ≤ x.f0 ∧ x.f0 ≤ 4 ∧ 0 ≤ x.f1 ∧ x.f1 ≤ 100000 := by omega
        rw [decide_eq_true c1, decide_eq_true c2, decide_eq_true c3]
        simp
      · have c3 : ¬ (0 ≤ x.f0 ∧ x.f0 ≤ 4 ∧ 0 ≤ x.f1 ∧ x.f1 ≤ 100000) := by omega
        rw [decide_eq_true c1, decide_eq_false c2, decide_eq_false c3]
        simp
    · have c3 : ¬ (0 ≤ x.f0 ∧ x.f0 ≤ 4 ∧ 0 ≤ x.f1 ∧ x.f1 ≤ 100000) := by omega
      rw [decide_eq_false c1, decide_eq_false c3]
      simp
theorem specClaims_is {l : List S58} (hl : l.length ≤ 1048576) {k : Nat} (hk : l.length < k) : spec_ValidClaims.f k l = some (okClaims l) := by
  unfold spec_ValidClaims.f spec_validClaims.f okClaims
  have h := specClaims_l0 l hl l.length k 0 (by omega) hk (by omega)
  simp only [Int.natCast_zero, List.drop_zero] at h
  rw [h]
  rfl
theorem implClaims_l0 (l : List S58) (hl : l.length ≤ 20) : ∀ (d k i : Nat), l.length - i = d → d < k → i ≤ l.length → impl_ValidClaims.l0 k l (l.length : Int) (i : Int) = some ((l.drop i).all okClaim) := by
  intro d
  induction d with
  | zero =>
    intro k i hd hk hi
    obtain ⟨k, rfl⟩ : ∃ j, k = j + 1 := ⟨k - 1, by omega⟩
    simp only [impl_ValidClaims.l0]
    rw [if_neg (by omega), List.drop_of_length_le (by omega)]
    rfl
  | succ d ih =>
    intro k i hd hk hi
    obtain ⟨k, rfl⟩ : ∃ j, k = j + 1 := ⟨k - 1, by omega⟩
    have e : wrap64 ((i : Int) + 1) = ((i + 1 : Nat) : Int) := by rw [w64 (by omega) (by omega)]; simp
    have hstep := ih k (i + 1) (by omega) (by omega) (by omega)
    simp only [impl_ValidClaims.l0]
    rw [e, if_pos (by omega), if_pos (by omega), if_pos (by omega), rdE (by omega), hstep]
    simp only [List.all_cons]
    unfold okClaim
    generalize rd_T58 l (i : Int) = x
    by_cases c1 : x.f0 < 0
    · have c3 : ¬ (0 ≤ x.f0 ∧ x.f0 ≤ 4 ∧ 0 ≤ x.f1 ∧ x.f1 ≤ 100000) := by omega
      rw [if_pos c1, decide_eq_false c3]
      simp
    · by_cases c2 : x.f0 > 4
      · have c3 : ¬ (0 ≤ x.f0 ∧ x.f0 ≤ 4 ∧ 0 ≤ x.f1 ∧ x.f1 ≤ 100000) := by omega
        rw [if_neg c1, if_pos c2, decide_eq_false c3]
        simp
      · by_cases c4 : x.f1 < 0
        · have c3 : ¬ (0 ≤ x.f0 ∧ x.f0 ≤ 4 ∧ 0 ≤ x.f1 ∧ x.f1 ≤ 100000) := by omega
          rw [if_neg c1, if_neg c2, if_pos c4, decide_eq_false c3]
          simp
        · by_cases c5 : x.f1 > 100000
          · have c3 : ¬ (0 ≤ x.f0 ∧ x.f0 ≤ 4 ∧ 0 ≤ x.f1 ∧ x.f1 ≤ 100000) := by omega
            rw [if_neg c1, if_neg c2, if_neg c4, if_pos c5, decide_eq_false c3]
            simp
          · have c3 : 0 ≤ x.f0 ∧ x.f0 ≤ 4 ∧ 0 ≤ x.f1 ∧ x.f1 ≤ 100000 := by omega
            rw [if_neg c1, if_neg c2, if_neg c4, if_neg c5, decide_eq_true c3]
            simp
theorem implClaims_is (l : List S58) {k : Nat} (hk : 50 ≤ k) : impl_ValidClaims.f k l = some (okClaims l) := by
  unfold impl_ValidClaims.f okClaims
  by_cases c : (l.length : Int) > 20
  · rw [if_pos c, decide_eq_false (by omega)]
    simp
  · rw [if_neg c, decide_eq_true (by omega)]
    have h := implClaims_l0 l (by omega) l.length k 0 (by omega) (by omega) (by omega)
    simpa using h

theorem FnExactValidClaims (l : List S60) (hm : l.length ≤ maxLen) : ∃ k, laws_FnExactValidClaims.f k l = some true := by
  refine ⟨l.length + 100, ?_⟩
  unfold laws_FnExactValidClaims.f
  rw [szClaimS_is hm]
  simp only [Option.bind_some]
  by_cases c : 1048576 < (l.length : Int)
  · rw [if_pos (by rw [if_pos c]; omega)]
  · have hl : l.length ≤ 1048576 := by omega
    rw [if_neg (by rw [if_neg c]; omega), toClaimS_is hl (by omega)]
    simp only [Option.bind_some]
    rw [specClaims_is (by simpa using hl) (by simp), implClaims_is _ (by omega)]
    simp only [Option.bind_some]
    generalize okClaims (l.map conv) = b
    rw [eqClaimS_is (by simpa using hl) (by simp)]
    cases b <;> rfl

end Go.Proofs.Ytgdnhidnojjpiab.Pure
