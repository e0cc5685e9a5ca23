/- The law FnExactValidEntries, on plain values, holds: the program's ValidEntries is the reference's, and the argument stays. For every list of entries. -/
import Derived.Test.YtgdnhidnojjpiacKit
import Derived.Test.YtgdnhidnojjpiacPFnExactValidEntriesx2
namespace Go.Proofs.Ytgdnhidnojjpiac.Pure
open Go.RowKit Go.Proofs.Ytgdnhidnojjpiac.PFnExactValidEntries Go.Proofs.Ytgdnhidnojjpiac.Kit Go.Proofs.YtgdnhidnojjpiacW.PrintWords

def conv (x : S74) : S72 := ⟨x.f0, x.f1, x.f2, x.f3⟩
theorem toEntryS_l0 (l : List S74) (hl : l.length ≤ 1048576) : ∀ (d k i : Nat) (x : List S72), l.length - i = d → d < k → i ≤ l.length → x.length = l.length → (∀ j, j < i → x[j]? = (l.map conv)[j]?) → laws_toEntryS.l0 k l x (i : Int) = some (l.map conv) := by
  intro d
  induction d with
  | zero =>
    intro k i x hd hk hi hx h
    obtain ⟨k, rfl⟩ : ∃ j, k = j + 1 := ⟨k - 1, by omega⟩
    simp only [laws_toEntryS.l0]
    rw [if_neg (by omega)]
    congr 1
    apply List.ext_getElem?
    intro j
    by_cases hj : j < i
    · exact h j hj
    · rw [List.getElem?_eq_none (by omega), List.getElem?_eq_none (by simp; omega)]
  | succ d ih =>
    intro k i x hd hk hi hx h
    obtain ⟨k, rfl⟩ : ∃ j, k = j + 1 := ⟨k - 1, by omega⟩
    have e : wrap64 ((i : Int) + 1) = ((i + 1 : Nat) : Int) := by rw [w64 (by omega) (by omega)]; simp
    simp only [laws_toEntryS.l0, laws_toEntry.f, Option.bind_some]
    rw [e, if_pos (by omega), if_pos (by omega), if_pos (by omega), Int.toNat_natCast]
    refine ih k (i + 1) _ (by omega) (by omega) (by omega) (by simpa using hx) ?_
    intro j hj
    rw [set_at (by omega)]
    by_cases c : i = j
    · have hi' : i < l.length := by omega
      rw [if_pos c, ← c, List.getElem?_map, List.getElem?_eq_getElem hi']
      simp [rd_T74, hi', conv]
    · rw [if_neg c]
      exact h j (by omega)
theorem toEntryS_is {l : List S74} (hl : l.length ≤ 1048576) {k : Nat} (hk : l.length < k) : laws_toEntryS.f k l = some (l.map conv) := by
  unfold laws_toEntryS.f
  rw [if_pos (by omega), if_pos (by omega)]
  exact toEntryS_l0 l hl l.length k 0 _ (by omega) hk (by omega) (by simp) (by intro j hj; omega)
theorem eqEntryS_l0 (l : List S72) (hl : l.length ≤ 1048576) : ∀ (d k i : Nat), l.length - i = d → d < k → i ≤ l.length → laws_eqEntryS.l0 k l l (i : Int) = some true := by
  intro d
  induction d with
  | zero =>
    intro k i hd hk hi
    obtain ⟨k, rfl⟩ : ∃ j, k = j + 1 := ⟨k - 1, by omega⟩
    simp only [laws_eqEntryS.l0]
    rw [if_neg (by omega)]
  | succ d ih =>
    intro k i hd hk hi
    obtain ⟨k, rfl⟩ : ∃ j, k = j + 1 := ⟨k - 1, by omega⟩
    have e : wrap64 ((i : Int) + 1) = ((i + 1 : Nat) : Int) := by rw [w64 (by omega) (by omega)]; simp
    simp only [laws_eqEntryS.l0, laws_eqEntry.f, if_true, Option.bind_some]
    rw [if_pos (by omega), if_pos (by omega), if_pos (by omega), e]
    exact ih k (i + 1) (by omega) (by omega) (by omega)
theorem eqEntryS_is {l : List S72} (hl : l.length ≤ 1048576) {k : Nat} (hk : l.length < k) : laws_eqEntryS.f k l l = some true := by
  unfold laws_eqEntryS.f
  rw [if_pos rfl]
  exact eqEntryS_l0 l hl l.length k 0 (by omega) hk (by omega)
theorem szEntryS_is {l : List S74} (hm : l.length ≤ maxLen) : laws_szEntryS.f l 1048576 = some (if 1048576 < (l.length : Int) then -1 else 1048576 - (l.length : Int)) := by
  unfold maxLen at hm
  have e : wrap64 (1048576 - (l.length : Int)) = 1048576 - (l.length : Int) := w64 (by omega) (by omega)
  unfold laws_szEntryS.f
  rw [e]
  by_cases c : 1048576 < (l.length : Int)
  · rw [if_pos (by omega), if_pos c]
  · rw [if_neg (by omega), if_neg c]
def okEntry (x : S72) : Bool := decide (0 ≤ x.f0 ∧ x.f0 ≤ 999 ∧ 1 ≤ x.f3 ∧ x.f3 ≤ 1000000 ∧ 0 ≤ x.f1 ∧ x.f1 ≤ 7 ∧ 0 ≤ x.f2 ∧ x.f2 ≤ 7 ∧ ¬ x.f1 = x.f2)
theorem range_is (a lo hi : Int) : spec_inRange.f a lo hi = some (decide (lo ≤ a ∧ a ≤ hi)) := by
  unfold spec_inRange.f
  by_cases h1 : lo ≤ a <;> simp [h1]
theorem specEntry_is (x : S72) : spec_validEntry.f x.f0 x.f1 x.f2 x.f3 = some (okEntry x) := by
  unfold spec_validEntry.f okEntry
  simp only [range_is, Option.bind_some]
  by_cases c1 : 0 ≤ x.f0 ∧ x.f0 ≤ 999
  · by_cases c2 : 0 ≤ x.f1 ∧ x.f1 ≤ 7
    · by_cases c3 : 0 ≤ x.f2 ∧ x.f2 ≤ 7
      · by_cases c4 : x.f1 = x.f2
        · simp [c1, c3, c4]
        · by_cases c5 : 1 ≤ x.f3 ∧ x.f3 ≤ 1000000
          · simp [c1, c2, c3, c4, c5]
          · have : ¬ (0 ≤ x.f0 ∧ x.f0 ≤ 999 ∧ 1 ≤ x.f3 ∧ x.f3 ≤ 1000000 ∧ 0 ≤ x.f1 ∧ x.f1 ≤ 7 ∧ 0 ≤ x.f2 ∧ x.f2 ≤ 7 ∧ ¬ x.f1 = x.f2) := by omega
            rw [decide_eq_true c1, decide_eq_true c2, decide_eq_true c3, decide_eq_false c5, decide_eq_false this]
            simp [c4]
      · have : ¬ (0 ≤ x.f0 ∧ x.f0 ≤ 999 ∧ 1 ≤ x.f3 ∧ x.f3 ≤ 1000000 ∧ 0 ≤ x.f1 ∧ x.f1 ≤ 7 ∧ 0 ≤ x.f2 ∧ x.f2 ≤ 7 ∧ ¬ x.f1 = x.f2) := by omega
        rw [decide_eq_true c1, decide_eq_true c2, decide_eq_false c3, decide_eq_false this]
        simp
    · have : ¬ (0 ≤ x.f0 ∧ x.f0 ≤ 999 ∧ 1 ≤ x.f3 ∧ x.f3 ≤ 1000000 ∧ 0 ≤ x.f1 ∧ x.f1 ≤ 7 ∧ 0 ≤ x.f2 ∧ x.f2 ≤ 7 ∧ ¬ x.f1 = x.f2) := by omega
      rw [decide_eq_true c1, decide_eq_false c2, decide_eq_false this]
      simp
  · have : ¬ (0 ≤ x.f0 ∧ x.f0 ≤ 999 ∧ 1 ≤ x.f3 ∧ x.f3 ≤ 1000000 ∧ 0 ≤ x.f1 ∧ x.f1 ≤ 7 ∧ 0 ≤ x.f2 ∧ x.f2 ≤ 7 ∧ ¬ x.f1 = x.f2) := by omega
    rw [decide_eq_false c1, decide_eq_false this]
    simp
theorem account_is (a : Int) : impl_validAccount.f a = some (decide (0 ≤ a ∧ a ≤ 7)) := by
  unfold impl_validAccount.f
  by_cases h1 : a ≥ 0
  · by_cases h2 : a < 8
    · rw [if_pos h1, decide_eq_true h2, decide_eq_true (by omega)]
    · rw [if_pos h1, decide_eq_false h2, decide_eq_false (by omega)]
  · rw [if_neg h1, decide_eq_false (by omega)]
theorem implEntry_is (x : S72) {k : Nat} (hk : 1 ≤ k) : impl_validEntry.f k x.f0 x.f1 x.f2 x.f3 = some (okEntry x) := by
  obtain ⟨k, rfl⟩ : ∃ j, k = j + 1 := ⟨k - 1, by omega⟩
  unfold impl_validEntry.f okEntry
  by_cases c1 : x.f0 < 0
  · rw [if_pos c1, decide_eq_false (by omega)]
    simp [impl_validEntry.j0]
  · by_cases c2 : x.f0 > 999
    · rw [if_neg c1, if_pos c2, decide_eq_false (by omega)]
      simp [impl_validEntry.j0]
    · by_cases c3 : x.f3 < 1
      · rw [if_neg c1, if_neg c2, if_pos c3, decide_eq_false (by omega)]
        simp [impl_validEntry.j0]
      · rw [if_neg c1, if_neg c2, if_neg c3]
        by_cases c4 : x.f3 > 1000000
        · rw [decide_eq_true c4]
          simp only [impl_validEntry.j0]
          rw [if_pos trivial, decide_eq_false (by omega)]
        · rw [decide_eq_false c4]
          simp only [impl_validEntry.j0, account_is, Option.bind_some]
          rw [if_neg (by simp)]
          by_cases c5 : 0 ≤ x.f1 ∧ x.f1 ≤ 7
          · by_cases c6 : 0 ≤ x.f2 ∧ x.f2 ≤ 7
            · by_cases c7 : x.f1 = x.f2
              · rw [decide_eq_true c5, decide_eq_true c6, decide_eq_false (fun y => y.2.2.2.2.2.2.2.2 c7)]
                simp [c7]
              · rw [decide_eq_true c5, decide_eq_true c6, decide_eq_true ⟨by omega, by omega, by omega, by omega, c5.1, c5.2, c6.1, c6.2, c7⟩]
                simp [c7]
            · rw [decide_eq_true c5, decide_eq_false c6, decide_eq_false (by omega)]
              simp
          · have : ¬ (0 ≤ x.f0 ∧ x.f0 ≤ 999 ∧ 1 ≤ x.f3 ∧ x.f3 ≤ 1000000 ∧ 0 ≤ x.f1 ∧ x.f1 ≤ 7 ∧ 0 ≤ x.f2 ∧ x.f2 ≤ 7 ∧ ¬ x.f1 = x.f2) := by omega
            rw [decide_eq_false c5, decide_eq_false this]
            simp
def okEntries (l : List S72) : Bool := l.all okEntry && decide (l.length ≤ 40)
theorem rdE {l : List S72} {i : Nat} (h : i < l.length) : l.drop i = rd_T72 l (i : Int) :: l.drop (i + 1) := by
  have e : rd_T72 l (i : Int) = l[i] := by simp [rd_T72, h]
  rw [e]
  exact List.drop_eq_getElem_cons h
theorem specEntries_l0 (l : List S72) (hl : l.length ≤ 1048576) : ∀ (d k i : Nat), l.length - i = d → d < k → i ≤ l.length → spec_validEntries.l0 k l (i : Int) = some ((l.drop i).all okEntry && decide (l.length ≤ 40)) := by
  intro d
  induction d with
  | zero =>
    intro k i hd hk hi
    obtain ⟨k, rfl⟩ : ∃ j, k = j + 1 := ⟨k - 1, by omega⟩
    simp only [spec_validEntries.l0]
    rw [if_neg (by omega), List.drop_of_length_le (by omega)]
    by_cases c : l.length ≤ 40
    · rw [decide_eq_true c, decide_eq_true (by omega)]
      rfl
    · rw [decide_eq_false c, decide_eq_false (by omega)]
      rfl
  | succ d ih =>
    intro k i hd hk hi
    obtain ⟨k, rfl⟩ : ∃ j, k = j + 1 := ⟨k - 1, by omega⟩
    have e : wrap64 ((i : Int) + 1) = ((i + 1 : Nat) : Int) := by rw [w64 (by omega) (by omega)]; simp
    simp only [spec_validEntries.l0]
    rw [e, if_pos (by omega), if_pos (by omega), specEntry_is, rdE (by omega)]
    simp only [Option.bind_some, List.all_cons]
    by_cases c : okEntry (rd_T72 l (i : Int)) = true
    · rw [if_pos c, c, ih k (i + 1) (by omega) (by omega) (by omega)]
      simp
    · rw [if_neg c]
      have c' : okEntry (rd_T72 l (i : Int)) = false := by simpa using c
      rw [c']
      simp
theorem specEntries_is {l : List S72} (hl : l.length ≤ 1048576) {k : Nat} (hk : l.length < k) : spec_validEntries.f k l = some (okEntries l) := by
  unfold spec_validEntries.f okEntries
  have h := specEntries_l0 l hl l.length k 0 (by omega) hk (by omega)
  simpa using h
theorem implEntries_l0 (l : List S72) (hl : l.length ≤ 40) : ∀ (d k i : Nat), l.length - i = d → d + 1 < k → i ≤ l.length → impl_ValidEntries.l0 k l (l.length : Int) (i : Int) = some ((l.drop i).all okEntry) := by
  intro d
  induction d with
  | zero =>
    intro k i hd hk hi
    obtain ⟨k, rfl⟩ : ∃ j, k = j + 1 := ⟨k - 1, by omega⟩
    simp only [impl_ValidEntries.l0]
    rw [if_neg (by omega), List.drop_of_length_le (by omega)]
    rfl
  | succ d ih =>
    intro k i hd hk hi
    obtain ⟨k, rfl⟩ : ∃ j, k = j + 1 := ⟨k - 1, by omega⟩
    have e : wrap64 ((i : Int) + 1) = ((i + 1 : Nat) : Int) := by rw [w64 (by omega) (by omega)]; simp
    simp only [impl_ValidEntries.l0]
    rw [e, if_pos (by omega), if_pos (by omega), if_pos (by omega), implEntry_is _ (by omega), rdE (by omega)]
    simp only [Option.bind_some, List.all_cons]
    by_cases c : okEntry (rd_T72 l (i : Int)) = true
    · rw [if_pos c, c, ih k (i + 1) (by omega) (by omega) (by omega)]
      simp
    · rw [if_neg c]
      have c' : okEntry (rd_T72 l (i : Int)) = false := by simpa using c
      rw [c']
      simp
theorem implEntries_is (l : List S72) {k : Nat} (hk : 50 ≤ k) : impl_ValidEntries.f k l = some (okEntries l) := by
  unfold impl_ValidEntries.f okEntries
  by_cases c : (l.length : Int) > 40
  · rw [if_pos c, decide_eq_false (by omega)]
    simp
  · rw [if_neg c, decide_eq_true (by omega)]
    have h := implEntries_l0 l (by omega) l.length k 0 (by omega) (by omega) (by omega)
    simpa using h
theorem okEntries_mem {l : List S72} (h : okEntries l = true) : l.length ≤ 40 ∧ ∀ x ∈ l, 1 ≤ x.f3 ∧ x.f3 ≤ 1000000 := by
  unfold okEntries at h
  simp only [Bool.and_eq_true, decide_eq_true_eq, List.all_eq_true] at h
  refine ⟨h.2, fun x hx => ?_⟩
  have := h.1 x hx
  unfold okEntry at this
  simp only [decide_eq_true_eq] at this
  exact ⟨this.2.2.1, this.2.2.2.1⟩

theorem FnExactValidEntries (l : List S74) (hm : l.length ≤ maxLen) : ∃ k, laws_FnExactValidEntries.f k l = some true := by
  refine ⟨l.length + 100, ?_⟩
  unfold laws_FnExactValidEntries.f
  rw [szEntryS_is hm]
  simp only [Option.bind_some]
  by_cases c : 1048576 < (l.length : Int)
  · rw [if_pos (by rw [if_pos c]; omega)]
  · have hl : l.length ≤ 1048576 := by omega
    rw [if_neg (by rw [if_neg c]; omega), toEntryS_is hl (by omega)]
    simp only [Option.bind_some]
    unfold spec_ValidEntries.f
    rw [specEntries_is (by simpa using hl) (by simp)]
    simp only [Option.bind_some]
    rw [implEntries_is _ (by omega)]
    simp only [Option.bind_some]
    generalize okEntries (l.map conv) = b
    rw [eqEntryS_is (by simpa using hl) (by simp)]
    cases b <;> rfl

end Go.Proofs.Ytgdnhidnojjpiac.Pure
