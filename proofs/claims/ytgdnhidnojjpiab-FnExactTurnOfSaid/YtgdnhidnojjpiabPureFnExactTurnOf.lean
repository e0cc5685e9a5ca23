/- The law FnExactTurnOf, as a statement on plain values, holds: the program's TurnOf is the reference's, and the argument stays. For every list of 64-bit integers of at most 2^47 - 4096 bytes and every 64-bit integer. -/
import Derived.Test.YtgdnhidnojjpiabKit
import Derived.Test.YtgdnhidnojjpiabQFnExactTurnOfx2
namespace Go.Proofs.Ytgdnhidnojjpiab.Pure
open Go.RowKit Go.Proofs.Ytgdnhidnojjpiab.PFnExactTurnOf Go.Proofs.Ytgdnhidnojjpiab.Kit Go.Proofs.YtgdnhidnojjpiabW.PrintWords

theorem toIntS_l0 (l : List Int) (hl : l.length ≤ 1048576) : ∀ (d k i : Nat) (x : List Int), l.length - i = d → d < k → i ≤ l.length → x.length = l.length → (∀ j, j < i → x[j]? = l[j]?) → laws_toIntS.l0 k l x (i : Int) = some l := by
  intro d
  induction d with
  | zero =>
    intro k i x hd hk hi hx h
    obtain ⟨k, rfl⟩ : ∃ j, k = j + 1 := ⟨k - 1, by omega⟩
    simp only [laws_toIntS.l0]
    rw [if_neg (by omega)]
    congr 1
    apply List.ext_getElem?
    intro j
    by_cases hj : j < i
    · exact h j hj
    · rw [List.getElem?_eq_none (by omega), List.getElem?_eq_none (by omega)]
  | succ d ih =>
    intro k i x hd hk hi hx h
    obtain ⟨k, rfl⟩ : ∃ j, k = j + 1 := ⟨k - 1, by omega⟩
    have e : wrap64 ((i : Int) + 1) = ((i + 1 : Nat) : Int) := by rw [w64 (by omega) (by omega)]; simp
    simp only [laws_toIntS.l0]
    rw [if_pos (by omega), if_pos (by omega), if_pos (by omega), e, Int.toNat_natCast]
    refine ih k (i + 1) _ (by omega) (by omega) (by omega) (by simpa using hx) ?_
    intro j hj
    rw [set_at (by omega)]
    by_cases c : i = j
    · rw [if_pos c, ← c, rd_get (by omega)]
    · rw [if_neg c]
      exact h j (by omega)
theorem toIntS_is {l : List Int} (hl : l.length ≤ 1048576) {k : Nat} (hk : l.length < k) : laws_toIntS.f k l = some l := by
  unfold laws_toIntS.f
  rw [if_pos (by omega), if_pos (by omega)]
  exact toIntS_l0 l hl l.length k 0 _ (by omega) hk (by omega) (by simp) (by intro j hj; omega)
theorem eqIntS_l0 (l : List Int) (hl : l.length ≤ 1048576) : ∀ (d k i : Nat), l.length - i = d → d < k → i ≤ l.length → laws_eqIntS.l0 k l l (i : Int) = some true := by
  intro d
  induction d with
  | zero =>
    intro k i hd hk hi
    obtain ⟨k, rfl⟩ : ∃ j, k = j + 1 := ⟨k - 1, by omega⟩
    simp only [laws_eqIntS.l0]
    rw [if_neg (by omega)]
  | succ d ih =>
    intro k i hd hk hi
    obtain ⟨k, rfl⟩ : ∃ j, k = j + 1 := ⟨k - 1, by omega⟩
    have e : wrap64 ((i : Int) + 1) = ((i + 1 : Nat) : Int) := by rw [w64 (by omega) (by omega)]; simp
    simp only [laws_eqIntS.l0]
    rw [if_pos (by omega), if_pos (by omega), if_pos (by omega), if_pos trivial, e]
    exact ih k (i + 1) (by omega) (by omega) (by omega)
theorem eqIntS_is {l : List Int} (hl : l.length ≤ 1048576) {k : Nat} (hk : l.length < k) : laws_eqIntS.f k l l = some true := by
  unfold laws_eqIntS.f
  rw [if_pos rfl]
  exact eqIntS_l0 l hl l.length k 0 (by omega) hk (by omega)
theorem place_l0 (a : Int) (l : List Int) (hl : l.length ≤ 1048576) : ∀ (d k i : Nat), l.length - i = d → d < k → i ≤ l.length → spec_placeIn.l0 k l a (i : Int) = some (placeFrom a (l.drop i) i) := by
  intro d
  induction d with
  | zero =>
    intro k i hd hk hi
    obtain ⟨k, rfl⟩ : ∃ j, k = j + 1 := ⟨k - 1, by omega⟩
    simp only [spec_placeIn.l0]
    rw [if_neg (by omega), List.drop_of_length_le (by omega)]
    rfl
  | succ d ih =>
    intro k i hd hk hi
    obtain ⟨k, rfl⟩ : ∃ j, k = j + 1 := ⟨k - 1, by omega⟩
    have e : wrap64 ((i : Int) + 1) = ((i + 1 : Nat) : Int) := by rw [w64 (by omega) (by omega)]; simp
    simp only [spec_placeIn.l0]
    rw [if_pos (by omega), if_pos (by omega), e, drop_rd (by omega)]
    unfold placeFrom
    by_cases c : rd l (i : Int) = a
    · rw [if_pos c, if_pos c]
    · rw [if_neg c, if_neg c]
      exact ih k (i + 1) (by omega) (by omega) (by omega)
theorem place_is (a : Int) {l : List Int} (hl : l.length ≤ 1048576) {k : Nat} (hk : l.length < k) : spec_placeIn.f k l a = some (placeFrom a l 0) := by
  unfold spec_placeIn.f
  have h := place_l0 a l hl l.length k 0 (by omega) hk (by omega)
  simpa using h
theorem members_l0 (n : Int) (hn : 0 ≤ n) (hn' : n ≤ 1048576) (l : List Int) (hl : l.length ≤ 1048576) : ∀ (d k i : Nat), l.length - i = d → d + l.length < k → i ≤ l.length → spec_validMembers.l0 k l n (i : Int) = some (chk n (l.take i) (l.drop i)) := by
  intro d
  induction d with
  | zero =>
    intro k i hd hk hi
    obtain ⟨k, rfl⟩ : ∃ j, k = j + 1 := ⟨k - 1, by omega⟩
    simp only [spec_validMembers.l0]
    rw [if_neg (by omega), List.drop_of_length_le (by omega)]
    simp [chk]
  | succ d ih =>
    intro k i hd hk hi
    obtain ⟨k, rfl⟩ : ∃ j, k = j + 1 := ⟨k - 1, by omega⟩
    have e : wrap64 ((i : Int) + 1) = ((i + 1 : Nat) : Int) := by rw [w64 (by omega) (by omega)]; simp
    have e1 : wrap64 (n - 1) = n - 1 := w64 (by omega) (by omega)
    simp only [spec_validMembers.l0]
    rw [if_pos (by omega), if_pos (by omega), e, e1, drop_rd (by omega), Int.toNat_natCast]
    unfold chk spec_inRange.f
    generalize hx : rd l (i : Int) = x
    by_cases c1 : 0 ≤ x
    · rw [if_pos c1]
      simp only [Option.bind_some]
      by_cases c2 : x < n
      · have c2' : decide (x ≤ n - 1) = true := decide_eq_true (by omega)
        rw [c2', if_pos rfl, if_pos (by omega), place_is x (by rw [List.length_take]; omega) (by rw [List.length_take]; omega)]
        simp only [Option.bind_some]
        have hp := (placeFrom_mem x (l.take i) 0).1
        by_cases c3 : x ∈ l.take i
        · rw [if_pos (hp.mpr c3), if_neg (fun y => y.2.2 c3)]
        · rw [if_neg (fun y => c3 (hp.mp y)), if_pos ⟨c1, c2, c3⟩, ih k (i + 1) (by omega) (by omega) (by omega), take_rd (by omega), hx]
      · have c2' : decide (x ≤ n - 1) = false := decide_eq_false (by omega)
        have c4 : ¬ (0 ≤ x ∧ x < n ∧ ¬ x ∈ l.take i) := fun y => c2 y.2.1
        rw [c2', if_neg (by simp), if_neg c4]
    · have c4 : ¬ (0 ≤ x ∧ x < n ∧ ¬ x ∈ l.take i) := fun y => c1 y.1
      rw [if_neg c1, if_neg c4]
      simp
theorem members_is {n : Int} (hn : 0 ≤ n) (hn' : n ≤ 1048576) {l : List Int} (hl : l.length ≤ 1048576) {k : Nat} (hk : 2 * l.length < k) : spec_validMembers.f k l n = some (chk n [] l) := by
  unfold spec_validMembers.f
  have h := members_l0 n hn hn' l hl l.length k 0 (by omega) (by omega) (by omega)
  simpa using h
theorem different_l0 (n : Nat) (_ : n ≤ 1048576) (l : List Int) (hl : l.length ≤ 1048576) : ∀ (d k i : Nat) (s : List Bool), l.length - i = d → d < k → i ≤ l.length → s.length = n → (∀ v : Nat, v < n → s[v]? = some (decide ((v : Int) ∈ l.take i))) →
    impl_differentBelow.l0 k (n : Int) s l (l.length : Int) (i : Int) = some (chk (n : Int) (l.take i) (l.drop i)) := by
  intro d
  induction d with
  | zero =>
    intro k i s hd hk hi hs h
    obtain ⟨k, rfl⟩ : ∃ j, k = j + 1 := ⟨k - 1, by omega⟩
    simp only [impl_differentBelow.l0]
    rw [if_neg (by omega), List.drop_of_length_le (by omega)]
    simp [chk]
  | succ d ih =>
    intro k i s hd hk hi hs h
    obtain ⟨k, rfl⟩ : ∃ j, k = j + 1 := ⟨k - 1, by omega⟩
    have e : wrap64 ((i : Int) + 1) = ((i + 1 : Nat) : Int) := by rw [w64 (by omega) (by omega)]; simp
    simp only [impl_differentBelow.l0]
    rw [if_pos (by omega), if_pos (by omega), if_pos (by omega), e, drop_rd (by omega)]
    unfold chk
    generalize hx : rd l (i : Int) = x
    by_cases c1 : x < 0
    · rw [if_pos c1, if_neg (fun y => by omega)]
    · rw [if_neg c1]
      by_cases c2 : x < (n : Int)
      · rw [if_neg (by omega), if_pos (by omega), if_pos (by omega)]
        have hv := h x.toNat (by omega)
        have ex : ((x.toNat : Nat) : Int) = x := by omega
        rw [ex] at hv
        have hr : rdOf false s x = decide (x ∈ l.take i) := by
          unfold rdOf
          rw [List.getD_eq_getElem?_getD, hv]
          rfl
        rw [hr]
        by_cases c3 : x ∈ l.take i
        · rw [decide_eq_true c3, if_pos rfl, if_neg (fun y => y.2.2 c3)]
        · rw [decide_eq_false c3, if_neg (by simp), if_pos ⟨by omega, c2, c3⟩]
          rw [ih k (i + 1) _ (by omega) (by omega) (by omega) (by simpa using hs) ?_, take_rd (by omega), hx]
          intro v hv'
          rw [set_at (by omega), take_rd (by omega), hx]
          by_cases c4 : x.toNat = v
          · have c5 : (v : Int) = x := by omega
            rw [if_pos c4, c5]
            simp
          · have c5 : ¬ (v : Int) = x := by omega
            rw [if_neg c4, h v hv']
            simp [c5]
      · rw [if_pos (by omega), if_neg (fun y => c2 y.2.1)]
theorem different_is {n : Nat} (hn : n ≤ 1048576) {l : List Int} (hl : l.length ≤ n) {k : Nat} (hk : l.length < k) : impl_differentBelow.f k l (n : Int) = some (chk (n : Int) [] l) := by
  unfold impl_differentBelow.f
  rw [if_neg (by omega), if_pos (by omega), if_pos (by omega)]
  have h := different_l0 n hn l (by omega) l.length k 0 (List.replicate ((n : Int)).toNat false) (by omega) hk (by omega) (by simp) (by
    intro v hv
    simp [List.getElem?_replicate]
    omega)
  simpa using h
def okOrder (l : List Int) : Bool := decide (1 ≤ l.length) && (decide (l.length ≤ 12) && chk (l.length : Int) [] l)
theorem specOrder_is {l : List Int} (hl : l.length ≤ 1048576) {k : Nat} (hk : 30 ≤ k) : spec_validOrder.f k l = some (okOrder l) := by
  unfold spec_validOrder.f okOrder spec_inRange.f
  by_cases c1 : 1 ≤ l.length
  · have c1' : (1 : Int) ≤ (l.length : Int) := by omega
    by_cases c2 : l.length ≤ 12
    · have c2' : (l.length : Int) ≤ 12 := by omega
      simp only [c1', c2', c1, c2, if_true, decide_true, Option.bind_some, Bool.true_and]
      rw [members_is (n := (l.length : Int)) (by omega) (by omega) hl (by omega)]
      simp
    · have c2' : ¬ (l.length : Int) ≤ 12 := by omega
      simp [c1', c2', c1, c2]
  · have c1' : ¬ (1 : Int) ≤ (l.length : Int) := by omega
    simp [c1', c1]
theorem implOrder_is {l : List Int} (hl : l.length ≤ 1048576) {k : Nat} (hk : 30 ≤ k) : impl_ValidOrder.f k l = some (okOrder l) := by
  unfold impl_ValidOrder.f okOrder
  by_cases c1 : 1 ≤ l.length
  · have c1' : (l.length : Int) ≥ 1 := by omega
    by_cases c2 : l.length ≤ 12
    · have c2' : (l.length : Int) ≤ 12 := by omega
      rw [if_pos c1', if_pos c2', different_is (n := l.length) hl (by omega) (by omega)]
      simp [c1, c2]
    · have c2' : ¬ (l.length : Int) ≤ 12 := by omega
      simp [c1', c2', c1, c2]
  · have c1' : ¬ (l.length : Int) ≥ 1 := by omega
    simp [c1', c1]
theorem okOrder_true {l : List Int} (h : okOrder l = true) : 1 ≤ l.length ∧ l.length ≤ 12 ∧ (∀ x ∈ l, 0 ≤ x ∧ x < (l.length : Int)) ∧ l.Nodup := by
  unfold okOrder at h
  simp only [Bool.and_eq_true, decide_eq_true_eq] at h
  have c := chk_true l [] h.2.2 (by simp)
  exact ⟨h.1, h.2.1, c.1, by simpa using c.2⟩
theorem index_l0 (a : Int) (l : List Int) (hl : l.length ≤ 1048576) : ∀ (d k i : Nat), l.length - i = d → d < k → i ≤ l.length → slices_Index_int_int.l0 k l a (l.length : Int) (i : Int) = some (placeFrom a (l.drop i) i) := by
  intro d
  induction d with
  | zero =>
    intro k i hd hk hi
    obtain ⟨k, rfl⟩ : ∃ j, k = j + 1 := ⟨k - 1, by omega⟩
    simp only [slices_Index_int_int.l0]
    rw [if_neg (by omega), List.drop_of_length_le (by omega)]
    rfl
  | succ d ih =>
    intro k i hd hk hi
    obtain ⟨k, rfl⟩ : ∃ j, k = j + 1 := ⟨k - 1, by omega⟩
    have e : wrap64 ((i : Int) + 1) = ((i + 1 : Nat) : Int) := by rw [w64 (by omega) (by omega)]; simp
    simp only [slices_Index_int_int.l0]
    rw [if_pos (by omega), if_pos (by omega), if_pos (by omega), e, drop_rd (by omega)]
    unfold placeFrom
    by_cases c : rd l (i : Int) = a
    · rw [if_pos c.symm, if_pos c]
    · rw [if_neg (fun y => c y.symm), if_neg c]
      exact ih k (i + 1) (by omega) (by omega) (by omega)
theorem index_is (a : Int) {l : List Int} (hl : l.length ≤ 1048576) {k : Nat} (hk : l.length < k) : slices_Index_int_int.f k l a = some (placeFrom a l 0) := by
  unfold slices_Index_int_int.f
  have h := index_l0 a l hl l.length k 0 (by omega) hk (by omega)
  simpa using h

theorem spec_is {l : List Int} (hl : l.length ≤ 1048576) (a : Int) {k : Nat} (hk : l.length + 40 ≤ k) : spec_TurnOf.f k l a = some (if okOrder l = true then placeFrom a l 0 else -1) := by
  unfold spec_TurnOf.f
  rw [specOrder_is hl (by omega)]
  simp only [Option.bind_some]
  by_cases c : okOrder l = true
  · rw [if_pos c, if_pos c, place_is a hl (by omega)]
    rfl
  · rw [if_neg c, if_neg c]
theorem impl_is {l : List Int} (hl : l.length ≤ 1048576) (a : Int) {k : Nat} (hk : l.length + 40 ≤ k) : impl_TurnOf.f k l a = some (if okOrder l = true then placeFrom a l 0 else -1) := by
  unfold impl_TurnOf.f
  rw [implOrder_is hl (by omega)]
  simp only [Option.bind_some]
  by_cases c : okOrder l = true
  · rw [if_pos c, if_pos c, index_is a hl (by omega)]
    rfl
  · rw [if_neg c, if_neg c]

theorem FnExactTurnOf : laws_FnExactTurnOf.Pure := by
  intro l a _ _ _ _
  refine ⟨l.length + 80, ?_⟩
  unfold laws_FnExactTurnOf.f
  by_cases c : (l.length : Int) > 1048576
  · rw [if_pos c]
  · have hl : l.length ≤ 1048576 := by omega
    rw [if_neg c, toIntS_is hl (by omega)]
    simp only [Option.bind_some]
    rw [spec_is hl a (by omega), impl_is hl a (by omega)]
    simp only [Option.bind_some, if_true]
    rw [eqIntS_is hl (by omega)]
    simp

end Go.Proofs.Ytgdnhidnojjpiab.Pure
