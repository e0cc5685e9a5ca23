/- The law FnExactCreditAfter, as a statement on plain values, holds: the program's CreditAfter is the reference's, and the argument stays. For every list of 64-bit integers of at most 2^47 - 4096 bytes and all pairs of 64-bit integers. -/
import Derived.Test.YtgdnhidnojjpiaaKit
import Derived.Test.YtgdnhidnojjpiaaQFnExactCreditAfterx3
namespace Go.Proofs.Ytgdnhidnojjpiaa.Pure
open Go.RowKit Go.Proofs.Ytgdnhidnojjpiaa.PFnExactCreditAfter Go.Proofs.Ytgdnhidnojjpiaa.Kit Go.Proofs.YtgdnhidnojjpiaaW.PrintWords

theorem toIntS_l0 (l : List Int) (hl : l.length ≤ 1048576) : ∀ (d k i : Nat) (x : List Int), l.length - i = d → d < k → i ≤ l.length → x.length = l.length → (∀ j, j < i → x[j]? = l[j]?) → laws_toIntS.l0 k l x (i : Int) = some l := by
  intro d
  induction d with
  | zero =>
    intro k i x hd hk hi hx h
    obtain ⟨k, rfl⟩ : ∃ j, k = j + 1 := ⟨k - 1, by omega⟩
    simp only [laws_toIntS.l0]
    rw [if_neg (by omega)]
    congr 1
    apply List.ext_getElem?
    intro j
    by_cases hj : j < i
    · exact h j hj
    · rw [List.getElem?_eq_none (by omega), List.getElem?_eq_none (by omega)]
  | succ d ih =>
    intro k i x hd hk hi hx h
    obtain ⟨k, rfl⟩ : ∃ j, k = j + 1 := ⟨k - 1, by omega⟩
    have e : wrap64 ((i : Int) + 1) = ((i + 1 : Nat) : Int) := by rw [w64 (by omega) (by omega)]; simp
    simp only [laws_toIntS.l0]
    rw [if_pos (by omega), if_pos (by omega), if_pos (by omega), e, Int.toNat_natCast]
    refine ih k (i + 1) _ (by omega) (by omega) (by omega) (by simpa using hx) ?_
    intro j hj
    rw [set_at (by omega)]
    by_cases c : i = j
    · rw [if_pos c, ← c, rd_get (by omega)]
    · rw [if_neg c]
      exact h j (by omega)
theorem toIntS_is {l : List Int} (hl : l.length ≤ 1048576) {k : Nat} (hk : l.length < k) : laws_toIntS.f k l = some l := by
  unfold laws_toIntS.f
  rw [if_pos (by omega), if_pos (by omega)]
  exact toIntS_l0 l hl l.length k 0 _ (by omega) hk (by omega) (by simp) (by intro j hj; omega)
theorem eqIntS_l0 (l : List Int) (hl : l.length ≤ 1048576) : ∀ (d k i : Nat), l.length - i = d → d < k → i ≤ l.length → laws_eqIntS.l0 k l l (i : Int) = some true := by
  intro d
  induction d with
  | zero =>
    intro k i hd hk hi
    obtain ⟨k, rfl⟩ : ∃ j, k = j + 1 := ⟨k - 1, by omega⟩
    simp only [laws_eqIntS.l0]
    rw [if_neg (by omega)]
  | succ d ih =>
    intro k i hd hk hi
    obtain ⟨k, rfl⟩ : ∃ j, k = j + 1 := ⟨k - 1, by omega⟩
    have e : wrap64 ((i : Int) + 1) = ((i + 1 : Nat) : Int) := by rw [w64 (by omega) (by omega)]; simp
    simp only [laws_eqIntS.l0]
    rw [if_pos (by omega), if_pos (by omega), if_pos (by omega), if_pos trivial, e]
    exact ih k (i + 1) (by omega) (by omega) (by omega)
theorem eqIntS_is {l : List Int} (hl : l.length ≤ 1048576) {k : Nat} (hk : l.length < k) : laws_eqIntS.f k l l = some true := by
  unfold laws_eqIntS.f
  rw [if_pos rfl]
  exact eqIntS_l0 l hl l.length k 0 (by omega) hk (by omega)
theorem place_l0 (a : Int) (l : List Int) (hl : l.length ≤ 1048576) : ∀ (d k i : Nat), l.length - i = d → d < k → i ≤ l.length → spec_placeIn.l0 k l a (i : Int) = some (placeFrom a (l.drop i) i) := by
  intro d
  induction d with
  | zero =>
    intro k i hd hk hi
    obtain ⟨k, rfl⟩ : ∃ j, k = j + 1 := ⟨k - 1, by omega⟩
    simp only [spec_placeIn.l0]
    rw [if_neg (by omega), List.drop_of_length_le (by omega)]
    rfl
  | succ d ih =>
    intro k i hd hk hi
    obtain ⟨k, rfl⟩ : ∃ j, k = j + 1 := ⟨k - 1, by omega⟩
    have e : wrap64 ((i : Int) + 1) = ((i + 1 : Nat) : Int) := by rw [w64 (by omega) (by omega)]; simp
    simp only [spec_placeIn.l0]
    rw [if_pos (by omega), if_pos (by omega), e, drop_rd (by omega)]
    unfold placeFrom
    by_cases c : rd l (i : Int) = a
    · rw [if_pos c, if_pos c]
    · rw [if_neg c, if_neg c]
      exact ih k (i + 1) (by omega) (by omega) (by omega)
theorem place_is (a : Int) {l : List Int} (hl : l.length ≤ 1048576) {k : Nat} (hk : l.length < k) : spec_placeIn.f k l a = some (placeFrom a l 0) := by
  unfold spec_placeIn.f
  have h := place_l0 a l hl l.length k 0 (by omega) hk (by omega)
  simpa using h
theorem members_l0 (n : Int) (hn : 0 ≤ n) (hn' : n ≤ 1048576) (l : List Int) (hl : l.length ≤ 1048576) : ∀ (d k i : Nat), l.length - i = d → d + l.length < k → i ≤ l.length → spec_validMembers.l0 k l n (i : Int) = some (chk n (l.take i) (l.drop i)) := by
  intro d
  induction d with
  | zero =>
    intro k i hd hk hi
    obtain ⟨k, rfl⟩ : ∃ j, k = j + 1 := ⟨k - 1, by omega⟩
    simp only [spec_validMembers.l0]
    rw [if_neg (by omega), List.drop_of_length_le (by omega)]
    simp [chk]
  | succ d ih =>
    intro k i hd hk hi
    obtain ⟨k, rfl⟩ : ∃ j, k = j + 1 := ⟨k - 1, by omega⟩
    have e : wrap64 ((i : Int) + 1) = ((i + 1 : Nat) : Int) := by rw [w64 (by omega) (by omega)]; simp
    have e1 : wrap64 (n - 1) = n - 1 := w64 (by omega) (by omega)
    simp only [spec_validMembers.l0]
    rw [if_pos (by omega), if_pos (by omega), e, e1, drop_rd (by omega), Int.toNat_natCast]
    unfold chk spec_inRange.f
    generalize hx : rd l (i : Int) = x
    by_cases c1 : 0 ≤ x
    · rw [if_pos c1]
      simp only [Option.bind_some]
      by_cases c2 : x < n
      · have c2' : decide (x ≤ n - 1) = true := decide_eq_true (by omega)
        rw [c2', if_pos rfl, if_pos (by omega), place_is x (by rw [List.length_take]; omega) (by rw [List.length_take]; omega)]
        simp only [Option.bind_some]
        have hp := (placeFrom_mem x (l.take i) 0).1
        by_cases c3 : x ∈ l.take i
        · rw [if_pos (hp.mpr c3), if_neg (fun y => y.2.2 c3)]
        · rw [if_neg (fun y => c3 (hp.mp y)), if_pos ⟨c1, c2, c3⟩, ih k (i + 1) (by omega) (by omega) (by omega), take_rd (by omega), hx]
      · have c2' : decide (x ≤ n - 1) = false := decide_eq_false (by omega)
        have c4 : ¬ (0 ≤ x ∧ x < n ∧ ¬ x ∈ l.take i) := fun y => c2 y.2.1
        rw [c2', if_neg (by simp), if_neg c4]
    · have c4 : ¬ (0 ≤ x ∧ x < n ∧ ¬ x ∈ l.take i) := fun y => c1 y.1
      rw [if_neg c1, if_neg c4]
      simp
theorem members_is {n : Int} (hn : 0 ≤ n) (hn' : n ≤ 1048576) {l : List Int} (hl : l.length ≤ 1048576) {k : Nat} (hk : 2 * l.length < k) : spec_validMembers.f k l n = some (chk n [] l) := by
  unfold spec_validMembers.f
  have h := members_l0 n hn hn' l hl l.length k 0 (by omega) (by omega) (by omega)
  simpa using h
theorem different_l0 (n : Nat) (_ : n ≤ 1048576) (l : List Int) (hl : l.length ≤ 1048576) : ∀ (d k i : Nat) (s : List Bool), l.length - i = d → d < k → i ≤ l.length → s.length = n → (∀ v : Nat, v < n → s[v]? = some (decide ((v : Int) ∈ l.take i))) →
    impl_differentBelow.l0 k (n : Int) s l (l.length : Int) (i : Int) = some (chk (n : Int) (l.take i) (l.drop i)) := by
  intro d
  induction d with
  | zero =>
    intro k i s hd hk hi hs h
    obtain ⟨k, rfl⟩ : ∃ j, k = j + 1 := ⟨k - 1, by omega⟩
    simp only [impl_differentBelow.l0]
    rw [if_neg (by omega), List.drop_of_length_le (by omega)]
    simp [chk]
  | succ d ih =>
    intro k i s hd hk hi hs h
    obtain ⟨k, rfl⟩ : ∃ j, k = j + 1 := ⟨k - 1, by omega⟩
    have e : wrap64 ((i : Int) + 1) = ((i + 1 : Nat) : Int) := by rw [w64 (by omega) (by omega)]; simp
    simp only [impl_differentBelow.l0]
    rw [if_pos (by omega), if_pos (by omega), if_pos (by omega), e, drop_rd (by omega)]
    unfold chk
    generalize hx : rd l (i : Int) = x
    by_cases c1 : x < 0
    · rw [if_pos c1, if_neg (fun y => by omega)]
    · rw [if_neg c1]
      by_cases c2 : x < (n : Int)
      · rw [if_neg (by omega), if_pos (by omega), if_pos (by omega)]
        have hv := h x.toNat (by omega)
        have ex : ((x.toNat : Nat) : Int) = x := by omega
        rw [ex] at hv
        have hr : rdOf false s x = decide (x ∈ l.take i) := by
          unfold rdOf
          rw [List.getD_eq_getElem?_getD, hv]
          rfl
        rw [hr]
        by_cases c3 : x ∈ l.take i
        · rw [decide_eq_true c3, if_pos rfl, if_neg (fun y => y.2.2 c3)]
        · rw [decide_eq_false c3, if_neg (by simp), if_pos ⟨by omega, c2, c3⟩]
          rw [ih k (i + 1) _ (by omega) (by omega) (by omega) (by simpa using hs) ?_, take_rd (by omega), hx]
          intro v hv'
          rw [set_at (by omega), take_rd (by omega), hx]
          by_cases c4 : x.toNat = v
          · have c5 : (v : Int) = x := by omega
            rw [if_pos c4, c5]
            simp
          · have c5 : ¬ (v : Int) = x := by omega
            rw [if_neg c4, h v hv']
            simp [c5]
      · rw [if_pos (by omega), if_neg (fun y => c2 y.2.1)]
theorem different_is {n : Nat} (hn : n ≤ 1048576) {l : List Int} (hl : l.length ≤ n) {k : Nat} (hk : l.length < k) : impl_differentBelow.f k l (n : Int) = some (chk (n : Int) [] l) := by
  unfold impl_differentBelow.f
  rw [if_neg (by omega), if_pos (by omega), if_pos (by omega)]
  have h := different_l0 n hn l (by omega) l.length k 0 (List.replicate ((n : Int)).toNat false) (by omega) hk (by omega) (by simp) (by
    intro v hv
    simp [List.getElem?_replicate]
    omega)
  simpa using h
def okOrder (l : List Int) : Bool := decide (1 ≤ l.length) && (decide (l.length ≤ 12) && chk (l.length : Int) [] l)
theorem specOrder_is {l : List Int} (hl : l.length ≤ 1048576) {k : Nat} (hk : 30 ≤ k) : spec_validOrder.f k l = some (okOrder l) := by
  unfold spec_validOrder.f okOrder spec_inRange.f
  by_cases c1 : 1 ≤ l.length
  · have c1' : (1 : Int) ≤ (l.length : Int) := by omega
    by_cases c2 : l.length ≤ 12
    · have c2' : (l.length : Int) ≤ 12 := by omega
      simp only [c1', c2', c1, c2, if_true, decide_true, Option.bind_some, Bool.true_and]
      rw [members_is (n := (l.length : Int)) (by omega) (by omega) hl (by omega)]
      simp
    · have c2' : ¬ (l.length : Int) ≤ 12 := by omega
      simp [c1', c2', c1, c2]
  · have c1' : ¬ (1 : Int) ≤ (l.length : Int) := by omega
    simp [c1', c1]
theorem implOrder_is {l : List Int} (hl : l.length ≤ 1048576) {k : Nat} (hk : 30 ≤ k) : impl_ValidOrder.f k l = some (okOrder l) := by
  unfold impl_ValidOrder.f okOrder
  by_cases c1 : 1 ≤ l.length
  · have c1' : (l.length : Int) ≥ 1 := by omega
    by_cases c2 : l.length ≤ 12
    · have c2' : (l.length : Int) ≤ 12 := by omega
      rw [if_pos c1', if_pos c2', different_is (n := l.length) hl (by omega) (by omega)]
      simp [c1, c2]
    · have c2' : ¬ (l.length : Int) ≤ 12 := by omega
      simp [c1', c2', c1, c2]
  · have c1' : ¬ (l.length : Int) ≥ 1 := by omega
    simp [c1', c1]
theorem okOrder_true {l : List Int} (h : okOrder l = true) : 1 ≤ l.length ∧ l.length ≤ 12 ∧ (∀ x ∈ l, 0 ≤ x ∧ x < (l.length : Int)) ∧ l.Nodup := by
  unfold okOrder at h
  simp only [Bool.and_eq_true, decide_eq_true_eq] at h
  have c := chk_true l [] h.2.2 (by simp)
  exact ⟨h.1, h.2.1, c.1, by simpa using c.2⟩
/-- what member i got less what it paid: a pot if its turn was -/
def val (l : List Int) (p r i : Int) : Int := -p * r + if i ∈ l.take r.toNat then p * (l.length : Int) else 0
def vals (l : List Int) (p r : Int) : List Int := (List.range l.length).map (fun i : Nat => val l p r (i : Int))
theorem net_bd {p r n : Int} (hp : 0 ≤ p) (hp' : p ≤ 10000) (hr : 0 ≤ r) (hr' : r ≤ n) (hn : n ≤ 12) : -120000 ≤ -p * r ∧ -p * r ≤ 0 ∧ 0 ≤ p * n ∧ p * n ≤ 120000 := by
  have h1 : 0 ≤ p * r := Int.mul_nonneg hp hr
  have h2 : p * r ≤ 10000 * 12 := Int.mul_le_mul hp' (by omega) hr (by omega)
  have h3 : 0 ≤ p * n := Int.mul_nonneg hp (by omega)
  have h4 : p * n ≤ 10000 * 12 := Int.mul_le_mul hp' hn (by omega) (by omega)
  have h5 : -p * r = -(p * r) := Int.neg_mul p r
  omega
theorem val_bd {l : List Int} {p r : Int} (hl : l.length ≤ 12) (hp : 0 ≤ p) (hp' : p ≤ 10000) (hr : 0 ≤ r) (hr' : r ≤ (l.length : Int)) (i : Int) : -120000 ≤ val l p r i ∧ val l p r i ≤ 120000 := by
  have h := net_bd hp hp' hr hr' (by omega)
  unfold val
  split <;> omega
theorem specNet_l0 {l : List Int} (hl : l.length ≤ 12) {p r : Int} (hp : 0 ≤ p) (hp' : p ≤ 10000) (hr : 0 ≤ r) (hr' : r ≤ (l.length : Int)) : ∀ (d k i : Nat), l.length - i = d → d + 20 < k → i ≤ l.length →
    spec_netAfter.l0 k l p r ((List.range i).map (fun i : Nat => val l p r (i : Int))) (i : Int) = some (vals l p r) := by
  intro d
  induction d with
  | zero =>
    intro k i hd hk hi
    obtain ⟨k, rfl⟩ : ∃ j, k = j + 1 := ⟨k - 1, by omega⟩
    have e : i = l.length := by omega
    simp only [spec_netAfter.l0]
    rw [if_neg (by omega), e]
    rfl
  | succ d ih =>
    intro k i hd hk hi
    obtain ⟨k, rfl⟩ : ∃ j, k = j + 1 := ⟨k - 1, by omega⟩
    have hb := net_bd hp hp' hr hr' (by omega)
    have hstep := ih k (i + 1) (by omega) (by omega) (by omega)
    clear ih
    rw [List.range_succ, List.map_append, List.map_cons, List.map_nil] at hstep
    have e1 : wrap64 ((i : Int) + 1) = ((i + 1 : Nat) : Int) := by rw [w64 (by omega) (by omega)]; simp
    have e0 : wrap64 (-p) = -p := w64 (by omega) (by omega)
    simp only [spec_netAfter.l0]
    rw [e1, e0]
    clear e1 e0
    have e2 : wrap64 (-p * r) = -p * r := w64 (by omega) (by omega)
    have e3 : wrap64 (p * (l.length : Int)) = p * (l.length : Int) := w64 (by omega) (by omega)
    rw [e2, e3]
    clear e2 e3
    have e4 : wrap64 (-p * r + p * (l.length : Int)) = -p * r + p * (l.length : Int) := w64 (by omega) (by omega)
    rw [e4]
    clear e4
    have hlen : ((List.range i).map (fun i : Nat => val l p r (i : Int))).length < 17592186044416 := by simp; omega
    rw [if_pos (by omega), if_pos hr, if_pos hr', place_is (i : Int) (by rw [List.length_take]; omega) (by rw [List.length_take]; omega)]
    simp only [Option.bind_some]
    have hp := (placeFrom_mem (i : Int) (l.take r.toNat) 0).1
    by_cases c : (i : Int) ∈ l.take r.toNat
    · have hv : val l p r (i : Int) = -p * r + p * (l.length : Int) := by unfold val; rw [if_pos c]
      rw [hv] at hstep
      rw [if_pos (hp.mpr c), if_pos hlen, hstep]
    · have hv : val l p r (i : Int) = -p * r := by unfold val; rw [if_neg c]; simp
      rw [hv] at hstep
      rw [if_neg (fun y => c (hp.mp y)), if_pos hlen, hstep]
theorem specNet_is {l : List Int} (hl : l.length ≤ 12) {p r : Int} (hp : 0 ≤ p) (hp' : p ≤ 10000) (hr : 0 ≤ r) (hr' : r ≤ (l.length : Int)) {k : Nat} (hk : 40 ≤ k) : spec_netAfter.f k l p r = some (vals l p r) := by
  unfold spec_netAfter.f
  have h := specNet_l0 hl hp hp' hr hr' l.length k 0 (by omega) (by omega) (by omega)
  simpa using h
theorem implPot_in {a b : Int} (h1 : 1 ≤ a) (h2 : a ≤ 12) (h3 : 0 ≤ b) (h4 : b ≤ 10000) : impl_PotOf.f a b = some (a * b) ∧ 0 ≤ a * b ∧ a * b ≤ 120000 := by
  have h5 : 0 ≤ a * b := Int.mul_nonneg (by omega) h3
  have h6 : a * b ≤ 12 * 10000 := Int.mul_le_mul h2 h4 h3 (by omega)
  refine ⟨?_, h5, by omega⟩
  unfold impl_PotOf.f
  rw [if_neg (by omega), if_neg (by omega), if_neg (by omega), if_neg (by omega), w64 (by omega) (by omega)]
theorem implPot_out {a b : Int} (h : ¬ (1 ≤ a ∧ a ≤ 12 ∧ 0 ≤ b ∧ b ≤ 10000)) : impl_PotOf.f a b = some (-1) := by
  unfold impl_PotOf.f
  repeat' split
  all_goals first | rfl | omega
theorem turn_in {l : List Int} (hn : l.Nodup) {t r : Nat} (ht : t < l.length) : rd l (t : Int) ∈ l.take r ↔ t < r := by
  rw [rd_at ht]
  constructor
  · intro h
    obtain ⟨j, hj, e⟩ := List.mem_take_iff_getElem.mp h
    have := (List.getElem_inj hn).mp e
    omega
  · intro h
    exact List.mem_take_iff_getElem.mpr ⟨t, by omega, rfl⟩
theorem implNet_l0 {l : List Int} (hl : l.length ≤ 12) (hn : l.Nodup) (hx : ∀ x ∈ l, 0 ≤ x ∧ x < (l.length : Int)) {p r : Int} (hp : 0 ≤ p) (hp' : p ≤ 10000) (hr : 0 ≤ r) (hr' : r ≤ (l.length : Int)) :
    ∀ (d k t : Nat) (s : List Int), l.length - t = d → d < k → t ≤ l.length → s.length = l.length → (∀ v : Nat, v < l.length → (v : Int) ∈ l.take t → s[v]? = some (val l p r (v : Int))) →
    impl_NetAfter.l0 k p r ((l.length : Int) * p) s l (l.length : Int) (t : Int) = some (vals l p r) := by
  intro d
  induction d with
  | zero =>
    intro k t s hd hk ht hs h
    obtain ⟨k, rfl⟩ : ∃ j, k = j + 1 := ⟨k - 1, by omega⟩
    simp only [impl_NetAfter.l0]
    rw [if_neg (by omega)]
    congr 1
    apply List.ext_getElem?
    intro v
    by_cases hv : v < l.length
    · have hm : (v : Int) ∈ l := all_in hn hx rfl (by omega) (by omega)
      rw [h v hv (by rw [List.take_of_length_le (by omega)]; exact hm)]
      simp [vals, hv]
    · rw [List.getElem?_eq_none (by omega), List.getElem?_eq_none (by simp [vals]; omega)]
  | succ d ih =>
    intro k t s hd hk ht hs h
    obtain ⟨k, rfl⟩ : ∃ j, k = j + 1 := ⟨k - 1, by omega⟩
    have hb := net_bd hp hp' hr hr' (by omega)
    have ec : (l.length : Int) * p = p * (l.length : Int) := Int.mul_comm _ _
    have hlt : t < l.length := by omega
    have e1 : wrap64 ((t : Int) + 1) = ((t + 1 : Nat) : Int) := by rw [w64 (by omega) (by omega)]; simp
    have e0 : wrap64 (-p) = -p := w64 (by omega) (by omega)
    have e2 : wrap64 (-p * r) = -p * r := w64 (by omega) (by omega)
    have e4 : wrap64 (-p * r + (l.length : Int) * p) = -p * r + (l.length : Int) * p := w64 (by omega) (by omega)
    have hm := hx _ (rd_mem hlt)
    have hin := turn_in (r := r.toNat) hn hlt
    simp only [impl_NetAfter.l0]
    rw [e1, e0, e2]
    clear e1 e0 e2
    have htk := take_rd hlt
    generalize hxe : rd l (t : Int) = x at hm hin htk ⊢
    rw [if_pos (by omega), if_pos (by omega), if_pos (by omega), if_pos hm.1, if_pos (by omega)]
    simp only [Option.bind_some]
    have hr2 : rd (s.set x.toNat (-p * r)) x = -p * r := by
      have := rd_at (xs := s.set x.toNat (-p * r)) (i := x.toNat) (by simp; omega)
      have ex : ((x.toNat : Nat) : Int) = x := by omega
      rw [ex] at this
      rw [this]
      simp
    rw [hr2, e4]
    clear e4
    have hv : ∀ v : Nat, x.toNat = v → (v : Int) = x := by omega
    have hne : ∀ v : Nat, ¬ x.toNat = v → (v : Int) ∈ l.take (t + 1) → (v : Int) ∈ l.take t := by
      intro v c hv'
      rw [htk] at hv'
      rcases List.mem_append.mp hv' with h' | h'
      · exact h'
      · have : (v : Int) = x := by simpa using h'
        omega
    by_cases c : (t : Int) < r
    · have hval : val l p r x = -p * r + (l.length : Int) * p := by
        unfold val
        rw [if_pos (hin.mpr (by omega)), ec]
      rw [if_pos c]
      refine ih k (t + 1) _ (by omega) (by omega) (by omega) (by simpa using hs) ?_
      intro v hv1 hv2
      rw [set_at (by simp; omega), set_at (by omega)]
      by_cases c2 : x.toNat = v
      · rw [if_pos c2, hv v c2, hval]
      · rw [if_neg c2, if_neg c2]
        exact h v hv1 (hne v c2 hv2)
    · have hval : val l p r x = -p * r := by
        unfold val
        rw [if_neg (fun y => by have := hin.mp y; omega)]
        simp
      rw [if_neg c]
      refine ih k (t + 1) _ (by omega) (by omega) (by omega) (by simpa using hs) ?_
      intro v hv1 hv2
      rw [set_at (by omega)]
      by_cases c2 : x.toNat = v
      · rw [if_pos c2, hv v c2, hval]
      · rw [if_neg c2]
        exact h v hv1 (hne v c2 hv2)
theorem implNet_in {l : List Int} (ho : okOrder l = true) (hL : l.length ≤ 1048576) {p r : Int} (hp : 0 ≤ p) (hp' : p ≤ 10000) (hr : 0 ≤ r) (hr' : r ≤ (l.length : Int)) {k : Nat} (hk : 60 ≤ k) : impl_NetAfter.f k l p r = some (vals l p r) := by
  obtain ⟨k, rfl⟩ : ∃ j, k = j + 1 := ⟨k - 1, by omega⟩
  obtain ⟨h1, h2, h3, h4⟩ := okOrder_true ho
  obtain ⟨hpot, hp0, hp1⟩ := implPot_in (a := (l.length : Int)) (b := p) (by omega) (by omega) hp hp'
  unfold impl_NetAfter.f
  rw [hpot, implOrder_is hL (by omega), ho]
  simp only [Option.bind_some, if_true]
  rw [if_neg (by omega), if_neg (by omega), decide_eq_false (by omega)]
  simp only [impl_NetAfter.j0]
  rw [if_neg (by simp), if_pos (by omega), if_pos (by omega)]
  exact implNet_l0 h2 h4 h3 hp hp' hr hr' l.length k 0 _ (by omega) (by omega) (by omega) (by simp) (by intro v _ hv; simp at hv)
theorem implNet_out {l : List Int} (hL : l.length ≤ 1048576) {p r : Int} (h : ¬ (okOrder l = true ∧ 0 ≤ p ∧ p ≤ 10000 ∧ 0 ≤ r ∧ r ≤ (l.length : Int))) {k : Nat} (hk : 60 ≤ k) : impl_NetAfter.f k l p r = some [] := by
  obtain ⟨k, rfl⟩ : ∃ j, k = j + 1 := ⟨k - 1, by omega⟩
  unfold impl_NetAfter.f
  by_cases ho : okOrder l = true
  · obtain ⟨h1, h2, h3, h4⟩ := okOrder_true ho
    rw [implOrder_is hL (by omega), ho]
    by_cases c : 0 ≤ p ∧ p ≤ 10000
    · obtain ⟨hpot, hp0, hp1⟩ := implPot_in (a := (l.length : Int)) (b := p) (by omega) (by omega) c.1 c.2
      rw [hpot]
      simp only [Option.bind_some, if_true]
      rw [if_neg (by omega)]
      by_cases c2 : r < 0
      · rw [if_pos c2]
        simp [impl_NetAfter.j0]
      · have c3 : r > (l.length : Int) := by
          rcases Int.lt_or_le (l.length : Int) r with x | x
          · exact x
          · exact absurd ⟨ho, c.1, c.2, by omega, x⟩ h
        rw [if_neg c2, decide_eq_true c3]
        simp [impl_NetAfter.j0]
    · rw [implPot_out (by omega)]
      simp [impl_NetAfter.j0]
  · have ho' : okOrder l = false := by simpa using ho
    obtain ⟨v, hv⟩ : ∃ v, impl_PotOf.f (l.length : Int) p = some v := by
      unfold impl_PotOf.f
      repeat' split
      all_goals exact ⟨_, rfl⟩
    rw [hv, implOrder_is hL (by omega), ho']
    simp [impl_NetAfter.j0]
theorem range_in {a lo hi : Int} (h : lo ≤ a) (h' : a ≤ hi) : spec_inRange.f a lo hi = some true := by
  unfold spec_inRange.f
  rw [if_pos h, decide_eq_true h']
theorem range_out {a lo hi : Int} (h : ¬ (lo ≤ a ∧ a ≤ hi)) : spec_inRange.f a lo hi = some false := by
  unfold spec_inRange.f
  by_cases h1 : lo ≤ a
  · rw [if_pos h1, decide_eq_false (by omega)]
  · rw [if_neg h1]

def pos (x : Int) : Int := if 0 ≤ x then x else 0
theorem mx_pos (x : Int) : mx 0 x = pos x ∧ mx x 0 = pos x := by
  unfold mx pos
  constructor <;> split <;> omega
theorem specSum_l0 (v : List Int) (hv : ∀ x ∈ v, -120000 ≤ x ∧ x ≤ 120000) (hl : v.length ≤ 12) : ∀ (d k i : Nat) (s : Int), v.length - i = d → d < k → i ≤ v.length → 0 ≤ s → s ≤ i * 120000 → spec_CreditAfter.l0 k s v (i : Int) = some (s + ((v.drop i).map pos).sum) := by
  intro d
  induction d with
  | zero =>
    intro k i s hd hk hi h0 h1
    obtain ⟨k, rfl⟩ : ∃ j, k = j + 1 := ⟨k - 1, by omega⟩
    simp only [spec_CreditAfter.l0]
    rw [if_neg (by omega), List.drop_of_length_le (by omega)]
    simp
  | succ d ih =>
    intro k i s hd hk hi h0 h1
    obtain ⟨k, rfl⟩ : ∃ j, k = j + 1 := ⟨k - 1, by omega⟩
    have hm := hv _ (rd_mem (xs := v) (i := i) (by omega))
    have e1 : wrap64 ((i : Int) + 1) = ((i + 1 : Nat) : Int) := by rw [w64 (by omega) (by omega)]; simp
    simp only [spec_CreditAfter.l0]
    rw [e1, (mx_pos _).1, drop_rd (by omega)]
    clear e1
    generalize rd v (i : Int) = x at hm ⊢
    have hp : 0 ≤ pos x ∧ pos x ≤ 120000 := by unfold pos; split <;> omega
    rw [if_pos (by omega), if_pos (by omega), w64 (x := s + pos x) (by omega) (by omega), ih k (i + 1) _ (by omega) (by omega) (by omega) (by omega) (by push_cast; omega), List.map_cons, List.sum_cons]
    congr 1
    omega
theorem implSum_l0 (v : List Int) (hv : ∀ x ∈ v, -120000 ≤ x ∧ x ≤ 120000) (hl : v.length ≤ 12) : ∀ (d k i : Nat) (s : Int), v.length - i = d → d < k → i ≤ v.length → 0 ≤ s → s ≤ i * 120000 → impl_CreditAfter.l0 k s v (v.length : Int) (i : Int) = some (s + ((v.drop i).map pos).sum) := by
  intro d
  induction d with
  | zero =>
    intro k i s hd hk hi h0 h1
    obtain ⟨k, rfl⟩ : ∃ j, k = j + 1 := ⟨k - 1, by omega⟩
    simp only [impl_CreditAfter.l0]
    rw [if_neg (by omega), List.drop_of_length_le (by omega)]
    simp
  | succ d ih =>
    intro k i s hd hk hi h0 h1
    obtain ⟨k, rfl⟩ : ∃ j, k = j + 1 := ⟨k - 1, by omega⟩
    have hm := hv _ (rd_mem (xs := v) (i := i) (by omega))
    have e1 : wrap64 ((i : Int) + 1) = ((i + 1 : Nat) : Int) := by rw [w64 (by omega) (by omega)]; simp
    simp only [impl_CreditAfter.l0]
    rw [e1, (mx_pos _).2, drop_rd (by omega)]
    clear e1
    generalize rd v (i : Int) = x at hm ⊢
    have hp : 0 ≤ pos x ∧ pos x ≤ 120000 := by unfold pos; split <;> omega
    rw [if_pos (by omega), if_pos (by omega), if_pos (by omega), w64 (x := s + pos x) (by omega) (by omega), ih k (i + 1) _ (by omega) (by omega) (by omega) (by omega) (by push_cast; omega), List.map_cons, List.sum_cons]
    congr 1
    omega
theorem vals_bd {l : List Int} {p r : Int} (hl : l.length ≤ 12) (hp : 0 ≤ p) (hp' : p ≤ 10000) (hr : 0 ≤ r) (hr' : r ≤ (l.length : Int)) : ∀ x ∈ vals l p r, -120000 ≤ x ∧ x ≤ 120000 := by
  intro x hx
  unfold vals at hx
  obtain ⟨i, _, rfl⟩ := List.mem_map.mp hx
  exact val_bd hl hp hp' hr hr' i
theorem vals_len (l : List Int) (p r : Int) : (vals l p r).length = l.length := by simp [vals]
theorem spec_in {l : List Int} (ho : okOrder l = true) (hL : l.length ≤ 1048576) {p r : Int} (hp : 0 ≤ p) (hp' : p ≤ 10000) (hr : 0 ≤ r) (hr' : r ≤ (l.length : Int)) {k : Nat} (hk : 70 ≤ k) : spec_CreditAfter.f k l p r = some (((vals l p r).map pos).sum) := by
  obtain ⟨k, rfl⟩ : ∃ j, k = j + 1 := ⟨k - 1, by omega⟩
  obtain ⟨h1, h2, h3, h4⟩ := okOrder_true ho
  unfold spec_CreditAfter.f
  rw [specOrder_is hL (by omega), ho]
  simp only [Option.bind_some, if_true]
  rw [range_in hp hp']
  simp only [Option.bind_some, if_true]
  rw [range_in hr hr']
  simp only [Option.bind_some, spec_CreditAfter.j0]
  rw [if_neg (by simp), specNet_is h2 hp hp' hr hr' (by omega)]
  simp only [Option.bind_some]
  have h := specSum_l0 (vals l p r) (vals_bd h2 hp hp' hr hr') (by rw [vals_len]; exact h2) l.length k 0 0 (by rw [vals_len]; omega) (by omega) (by omega) (by omega) (by omega)
  simpa using h
theorem spec_out {l : List Int} (hL : l.length ≤ 1048576) {p r : Int} (h : ¬ (okOrder l = true ∧ 0 ≤ p ∧ p ≤ 10000 ∧ 0 ≤ r ∧ r ≤ (l.length : Int))) {k : Nat} (hk : 70 ≤ k) : spec_CreditAfter.f k l p r = some (-1) := by
  obtain ⟨k, rfl⟩ : ∃ j, k = j + 1 := ⟨k - 1, by omega⟩
  unfold spec_CreditAfter.f
  by_cases ho : okOrder l = true
  · rw [specOrder_is hL (by omega), ho]
    simp only [Option.bind_some, if_true]
    by_cases c : 0 ≤ p ∧ p ≤ 10000
    · rw [range_in c.1 c.2, range_out (fun y => h ⟨ho, c.1, c.2, y.1, y.2⟩)]
      simp [spec_CreditAfter.j0]
    · rw [range_out c]
      simp [spec_CreditAfter.j0]
  · have ho' : okOrder l = false := by simpa using ho
    rw [specOrder_is hL (by omega), ho']
    simp [spec_CreditAfter.j0]
theorem impl_in {l : List Int} (ho : okOrder l = true) (hL : l.length ≤ 1048576) {p r : Int} (hp : 0 ≤ p) (hp' : p ≤ 10000) (hr : 0 ≤ r) (hr' : r ≤ (l.length : Int)) {k : Nat} (hk : 70 ≤ k) : impl_CreditAfter.f k l p r = some (((vals l p r).map pos).sum) := by
  obtain ⟨h1, h2, h3, h4⟩ := okOrder_true ho
  unfold impl_CreditAfter.f
  rw [implNet_in ho hL hp hp' hr hr' (by omega)]
  simp only [Option.bind_some]
  rw [if_neg (by rw [vals_len]; omega)]
  have h := implSum_l0 (vals l p r) (vals_bd h2 hp hp' hr hr') (by rw [vals_len]; exact h2) l.length k 0 0 (by rw [vals_len]; omega) (by omega) (by omega) (by omega) (by omega)
  simpa using h
theorem impl_out {l : List Int} (hL : l.length ≤ 1048576) {p r : Int} (h : ¬ (okOrder l = true ∧ 0 ≤ p ∧ p ≤ 10000 ∧ 0 ≤ r ∧ r ≤ (l.length : Int))) {k : Nat} (hk : 70 ≤ k) : impl_CreditAfter.f k l p r = some (-1) := by
  unfold impl_CreditAfter.f
  rw [implNet_out hL h (by omega)]
  simp

theorem FnExactCreditAfter : laws_FnExactCreditAfter.Pure := by
  intro l p r _ _ _ _ _
  refine ⟨l.length + 80, ?_⟩
  unfold laws_FnExactCreditAfter.f
  by_cases c : (l.length : Int) > 1048576
  · rw [if_pos c]
  · have hl : l.length ≤ 1048576 := by omega
    rw [if_neg c, toIntS_is hl (by omega)]
    simp only [Option.bind_some]
    obtain ⟨w, hw1, hw2⟩ : ∃ w, spec_CreditAfter.f (l.length + 80) l p r = some w ∧ impl_CreditAfter.f (l.length + 80) l p r = some w := by
      by_cases h : okOrder l = true ∧ 0 ≤ p ∧ p ≤ 10000 ∧ 0 ≤ r ∧ r ≤ (l.length : Int)
      · obtain ⟨h0, h1, h2, h3, h4⟩ := h
        exact ⟨_, spec_in h0 hl h1 h2 h3 h4 (by omega), impl_in h0 hl h1 h2 h3 h4 (by omega)⟩
      · exact ⟨_, spec_out hl h (by omega), impl_out hl h (by omega)⟩
    rw [hw1, hw2]
    simp only [Option.bind_some, if_true]
    rw [eqIntS_is hl (by omega)]
    simp

end Go.Proofs.Ytgdnhidnojjpiaa.Pure
