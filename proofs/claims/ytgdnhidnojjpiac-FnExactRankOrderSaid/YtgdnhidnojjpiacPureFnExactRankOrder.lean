/- The law FnExactRankOrder, as a statement on plain values, holds: the program's RankOrder is the reference's, and the argument stays. For every list of 64-bit integers of at most 2^47 - 4096 bytes. -/
import Derived.Test.YtgdnhidnojjpiacKit
import Derived.Test.YtgdnhidnojjpiacQFnExactRankOrderx2
namespace Go.Proofs.Ytgdnhidnojjpiac.Pure
open Go.RowKit Go.Proofs.Ytgdnhidnojjpiac.PFnExactRankOrder Go.Proofs.Ytgdnhidnojjpiac.Kit Go.Proofs.YtgdnhidnojjpiacW.PrintWords

theorem toIntS_l0 (l : List Int) (hl : l.length ≤ 1048576) : ∀ (d k i : Nat) (x : List Int), l.length - i = d → d < k → i ≤ l.length → x.length = l.length → (∀ j, j < i → x[j]? = l[j]?) → laws_toIntS.l0 k l x (i : Int) = some l := by
  intro d
  induction d with
  | zero =>
    intro k i x hd hk hi hx h
    obtain ⟨k, rfl⟩ : ∃ j, k = j + 1 := ⟨k - 1, by omega⟩
    simp only [laws_toIntS.l0]
    rw [if_neg (by omega)]
    congr 1
    apply List.ext_getElem?
    intro j
    by_cases hj : j < i
    · exact h j hj
    · rw [List.getElem?_eq_none (by omega), List.getElem?_eq_none (by omega)]
  | succ d ih =>
    intro k i x hd hk hi hx h
    obtain ⟨k, rfl⟩ : ∃ j, k = j + 1 := ⟨k - 1, by omega⟩
    have e : wrap64 ((i : Int) + 1) = ((i + 1 : Nat) : Int) := by rw [w64 (by omega) (by omega)]; simp
    simp only [laws_toIntS.l0]
    rw [if_pos (by omega), if_pos (by omega), if_pos (by omega), e, Int.toNat_natCast]
    refine ih k (i + 1) _ (by omega) (by omega) (by omega) (by simpa using hx) ?_
    intro j hj
    rw [set_at (by omega)]
    by_cases c : i = j
    · rw [if_pos c, ← c, rd_get (by omega)]
    · rw [if_neg c]
      exact h j (by omega)
theorem toIntS_is {l : List Int} (hl : l.length ≤ 1048576) {k : Nat} (hk : l.length < k) : laws_toIntS.f k l = some l := by
  unfold laws_toIntS.f
  rw [if_pos (by omega), if_pos (by omega)]
  exact toIntS_l0 l hl l.length k 0 _ (by omega) hk (by omega) (by simp) (by intro j hj; omega)
theorem eqIntS_l0 (l : List Int) (hl : l.length ≤ 1048576) : ∀ (d k i : Nat), l.length - i = d → d < k → i ≤ l.length → laws_eqIntS.l0 k l l (i : Int) = some true := by
  intro d
  induction d with
  | zero =>
    intro k i hd hk hi
    obtain ⟨k, rfl⟩ : ∃ j, k = j + 1 := ⟨k - 1, by omega⟩
    simp only [laws_eqIntS.l0]
    rw [if_neg (by omega)]
  | succ d ih =>
    intro k i hd hk hi
    obtain ⟨k, rfl⟩ : ∃ j, k = j + 1 := ⟨k - 1, by omega⟩
    have e : wrap64 ((i : Int) + 1) = ((i + 1 : Nat) : Int) := by rw [w64 (by omega) (by omega)]; simp
    simp only [laws_eqIntS.l0]
    rw [if_pos (by omega), if_pos (by omega), if_pos (by omega), if_pos trivial, e]
    exact ih k (i + 1) (by omega) (by omega) (by omega)
theorem eqIntS_is {l : List Int} (hl : l.length ≤ 1048576) {k : Nat} (hk : l.length < k) : laws_eqIntS.f k l l = some true := by
  unfold laws_eqIntS.f
  rw [if_pos rfl]
  exact eqIntS_l0 l hl l.length k 0 (by omega) hk (by omega)
theorem place_l0 (a : Int) (l : List Int) (hl : l.length ≤ 1048576) : ∀ (d k i : Nat), l.length - i = d → d < k → i ≤ l.length → spec_placeIn.l0 k l a (i : Int) = some (placeFrom a (l.drop i) i) := by
  intro d
  induction d with
  | zero =>
    intro k i hd hk hi
    obtain ⟨k, rfl⟩ : ∃ j, k = j + 1 := ⟨k - 1, by omega⟩
    simp only [spec_placeIn.l0]
    rw [if_neg (by omega), List.drop_of_length_le (by omega)]
    rfl
  | succ d ih =>
    intro k i hd hk hi
    obtain ⟨k, rfl⟩ : ∃ j, k = j + 1 := ⟨k - 1, by omega⟩
    have e : wrap64 ((i : Int) + 1) = ((i + 1 : Nat) : Int) := by rw [w64 (by omega) (by omega)]; simp
    simp only [spec_placeIn.l0]
    rw [if_pos (by omega), if_pos (by omega), e, drop_rd (by omega)]
    unfold placeFrom
    by_cases c : rd l (i : Int) = a
    · rw [if_pos c, if_pos c]
    · rw [if_neg c, if_neg c]
      exact ih k (i + 1) (by omega) (by omega) (by omega)
theorem place_is (a : Int) {l : List Int} (hl : l.length ≤ 1048576) {k : Nat} (hk : l.length < k) : spec_placeIn.f k l a = some (placeFrom a l 0) := by
  unfold spec_placeIn.f
  have h := place_l0 a l hl l.length k 0 (by omega) hk (by omega)
  simpa using h
theorem members_l0 (n : Int) (hn : 0 ≤ n) (hn' : n ≤ 1048576) (l : List Int) (hl : l.length ≤ 1048576) : ∀ (d k i : Nat), l.length - i = d → d + l.length < k → i ≤ l.length → spec_validMembers.l0 k l n (i : Int) = some (chk n (l.take i) (l.drop i)) := by
  intro d
  induction d with
  | zero =>
    intro k i hd hk hi
    obtain ⟨k, rfl⟩ : ∃ j, k = j + 1 := ⟨k - 1, by omega⟩
    simp only [spec_validMembers.l0]
    rw [if_neg (by omega), List.drop_of_length_le (by omega)]
    simp [chk]
  | succ d ih =>
    intro k i hd hk hi
    obtain ⟨k, rfl⟩ : ∃ j, k = j + 1 := ⟨k - 1, by omega⟩
    have e : wrap64 ((i : Int) + 1) = ((i + 1 : Nat) : Int) := by rw [w64 (by omega) (by omega)]; simp
    have e1 : wrap64 (n - 1) = n - 1 := w64 (by omega) (by omega)
    simp only [spec_validMembers.l0]
    rw [if_pos (by omega), if_pos (by omega), e, e1, drop_rd (by omega), Int.toNat_natCast]
    unfold chk spec_inRange.f
    generalize hx : rd l (i : Int) = x
    by_cases c1 : 0 ≤ x
    · rw [if_pos c1]
      simp only [Option.bind_some]
      by_cases c2 : x < n
      · have c2' : decide (x ≤ n - 1) = true := decide_eq_true (by omega)
        rw [c2', if_pos rfl, if_pos (by omega), place_is x (by rw [List.length_take]; omega) (by rw [List.length_take]; omega)]
        simp only [Option.bind_some]
        have hp := (placeFrom_mem x (l.take i) 0).1
        by_cases c3 : x ∈ l.take i
        · rw [if_pos (hp.mpr c3), if_neg (fun y => y.2.2 c3)]
        · rw [if_neg (fun y => c3 (hp.mp y)), if_pos ⟨c1, c2, c3⟩, ih k (i + 1) (by omega) (by omega) (by omega), take_rd (by omega), hx]
      · have c2' : decide (x ≤ n - 1) = false := decide_eq_false (by omega)
        have c4 : ¬ (0 ≤ x ∧ x < n ∧ ¬ x ∈ l.take i) := fun y => c2 y.2.1
        rw [c2', if_neg (by simp), if_neg c4]
    · have c4 : ¬ (0 ≤ x ∧ x < n ∧ ¬ x ∈ l.take i) := fun y => c1 y.1
      rw [if_neg c1, if_neg c4]
      simp
theorem members_is {n : Int} (hn : 0 ≤ n) (hn' : n ≤ 1048576) {l : List Int} (hl : l.length ≤ 1048576) {k : Nat} (hk : 2 * l.length < k) : spec_validMembers.f k l n = some (chk n [] l) := by
  unfold spec_validMembers.f
  have h := members_l0 n hn hn' l hl l.length k 0 (by omega) (by omega) (by omega)
  simpa using h
theorem different_l0 (n : Nat) (_ : n ≤ 1048576) (l : List Int) (hl : l.length ≤ 1048576) : ∀ (d k i : Nat) (s : List Bool), l.length - i = d → d < k → i ≤ l.length → s.length = n → (∀ v : Nat, v < n → s[v]? = some (decide ((v : Int) ∈ l.take i))) →
    impl_differentBelow.l0 k (n : Int) s l (l.length : Int) (i : Int) = some (chk (n : Int) (l.take i) (l.drop i)) := by
  intro d
  induction d with
  | zero =>
    intro k i s hd hk hi hs h
    obtain ⟨k, rfl⟩ : ∃ j, k = j + 1 := ⟨k - 1, by omega⟩
    simp only [impl_differentBelow.l0]
    rw [if_neg (by omega), List.drop_of_length_le (by omega)]
    simp [chk]
  | succ d ih =>
    intro k i s hd hk hi hs h
    obtain ⟨k, rfl⟩ : ∃ j, k = j + 1 := ⟨k - 1, by omega⟩
    have e : wrap64 ((i : Int) + 1) = ((i + 1 : Nat) : Int) := by rw [w64 (by omega) (by omega)]; simp
    simp only [impl_differentBelow.l0]
    rw [if_pos (by omega), if_pos (by omega), if_pos (by omega), e, drop_rd (by omega)]
    unfold chk
    generalize hx : rd l (i : Int) = x
    by_cases c1 : x < 0
    · rw [if_pos c1, if_neg (fun y => by omega)]
    · rw [if_neg c1]
      by_cases c2 : x < (n : Int)
      · rw [if_neg (by omega), if_pos (by omega), if_pos (by omega)]
        have hv := h x.toNat (by omega)
        have ex : ((x.toNat : Nat) : Int) = x := by omega
        rw [ex] at hv
        have hr : rdOf false s x = decide (x ∈ l.take i) := by
          unfold rdOf
          rw [List.getD_eq_getElem?_getD, hv]
          rfl
        rw [hr]
        by_cases c3 : x ∈ l.take i
        · rw [decide_eq_true c3, if_pos rfl, if_neg (fun y => y.2.2 c3)]
        · rw [decide_eq_false c3, if_neg (by simp), if_pos ⟨by omega, c2, c3⟩]
          rw [ih k (i + 1) _ (by omega) (by omega) (by omega) (by simpa using hs) ?_, take_rd (by omega), hx]
          intro v hv'
          rw [set_at (by omega), take_rd (by omega), hx]
          by_cases c4 : x.toNat = v
          · have c5 : (v : Int) = x := by omega
            rw [if_pos c4, c5]
            simp
          · have c5 : ¬ (v : Int) = x := by omega
            rw [if_neg c4, h v hv']
            simp [c5]
      · rw [if_pos (by omega), if_neg (fun y => c2 y.2.1)]
theorem different_is {n : Nat} (hn : n ≤ 1048576) {l : List Int} (hl : l.length ≤ n) {k : Nat} (hk : l.length < k) : impl_differentBelow.f k l (n : Int) = some (chk (n : Int) [] l) := by
  unfold impl_differentBelow.f
  rw [if_neg (by omega), if_pos (by omega), if_pos (by omega)]
  have h := different_l0 n hn l (by omega) l.length k 0 (List.replicate ((n : Int)).toNat false) (by omega) hk (by omega) (by simp) (by
    intro v hv
    simp [List.getElem?_replicate]
    omega)
  simpa using h
def okOrder (l : List Int) : Bool := decide (1 ≤ l.length) && (decide (l.length ≤ 12) && chk (l.length : Int) [] l)
theorem specOrder_is {l : List Int} (hl : l.length ≤ 1048576) {k : Nat} (hk : 30 ≤ k) : spec_validOrder.f k l = some (okOrder l) := by
  unfold spec_validOrder.f okOrder spec_inRange.f
  by_cases c1 : 1 ≤ l.length
  · have c1' : (1 : Int) ≤ (l.length : Int) := by omega
    by_cases c2 : l.length ≤ 12
    · have c2' : (l.length : Int) ≤ 12 := by omega
      simp only [c1', c2', c1, c2, if_true, decide_true, Option.bind_some, Bool.true_and]
      rw [members_is (n := (l.length : Int)) (by omega) (by omega) hl (by omega)]
      simp
    · have c2' : ¬ (l.length : Int) ≤ 12 := by omega
      simp [c1', c2', c1, c2]
  · have c1' : ¬ (1 : Int) ≤ (l.length : Int) := by omega
    simp [c1', c1]
theorem implOrder_is {l : List Int} (hl : l.length ≤ 1048576) {k : Nat} (hk : 30 ≤ k) : impl_ValidOrder.f k l = some (okOrder l) := by
  unfold impl_ValidOrder.f okOrder
  by_cases c1 : 1 ≤ l.length
  · have c1' : (l.length : Int) ≥ 1 := by omega
    by_cases c2 : l.length ≤ 12
    · have c2' : (l.length : Int) ≤ 12 := by omega
      rw [if_pos c1', if_pos c2', different_is (n := l.length) hl (by omega) (by omega)]
      simp [c1, c2]
    · have c2' : ¬ (l.length : Int) ≤ 12 := by omega
      simp [c1', c2', c1, c2]
  · have c1' : ¬ (l.length : Int) ≥ 1 := by omega
    simp [c1', c1]
theorem okOrder_true {l : List Int} (h : okOrder l = true) : 1 ≤ l.length ∧ l.length ≤ 12 ∧ (∀ x ∈ l, 0 ≤ x ∧ x < (l.length : Int)) ∧ l.Nodup := by
  unfold okOrder at h
  simp only [Bool.and_eq_true, decide_eq_true_eq] at h
  have c := chk_true l [] h.2.2 (by simp)
  exact ⟨h.1, h.2.1, c.1, by simpa using c.2⟩
def fac : Nat → Int
  | 0 => 1
  | n + 1 => ((n : Int) + 1) * fac n
theorem fac_bd : ∀ m : Nat, m < 9 → 1 ≤ fac m ∧ fac m ≤ 40320 := by decide
theorem implFac_l0 (a : Nat) (ha : a < 9) : ∀ (d k i : Nat), a - i = d → d + 1 < k → i ≤ a → impl_factorial.l0 k (a : Int) (fac i) ((i : Int) + 1) = some (fac a) := by
  intro d
  induction d with
  | zero =>
    intro k i hd hk hi
    obtain ⟨k, rfl⟩ : ∃ j, k = j + 1 := ⟨k - 1, by omega⟩
    have e : i = a := by omega
    simp only [impl_factorial.l0]
    rw [if_neg (by omega), e]
  | succ d ih =>
    intro k i hd hk hi
    obtain ⟨k, rfl⟩ : ∃ j, k = j + 1 := ⟨k - 1, by omega⟩
    have hstep := ih k (i + 1) (by omega) (by omega) (by omega)
    have hb := fac_bd (i + 1) (by omega)
    have e1 : fac i * ((i : Int) + 1) = fac (i + 1) := Int.mul_comm _ _
    have e2 : wrap64 ((i : Int) + 1 + 1) = ((i + 1 : Nat) : Int) + 1 := (w64 (x := (i : Int) + 1 + 1) (by omega) (by omega)).trans (by omega)
    simp only [impl_factorial.l0]
    rw [if_pos (by omega), e1, e2, w64 (x := fac (i + 1)) (by omega) (by omega)]
    exact hstep
theorem implFac_is {a : Int} (h0 : 0 ≤ a) (h1 : a < 9) {k : Nat} (hk : 12 ≤ k) : impl_factorial.f k a = some (fac a.toNat) := by
  have e : ((a.toNat : Nat) : Int) = a := by omega
  unfold impl_factorial.f
  by_cases c : 1 ≤ a
  · have h := implFac_l0 a.toNat (by omega) (a.toNat - 1) k 1 (by omega) (by omega) (by omega)
    rw [e] at h
    have f1 : fac 1 = 1 := rfl
    rw [f1] at h
    exact h
  · obtain ⟨k, rfl⟩ : ∃ j, k = j + 1 := ⟨k - 1, by omega⟩
    have ez : a = 0 := by omega
    simp only [impl_factorial.l0]
    rw [if_neg (by omega), ez]
    rfl

/-- how many are less than x -/
def cnt (x : Int) : List Int → Int
  | [] => 0
  | y :: t => (if y < x then 1 else 0) + cnt x t
theorem cnt_bd (x : Int) : ∀ l : List Int, 0 ≤ cnt x l ∧ cnt x l ≤ l.length
  | [] => by simp [cnt]
  | y :: t => by
    have ih := cnt_bd x t
    unfold cnt
    rw [List.length_cons]
    split <;> omega
/-- the number of an order among all orders -/
def rk : List Int → Int
  | [] => 0
  | x :: t => cnt x t * fac t.length + rk t
theorem rk_cons (x : Int) (t : List Int) : rk (x :: t) = cnt x t * fac t.length + rk t := rfl
theorem pow20 (i : Nat) : ((20 ^ (i + 1) : Nat) : Int) = 20 * ((20 ^ i : Nat) : Int) := by
  rw [Nat.pow_succ]
  push_cast
  omega
theorem pow20_bd {i : Nat} (h : i ≤ 8) : 1 ≤ ((20 ^ i : Nat) : Int) ∧ ((20 ^ i : Nat) : Int) ≤ 25600000000 := by
  have h1 : 20 ^ i ≤ 20 ^ 8 := Nat.pow_le_pow_right (by omega) h
  have h2 : 0 < 20 ^ i := Nat.pow_pos (by omega)
  have h3 : (20 ^ 8 : Nat) = 25600000000 := rfl
  omega
theorem spec_l0 (l : List Int) (hl : l.length ≤ 8) : ∀ (m k i : Nat) (n : Int), l.length - i = m → 20 * m + 20 ≤ k → i ≤ l.length → 0 ≤ n → n ≤ ((20 ^ i : Nat) : Int) → spec_rank.l0 k l n (i : Int) = some (n * fac m + rk (l.drop i)) := by
  intro m
  induction m with
  | zero =>
    intro k i n hm hk hi h0 h1
    obtain ⟨k, rfl⟩ : ∃ j, k = j + 1 := ⟨k - 1, by omega⟩
    simp only [spec_rank.l0]
    rw [if_neg (by omega), List.drop_of_length_le (by omega)]
    simp [fac, rk]
  | succ m ih =>
    intro k i n hm hk hi h0 h1
    obtain ⟨k, rfl⟩ : ∃ j, k = j + 1 := ⟨k - 1, by omega⟩
    have inner : ∀ (d k j : Nat) (c : Int), l.length - j = d → d + 1 + (20 * m + 20) ≤ k → i + 1 ≤ j → j ≤ l.length → 0 ≤ c → c ≤ ((j - (i + 1) : Nat) : Int) →
        spec_rank.l1 k l n (i : Int) c (j : Int) = some ((n * ((m : Int) + 1) + (c + cnt (rd l (i : Int)) (l.drop j))) * fac m + rk (l.drop (i + 1))) := by
      intro d
      induction d with
      | zero =>
        intro k j c hd hk hj hj' c0 c1
        obtain ⟨k, rfl⟩ : ∃ j, k = j + 1 := ⟨k - 1, by omega⟩
        have hp := pow20_bd (i := i) (by omega)
        have hp1 := pow20 i
        have hn1 : 0 ≤ n * ((m : Int) + 1) := Int.mul_nonneg h0 (by omega)
        have hn2 : n * ((m : Int) + 1) ≤ ((20 ^ i : Nat) : Int) * 8 := Int.mul_le_mul h1 (by omega) (by omega) (by omega)
        have hstep := ih k (i + 1) (n * ((m : Int) + 1) + c) (by omega) (by omega) (by omega) (by omega) (by omega)
        have em : ((l.length : Int) - (i : Int)) = (m : Int) + 1 := by omega
        simp only [spec_rank.l1]
        rw [if_neg (by omega), em, w64 (x := (m : Int) + 1) (by omega) (by omega), wsucc i (by omega)]
        generalize n * ((m : Int) + 1) = u at hn1 hn2 hstep ⊢
        rw [w64 (x := u) (by omega) (by omega), w64 (x := u + c) (by omega) (by omega), hstep, List.drop_of_length_le (i := j) (by omega)]
        simp [cnt]
      | succ d ihd =>
        intro k j c hd hk hj hj' c0 c1
        obtain ⟨k, rfl⟩ : ∃ j, k = j + 1 := ⟨k - 1, by omega⟩
        have s1 := ihd k (j + 1) (c + 1) (by omega) (by omega) (by omega) (by omega) (by omega) (by omega)
        have s2 := ihd k (j + 1) c (by omega) (by omega) (by omega) (by omega) (by omega) (by omega)
        simp only [spec_rank.l1]
        rw [wsucc j (by omega), w64 (x := c + 1) (by omega) (by omega)]
        rw [if_pos (by omega), if_pos (by omega), if_pos (by omega), if_pos (by omega), drop_rd (xs := l) (i := j) (by omega)]
        unfold cnt
        by_cases cc : rd l (j : Int) < rd l (i : Int)
        · rw [if_pos cc, if_pos cc, s1, Int.add_assoc c 1]
        · rw [if_neg cc, if_neg cc, s2, Int.zero_add]
    have hin := inner (l.length - (i + 1)) k (i + 1) 0 rfl (by omega) (Nat.le_refl _) (by omega) (by omega) (by omega)
    simp only [spec_rank.l0]
    rw [if_pos (by omega), wsucc i (by omega), hin, drop_rd (xs := l) (i := i) (by omega)]
    have el : (l.drop (i + 1)).length = m := by rw [List.length_drop]; omega
    rw [rk_cons, el, Int.zero_add]
    have ef : fac (m + 1) = ((m : Int) + 1) * fac m := rfl
    rw [ef]
    congr 1
    generalize cnt (rd l (i : Int)) (l.drop (i + 1)) = u
    generalize rk (l.drop (i + 1)) = v
    generalize fac m = f
    clear inner hin ih
    grind
theorem impl_l0 (l : List Int) (hl : l.length ≤ 8) : ∀ (m k i : Nat) (n : Int), l.length - i = m → 20 * m + 20 ≤ k → i ≤ l.length → 0 ≤ n → n ≤ 400000 * (i : Int) → impl_RankOrder.l0 k l n l (l.length : Int) (i : Int) = some (n + rk (l.drop i)) := by
  intro m
  induction m with
  | zero =>
    intro k i n hm hk hi h0 h1
    obtain ⟨k, rfl⟩ : ∃ j, k = j + 1 := ⟨k - 1, by omega⟩
    simp only [impl_RankOrder.l0]
    rw [if_neg (by omega), List.drop_of_length_le (by omega)]
    simp [rk]
  | succ m ih =>
    intro k i n hm hk hi h0 h1
    obtain ⟨k, rfl⟩ : ∃ j, k = j + 1 := ⟨k - 1, by omega⟩
    have el : (l.drop (i + 1)).length = m := by rw [List.length_drop]; omega
    have inner : ∀ (d k j : Nat) (c : Int), m - j = d → d + 1 + (20 * m + 20) ≤ k → j ≤ m → 0 ≤ c → c ≤ (j : Int) →
        impl_RankOrder.l1 k l n (i : Int) (rd l (i : Int)) c l (l.length : Int) (i : Int) (l.drop (i + 1)) (m : Int) (j : Int) = some (n + (c + cnt (rd l (i : Int)) ((l.drop (i + 1)).drop j)) * fac m + rk (l.drop (i + 1))) := by
      intro d
      induction d with
      | zero =>
        intro k j c hd hk hj c0 c1
        obtain ⟨k, rfl⟩ : ∃ j, k = j + 1 := ⟨k - 1, by omega⟩
        have hf := fac_bd m (by omega)
        have hn1 : 0 ≤ c * fac m := Int.mul_nonneg c0 (by omega)
        have hn2 : c * fac m ≤ 8 * 40320 := Int.mul_le_mul (by omega) hf.2 (by omega) (by omega)
        have hstep := ih k (i + 1) (n + c * fac m) (by omega) (by omega) (by omega) (by omega) (by push_cast; omega)
        have em : (l.length : Int) - 1 - (i : Int) = (m : Int) := by omega
        simp only [impl_RankOrder.l1]
        rw [if_neg (by omega), w64 (x := (l.length : Int) - 1) (by omega) (by omega), em, w64 (x := (m : Int)) (by omega) (by omega), implFac_is (by omega) (by omega) (by omega), wsucc i (by omega)]
        simp only [Option.bind_some, Int.toNat_natCast]
        have hz : cnt (rd l (i : Int)) ((l.drop (i + 1)).drop j) = 0 := by
          rw [List.drop_of_length_le (l := l.drop (i + 1)) (i := j) (by omega)]
          rfl
        rw [hz, Int.add_zero]
        generalize c * fac m = u at hn1 hn2 hstep ⊢
        rw [w64 (x := u) (by omega) (by omega), w64 (x := n + u) (by omega) (by omega), hstep]
      | succ d ihd =>
        intro k j c hd hk hj c0 c1
        obtain ⟨k, rfl⟩ : ∃ j, k = j + 1 := ⟨k - 1, by omega⟩
        have s1 := ihd k (j + 1) (c + 1) (by omega) (by omega) (by omega) (by omega) (by omega)
        have s2 := ihd k (j + 1) c (by omega) (by omega) (by omega) (by omega) (by omega)
        simp only [impl_RankOrder.l1]
        rw [wsucc j (by omega), w64 (x := c + 1) (by omega) (by omega)]
        rw [if_pos (by omega), if_pos (by omega), if_pos (by omega), drop_rd (xs := l.drop (i + 1)) (i := j) (by omega)]
        unfold cnt
        by_cases cc : rd (l.drop (i + 1)) (j : Int) < rd l (i : Int)
        · rw [if_pos cc, if_pos cc, s1, Int.add_assoc c 1]
        · rw [if_neg cc, if_neg cc, s2, Int.zero_add]
    have hin := inner m k 0 0 (by omega) (by omega) (by omega) (by omega) (by omega)
    simp only [impl_RankOrder.l0]
    rw [if_pos (by omega), if_pos (by omega), if_pos (by omega), wsucc i (by omega), if_pos (by omega), if_pos (by omega), Int.toNat_natCast, el]
    rw [Int.natCast_zero] at hin
    rw [hin, drop_rd (xs := l) (i := i) (by omega)]
    rw [rk_cons, el, Int.zero_add, List.drop_zero, Int.add_assoc]
theorem answers {l : List Int} (hl : l.length ≤ 1048576) {k : Nat} (hk : l.length + 300 ≤ k) : ∃ r, spec_RankOrder.f k l = some r ∧ impl_RankOrder.f k l = some r := by
  obtain ⟨k, rfl⟩ : ∃ j, k = j + 1 := ⟨k - 1, by omega⟩
  unfold spec_RankOrder.f impl_RankOrder.f
  rw [specOrder_is hl (by omega)]
  simp only [Option.bind_some]
  by_cases c : (l.length : Int) > 8
  · rw [if_pos c, if_pos c]
    simp only [impl_RankOrder.j0, if_true]
    by_cases c2 : okOrder l = true
    · rw [if_pos c2]
      exact ⟨-1, rfl, rfl⟩
    · rw [if_neg c2]
      exact ⟨-1, rfl, rfl⟩
  · rw [if_neg c, if_neg c, implOrder_is hl (by omega)]
    simp only [Option.bind_some, impl_RankOrder.j0]
    by_cases c2 : okOrder l = true
    · have a := spec_l0 l (by omega) l.length (k + 1) 0 0 (by omega) (by omega) (by omega) (by omega) (by simp)
      have b := impl_l0 l (by omega) l.length k 0 0 (by omega) (by omega) (by omega) (by omega) (by simp)
      rw [Int.natCast_zero, List.drop_zero, Int.zero_mul, Int.zero_add] at a
      rw [Int.natCast_zero, List.drop_zero, Int.zero_add] at b
      unfold spec_rank.f
      rw [if_pos c2, c2, if_neg (by simp), a, b]
      exact ⟨_, rfl, rfl⟩
    · have c2' : okOrder l = false := by simpa using c2
      rw [if_neg c2, c2', if_pos (by simp)]
      exact ⟨-1, rfl, rfl⟩

theorem FnExactRankOrder : laws_FnExactRankOrder.Pure := by
  intro l _ _ _
  refine ⟨l.length + 400, ?_⟩
  unfold laws_FnExactRankOrder.f
  by_cases c : (l.length : Int) > 1048576
  · rw [if_pos c]
  · have hl : l.length ≤ 1048576 := by omega
    obtain ⟨r, a, b⟩ := answers hl (k := l.length + 400) (by omega)
    rw [if_neg c, toIntS_is hl (by omega)]
    simp only [Option.bind_some]
    rw [a, b]
    simp only [Option.bind_some, if_true]
    rw [eqIntS_is hl (by omega)]
    rfl

end Go.Proofs.Ytgdnhidnojjpiac.Pure
