/- The law FnExactOrderAt, on plain values, holds: the program's OrderAt is the reference's, twice, and its slice is the caller's own. For every pair of 64-bit integers. -/
import Derived.Test.YtgdnhidnojjpiacKit
import Derived.Test.YtgdnhidnojjpiacQFnExactOrderAtx2
namespace Go.Proofs.Ytgdnhidnojjpiac.Pure
open Go.RowKit Go.Proofs.Ytgdnhidnojjpiac.PFnExactOrderAt Go.Proofs.Ytgdnhidnojjpiac.Kit Go.Proofs.YtgdnhidnojjpiacW.PrintWords

def fac : Nat → Int
  | 0 => 1
  | n + 1 => ((n : Int) + 1) * fac n
theorem fac_bd : ∀ m : Nat, m < 9 → 1 ≤ fac m ∧ fac m ≤ 40320 := by decide
theorem implFac_l0 (a : Nat) (ha : a < 9) : ∀ (d k i : Nat), a - i = d → d + 1 < k → i ≤ a → impl_factorial.l0 k (a : Int) (fac i) ((i : Int) + 1) = some (fac a) := by
  intro d
  induction d with
  | zero =>
    intro k i hd hk hi
    obtain ⟨k, rfl⟩ : ∃ j, k = j + 1 := ⟨k - 1, by omega⟩
    have e : i = a := by omega
    simp only [impl_factorial.l0]
    rw [if_neg (by omega), e]
  | succ d ih =>
    intro k i hd hk hi
    obtain ⟨k, rfl⟩ : ∃ j, k = j + 1 := ⟨k - 1, by omega⟩
    have hstep := ih k (i + 1) (by omega) (by omega) (by omega)
    have hb := fac_bd (i + 1) (by omega)
    have e1 : fac i * ((i : Int) + 1) = fac (i + 1) := Int.mul_comm _ _
    have e2 : wrap64 ((i : Int) + 1 + 1) = ((i + 1 : Nat) : Int) + 1 := (w64 (x := (i : Int) + 1 + 1) (by omega) (by omega)).trans (by omega)
    simp only [impl_factorial.l0]
    rw [if_pos (by omega), e1, e2, w64 (x := fac (i + 1)) (by omega) (by omega)]
    exact hstep
theorem implFac_is {a : Int} (h0 : 0 ≤ a) (h1 : a < 9) {k : Nat} (hk : 12 ≤ k) : impl_factorial.f k a = some (fac a.toNat) := by
  have e : ((a.toNat : Nat) : Int) = a := by omega
  unfold impl_factorial.f
  by_cases c : 1 ≤ a
  · have h := implFac_l0 a.toNat (by omega) (a.toNat - 1) k 1 (by omega) (by omega) (by omega)
    rw [e] at h
    have f1 : fac 1 = 1 := rfl
    rw [f1] at h
    exact h
  · obtain ⟨k, rfl⟩ : ∃ j, k = j + 1 := ⟨k - 1, by omega⟩
    have ez : a = 0 := by omega
    simp only [impl_factorial.l0]
    rw [if_neg (by omega), ez]
    rfl
theorem specFac_l0 (a : Nat) (ha : a < 9) : ∀ (d k i : Nat), a - i = d → d + 1 < k → i ≤ a → spec_factorial.l0 k (a : Int) (fac i) ((i : Int) + 1) = some (fac a) := by
  intro d
  induction d with
  | zero =>
    intro k i hd hk hi
    obtain ⟨k, rfl⟩ : ∃ j, k = j + 1 := ⟨k - 1, by omega⟩
    have e : i = a := by omega
    simp only [spec_factorial.l0]
    rw [if_neg (by omega), e]
  | succ d ih =>
    intro k i hd hk hi
    obtain ⟨k, rfl⟩ : ∃ j, k = j + 1 := ⟨k - 1, by omega⟩
    have hstep := ih k (i + 1) (by omega) (by omega) (by omega)
    have hb := fac_bd (i + 1) (by omega)
    have e1 : fac i * ((i : Int) + 1) = fac (i + 1) := Int.mul_comm _ _
    have e2 : wrap64 ((i : Int) + 1 + 1) = ((i + 1 : Nat) : Int) + 1 := (w64 (x := (i : Int) + 1 + 1) (by omega) (by omega)).trans (by omega)
    simp only [spec_factorial.l0]
    rw [if_pos (by omega), e1, e2, w64 (x := fac (i + 1)) (by omega) (by omega)]
    exact hstep
theorem specFac_is {a : Int} (h0 : 0 ≤ a) (h1 : a < 9) {k : Nat} (hk : 12 ≤ k) : spec_factorial.f k a = some (fac a.toNat) := by
  have e : ((a.toNat : Nat) : Int) = a := by omega
  unfold spec_factorial.f
  by_cases c : 1 ≤ a
  · have h := specFac_l0 a.toNat (by omega) (a.toNat - 1) k 1 (by omega) (by omega) (by omega)
    rw [e] at h
    have f1 : fac 1 = 1 := rfl
    rw [f1] at h
    exact h
  · obtain ⟨k, rfl⟩ : ∃ j, k = j + 1 := ⟨k - 1, by omega⟩
    have ez : a = 0 := by omega
    simp only [spec_factorial.l0]
    rw [if_neg (by omega), ez]
    rfl
theorem eqIntS_l0 (l : List Int) (hl : l.length ≤ 1048576) : ∀ (d k i : Nat), l.length - i = d → d < k → i ≤ l.length → laws_eqIntS.l0 k l l (i : Int) = some true := by
  intro d
  induction d with
  | zero =>
    intro k i hd hk hi
    obtain ⟨k, rfl⟩ : ∃ j, k = j + 1 := ⟨k - 1, by omega⟩
    simp only [laws_eqIntS.l0]
    rw [if_neg (by omega)]
  | succ d ih =>
    intro k i hd hk hi
    obtain ⟨k, rfl⟩ : ∃ j, k = j + 1 := ⟨k - 1, by omega⟩
    have e : wrap64 ((i : Int) + 1) = ((i + 1 : Nat) : Int) := by rw [w64 (by omega) (by omega)]; simp
    simp only [laws_eqIntS.l0]
    rw [if_pos (by omega), if_pos (by omega), if_pos (by omega), if_pos trivial, e]
    exact ih k (i + 1) (by omega) (by omega) (by omega)
theorem eqIntS_is {l : List Int} (hl : l.length ≤ 1048576) {k : Nat} (hk : l.length < k) : laws_eqIntS.f k l l = some true := by
  unfold laws_eqIntS.f
  rw [if_pos rfl]
  exact eqIntS_l0 l hl l.length k 0 (by omega) hk (by omega)
theorem mark_l0 : ∀ (d k i : Nat) (x : List Int), x.length - i = d → d < k → i ≤ x.length → x.length ≤ 1048576 → (∀ j, j < i → x[j]? = some (1 + (j : Int))) →
    ∃ m, laws_markIntS.l0 k x (1 + (i : Int)) (i : Int) = some (1 + (x.length : Int), m) ∧ m.length = x.length ∧ ∀ j, j < m.length → m[j]? = some (1 + (j : Int)) := by
  intro d
  induction d with
  | zero =>
    intro k i x hd hk hi hl h
    obtain ⟨k, rfl⟩ : ∃ j, k = j + 1 := ⟨k - 1, by omega⟩
    have e : i = x.length := by omega
    refine ⟨x, ?_, rfl, fun j hj => h j (by omega)⟩
    simp only [laws_markIntS.l0]
    rw [if_neg (by omega), e]
  | succ d ih =>
    intro k i x hd hk hi hl h
    obtain ⟨k, rfl⟩ : ∃ j, k = j + 1 := ⟨k - 1, by omega⟩
    have e1 : wrap64 ((i : Int) + 1) = ((i + 1 : Nat) : Int) := by rw [w64 (by omega) (by omega)]; simp
    have e2 : wrap64 (1 + (i : Int) + 1) = 1 + ((i + 1 : Nat) : Int) := by rw [w64 (by omega) (by omega)]; omega
    obtain ⟨m, hm, ml, mj⟩ := ih k (i + 1) (x.set i (1 + (i : Int))) (by simp; omega) (by omega) (by simp; omega) (by simpa using hl) (by
      intro j hj
      rw [set_at (by omega)]
      by_cases c : i = j
      · rw [if_pos c, c]
      · rw [if_neg c]
        exact h j (by omega))
    refine ⟨m, ?_, by simpa using ml, mj⟩
    simp only [laws_markIntS.l0]
    rw [if_pos (by omega), if_pos (by omega), e1, e2, Int.toNat_natCast, hm]
    simp
theorem held_l0 (m : List Int) (hl : m.length ≤ 1048576) (h : ∀ j, j < m.length → m[j]? = some (1 + (j : Int))) : ∀ (d k i : Nat), m.length - i = d → d < k → i ≤ m.length →
    laws_heldIntS.l0 k m (1 + (i : Int)) (i : Int) = some (1 + (m.length : Int)) := by
  intro d
  induction d with
  | zero =>
    intro k i hd hk hi
    obtain ⟨k, rfl⟩ : ∃ j, k = j + 1 := ⟨k - 1, by omega⟩
    have e : i = m.length := by omega
    simp only [laws_heldIntS.l0]
    rw [if_neg (by omega), e]
  | succ d ih =>
    intro k i hd hk hi
    obtain ⟨k, rfl⟩ : ∃ j, k = j + 1 := ⟨k - 1, by omega⟩
    have e1 : wrap64 ((i : Int) + 1) = ((i + 1 : Nat) : Int) := by rw [w64 (by omega) (by omega)]; simp
    have e2 : wrap64 (1 + (i : Int) + 1) = 1 + ((i + 1 : Nat) : Int) := by rw [w64 (by omega) (by omega)]; omega
    have hr : rd m (i : Int) = 1 + (i : Int) := by
      have a := rd_get (xs := m) (i := i) (by omega)
      rw [h i (by omega)] at a
      exact (Option.some.inj a).symm
    simp only [laws_heldIntS.l0]
    rw [if_pos (by omega), if_pos (by omega), hr, if_pos rfl, e1, e2]
    exact ih k (i + 1) (by omega) (by omega) (by omega)
theorem mark_held {l : List Int} (hl : l.length ≤ 1048576) {k : Nat} (hk : l.length < k) : ∃ m, laws_markIntS.f k l 1 = some (1 + (l.length : Int), m) ∧ laws_heldIntS.f k m 1 = some (1 + (l.length : Int)) := by
  obtain ⟨m, hm, ml, mj⟩ := mark_l0 l.length k 0 l (by omega) hk (by omega) hl (by intro j hj; omega)
  refine ⟨m, ?_, ?_⟩
  · unfold laws_markIntS.f
    simpa using hm
  · unfold laws_heldIntS.f
    have := held_l0 m (by omega) mj m.length k 0 (by omega) (by omega) (by omega)
    rw [ml] at this
    simpa using this

theorem fac_succ (m : Nat) : fac (m + 1) = ((m : Int) + 1) * fac m := rfl
theorem step_bd {m : Nat} (hm : m < 8) {n : Int} (h0 : 0 ≤ n) (h1 : n < fac (m + 1)) :
    0 ≤ n / fac m ∧ n / fac m < (m : Int) + 1 ∧ 0 ≤ n % fac m ∧ n % fac m < fac m ∧ wrap64 (Int.tdiv n (fac m)) = n / fac m ∧ Int.tmod n (fac m) = n % fac m ∧ ¬ fac m = 0 := by
  have hb := fac_bd m (by omega)
  rw [fac_succ] at h1
  generalize fac m = t at h1 hb ⊢
  have q0 : 0 ≤ n / t := Int.ediv_nonneg h0 (by omega)
  have q1 : n / t < (m : Int) + 1 := Int.ediv_lt_of_lt_mul (by omega) h1
  have r0 : 0 ≤ n % t := Int.emod_nonneg n (by omega)
  have r1 : n % t < t := Int.emod_lt_of_pos n (by omega)
  refine ⟨q0, q1, r0, r1, ?_, tmod_nn t h0, by omega⟩
  rw [tdiv_nn t h0]
  generalize n / t = q at q0 q1 ⊢
  exact w64 (by omega) (by omega)

/-- the list without its element at q -/
def cut (l : List Int) (q : Int) : List Int := l.take q.toNat ++ l.drop (q.toNat + 1)
theorem cut_length {l : List Int} {q : Int} {m : Nat} (hl : l.length = m + 1) (h0 : 0 ≤ q) (h1 : q < (m : Int) + 1) : (cut l q).length = m := by
  unfold cut
  rw [List.length_append, List.length_take, List.length_drop]
  omega
/-- the order with number n of the elements of a list of m -/
def perm : Nat → List Int → Int → List Int
  | 0, _, _ => []
  | m + 1, l, n => rd l (n / fac m) :: perm m (cut l (n / fac m)) (n % fac m)
theorem perm_succ (m : Nat) (l : List Int) (n : Int) : perm (m + 1) l n = rd l (n / fac m) :: perm m (cut l (n / fac m)) (n % fac m) := rfl
theorem perm_length : ∀ (m : Nat) (l : List Int) (n : Int), (perm m l n).length = m
  | 0, _, _ => rfl
  | m + 1, l, n => by
    rw [perm_succ, List.length_cons, perm_length m]

theorem delete_is {l : List Int} {q : Int} (h0 : 0 ≤ q) (h1 : q < (l.length : Int)) : slices_Delete.f l q (q + 1) = some (cut l q) := by
  unfold slices_Delete.f
  rw [if_pos h0, if_pos h1, if_pos rfl]
  rfl
theorem impl_step {m : Nat} (hm : m < 8) {n : Int} (h0 : 0 ≤ n) (h1 : n < fac (m + 1)) {l out : List Int} (hl : l.length = m + 1) (ho : out.length ≤ 100) {k : Nat} (hk : 12 ≤ k) :
    impl_OrderAt.l1 (k + 1) n l out = impl_OrderAt.l1 k (n % fac m) (cut l (n / fac m)) (out ++ [rd l (n / fac m)]) := by
  obtain ⟨q0, q1, _, _, e1, e2, z⟩ := step_bd hm h0 h1
  have c1 : (l.length : Int) > 0 := by omega
  have c2 : n / fac m < (l.length : Int) := by omega
  have c6 : out.length < 17592186044416 := Nat.lt_of_le_of_lt ho (by decide)
  have e3 : wrap64 (n / fac m + 1) = n / fac m + 1 := by
    generalize n / fac m = q at q0 q1 ⊢
    exact w64 (by omega) (by omega)
  have ew : wrap64 ((l.length : Int) - 1) = (m : Int) := (w64 (by omega) (by omega)).trans (by omega)
  have ef : impl_factorial.f k (m : Int) = some (fac m) := implFac_is (by omega) (by omega) hk
  rw [impl_OrderAt.l1]
  rw [if_pos c1, ew, ef]
  simp only [Option.bind_some]
  rw [if_neg z, e1, e2, if_pos q0, if_pos c2, if_pos c6, e3, delete_is q0 c2]
  rfl
theorem impl_l1 : ∀ (m : Nat), m ≤ 8 → ∀ (n : Int), 0 ≤ n → n < fac m → ∀ (l out : List Int), l.length = m → out.length + m ≤ 8 → ∀ (k : Nat), m + 13 ≤ k → impl_OrderAt.l1 k n l out = some (out ++ perm m l n) := by
  intro m
  induction m with
  | zero =>
    intro _ n _ _ l out hl _ k hk
    obtain ⟨k, rfl⟩ : ∃ j, k = j + 1 := ⟨k - 1, by omega⟩
    have c : ¬ (l.length : Int) > 0 := by omega
    rw [impl_OrderAt.l1]
    rw [if_neg c, perm, List.append_nil]
  | succ m ih =>
    intro hm n h0 h1 l out hl ho k hk
    obtain ⟨k, rfl⟩ : ∃ j, k = j + 1 := ⟨k - 1, by omega⟩
    obtain ⟨q0, q1, r0, r1, _⟩ := step_bd (m := m) (by omega) h0 h1
    rw [impl_step (by omega) h0 h1 hl (by omega) (by omega), ih (by omega) _ r0 r1 _ _ (cut_length hl q0 q1) (by simp; omega) k (by omega), perm_succ, List.append_assoc]
    rfl

/-- the numbers below m -/
def upTo : Nat → List Int
  | 0 => []
  | m + 1 => upTo m ++ [(m : Int)]
theorem upTo_length : ∀ m : Nat, (upTo m).length = m
  | 0 => rfl
  | m + 1 => by rw [upTo, List.length_append, upTo_length m]; rfl
theorem upTo_small (i : Nat) (h : i ≤ 8) : (upTo i).length < 17592186044416 := by
  rw [upTo_length]
  exact Nat.lt_of_le_of_lt h (by decide)
theorem impl_l0 (m : Nat) (hm : m ≤ 8) (n : Int) : ∀ (d k i : Nat), m - i = d → i ≤ m → impl_OrderAt.l0 (k + d + 1) n (upTo i) (m : Int) (i : Int) = impl_OrderAt.l1 k n (upTo m) [] := by
  intro d
  induction d with
  | zero =>
    intro k i hd hi
    have e : i = m := by omega
    have c : ¬ (i : Int) < (m : Int) := by omega
    rw [Nat.add_zero, impl_OrderAt.l0]
    rw [if_neg c, e]
  | succ d ih =>
    intro k i hd hi
    have c : (i : Int) < (m : Int) := by omega
    have h := ih k (i + 1) (by omega) (by omega)
    rw [show k + (d + 1) + 1 = (k + d + 1) + 1 from rfl, impl_OrderAt.l0]
    rw [if_pos c, if_pos (upTo_small i (by omega)), wsucc i (by omega)]
    exact h
theorem impl_in {m : Nat} (hm0 : 1 ≤ m) (hm : m ≤ 8) {n : Int} (h0 : 0 ≤ n) (h1 : n < fac m) {k : Nat} (hk : 40 ≤ k) : impl_OrderAt.f k n (m : Int) = some (perm m (upTo m) n) := by
  have c1 : ¬ (m : Int) < 1 := by omega
  have c2 : ¬ (m : Int) > 8 := by omega
  have c3 : ¬ n < 0 := by omega
  have ef : impl_factorial.f k (m : Int) = some (fac m) := implFac_is (by omega) (by omega) (by omega)
  have c4 : ¬ n ≥ fac m := by omega
  obtain ⟨j, rfl⟩ : ∃ j, k = (j + m + 1) + 1 := ⟨k - m - 2, by omega⟩
  have h := impl_l0 m hm n m j 0 (by omega) (by omega)
  unfold impl_OrderAt.f
  rw [if_neg c1, if_neg c2, if_neg c3, ef]
  simp only [Option.bind_some]
  rw [decide_eq_false c4, impl_OrderAt.j0]
  rw [if_neg (by decide)]
  refine Eq.trans h ?_
  rw [impl_l1 m hm n h0 h1 (upTo m) [] (upTo_length m) (by simpa using hm) j (by omega)]
  rfl
theorem impl_out {n m : Int} (h : ¬ (1 ≤ m ∧ m ≤ 8 ∧ 0 ≤ n ∧ n < fac m.toNat)) {k : Nat} (hk : 40 ≤ k) : impl_OrderAt.f k n m = some [] := by
  have hj : impl_OrderAt.j0 k n m true = some [] := by
    obtain ⟨k, rfl⟩ : ∃ j, k = j + 1 := ⟨k - 1, by omega⟩
    rw [impl_OrderAt.j0]
    rw [if_pos rfl]
  unfold impl_OrderAt.f
  by_cases c1 : m < 1
  · rw [if_pos c1]; exact hj
  by_cases c2 : m > 8
  · rw [if_neg c1, if_pos c2]; exact hj
  by_cases c3 : n < 0
  · rw [if_neg c1, if_neg c2, if_pos c3]; exact hj
  have ef : impl_factorial.f k m = some (fac m.toNat) := implFac_is (by omega) (by omega) (by omega)
  have c4 : n ≥ fac m.toNat := by omega
  rw [if_neg c1, if_neg c2, if_neg c3, ef]
  simp only [Option.bind_some]
  rw [decide_eq_true c4]
  exact hj

/-! the reference -/
theorem range_is (a lo hi : Int) : spec_inRange.f a lo hi = some (decide (lo ≤ a ∧ a ≤ hi)) := by
  unfold spec_inRange.f
  by_cases h1 : lo ≤ a <;> simp [h1]
theorem copy_is {l : List Int} (hl : l.length ≤ 100) : spec_copyInts.f l = some l := by
  have c : 0 + l.length < 17592186044416 := by rw [Nat.zero_add]; exact Nat.lt_of_le_of_lt hl (by decide)
  unfold spec_copyInts.f
  simp -implicitDefEqProofs only [Option.bind_some, List.nil_append, List.length_nil]
  rw [if_pos c]
theorem spec_step {m : Nat} (hm : m < 8) {n : Int} (h0 : 0 ≤ n) (h1 : n < fac (m + 1)) {l out : List Int} (hl : l.length = m + 1) (ho : out.length ≤ 100) {k : Nat} (hk : 12 ≤ k) :
    spec_orderAt.l1 (k + 1) n l out ((m + 1 : Nat) : Int) = spec_orderAt.l1 k (n % fac m) (cut l (n / fac m)) (out ++ [rd l (n / fac m)]) (m : Int) := by
  obtain ⟨q0, q1, _, _, e1, e2, z⟩ := step_bd hm h0 h1
  have c1 : ((m + 1 : Nat) : Int) > 0 := by omega
  have c2 : n / fac m < (l.length : Int) := by omega
  have c3 : 0 ≤ n / fac m + 1 := by omega
  have c4 : n / fac m + 1 ≤ (l.length : Int) := by omega
  have c5 : n / fac m ≤ (l.length : Int) := by omega
  have c6 : out.length < 17592186044416 := Nat.lt_of_le_of_lt ho (by decide)
  have e3 : wrap64 (n / fac m + 1) = n / fac m + 1 := by
    generalize n / fac m = q at q0 q1 ⊢
    exact w64 (by omega) (by omega)
  have e4 : (n / fac m + 1).toNat = (n / fac m).toNat + 1 := by omega
  have ew : wrap64 (((m + 1 : Nat) : Int) - 1) = (m : Int) := (w64 (by omega) (by omega)).trans (by omega)
  have ef : spec_factorial.f k (m : Int) = some (fac m) := specFac_is (by omega) (by omega) hk
  have hc : spec_copyInts.f (l.drop ((n / fac m).toNat + 1)) = some (l.drop ((n / fac m).toNat + 1)) := copy_is (by
    rw [List.length_drop, hl]
    omega)
  have c7 : (l.take (n / fac m).toNat).length + (l.drop ((n / fac m).toNat + 1)).length < 17592186044416 := by
    rw [← List.length_append]
    exact Nat.lt_of_le_of_lt (Nat.le_of_eq (cut_length hl q0 q1)) (Nat.lt_trans hm (by decide))
  rw [spec_orderAt.l1]
  rw [if_pos c1, ew, ef]
  simp only [Option.bind_some]
  rw [if_neg z, if_neg z, e1, e2, e3, e4, if_pos q0, if_pos c2, if_pos c6, if_pos c3, if_pos c4, hc]
  simp only [Option.bind_some]
  rw [if_pos c5, if_pos c7]
  rfl
theorem spec_l1 : ∀ (m : Nat), m ≤ 8 → ∀ (n : Int), 0 ≤ n → n < fac m → ∀ (l out : List Int), l.length = m → out.length + m ≤ 8 → ∀ (k : Nat), m + 13 ≤ k → spec_orderAt.l1 k n l out (m : Int) = some (out ++ perm m l n) := by
  intro m
  induction m with
  | zero =>
    intro _ n _ _ l out hl _ k hk
    obtain ⟨k, rfl⟩ : ∃ j, k = j + 1 := ⟨k - 1, by omega⟩
    have c : ¬ ((0 : Nat) : Int) > 0 := by decide
    rw [spec_orderAt.l1]
    rw [if_neg c, perm, List.append_nil]
  | succ m ih =>
    intro hm n h0 h1 l out hl ho k hk
    obtain ⟨k, rfl⟩ : ∃ j, k = j + 1 := ⟨k - 1, by omega⟩
    obtain ⟨q0, q1, r0, r1, _⟩ := step_bd (m := m) (by omega) h0 h1
    rw [spec_step (by omega) h0 h1 hl (by omega) (by omega), ih (by omega) _ r0 r1 _ _ (cut_length hl q0 q1) (by simp; omega) k (by omega), perm_succ, List.append_assoc]
    rfl
theorem spec_l0 (m : Nat) (hm : m ≤ 8) (n : Int) : ∀ (d k i : Nat), m - i = d → i ≤ m → spec_orderAt.l0 (k + d + 1) n (m : Int) (upTo i) (i : Int) = spec_orderAt.l1 k n (upTo m) [] (m : Int) := by
  intro d
  induction d with
  | zero =>
    intro k i hd hi
    have e : i = m := by omega
    have c : ¬ (i : Int) < (m : Int) := by omega
    rw [Nat.add_zero, spec_orderAt.l0]
    rw [if_neg c, e]
  | succ d ih =>
    intro k i hd hi
    have c : (i : Int) < (m : Int) := by omega
    have h := ih k (i + 1) (by omega) (by omega)
    rw [show k + (d + 1) + 1 = (k + d + 1) + 1 from rfl, spec_orderAt.l0]
    rw [if_pos c, if_pos (upTo_small i (by omega)), wsucc i (by omega)]
    exact h
theorem spec_in {m : Nat} (hm0 : 1 ≤ m) (hm : m ≤ 8) {n : Int} (h0 : 0 ≤ n) (h1 : n < fac m) {k : Nat} (hk : 40 ≤ k) : spec_OrderAt.f k n (m : Int) = some (perm m (upTo m) n) := by
  have hb := fac_bd m (by omega)
  have c1 : 1 ≤ (m : Int) ∧ (m : Int) ≤ 8 := by omega
  have ef : spec_factorial.f k (m : Int) = some (fac m) := specFac_is (by omega) (by omega) (by omega)
  have ew : wrap64 (fac m - 1) = fac m - 1 := w64 (by omega) (by omega)
  have c2 : 0 ≤ n ∧ n ≤ fac m - 1 := by clear ew; omega
  have hs : spec_orderAt.f k n (m : Int) = some (perm m (upTo m) n) := by
    obtain ⟨j, rfl⟩ : ∃ j, k = j + m + 1 := ⟨k - m - 1, by omega⟩
    have h := spec_l0 m hm n m j 0 (by omega) (by omega)
    refine Eq.trans h ?_
    rw [spec_l1 m hm n h0 h1 (upTo m) [] (upTo_length m) (by simpa using hm) j (by omega)]
    rfl
  unfold spec_OrderAt.f
  rw [range_is, decide_eq_true c1, ef]
  simp only [Option.bind_some]
  rw [if_pos trivial, ew, range_is, decide_eq_true c2, hs]
  rfl
theorem spec_out {n m : Int} (h : ¬ (1 ≤ m ∧ m ≤ 8 ∧ 0 ≤ n ∧ n < fac m.toNat)) {k : Nat} (hk : 40 ≤ k) : spec_OrderAt.f k n m = some [] := by
  unfold spec_OrderAt.f
  rw [range_is]
  by_cases c1 : 1 ≤ m ∧ m ≤ 8
  · have hb := fac_bd m.toNat (by omega)
    have ef : spec_factorial.f k m = some (fac m.toNat) := specFac_is (by omega) (by omega) (by omega)
    have ew : wrap64 (fac m.toNat - 1) = fac m.toNat - 1 := w64 (by omega) (by omega)
    have c2 : ¬ (0 ≤ n ∧ n ≤ fac m.toNat - 1) := by clear ew; omega
    rw [decide_eq_true c1, ef]
    simp only [Option.bind_some]
    rw [if_pos trivial, ew, range_is, decide_eq_false c2]
    rfl
  · rw [decide_eq_false c1]
    rfl

theorem answers (n m : Int) {k : Nat} (hk : 40 ≤ k) : ∃ out, spec_OrderAt.f k n m = some out ∧ impl_OrderAt.f k n m = some out ∧ out.length ≤ 20 := by
  by_cases h : 1 ≤ m ∧ m ≤ 8 ∧ 0 ≤ n ∧ n < fac m.toNat
  · obtain ⟨hm0, hm, h0, h1⟩ := h
    obtain ⟨a, rfl⟩ : ∃ a : Nat, m = (a : Int) := ⟨m.toNat, by omega⟩
    rw [Int.toNat_natCast] at h1
    refine ⟨perm a (upTo a) n, spec_in (by omega) (by omega) h0 h1 hk, impl_in (by omega) (by omega) h0 h1 hk, ?_⟩
    rw [perm_length]
    omega
  · exact ⟨[], spec_out h hk, impl_out h hk, by simp⟩
theorem law (n m : Int) {k : Nat} (hk : 40 ≤ k) : laws_FnExactOrderAt.f k n m = some true := by
  unfold laws_FnExactOrderAt.f
  obtain ⟨r, hs, hi, hl⟩ := answers n m hk
  obtain ⟨q, hm, hh⟩ := mark_held (l := r) (by omega) (k := k) (by omega)
  rw [hs, hi]
  simp only [Option.bind_some]
  rw [eqIntS_is (by omega) (by omega)]
  simp only [Option.bind_some, if_true, hm, hh]
  have h0 : ¬ 1 + (r.length : Int) < 0 := by omega
  rw [if_neg h0, if_neg h0]

theorem FnExactOrderAt : laws_FnExactOrderAt.Pure := by
  intro n m _ _
  exact ⟨40, law n m (Nat.le_refl 40)⟩

end Go.Proofs.Ytgdnhidnojjpiac.Pure
