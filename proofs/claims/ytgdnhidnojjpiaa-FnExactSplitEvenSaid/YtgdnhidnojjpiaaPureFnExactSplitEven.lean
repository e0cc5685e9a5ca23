/- The law FnExactSplitEven, as a statement on plain values, holds: the program's SplitEven is the reference's, and its answer is new memory each time. For all pairs of 64-bit integers. -/
import Derived.Test.YtgdnhidnojjpiaaKit
import Derived.Test.YtgdnhidnojjpiaaQFnExactSplitEvenx2
namespace Go.Proofs.Ytgdnhidnojjpiaa.Pure
open Go.RowKit Go.Proofs.Ytgdnhidnojjpiaa.PFnExactSplitEven Go.Proofs.Ytgdnhidnojjpiaa.Kit Go.Proofs.YtgdnhidnojjpiaaW.PrintWords

theorem eqIntS_l0 (l : List Int) (hl : l.length ≤ 1048576) : ∀ (d k i : Nat), l.length - i = d → d < k → i ≤ l.length → laws_eqIntS.l0 k l l (i : Int) = some true := by
  intro d
  induction d with
  | zero =>
    intro k i hd hk hi
    obtain ⟨k, rfl⟩ : ∃ j, k = j + 1 := ⟨k - 1, by omega⟩
    simp only [laws_eqIntS.l0]
    rw [if_neg (by omega)]
  | succ d ih =>
    intro k i hd hk hi
    obtain ⟨k, rfl⟩ : ∃ j, k = j + 1 := ⟨k - 1, by omega⟩
    have e : wrap64 ((i : Int) + 1) = ((i + 1 : Nat) : Int) := by rw [w64 (by omega) (by omega)]; simp
    simp only [laws_eqIntS.l0]
    rw [if_pos (by omega), if_pos (by omega), if_pos (by omega), if_pos trivial, e]
    exact ih k (i + 1) (by omega) (by omega) (by omega)
theorem eqIntS_is {l : List Int} (hl : l.length ≤ 1048576) {k : Nat} (hk : l.length < k) : laws_eqIntS.f k l l = some true := by
  unfold laws_eqIntS.f
  rw [if_pos rfl]
  exact eqIntS_l0 l hl l.length k 0 (by omega) hk (by omega)
theorem mark_l0 : ∀ (d k i : Nat) (x : List Int), x.length - i = d → d < k → i ≤ x.length → x.length ≤ 1048576 → (∀ j, j < i → x[j]? = some (1 + (j : Int))) →
    ∃ m, laws_markIntS.l0 k x (1 + (i : Int)) (i : Int) = some (1 + (x.length : Int), m) ∧ m.length = x.length ∧ ∀ j, j < m.length → m[j]? = some (1 + (j : Int)) := by
  intro d
  induction d with
  | zero =>
    intro k i x hd hk hi hl h
    obtain ⟨k, rfl⟩ : ∃ j, k = j + 1 := ⟨k - 1, by omega⟩
    have e : i = x.length := by omega
    refine ⟨x, ?_, rfl, fun j hj => h j (by omega)⟩
    simp only [laws_markIntS.l0]
    rw [if_neg (by omega), e]
  | succ d ih =>
    intro k i x hd hk hi hl h
    obtain ⟨k, rfl⟩ : ∃ j, k = j + 1 := ⟨k - 1, by omega⟩
    have e1 : wrap64 ((i : Int) + 1) = ((i + 1 : Nat) : Int) := by rw [w64 (by omega) (by omega)]; simp
    have e2 : wrap64 (1 + (i : Int) + 1) = 1 + ((i + 1 : Nat) : Int) := by rw [w64 (by omega) (by omega)]; omega
    obtain ⟨m, hm, ml, mj⟩ := ih k (i + 1) (x.set i (1 + (i : Int))) (by simp; omega) (by omega) (by simp; omega) (by simpa using hl) (by
      intro j hj
      rw [set_at (by omega)]
      by_cases c : i = j
      · rw [if_pos c, c]
      · rw [if_neg c]
        exact h j (by omega))
    refine ⟨m, ?_, by simpa using ml, mj⟩
    simp only [laws_markIntS.l0]
    rw [if_pos (by omega), if_pos (by omega), e1, e2, Int.toNat_natCast, hm]
    simp
theorem held_l0 (m : List Int) (hl : m.length ≤ 1048576) (h : ∀ j, j < m.length → m[j]? = some (1 + (j : Int))) : ∀ (d k i : Nat), m.length - i = d → d < k → i ≤ m.length →
    laws_heldIntS.l0 k m (1 + (i : Int)) (i : Int) = some (1 + (m.length : Int)) := by
  intro d
  induction d with
  | zero =>
    intro k i hd hk hi
    obtain ⟨k, rfl⟩ : ∃ j, k = j + 1 := ⟨k - 1, by omega⟩
    have e : i = m.length := by omega
    simp only [laws_heldIntS.l0]
    rw [if_neg (by omega), e]
  | succ d ih =>
    intro k i hd hk hi
    obtain ⟨k, rfl⟩ : ∃ j, k = j + 1 := ⟨k - 1, by omega⟩
    have e1 : wrap64 ((i : Int) + 1) = ((i + 1 : Nat) : Int) := by rw [w64 (by omega) (by omega)]; simp
    have e2 : wrap64 (1 + (i : Int) + 1) = 1 + ((i + 1 : Nat) : Int) := by rw [w64 (by omega) (by omega)]; omega
    have hr : rd m (i : Int) = 1 + (i : Int) := by
      have a := rd_get (xs := m) (i := i) (by omega)
      rw [h i (by omega)] at a
      exact (Option.some.inj a).symm
    simp only [laws_heldIntS.l0]
    rw [if_pos (by omega), if_pos (by omega), hr, if_pos rfl, e1, e2]
    exact ih k (i + 1) (by omega) (by omega) (by omega)
theorem mark_held {l : List Int} (hl : l.length ≤ 1048576) {k : Nat} (hk : l.length < k) : ∃ m, laws_markIntS.f k l 1 = some (1 + (l.length : Int), m) ∧ laws_heldIntS.f k m 1 = some (1 + (l.length : Int)) := by
  obtain ⟨m, hm, ml, mj⟩ := mark_l0 l.length k 0 l (by omega) hk (by omega) hl (by intro j hj; omega)
  refine ⟨m, ?_, ?_⟩
  · unfold laws_markIntS.f
    simpa using hm
  · unfold laws_heldIntS.f
    have := held_l0 m (by omega) mj m.length k 0 (by omega) (by omega) (by omega)
    rw [ml] at this
    simpa using this
theorem specAmount_in {n : Int} (hn : 0 ≤ n) (hn' : n ≤ 1000000) : spec_validAmount.f n = some true := by
  unfold spec_validAmount.f spec_inRange.f
  rw [if_pos hn, decide_eq_true hn']
  rfl
theorem specAmount_out {n : Int} (h : ¬ (0 ≤ n ∧ n ≤ 1000000)) : spec_validAmount.f n = some false := by
  unfold spec_validAmount.f spec_inRange.f
  by_cases h1 : 0 ≤ n
  · have h2 : ¬ n ≤ 1000000 := by omega
    simp [h1, h2]
  · simp [h1]
/-- part i of n among P -/
def part (n : Int) (P i : Nat) : Int := n / (P : Int) + if (i : Int) < n % (P : Int) then 1 else 0
def parts (n : Int) (P : Nat) : List Int := (List.range P).map (part n P)
theorem parts_get {n : Int} {P i : Nat} (h : i < P) : (parts n P)[i]? = some (part n P i) := by
  simp [parts, h]
theorem parts_len (n : Int) (P : Nat) : (parts n P).length = P := by simp [parts]
theorem part_bd1 {n : Int} {P : Nat} (hn : 0 ≤ n) (hn' : n ≤ 1000000) (hP : 1 ≤ P) (i : Nat) : 0 ≤ n / (P : Int) ∧ n / (P : Int) ≤ 1000000 ∧ n / (P : Int) ≤ part n P i ∧ part n P i ≤ n / (P : Int) + 1 := by
  have a : 0 ≤ n / (P : Int) := Int.ediv_nonneg hn (by omega)
  have b : n / (P : Int) ≤ n := Int.ediv_le_self _ hn
  unfold part
  split <;> omega
theorem specSplit_l0 {n : Int} {P : Nat} (hn : 0 ≤ n) (hn' : n ≤ 1000000) (hP : 1 ≤ P) (hP' : P ≤ 12) : ∀ (d k i : Nat), P - i = d → d < k → i ≤ P → spec_split.l0 k n (P : Int) ((List.range i).map (part n P)) (i : Int) = some (parts n P) := by
  intro d
  induction d with
  | zero =>
    intro k i hd hk hi
    obtain ⟨k, rfl⟩ : ∃ j, k = j + 1 := ⟨k - 1, by omega⟩
    have e : i = P := by omega
    simp only [spec_split.l0]
    rw [if_neg (by omega), e]
    rfl
  | succ d ih =>
    intro k i hd hk hi
    obtain ⟨k, rfl⟩ : ∃ j, k = j + 1 := ⟨k - 1, by omega⟩
    have hb := part_bd1 hn hn' hP i
    have e1 : wrap64 ((i : Int) + 1) = ((i + 1 : Nat) : Int) := by rw [w64 (by omega) (by omega)]; simp
    have e2 : wrap64 (Int.tdiv n (P : Int)) = n / (P : Int) := by rw [tdiv_nn _ hn, w64 (by omega) (by omega)]
    have e3 : wrap64 (n / (P : Int) + 1) = n / (P : Int) + 1 := w64 (by omega) (by omega)
    have hlen : ((List.range i).map (part n P)).length < 17592186044416 := by simp; omega
    have hi1 := ih k (i + 1) (by omega) (by omega) (by omega)
    rw [List.range_succ, List.map_append, List.map_cons, List.map_nil] at hi1
    simp only [spec_split.l0]
    rw [if_pos (by omega), if_neg (by omega), e1, e2, e3, tmod_nn _ hn]
    by_cases c : (i : Int) < n % (P : Int)
    · have hp : part n P i = n / (P : Int) + 1 := by unfold part; rw [if_pos c]
      rw [hp] at hi1
      rw [if_pos c, if_pos hlen, hi1]
    · have hp : part n P i = n / (P : Int) := by unfold part; rw [if_neg c]; omega
      rw [hp] at hi1
      rw [if_neg c, if_pos hlen, hi1]
theorem implSplit_l0 {n : Int} {P : Nat} (hn : 0 ≤ n) (hn' : n ≤ 1000000) (hP : 1 ≤ P) (hP' : P ≤ 12) : ∀ (d k i : Nat) (x : List Int), P - i = d → d < k → i ≤ P → x.length = P → (∀ j, j < i → x[j]? = some (part n P j)) →
    impl_SplitEven.l0 k n (P : Int) x (P : Int) (i : Int) = some (parts n P) := by
  intro d
  induction d with
  | zero =>
    intro k i x hd hk hi hx h
    obtain ⟨k, rfl⟩ : ∃ j, k = j + 1 := ⟨k - 1, by omega⟩
    simp only [impl_SplitEven.l0]
    rw [if_neg (by omega)]
    congr 1
    apply List.ext_getElem?
    intro j
    by_cases hj : j < P
    · rw [h j (by omega), parts_get hj]
    · rw [List.getElem?_eq_none (by omega), List.getElem?_eq_none (by rw [parts_len]; omega)]
  | succ d ih =>
    intro k i x hd hk hi hx h
    obtain ⟨k, rfl⟩ : ∃ j, k = j + 1 := ⟨k - 1, by omega⟩
    have hb := part_bd1 hn hn' hP i
    have e1 : wrap64 ((i : Int) + 1) = ((i + 1 : Nat) : Int) := by rw [w64 (by omega) (by omega)]; simp
    have e2 : wrap64 (Int.tdiv n (P : Int)) = n / (P : Int) := by rw [tdiv_nn _ hn, w64 (by omega) (by omega)]
    have e3 : wrap64 (n / (P : Int) + 1) = n / (P : Int) + 1 := w64 (by omega) (by omega)
    have hr : rd (x.set i (n / (P : Int))) (i : Int) = n / (P : Int) := by
      rw [rd_at (by simp; omega)]
      simp
    simp only [impl_SplitEven.l0]
    rw [if_pos (by omega), if_neg (by omega), if_pos (by omega), if_pos (by omega), e1, e2, tmod_nn _ hn, Int.toNat_natCast]
    simp only [Option.bind_some]
    rw [hr, e3]
    by_cases c : (i : Int) < n % (P : Int)
    · have hp : part n P i = n / (P : Int) + 1 := by unfold part; rw [if_pos c]
      rw [if_pos c]
      refine ih k (i + 1) _ (by omega) (by omega) (by omega) (by simpa using hx) ?_
      intro j hj
      rw [set_at (by simp; omega), set_at (by omega)]
      by_cases c2 : i = j
      · rw [if_pos c2, ← c2, hp]
      · rw [if_neg c2, if_neg c2]
        exact h j (by omega)
    · have hp : part n P i = n / (P : Int) := by unfold part; rw [if_neg c]; omega
      rw [if_neg c]
      refine ih k (i + 1) _ (by omega) (by omega) (by omega) (by simpa using hx) ?_
      intro j hj
      rw [set_at (by omega)]
      by_cases c2 : i = j
      · rw [if_pos c2, ← c2, hp]
      · rw [if_neg c2]
        exact h j (by omega)
theorem implSplit_in {n P : Int} (hn : 0 ≤ n) (hn' : n ≤ 1000000) (hP : 1 ≤ P) (hP' : P ≤ 12) {k : Nat} (hk : 20 ≤ k) : impl_SplitEven.f k n P = some (parts n P.toNat) := by
  obtain ⟨k, rfl⟩ : ∃ j, k = j + 1 := ⟨k - 1, by omega⟩
  unfold impl_SplitEven.f
  rw [if_neg (by omega), if_neg (by omega), if_neg (by omega), decide_eq_false (by omega)]
  simp only [impl_SplitEven.j0]
  rw [if_neg (by simp), if_pos (by omega), if_pos (by omega)]
  simp only [Option.bind_some, List.length_replicate]
  have h := implSplit_l0 (n := n) (P := P.toNat) hn hn' (by omega) (by omega) P.toNat k 0 (List.replicate P.toNat 0) (by omega) (by omega) (by omega) (by simp) (by intro j hj; omega)
  have e : ((P.toNat : Nat) : Int) = P := by omega
  rw [e] at h
  rw [e]
  exact h
theorem implSplit_out {n P : Int} (h : ¬ (0 ≤ n ∧ n ≤ 1000000 ∧ 1 ≤ P ∧ P ≤ 12)) {k : Nat} (hk : 1 ≤ k) : impl_SplitEven.f k n P = some [] := by
  obtain ⟨k, rfl⟩ : ∃ j, k = j + 1 := ⟨k - 1, by omega⟩
  unfold impl_SplitEven.f
  by_cases h1 : n < 0
  · simp [h1, impl_SplitEven.j0]
  · by_cases h2 : n > 1000000
    · simp [h1, h2, impl_SplitEven.j0]
    · by_cases h3 : P < 1
      · simp [h1, h2, h3, impl_SplitEven.j0]
      · have h4 : P > 12 := by omega
        simp [h1, h2, h3, h4, impl_SplitEven.j0]
theorem specSplit_in {n P : Int} (hn : 0 ≤ n) (hn' : n ≤ 1000000) (hP : 1 ≤ P) (hP' : P ≤ 12) {k : Nat} (hk : 20 ≤ k) : spec_SplitEven.f k n P = some (parts n P.toNat) := by
  have h := specSplit_l0 (n := n) (P := P.toNat) hn hn' (by omega) (by omega) P.toNat k 0 (by omega) (by omega) (by omega)
  have e : ((P.toNat : Nat) : Int) = P := by omega
  rw [e] at h
  unfold spec_SplitEven.f spec_inRange.f spec_split.f
  rw [specAmount_in hn hn', if_pos hP, decide_eq_true hP']
  simp only [Option.bind_some, if_true]
  simp only [List.range_zero, List.map_nil, Int.ofNat_zero] at h
  rw [h]
  rfl
theorem specSplit_out {n P : Int} (h : ¬ (0 ≤ n ∧ n ≤ 1000000 ∧ 1 ≤ P ∧ P ≤ 12)) (k : Nat) : spec_SplitEven.f k n P = some [] := by
  unfold spec_SplitEven.f spec_inRange.f
  by_cases h1 : 0 ≤ n ∧ n ≤ 1000000
  · rw [specAmount_in h1.1 h1.2]
    by_cases h3 : 1 ≤ P
    · have h4 : ¬ P ≤ 12 := by omega
      simp [h3, h4]
    · simp [h3]
  · rw [specAmount_out h1]
    simp

theorem FnExactSplitEven : laws_FnExactSplitEven.Pure := by
  intro n P _ _
  refine ⟨40, ?_⟩
  unfold laws_FnExactSplitEven.f
  obtain ⟨r, hi, hs, hl⟩ : ∃ r, impl_SplitEven.f 40 n P = some r ∧ spec_SplitEven.f 40 n P = some r ∧ r.length ≤ 12 := by
    by_cases h : 0 ≤ n ∧ n ≤ 1000000 ∧ 1 ≤ P ∧ P ≤ 12
    · obtain ⟨h1, h2, h3, h4⟩ := h
      exact ⟨_, implSplit_in h1 h2 h3 h4 (by omega), specSplit_in h1 h2 h3 h4 (by omega), by rw [parts_len]; omega⟩
    · exact ⟨_, implSplit_out h (by omega), specSplit_out h 40, by simp⟩
  obtain ⟨m, hm, hh⟩ := mark_held (l := r) (by omega) (k := 40) (by omega)
  rw [hs, hi]
  simp only [Option.bind_some]
  rw [eqIntS_is (by omega) (by omega)]
  simp only [Option.bind_some, if_true, hm, hh]
  have h0 : ¬ 1 + (r.length : Int) < 0 := by omega
  rw [if_neg h0, if_neg h0]

end Go.Proofs.Ytgdnhidnojjpiaa.Pure
