/- The law FnSplitEven, as a statement on plain values, holds: SplitEven is the reference's; its parts are as many as asked, none greater than the one before it, none less than the first less 1, and together the amount. For every code of at most 2^47 - 4096 bytes. -/
import Derived.Test.YtgdnhidnojjpiacKit
import Derived.Test.YtgdnhidnojjpiacQFnSplitEvenx2
namespace Go.Proofs.Ytgdnhidnojjpiac.Pure
open Go.RowKit Go.Proofs.Ytgdnhidnojjpiac.PFnSplitEven Go.Proofs.Ytgdnhidnojjpiac.Kit Go.Proofs.YtgdnhidnojjpiacW.PrintWords

theorem newReader_is (l : List Int) (h : ∀ x ∈ l, (Lit.int .u8 x).wf = true) : ∃ b, RB b ∧ spec_newReader.f l = some (b, 0) := by
  have hb := bytes_bd h
  unfold spec_newReader.f
  by_cases c : (l.length : Int) > 2000
  · rw [if_pos c, if_pos (by omega)]
    exact ⟨l.take 2000, ⟨by rw [List.length_take]; omega, fun x hx => hb x (List.mem_of_mem_take hx)⟩, rfl⟩
  · rw [if_neg c]
    exact ⟨l, ⟨by omega, hb⟩, rfl⟩
theorem pick_is {b : List Int} (hb : RB b) {p : Int} (n : Int) (h0 : 0 ≤ p) (h1 : p ≤ 1000000) {k : Nat} (hk : 1 ≤ k) :
    ∃ r, spec_reader_pick.f k b p n = some (r, p + 1) ∧ 0 ≤ r ∧ (1 ≤ n → r < n) := by
  obtain ⟨k, rfl⟩ : ∃ j, k = j + 1 := ⟨k - 1, by omega⟩
  have e0 : wrap64 (p + 1) = p + 1 := w64 (by omega) (by omega)
  have e1 : wrap64 (p + 1 - 1) = p := by rw [w64 (by omega) (by omega)]; omega
  unfold spec_reader_pick.f
  rw [e0]
  by_cases hn : n < 1
  · rw [if_pos hn]
    exact ⟨0, by simp [spec_reader_pick.j0], by omega, by omega⟩
  · rw [if_neg hn]
    by_cases hz : b.length = 0
    · exact ⟨0, by simp [spec_reader_pick.j0, hz], by omega, by omega⟩
    · have hz' : ((b.length : Int) == 0) = false := by
        rw [beq_eq_false_iff_ne]; omega
      rw [hz']
      simp only [spec_reader_pick.j0, e1]
      rw [if_neg (by decide)]
      have hn0 : ¬ n = 0 := by omega
      by_cases hp : p < (b.length : Int)
      · have hr := rd_byte hb p
        rw [if_pos hp, if_pos h0, if_neg hn0, w64 (by omega) (by omega)]
        have ht := tmod_in hr.1 (n := n) (by omega)
        exact ⟨_, rfl, ht.1, fun _ => ht.2⟩
      · have hl : (1 : Int) ≤ (b.length : Int) := by omega
        have hl2 : (b.length : Int) ≤ 2000 := by have := hb.1; omega
        have q1 := tmod_in h0 hl
        have d1 := tdiv_in h0 hl
        have e2 : wrap64 (wrap64 (p * 7) + 3) = p * 7 + 3 := by simp (disch := omega) only [w64]
        have q2 := tmod_in (x := p * 7 + 3) (by omega) hl
        rw [if_neg hp, if_neg (by omega), if_pos q1.1, if_pos q1.2, e2, if_pos q2.1, if_pos q2.2, if_neg hn0]
        have r1 := rd_byte hb (Int.tmod p (b.length : Int))
        have r2 := rd_byte hb (Int.tmod (p * 7 + 3) (b.length : Int))
        generalize rd b (Int.tmod p (b.length : Int)) = x1 at r1 ⊢
        generalize rd b (Int.tmod (p * 7 + 3) (b.length : Int)) = x2 at r2 ⊢
        generalize Int.tdiv p (b.length : Int) = x3 at d1 ⊢
        have e3 : wrap64 (wrap64 (wrap64 (wrap64 (wrap64 x1 * 131) + wrap64 (wrap64 x2 * 1117)) + wrap64 (p * 29)) + wrap64 (wrap64 x3 * 53)) = x1 * 131 + x2 * 1117 + p * 29 + x3 * 53 := by
          simp (disch := omega) only [w64]
        rw [e3]
        have e4 : wrap64 (Int.tdiv (x1 * 131 + x2 * 1117 + p * 29 + x3 * 53) 64) = (x1 * 131 + x2 * 1117 + p * 29 + x3 * 53) / 64 := by
          rw [tdiv_nn _ (by omega), w64 (by omega) (by omega)]
        rw [e4]
        have hx := xor_nn (a := x1 * 131 + x2 * 1117 + p * 29 + x3 * 53) (b := (x1 * 131 + x2 * 1117 + p * 29 + x3 * 53) / 64) (by omega) (by omega) (by omega) (by omega)
        have ht := tmod_in hx (n := n) (by omega)
        exact ⟨_, rfl, ht.1, fun _ => ht.2⟩
theorem one_is {b : List Int} (hb : RB b) {p : Int} (L : List Int) (hL : 1 ≤ L.length) (h0 : 0 ≤ p) (h1 : p ≤ 1000000) {k : Nat} (hk : 1 ≤ k) :
    ∃ v, spec_reader_one.f k b p L = some (v, p + 1) ∧ v ∈ L := by
  obtain ⟨r, hr, hr0, hr1⟩ := pick_is hb (L.length : Int) h0 h1 hk
  have hlt := hr1 (by omega)
  unfold spec_reader_one.f
  rw [hr]
  simp only [Option.bind_some]
  rw [if_pos hr0, if_pos hlt]
  have e : r = ((r.toNat : Nat) : Int) := by omega
  refine ⟨_, rfl, ?_⟩
  rw [e]
  exact rd_mem (by omega)
theorem anAmount_is {b : List Int} (hb : RB b) {p : Int} (h0 : 0 ≤ p) (h1 : p ≤ 1000) {k : Nat} (hk : 1 ≤ k) : ∃ n, spec_anAmount.f k b p = some (n, p + 3) ∧ -1 ≤ n ∧ n ≤ 1000001 := by
  obtain ⟨x, hx, x0, x1⟩ := pick_is hb 200 (p := p) (by omega) (by omega) hk
  obtain ⟨y, hy, y0, y1⟩ := pick_is hb 250 (p := p + 1) (by omega) (by omega) hk
  have x2 := x1 (by omega)
  have y2 := y1 (by omega)
  have e : wrap64 (10 * x) = 10 * x := w64 (by omega) (by omega)
  obtain ⟨n, hn, hm⟩ := one_is hb [1000, 10 * x, y, 0, 12345, 1000000, 999999, (-1), 1000001, 25, 90909, 50] (by simp) (p := p + 1 + 1) (by omega) (by omega) hk
  refine ⟨n, ?_, ?_⟩
  · unfold spec_anAmount.f
    rw [hx]
    simp only [Option.bind_some, hy, e, hn]
    congr 2
    omega
  · simp only [List.mem_cons, List.not_mem_nil, or_false] at hm
    omega
theorem specAmount_in {n : Int} (hn : 0 ≤ n) (hn' : n ≤ 1000000) : spec_validAmount.f n = some true := by
  unfold spec_validAmount.f spec_inRange.f
  rw [if_pos hn, decide_eq_true hn']
  rfl
theorem specAmount_out {n : Int} (h : ¬ (0 ≤ n ∧ n ≤ 1000000)) : spec_validAmount.f n = some false := by
  unfold spec_validAmount.f spec_inRange.f
  by_cases h1 : 0 ≤ n
  · have h2 : ¬ n ≤ 1000000 := by omega
    simp [h1, h2]
  · simp [h1]
/-- part i of n among P -/
def part (n : Int) (P i : Nat) : Int := n / (P : Int) + if (i : Int) < n % (P : Int) then 1 else 0
def parts (n : Int) (P : Nat) : List Int := (List.range P).map (part n P)
theorem parts_get {n : Int} {P i : Nat} (h : i < P) : (parts n P)[i]? = some (part n P i) := by
  simp [parts, h]
theorem parts_len (n : Int) (P : Nat) : (parts n P).length = P := by simp [parts]
theorem part_bd1 {n : Int} {P : Nat} (hn : 0 ≤ n) (hn' : n ≤ 1000000) (hP : 1 ≤ P) (i : Nat) : 0 ≤ n / (P : Int) ∧ n / (P : Int) ≤ 1000000 ∧ n / (P : Int) ≤ part n P i ∧ part n P i ≤ n / (P : Int) + 1 := by
  have a : 0 ≤ n / (P : Int) := Int.ediv_nonneg hn (by omega)
  have b : n / (P : Int) ≤ n := Int.ediv_le_self _ hn
  unfold part
  split <;> omega
theorem specSplit_l0 {n : Int} {P : Nat} (hn : 0 ≤ n) (hn' : n ≤ 1000000) (hP : 1 ≤ P) (hP' : P ≤ 12) : ∀ (d k i : Nat), P - i = d → d < k → i ≤ P → spec_split.l0 k n (P : Int) ((List.range i).map (part n P)) (i : Int) = some (parts n P) := by
  intro d
  induction d with
  | zero =>
    intro k i hd hk hi
    obtain ⟨k, rfl⟩ : ∃ j, k = j + 1 := ⟨k - 1, by omega⟩
    have e : i = P := by omega
    simp only [spec_split.l0]
    rw [if_neg (by omega), e]
    rfl
  | succ d ih =>
    intro k i hd hk hi
    obtain ⟨k, rfl⟩ : ∃ j, k = j + 1 := ⟨k - 1, by omega⟩
    have hb := part_bd1 hn hn' hP i
    have e1 : wrap64 ((i : Int) + 1) = ((i + 1 : Nat) : Int) := by rw [w64 (by omega) (by omega)]; simp
    have e2 : wrap64 (Int.tdiv n (P : Int)) = n / (P : Int) := by rw [tdiv_nn _ hn, w64 (by omega) (by omega)]
    have e3 : wrap64 (n / (P : Int) + 1) = n / (P : Int) + 1 := w64 (by omega) (by omega)
    have hlen : ((List.range i).map (part n P)).length < 17592186044416 := by simp; omega
    have hi1 := ih k (i + 1) (by omega) (by omega) (by omega)
    rw [List.range_succ, List.map_append, List.map_cons, List.map_nil] at hi1
    simp only [spec_split.l0]
    rw [if_pos (by omega), if_neg (by omega), e1, e2, e3, tmod_nn _ hn]
    by_cases c : (i : Int) < n % (P : Int)
    · have hp : part n P i = n / (P : Int) + 1 := by unfold part; rw [if_pos c]
      rw [hp] at hi1
      rw [if_pos c, if_pos hlen, hi1]
    · have hp : part n P i = n / (P : Int) := by unfold part; rw [if_neg c]; omega
      rw [hp] at hi1
      rw [if_neg c, if_pos hlen, hi1]
theorem implSplit_l0 {n : Int} {P : Nat} (hn : 0 ≤ n) (hn' : n ≤ 1000000) (hP : 1 ≤ P) (hP' : P ≤ 12) : ∀ (d k i : Nat) (x : List Int), P - i = d → d < k → i ≤ P → x.length = P → (∀ j, j < i → x[j]? = some (part n P j)) →
    impl_SplitEven.l0 k n (P : Int) x (P : Int) (i : Int) = some (parts n P) := by
  intro d
  induction d with
  | zero =>
    intro k i x hd hk hi hx h
    obtain ⟨k, rfl⟩ : ∃ j, k = j + 1 := ⟨k - 1, by omega⟩
    simp only [impl_SplitEven.l0]
    rw [if_neg (by omega)]
    congr 1
    apply List.ext_getElem?
    intro j
    by_cases hj : j < P
    · rw [h j (by omega), parts_get hj]
    · rw [List.getElem?_eq_none (by omega), List.getElem?_eq_none (by rw [parts_len]; omega)]
  | succ d ih =>
    intro k i x hd hk hi hx h
    obtain ⟨k, rfl⟩ : ∃ j, k = j + 1 := ⟨k - 1, by omega⟩
    have hb := part_bd1 hn hn' hP i
    have e1 : wrap64 ((i : Int) + 1) = ((i + 1 : Nat) : Int) := by rw [w64 (by omega) (by omega)]; simp
    have e2 : wrap64 (Int.tdiv n (P : Int)) = n / (P : Int) := by rw [tdiv_nn _ hn, w64 (by omega) (by omega)]
    have e3 : wrap64 (n / (P : Int) + 1) = n / (P : Int) + 1 := w64 (by omega) (by omega)
    have hr : rd (x.set i (n / (P : Int))) (i : Int) = n / (P : Int) := by
      rw [rd_at (by simp; omega)]
      simp
    simp only [impl_SplitEven.l0]
    rw [if_pos (by omega), if_neg (by omega), if_pos (by omega), if_pos (by omega), e1, e2, tmod_nn _ hn, Int.toNat_natCast]
    simp only [Option.bind_some]
    rw [hr, e3]
    by_cases c : (i : Int) < n % (P : Int)
    · have hp : part n P i = n / (P : Int) + 1 := by unfold part; rw [if_pos c]
      rw [if_pos c]
      refine ih k (i + 1) _ (by omega) (by omega) (by omega) (by simpa using hx) ?_
      intro j hj
      rw [set_at (by simp; omega), set_at (by omega)]
      by_cases c2 : i = j
      · rw [if_pos c2, ← c2, hp]
      · rw [if_neg c2, if_neg c2]
        exact h j (by omega)
    · have hp : part n P i = n / (P : Int) := by unfold part; rw [if_neg c]; omega
      rw [if_neg c]
      refine ih k (i + 1) _ (by omega) (by omega) (by omega) (by simpa using hx) ?_
      intro j hj
      rw [set_at (by omega)]
      by_cases c2 : i = j
      · rw [if_pos c2, ← c2, hp]
      · rw [if_neg c2]
        exact h j (by omega)
theorem implSplit_in {n P : Int} (hn : 0 ≤ n) (hn' : n ≤ 1000000) (hP : 1 ≤ P) (hP' : P ≤ 12) {k : Nat} (hk : 20 ≤ k) : impl_SplitEven.f k n P = some (parts n P.toNat) := by
  obtain ⟨k, rfl⟩ : ∃ j, k = j + 1 := ⟨k - 1, by omega⟩
  unfold impl_SplitEven.f
  rw [if_neg (by omega), if_neg (by omega), if_neg (by omega), decide_eq_false (by omega)]
  simp only [impl_SplitEven.j0]
  rw [if_neg (by simp), if_pos (by omega), if_pos (by omega)]
  simp only [Option.bind_some, List.length_replicate]
  have h := implSplit_l0 (n := n) (P := P.toNat) hn hn' (by omega) (by omega) P.toNat k 0 (List.replicate P.toNat 0) (by omega) (by omega) (by omega) (by simp) (by intro j hj; omega)
  have e : ((P.toNat : Nat) : Int) = P := by omega
  rw [e] at h
  rw [e]
  exact h
theorem implSplit_out {n P : Int} (h : ¬ (0 ≤ n ∧ n ≤ 1000000 ∧ 1 ≤ P ∧ P ≤ 12)) {k : Nat} (hk : 1 ≤ k) : impl_SplitEven.f k n P = some [] := by
  obtain ⟨k, rfl⟩ : ∃ j, k = j + 1 := ⟨k - 1, by omega⟩
  unfold impl_SplitEven.f
  by_cases h1 : n < 0
  · simp [h1, impl_SplitEven.j0]
  · by_cases h2 : n > 1000000
    · simp [h1, h2, impl_SplitEven.j0]
    · by_cases h3 : P < 1
      · simp [h1, h2, h3, impl_SplitEven.j0]
      · have h4 : P > 12 := by omega
        simp [h1, h2, h3, h4, impl_SplitEven.j0]
theorem specSplit_in {n P : Int} (hn : 0 ≤ n) (hn' : n ≤ 1000000) (hP : 1 ≤ P) (hP' : P ≤ 12) {k : Nat} (hk : 20 ≤ k) : spec_SplitEven.f k n P = some (parts n P.toNat) := by
  have h := specSplit_l0 (n := n) (P := P.toNat) hn hn' (by omega) (by omega) P.toNat k 0 (by omega) (by omega) (by omega)
  have e : ((P.toNat : Nat) : Int) = P := by omega
  rw [e] at h
  unfold spec_SplitEven.f spec_inRange.f spec_split.f
  rw [specAmount_in hn hn', if_pos hP, decide_eq_true hP']
  simp only [Option.bind_some, if_true]
  simp only [List.range_zero, List.map_nil, Int.ofNat_zero] at h
  rw [h]
  rfl
theorem specSplit_out {n P : Int} (h : ¬ (0 ≤ n ∧ n ≤ 1000000 ∧ 1 ≤ P ∧ P ≤ 12)) (k : Nat) : spec_SplitEven.f k n P = some [] := by
  unfold spec_SplitEven.f spec_inRange.f
  by_cases h1 : 0 ≤ n ∧ n ≤ 1000000
  · rw [specAmount_in h1.1 h1.2]
    by_cases h3 : 1 ≤ P
    · have h4 : ¬ P ≤ 12 := by omega
      simp [h3, h4]
    · simp [h3]
  · rw [specAmount_out h1]
    simp

theorem equal_l0 (l : List Int) (hl : l.length ≤ 1048576) : ∀ (d k i : Nat), l.length - i = d → d < k → i ≤ l.length → laws_equalInts.l0 k l l (i : Int) = some true := by
  intro d
  induction d with
  | zero =>
    intro k i hd hk hi
    obtain ⟨k, rfl⟩ : ∃ j, k = j + 1 := ⟨k - 1, by omega⟩
    simp only [laws_equalInts.l0]
    rw [if_neg (by omega)]
  | succ d ih =>
    intro k i hd hk hi
    obtain ⟨k, rfl⟩ : ∃ j, k = j + 1 := ⟨k - 1, by omega⟩
    have e : wrap64 ((i : Int) + 1) = ((i + 1 : Nat) : Int) := by rw [w64 (by omega) (by omega)]; simp
    simp only [laws_equalInts.l0]
    rw [if_pos (by omega), if_pos (by omega), if_pos (by omega), if_pos trivial, e]
    exact ih k (i + 1) (by omega) (by omega) (by omega)
theorem equal_is {l : List Int} (hl : l.length ≤ 1048576) {k : Nat} (hk : l.length < k) : laws_equalInts.f k l l = some true := by
  unfold laws_equalInts.f
  rw [if_pos rfl]
  exact equal_l0 l hl l.length k 0 (by omega) hk (by omega)
theorem total_l0 (xs : List Int) (hx : ∀ x ∈ xs, 0 ≤ x ∧ x ≤ 1000001) (hl : xs.length ≤ 1000000) :
    ∀ (d k i : Nat) (s : Int), xs.length - i = d → d < k → i ≤ xs.length → 0 ≤ s → s ≤ i * 1000001 → laws_total.l0 k xs s (i : Int) = some (s + (xs.drop i).sum) := by
  intro d
  induction d with
  | zero =>
    intro k i s hd hk hi h0 h1
    obtain ⟨k, rfl⟩ : ∃ j, k = j + 1 := ⟨k - 1, by omega⟩
    have e : ¬ (i : Int) < (xs.length : Int) := by omega
    simp only [laws_total.l0]
    rw [if_neg e, List.drop_of_length_le (by omega)]
    simp
  | succ d ih =>
    intro k i s hd hk hi h0 h1
    obtain ⟨k, rfl⟩ : ∃ j, k = j + 1 := ⟨k - 1, by omega⟩
    have hlt : i < xs.length := by omega
    have e : (i : Int) < (xs.length : Int) := by omega
    have hm := hx _ (rd_mem hlt)
    have e1 : wrap64 (s + rd xs (i : Int)) = s + rd xs (i : Int) := w64 (by omega) (by omega)
    have e2 : wrap64 ((i : Int) + 1) = ((i + 1 : Nat) : Int) := by rw [w64 (by omega) (by omega)]; simp
    simp only [laws_total.l0]
    rw [if_pos e, if_pos (by omega), e1, e2, ih k (i + 1) _ (by omega) (by omega) (by omega) (by omega) (by push_cast; omega), drop_rd hlt, List.sum_cons]
    congr 1
    omega
theorem parts_sum (n : Int) (P : Nat) (hP : 1 ≤ P) : (parts n P).sum = n := by
  have hmod := Int.emod_nonneg n (b := (P : Int)) (by omega)
  have hlt := Int.emod_lt_of_pos n (b := (P : Int)) (by omega)
  have hdiv := Int.emod_add_mul_ediv n (P : Int)
  have key : ∀ m : Nat, ((List.range m).map (part n P)).sum = (m : Int) * (n / (P : Int)) + (if (m : Int) < n % (P : Int) then (m : Int) else n % (P : Int)) := by
    intro m
    induction m with
    | zero => simp; omega
    | succ m ih =>
      rw [List.range_succ, List.map_append, List.sum_append, ih]
      simp only [List.map_cons, List.map_nil, List.sum_cons, List.sum_nil]
      have e : ((m + 1 : Nat) : Int) * (n / (P : Int)) = (m : Int) * (n / (P : Int)) + n / (P : Int) := by push_cast; grind
      rw [e]
      unfold part
      generalize (m : Int) * (n / (P : Int)) = u
      split <;> (try split) <;> (try split) <;> omega
  unfold parts
  rw [key P, if_neg (by omega)]
  omega
theorem rd_parts {n : Int} {P i : Nat} (h : i < P) : rd (parts n P) (i : Int) = part n P i := by
  have a := rd_get (xs := parts n P) (i := i) (by rw [parts_len]; exact h)
  rw [parts_get h] at a
  exact (Option.some.inj a).symm
theorem loop {n : Int} {P : Nat} (hn : 0 ≤ n) (hn' : n ≤ 1000000) (hP : 1 ≤ P) (hP' : P ≤ 12) : ∀ (d k i : Nat), P - i = d → d + 20 < k → 1 ≤ i → i ≤ P → laws_FnSplitEven.l0 k n (P : Int) (parts n P) (i : Int) = some true := by
  intro d
  induction d with
  | zero =>
    intro k i hd hk h1 hi
    obtain ⟨k, rfl⟩ : ∃ j, k = j + 1 := ⟨k - 1, by omega⟩
    have ht : laws_total.f k (parts n P) = some n := by
      have h := total_l0 (parts n P) (fun x hx => by
        unfold parts at hx
        obtain ⟨i, hi, rfl⟩ := List.mem_map.mp hx
        have := part_bd1 hn hn' hP i
        omega) (by rw [parts_len]; omega) P k 0 0 (by rw [parts_len]; omega) (by omega) (by omega) (by omega) (by omega)
      unfold laws_total.f
      simpa [parts_sum n P hP] using h
    simp only [laws_FnSplitEven.l0]
    rw [if_neg (by rw [parts_len]; omega), ht]
    simp [parts_len]
  | succ d ih =>
    intro k i hd hk h1 hi
    obtain ⟨k, rfl⟩ : ∃ j, k = j + 1 := ⟨k - 1, by omega⟩
    have hstep := ih k (i + 1) (by omega) (by omega) (by omega) (by omega)
    clear ih
    have e1 : wrap64 ((i : Int) + 1) = ((i + 1 : Nat) : Int) := by rw [w64 (by omega) (by omega)]; simp
    simp only [laws_FnSplitEven.l0]
    rw [e1, hstep]
    clear e1 hstep
    have e2 : wrap64 ((i : Int) - 1) = ((i - 1 : Nat) : Int) := (w64 (x := (i : Int) - 1) (by omega) (by omega)).trans (by omega)
    rw [e2, parts_len]
    clear e2
    rw [if_pos (by omega), if_pos (by omega), if_pos (by omega), if_pos (by omega), if_pos (c := (0 : Int) < (P : Int)) (by omega)]
    have hmono : part n P i ≤ part n P (i - 1) := by
      unfold part
      split <;> split <;> omega
    have hb := part_bd1 hn hn' hP i
    have hb0 := part_bd1 hn hn' hP 0
    have e3 : rd (parts n P) 0 = part n P 0 := by
      have h := rd_parts (n := n) (P := P) (i := 0) (by omega)
      rw [Int.natCast_zero] at h
      exact h
    rw [e3, rd_parts (i := i) (by clear e3; omega), rd_parts (i := i - 1) (by clear e3; omega)]
    clear e3
    generalize part n P i = a at *
    generalize part n P (i - 1) = a1 at *
    generalize part n P 0 = a0 at *
    have e4 : wrap64 (a0 - 1) = a0 - 1 := w64 (by omega) (by omega)
    rw [e4]
    clear e4
    rw [if_neg (by omega), if_neg (by omega)]

theorem FnSplitEven : laws_FnSplitEven.Pure := by
  intro l _ _ hl
  refine ⟨60, ?_⟩
  unfold laws_FnSplitEven.f
  by_cases c : (l.length : Int) > 1048576
  · rw [if_pos c]
  · rw [if_neg c]
    obtain ⟨b, hb, hr⟩ := newReader_is l hl
    obtain ⟨n, hn, _, _⟩ := anAmount_is hb (p := 0) (by omega) (by omega) (k := 60) (by omega)
    obtain ⟨P, hp, _⟩ := one_is hb [3, 4, 1, 12, 7, 0, 13] (by simp) (p := 0 + 3) (by omega) (by omega) (k := 60) (by omega)
    have hd : spec_DrawSplitEven.f 60 l = some (n, P) := by
      unfold spec_DrawSplitEven.f
      rw [hr]
      simp only [Option.bind_some, hn, hp]
    rw [hd]
    simp only [Option.bind_some]
    by_cases h : 0 ≤ n ∧ n ≤ 1000000 ∧ 1 ≤ P ∧ P ≤ 12
    · obtain ⟨h1, h2, h3, h4⟩ := h
      rw [implSplit_in h1 h2 h3 h4 (by omega), specSplit_in h1 h2 h3 h4 (by omega)]
      simp only [Option.bind_some]
      rw [equal_is (by rw [parts_len]; omega) (by rw [parts_len]; omega)]
      simp only [Option.bind_some, if_true, parts_len]
      have hz : (((P.toNat : Nat) : Int) == 0) = false := by rw [beq_eq_false_iff_ne]; omega
      rw [hz, laws_FnSplitEven.j0, if_neg (by simp)]
      have hlo := loop (n := n) (P := P.toNat) h1 h2 (by omega) (by omega) (P.toNat - 1) 59 1 (by omega) (by omega) (by omega) (by omega)
      have e : ((P.toNat : Nat) : Int) = P := by omega
      rw [e] at hlo
      exact hlo
    · rw [implSplit_out h (by omega), specSplit_out h 60]
      simp only [Option.bind_some]
      rw [equal_is (by simp) (by simp)]
      simp only [Option.bind_some, if_true]
      have h0 := specSplit_out h 59
      have h1 := equal_is (l := []) (by simp) (k := 59) (by simp)
      simp [laws_FnSplitEven.j0, h0, h1]

end Go.Proofs.Ytgdnhidnojjpiac.Pure
