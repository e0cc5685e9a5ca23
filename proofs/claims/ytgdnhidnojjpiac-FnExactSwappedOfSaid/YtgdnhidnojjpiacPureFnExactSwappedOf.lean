/- The law FnExactSwappedOf, on plain values, holds: the program's SwappedOf is the reference's, twice, and its slice is the caller's own. For every 64-bit integer. -/
import Derived.Test.YtgdnhidnojjpiacKit
import Derived.Test.YtgdnhidnojjpiacPFnExactSwappedOfx2
namespace Go.Proofs.Ytgdnhidnojjpiac.Pure
open Go.RowKit Go.Proofs.Ytgdnhidnojjpiac.PFnExactSwappedOf Go.Proofs.Ytgdnhidnojjpiac.Kit Go.Proofs.YtgdnhidnojjpiacW.PrintWords

theorem specAmount_in {n : Int} (hn : 0 ≤ n) (hn' : n ≤ 1000000) : spec_validAmount.f n = some true := by
  unfold spec_validAmount.f spec_inRange.f
  rw [if_pos hn, decide_eq_true hn']
  rfl
theorem specAmount_out {n : Int} (h : ¬ (0 ≤ n ∧ n ≤ 1000000)) : spec_validAmount.f n = some false := by
  unfold spec_validAmount.f spec_inRange.f
  by_cases h1 : 0 ≤ n
  · have h2 : ¬ n ≤ 1000000 := by omega
    simp [h1, h2]
  · simp [h1]
theorem digits_is {m : Nat} : ∀ {a : Nat}, a < 10 ^ m → a ≤ 1000000 → ∀ k, m < k → spec_digits.f k (a : Int) = some (digs a) := by
  induction m with
  | zero =>
    intro a ha hb k hk
    obtain ⟨k, rfl⟩ : ∃ j, k = j + 1 := ⟨k - 1, by omega⟩
    have h0 : a = 0 := by simpa using ha
    rw [h0]
    simp [spec_digits.f, digs_lt]
  | succ m ih =>
    intro a ha hb k hk
    obtain ⟨k, rfl⟩ : ∃ j, k = j + 1 := ⟨k - 1, by omega⟩
    by_cases h : a < 10
    · have h' : (a : Int) < 10 := by omega
      simp [spec_digits.f, digs_lt h, h']
    · have h' : ¬ (a : Int) < 10 := by omega
      have e1 : wrap64 (Int.tdiv (a : Int) 10) = ((a / 10 : Nat) : Int) := by
        rw [tdiv_nn _ (by omega), w64 (by omega) (by omega)]; omega
      have e2 : Int.tmod (a : Int) 10 = ((a % 10 : Nat) : Int) := by
        rw [tmod_nn _ (by omega)]; omega
      rw [Nat.pow_succ] at ha
      have hl : (digs (a / 10)).length ≤ 7 := (digs_len (k := 7) (by omega) (by omega)).2
      have hl' : (digs (a / 10)).length < 17592186044416 := by omega
      simp only [spec_digits.f]
      rw [if_neg h', e1, e2, ih (by omega) (by omega) k (by omega)]
      simp only [Option.bind_some]
      rw [if_pos hl', digs_ge (a := a) (by omega)]
theorem eqIntS_l0 (l : List Int) (hl : l.length ≤ 1048576) : ∀ (d k i : Nat), l.length - i = d → d < k → i ≤ l.length → laws_eqIntS.l0 k l l (i : Int) = some true := by
  intro d
  induction d with
  | zero =>
    intro k i hd hk hi
    obtain ⟨k, rfl⟩ : ∃ j, k = j + 1 := ⟨k - 1, by omega⟩
    simp only [laws_eqIntS.l0]
    rw [if_neg (by omega)]
  | succ d ih =>
    intro k i hd hk hi
    obtain ⟨k, rfl⟩ : ∃ j, k = j + 1 := ⟨k - 1, by omega⟩
    have e : wrap64 ((i : Int) + 1) = ((i + 1 : Nat) : Int) := by rw [w64 (by omega) (by omega)]; simp
    simp only [laws_eqIntS.l0]
    rw [if_pos (by omega), if_pos (by omega), if_pos (by omega), if_pos trivial, e]
    exact ih k (i + 1) (by omega) (by omega) (by omega)
theorem eqIntS_is {l : List Int} (hl : l.length ≤ 1048576) {k : Nat} (hk : l.length < k) : laws_eqIntS.f k l l = some true := by
  unfold laws_eqIntS.f
  rw [if_pos rfl]
  exact eqIntS_l0 l hl l.length k 0 (by omega) hk (by omega)
theorem mark_l0 : ∀ (d k i : Nat) (x : List Int), x.length - i = d → d < k → i ≤ x.length → x.length ≤ 1048576 → (∀ j, j < i → x[j]? = some (1 + (j : Int))) →
    ∃ m, laws_markIntS.l0 k x (1 + (i : Int)) (i : Int) = some (1 + (x.length : Int), m) ∧ m.length = x.length ∧ ∀ j, j < m.length → m[j]? = some (1 + (j : Int)) := by
  intro d
  induction d with
  | zero =>
    intro k i x hd hk hi hl h
    obtain ⟨k, rfl⟩ : ∃ j, k = j + 1 := ⟨k - 1, by omega⟩
    have e : i = x.length := by omega
    refine ⟨x, ?_, rfl, fun j hj => h j (by omega)⟩
    simp only [laws_markIntS.l0]
    rw [if_neg (by omega), e]
  | succ d ih =>
    intro k i x hd hk hi hl h
    obtain ⟨k, rfl⟩ : ∃ j, k = j + 1 := ⟨k - 1, by omega⟩
    have e1 : wrap64 ((i : Int) + 1) = ((i + 1 : Nat) : Int) := by rw [w64 (by omega) (by omega)]; simp
    have e2 : wrap64 (1 + (i : Int) + 1) = 1 + ((i + 1 : Nat) : Int) := by rw [w64 (by omega) (by omega)]; omega
    obtain ⟨m, hm, ml, mj⟩ := ih k (i + 1) (x.set i (1 + (i : Int))) (by simp; omega) (by omega) (by simp; omega) (by simpa using hl) (by
      intro j hj
      rw [set_at (by omega)]
      by_cases c : i = j
      · rw [if_pos c, c]
      · rw [if_neg c]
        exact h j (by omega))
    refine ⟨m, ?_, by simpa using ml, mj⟩
    simp only [laws_markIntS.l0]
    rw [if_pos (by omega), if_pos (by omega), e1, e2, Int.toNat_natCast, hm]
    simp
theorem held_l0 (m : List Int) (hl : m.length ≤ 1048576) (h : ∀ j, j < m.length → m[j]? = some (1 + (j : Int))) : ∀ (d k i : Nat), m.length - i = d → d < k → i ≤ m.length →
    laws_heldIntS.l0 k m (1 + (i : Int)) (i : Int) = some (1 + (m.length : Int)) := by
  intro d
  induction d with
  | zero =>
    intro k i hd hk hi
    obtain ⟨k, rfl⟩ : ∃ j, k = j + 1 := ⟨k - 1, by omega⟩
    have e : i = m.length := by omega
    simp only [laws_heldIntS.l0]
    rw [if_neg (by omega), e]
  | succ d ih =>
    intro k i hd hk hi
    obtain ⟨k, rfl⟩ : ∃ j, k = j + 1 := ⟨k - 1, by omega⟩
    have e1 : wrap64 ((i : Int) + 1) = ((i + 1 : Nat) : Int) := by rw [w64 (by omega) (by omega)]; simp
    have e2 : wrap64 (1 + (i : Int) + 1) = 1 + ((i + 1 : Nat) : Int) := by rw [w64 (by omega) (by omega)]; omega
    have hr : rd m (i : Int) = 1 + (i : Int) := by
      have a := rd_get (xs := m) (i := i) (by omega)
      rw [h i (by omega)] at a
      exact (Option.some.inj a).symm
    simp only [laws_heldIntS.l0]
    rw [if_pos (by omega), if_pos (by omega), hr, if_pos rfl, e1, e2]
    exact ih k (i + 1) (by omega) (by omega) (by omega)
theorem mark_held {l : List Int} (hl : l.length ≤ 1048576) {k : Nat} (hk : l.length < k) : ∃ m, laws_markIntS.f k l 1 = some (1 + (l.length : Int), m) ∧ laws_heldIntS.f k m 1 = some (1 + (l.length : Int)) := by
  obtain ⟨m, hm, ml, mj⟩ := mark_l0 l.length k 0 l (by omega) hk (by omega) hl (by intro j hj; omega)
  refine ⟨m, ?_, ?_⟩
  · unfold laws_markIntS.f
    simpa using hm
  · unfold laws_heldIntS.f
    have := held_l0 m (by omega) mj m.length k 0 (by omega) (by omega) (by omega)
    rw [ml] at this
    simpa using this

/-- the number that a list of digits writes, on from v -/
def hor (v : Int) (l : List Int) : Int := l.foldl (fun s x => 10 * s + x) v
theorem hor_cons (v x : Int) (l : List Int) : hor v (x :: l) = hor (10 * v + x) l := rfl
theorem hor_nil (v : Int) : hor v [] = v := rfl
theorem pow_le (i : Nat) (h : i ≤ 6) : (10 : Int) ^ i ≤ 1000000 := by
  have : i = 0 ∨ i = 1 ∨ i = 2 ∨ i = 3 ∨ i = 4 ∨ i = 5 ∨ i = 6 := by omega
  rcases this with rfl | rfl | rfl | rfl | rfl | rfl | rfl <;> decide
theorem value_l0 (l : List Int) (hl : ∀ x ∈ l, 0 ≤ x ∧ x ≤ 9) (hn : l.length ≤ 7) : ∀ (d k i : Nat) (v : Int), l.length - i = d → d < k → i ≤ l.length → 0 ≤ v → v < 10 ^ i →
    spec_valueOf.l0 k l v (i : Int) = some (hor v (l.drop i)) := by
  intro d
  induction d with
  | zero =>
    intro k i v hd hk hi h0 h1
    obtain ⟨k, rfl⟩ : ∃ j, k = j + 1 := ⟨k - 1, by omega⟩
    have e : i = l.length := by omega
    simp only [spec_valueOf.l0]
    rw [if_neg (by omega), e, List.drop_length]
    rfl
  | succ d ih =>
    intro k i v hd hk hi h0 h1
    obtain ⟨k, rfl⟩ : ∃ j, k = j + 1 := ⟨k - 1, by omega⟩
    have hi' : i < l.length := by omega
    have hx := hl _ (rd_mem hi')
    have hp : (10 : Int) ^ i ≤ 1000000 := pow_le i (by omega)
    have hp' : (10 : Int) ^ (i + 1) = 10 ^ i * 10 := Int.pow_succ 10 i
    rw [drop_rd hi', hor_cons]
    have hb := hx
    have hr : rd l (i : Int) = rd l (i : Int) := rfl
    have hstep := ih k (i + 1) (10 * v + rd l (i : Int)) (by omega) (by omega) (by omega) (by omega) (by omega)
    have e1 : wrap64 (wrap64 (10 * v) + rd l (i : Int)) = 10 * v + rd l (i : Int) := by rw [w64 (x := 10 * v) (by omega) (by omega), w64 (by omega) (by omega)]
    have c1 : (i : Int) < (l.length : Int) := by omega
    have c2 : (0 : Int) ≤ (i : Int) := by omega
    simp only [spec_valueOf.l0]
    rw [if_pos c1, if_pos c2, e1, wsucc i (by omega)]
    exact hstep
theorem value_is {l : List Int} (hl : ∀ x ∈ l, 0 ≤ x ∧ x ≤ 9) (hn : l.length ≤ 7) {k : Nat} (hk : 8 ≤ k) : spec_valueOf.f k l = some (hor 0 l) :=
  value_l0 l hl hn l.length k 0 0 (by omega) (by omega) (by omega) (by omega) (by omega)

/-- the digits with those at i and i + 1 exchanged -/
def sw (l : List Int) (i : Nat) : List Int := (l.set i (rd l ((i + 1 : Nat) : Int))).set (i + 1) (rd l (i : Int))
theorem sw_len (l : List Int) (i : Nat) : (sw l i).length = l.length := by simp [sw]
theorem sw_mem {l : List Int} (hl : ∀ x ∈ l, 0 ≤ x ∧ x ≤ 9) {i : Nat} (hi : i + 1 < l.length) : ∀ x ∈ sw l i, 0 ≤ x ∧ x ≤ 9 := by
  intro x hx
  rcases List.mem_or_eq_of_mem_set hx with h | h
  · rcases List.mem_or_eq_of_mem_set h with h | h
    · exact hl x h
    · rw [h]; exact hl _ (rd_mem hi)
  · rw [h]; exact hl _ (rd_mem (by omega))

/-- what holds at the place of the digits i and i + 1 -/
def At (a : Int) (l : List Int) (i : Nat) (q : Int) : Prop :=
  1 ≤ q ∧ q ≤ 100000 ∧ a / (q * 10) % 10 = rd l (i : Int) ∧ a / q % 10 = rd l ((i + 1 : Nat) : Int) ∧ 10 ≤ a / q ∧
    (rd (sw l i) 0 > 0 ↔ ¬ (rd l ((i + 1 : Nat) : Int) = 0 ∧ a / (q * 100) = 0)) ∧ hor 0 (sw l i) = a + (rd l ((i + 1 : Nat) : Int) - rd l (i : Int)) * (q * 10 - q)

theorem ediv_le {a : Int} (h : 0 ≤ a) (q : Int) (hq : 1 ≤ q) : 0 ≤ a / q ∧ a / q ≤ a :=
  ⟨Int.ediv_nonneg h (by omega), Int.ediv_le_self q h⟩
theorem wdiv {a : Int} (h : 0 ≤ a) (h' : a ≤ 1000000) {q : Int} (hq : 1 ≤ q) : wrap64 (Int.tdiv a q) = a / q := by
  have := ediv_le h q hq
  rw [tdiv_nn _ h, w64 (by omega) (by omega)]
theorem wdiv10 {a : Int} (h : 0 ≤ a) (h' : a ≤ 1000000) {q : Int} (hq : 1 ≤ q) : Int.tmod (wrap64 (Int.tdiv a q)) 10 = a / q % 10 := by
  rw [wdiv h h' hq, tmod_nn _ (ediv_le h q hq).1]

theorem spec_step {l : List Int} (hl : ∀ x ∈ l, 0 ≤ x ∧ x ≤ 9) (hn : l.length ≤ 7) {i : Nat} (hi : i + 1 < l.length) {k : Nat} (hk : 8 ≤ k) {x : List Int} (hx : x.length ≤ 100) :
    spec_swaps.l0 (k + 1) x l (i : Int) = if rd (sw l i) 0 > 0 then (if rd l (i : Int) = rd l ((i + 1 : Nat) : Int) then spec_swaps.l0 k x l ((i + 1 : Nat) : Int) else spec_swaps.l0 k (x ++ [hor 0 (sw l i)]) l ((i + 1 : Nat) : Int)) else spec_swaps.l0 k x l ((i + 1 : Nat) : Int) := by
  have c1 : ((i + 1 : Nat) : Int) < (l.length : Int) := by omega
  have c2 : (0 : Int) ≤ ((i + 1 : Nat) : Int) := by omega
  have c3 : (0 : Int) ≤ (i : Int) := by omega
  have c4 : (i : Int) < (l.length : Int) := by omega
  have c5 : (0 : Int) < (l.length : Int) := by omega
  have c6 : x.length < 17592186044416 := Nat.lt_of_le_of_lt hx (by decide)
  have c7 : 0 + l.length < 17592186044416 := by rw [Nat.zero_add]; exact Nat.lt_of_le_of_lt hn (by decide)
  have hc : spec_copyInts.f l = some l := by
    unfold spec_copyInts.f
    simp -implicitDefEqProofs only [Option.bind_some, List.nil_append, List.length_nil]
    rw [if_pos c7]
  have hv := value_is (sw_mem hl hi) (by rw [sw_len]; exact hn) hk
  simp only [spec_swaps.l0]
  rw [wsucc i (by omega), if_pos c1, hc]
  simp only [Option.bind_some]
  rw [if_pos c2, if_pos c3, if_pos c4, if_pos c4, if_pos c1]
  simp only [Int.toNat_natCast]
  rw [if_pos c5]
  show (if rd (sw l i) 0 > 0 then _ else _) = _
  by_cases d1 : rd (sw l i) 0 > 0
  · rw [if_pos d1, if_pos d1]
    by_cases d2 : rd l (i : Int) = rd l ((i + 1 : Nat) : Int)
    · rw [if_pos d2, if_pos d2]
    · rw [if_neg d2, if_neg d2]
      show (spec_valueOf.f k (sw l i)).bind _ = _
      rw [hv]
      show (if x.length < 17592186044416 then _ else _) = _
      rw [if_pos c6]
  · rw [if_neg d1, if_neg d1]

theorem impl_step {a : Int} (h0 : 0 ≤ a) (h1 : a ≤ 1000000) {l : List Int} (hl : ∀ x ∈ l, 0 ≤ x ∧ x ≤ 9) {i : Nat} (hi : i + 1 < l.length) {q : Int} (h : At a l i q) {k : Nat} {x : List Int} (hx : x.length ≤ 100) :
    impl_SwappedOf.l1 (k + 1) a q x = if rd (sw l i) 0 > 0 then (if rd l (i : Int) = rd l ((i + 1 : Nat) : Int) then impl_SwappedOf.l1 k a (wrap64 (Int.tdiv q 10)) x else impl_SwappedOf.l1 k a (wrap64 (Int.tdiv q 10)) (x ++ [hor 0 (sw l i)])) else impl_SwappedOf.l1 k a (wrap64 (Int.tdiv q 10)) x := by
  obtain ⟨q0, q1, f1, f2, f3, f4, f5⟩ := h
  have b1 := hl _ (rd_mem (xs := l) (i := i) (by omega))
  have b2 := hl _ (rd_mem hi)
  have c6 : x.length < 17592186044416 := Nat.lt_of_le_of_lt hx (by decide)
  have e10 : wrap64 (q * 10) = q * 10 := w64 (by omega) (by omega)
  have e100 : wrap64 (q * 100) = q * 100 := w64 (by omega) (by omega)
  have g1 := wdiv10 h0 h1 (q := q * 10) (by omega)
  have g2 := wdiv10 h0 h1 (q := q) q0
  have g3 := wdiv h0 h1 (q := q) q0
  have g4 := wdiv h0 h1 (q := q * 100) (by omega)
  have n1 : ¬ q * 10 = 0 := by omega
  have n2 : ¬ q = 0 := by omega
  have n3 : ¬ q * 100 = 0 := by omega
  have n4 : ¬ a / q < 10 := by omega
  have n5 : q > 0 := by omega
  have val : wrap64 (a + wrap64 (wrap64 (rd l ((i + 1 : Nat) : Int) - rd l (i : Int)) * wrap64 (q * 10 - q))) = hor 0 (sw l i) := by
    rw [f5]
    generalize rd l (i : Int) = u at b1
    generalize rd l ((i + 1 : Nat) : Int) = v at b2
    rw [w64 (x := v - u) (by omega) (by omega), w64 (x := q * 10 - q) (by omega) (by omega)]
    have m1 : (v - u) * (q * 10 - q) ≤ 9 * (q * 10 - q) := Int.mul_le_mul_of_nonneg_right (by omega) (by omega)
    have m2 : (-9) * (q * 10 - q) ≤ (v - u) * (q * 10 - q) := Int.mul_le_mul_of_nonneg_right (by omega) (by omega)
    generalize (v - u) * (q * 10 - q) = m at m1 m2
    rw [w64 (x := m) (by omega) (by omega), w64 (by omega) (by omega)]
  simp only [impl_SwappedOf.l1]
  rw [if_pos n5, e10, if_neg n1, if_neg n2, g1, g2, f1, f2, g3, e100, if_neg n4, if_neg n3, g4, val, if_pos c6]
  clear g1 g2 g3 g4 e10 e100 val f5 f1 f2
  generalize rd l (i : Int) = u at *
  generalize rd l ((i + 1 : Nat) : Int) = v at *
  by_cases d2 : u = v
  · rw [if_pos d2, if_pos d2]
    simp
  · rw [if_neg d2, if_neg d2]
    by_cases d3 : v = 0
    · rw [if_pos d3]
      by_cases d4 : a / (q * 100) = 0
      · rw [if_pos d4, if_neg (fun hh => (f4.mp hh) ⟨d3, d4⟩)]
      · rw [if_neg d4, if_pos (f4.mpr (fun hh => d4 hh.2))]
    · rw [if_neg d3, if_pos (f4.mpr (fun hh => d3 hh.1))]

/-- both walks over the places answer alike -/
theorem both {a : Int} (h0 : 0 ≤ a) (h1 : a ≤ 1000000) {l : List Int} (hl : ∀ x ∈ l, 0 ≤ x ∧ x ≤ 9) (hn : l.length ≤ 7) (pl : Nat → Int)
    (F : ∀ i, i + 1 < l.length → At a l i (pl i)) (hp : ∀ i, i + 1 < l.length → wrap64 (Int.tdiv (pl i) 10) = pl (i + 1)) (hz : ∀ i, i + 1 = l.length → pl i = 0) :
    ∀ (d i k k' : Nat) (x : List Int), l.length - i = d + 1 → d + 10 ≤ k → d + 10 ≤ k' → x.length ≤ i → ∃ out, spec_swaps.l0 k x l (i : Int) = some out ∧ impl_SwappedOf.l1 k' a (pl i) x = some out ∧ out.length ≤ 20 := by
  intro d
  induction d with
  | zero =>
    intro i k k' x hd hk hk' hx
    obtain ⟨k, rfl⟩ : ∃ j, k = j + 1 := ⟨k - 1, by omega⟩
    obtain ⟨k', rfl⟩ : ∃ j, k' = j + 1 := ⟨k' - 1, by omega⟩
    have c1 : ¬ ((i + 1 : Nat) : Int) < (l.length : Int) := by omega
    refine ⟨x, ?_, ?_, by omega⟩
    · simp only [spec_swaps.l0]
      rw [wsucc i (by omega), if_neg c1]
    · simp only [impl_SwappedOf.l1]
      rw [hz i (by omega), if_neg (by decide)]
  | succ d ih =>
    intro i k k' x hd hk hk' hx
    obtain ⟨k, rfl⟩ : ∃ j, k = j + 1 := ⟨k - 1, by omega⟩
    obtain ⟨k', rfl⟩ : ∃ j, k' = j + 1 := ⟨k' - 1, by omega⟩
    have hi : i + 1 < l.length := by omega
    rw [spec_step hl hn hi (by omega) (by omega), impl_step h0 h1 hl hi (F i hi) (by omega), hp i hi]
    have s1 := ih (i + 1) k k' x (by omega) (by omega) (by omega) (by omega)
    have s2 := ih (i + 1) k k' (x ++ [hor 0 (sw l i)]) (by omega) (by omega) (by omega) (by simp; omega)
    by_cases d1 : rd (sw l i) 0 > 0
    · rw [if_pos d1, if_pos d1]
      by_cases d2 : rd l (i : Int) = rd l ((i + 1 : Nat) : Int)
      · rw [if_pos d2, if_pos d2]; exact s1
      · rw [if_neg d2, if_neg d2]; exact s2
    · rw [if_neg d1, if_neg d1]; exact s1
theorem hop {a : Int} (h0 : 0 ≤ a) (h1 : a ≤ 1000000) {q : Int} (q0 : 1 ≤ q) (q1 : q ≤ 100000) {k : Nat} (c : 100 ≤ a / q) : impl_SwappedOf.l0 (k + 1) a q = impl_SwappedOf.l0 k a (q * 10) := by
  have n : ¬ q = 0 := by omega
  have c' : a / q ≥ 100 := c
  simp only [impl_SwappedOf.l0]
  rw [if_neg n, wdiv h0 h1 q0, if_pos c', w64 (by omega) (by omega)]
theorem land {a : Int} (h0 : 0 ≤ a) (h1 : a ≤ 1000000) {q : Int} (q0 : 1 ≤ q) {k : Nat} (c : a / q < 100) : impl_SwappedOf.l0 (k + 1) a q = impl_SwappedOf.l1 k a q [] := by
  have n : ¬ q = 0 := by omega
  have c' : ¬ a / q ≥ 100 := by omega
  simp only [impl_SwappedOf.l0]
  rw [if_neg n, wdiv h0 h1 q0, if_neg c']
def pl2 (i : Nat) : Int := if i = 0 then 1 else 0
theorem digs2 {a : Nat} (h : 10 ≤ a) (h' : a < 100) : digs a = [((a / 10 : Nat) : Int), ((a % 10 : Nat) : Int)] := by
  rw [digs_ge (a := a) (by omega)]
  rw [digs_lt (by omega)]
  rfl
theorem at2_0 {a : Nat} (h : 10 ≤ a) (h' : a < 100) : At (a : Int) [((a / 10 : Nat) : Int), ((a % 10 : Nat) : Int)] 0 1 := by
  simp [At, sw, hor, rd]
  omega
theorem same2 {a : Nat} (h : 10 ≤ a) (h' : a < 100) {k k' : Nat} (hk : 30 ≤ k) (hk' : 30 ≤ k') : ∃ out, spec_swaps.l0 k [] (digs a) 0 = some out ∧ impl_SwappedOf.l0 k' (a : Int) 1 = some out ∧ out.length ≤ 20 := by
  have hl := digs_mem a
  rw [digs2 h h'] at hl ⊢
  obtain ⟨out, o1, o2, o3⟩ := both (a := (a : Int)) (by omega) (by omega) hl (by simp) pl2 (fun i hi => by
    have : i = 0 := by simp at hi; omega
    rcases this with rfl
    · exact at2_0 h h') (fun i hi => by
    have : i = 0 := by simp at hi; omega
    rcases this with rfl <;> decide +kernel) (fun i hi => by
    have : i = 1 := by simp at hi; omega
    rw [this]
    rfl) 1 0 k (k' - 1) [] (by simp) (by omega) (by omega) (by simp)
  refine ⟨out, o1, ?_, o3⟩
  obtain ⟨j, rfl⟩ : ∃ j, k' = j + 1 := ⟨k' - 1, by omega⟩
  rw [Nat.add_sub_cancel] at o2
  rw [land (by omega) (by omega) (q := 1) (by omega) (by omega)]
  exact o2
def pl3 (i : Nat) : Int := if i = 0 then 10 else (if i = 1 then 1 else 0)
theorem digs3 {a : Nat} (h : 100 ≤ a) (h' : a < 1000) : digs a = [((a / 10 / 10 : Nat) : Int), ((a / 10 % 10 : Nat) : Int), ((a % 10 : Nat) : Int)] := by
  rw [digs_ge (a := a) (by omega)]
  rw [digs_ge (a := a / 10) (by omega)]
  rw [digs_lt (by omega)]
  rfl
theorem at3_0 {a : Nat} (h : 100 ≤ a) (h' : a < 1000) : At (a : Int) [((a / 10 / 10 : Nat) : Int), ((a / 10 % 10 : Nat) : Int), ((a % 10 : Nat) : Int)] 0 10 := by
  simp [At, sw, hor, rd]
  omega
theorem at3_1 {a : Nat} (h : 100 ≤ a) (h' : a < 1000) : At (a : Int) [((a / 10 / 10 : Nat) : Int), ((a / 10 % 10 : Nat) : Int), ((a % 10 : Nat) : Int)] 1 1 := by
  simp [At, sw, hor, rd]
  omega
theorem same3 {a : Nat} (h : 100 ≤ a) (h' : a < 1000) {k k' : Nat} (hk : 30 ≤ k) (hk' : 30 ≤ k') : ∃ out, spec_swaps.l0 k [] (digs a) 0 = some out ∧ impl_SwappedOf.l0 k' (a : Int) 1 = some out ∧ out.length ≤ 20 := by
  have hl := digs_mem a
  rw [digs3 h h'] at hl ⊢
  obtain ⟨out, o1, o2, o3⟩ := both (a := (a : Int)) (by omega) (by omega) hl (by simp) pl3 (fun i hi => by
    have : i = 0 ∨ i = 1 := by simp at hi; omega
    rcases this with rfl | rfl
    · exact at3_0 h h'
    · exact at3_1 h h') (fun i hi => by
    have : i = 0 ∨ i = 1 := by simp at hi; omega
    rcases this with rfl | rfl <;> decide +kernel) (fun i hi => by
    have : i = 2 := by simp at hi; omega
    rw [this]
    rfl) 2 0 k (k' - 2) [] (by simp) (by omega) (by omega) (by simp)
  refine ⟨out, o1, ?_, o3⟩
  obtain ⟨j, rfl⟩ : ∃ j, k' = j + 2 := ⟨k' - 2, by omega⟩
  rw [Nat.add_sub_cancel] at o2
  rw [show j + 2 = (j + 1) + 1 from rfl, hop (by omega) (by omega) (q := 1) (by omega) (by omega) (by omega)]
  rw [show ((1 : Int) * 10) = 10 from rfl]
  rw [land (by omega) (by omega) (q := 10) (by omega) (by omega)]
  exact o2
def pl4 (i : Nat) : Int := if i = 0 then 100 else (if i = 1 then 10 else (if i = 2 then 1 else 0))
theorem digs4 {a : Nat} (h : 1000 ≤ a) (h' : a < 10000) : digs a = [((a / 10 / 10 / 10 : Nat) : Int), ((a / 10 / 10 % 10 : Nat) : Int), ((a / 10 % 10 : Nat) : Int), ((a % 10 : Nat) : Int)] := by
  rw [digs_ge (a := a) (by omega)]
  rw [digs_ge (a := a / 10) (by omega)]
  rw [digs_ge (a := a / 10 / 10) (by omega)]
  rw [digs_lt (by omega)]
  rfl
theorem at4_0 {a : Nat} (h : 1000 ≤ a) (h' : a < 10000) : At (a : Int) [((a / 10 / 10 / 10 : Nat) : Int), ((a / 10 / 10 % 10 : Nat) : Int), ((a / 10 % 10 : Nat) : Int), ((a % 10 : Nat) : Int)] 0 100 := by
  simp [At, sw, hor, rd]
  omega
theorem at4_1 {a : Nat} (h : 1000 ≤ a) (h' : a < 10000) : At (a : Int) [((a / 10 / 10 / 10 : Nat) : Int), ((a / 10 / 10 % 10 : Nat) : Int), ((a / 10 % 10 : Nat) : Int), ((a % 10 : Nat) : Int)] 1 10 := by
  simp [At, sw, hor, rd]
  omega
theorem at4_2 {a : Nat} (h : 1000 ≤ a) (h' : a < 10000) : At (a : Int) [((a / 10 / 10 / 10 : Nat) : Int), ((a / 10 / 10 % 10 : Nat) : Int), ((a / 10 % 10 : Nat) : Int), ((a % 10 : Nat) : Int)] 2 1 := by
  simp [At, sw, hor, rd]
  omega
theorem same4 {a : Nat} (h : 1000 ≤ a) (h' : a < 10000) {k k' : Nat} (hk : 30 ≤ k) (hk' : 30 ≤ k') : ∃ out, spec_swaps.l0 k [] (digs a) 0 = some out ∧ impl_SwappedOf.l0 k' (a : Int) 1 = some out ∧ out.length ≤ 20 := by
  have hl := digs_mem a
  rw [digs4 h h'] at hl ⊢
  obtain ⟨out, o1, o2, o3⟩ := both (a := (a : Int)) (by omega) (by omega) hl (by simp) pl4 (fun i hi => by
    have : i = 0 ∨ i = 1 ∨ i = 2 := by simp at hi; omega
    rcases this with rfl | rfl | rfl
    · exact at4_0 h h'
    · exact at4_1 h h'
    · exact at4_2 h h') (fun i hi => by
    have : i = 0 ∨ i = 1 ∨ i = 2 := by simp at hi; omega
    rcases this with rfl | rfl | rfl <;> decide +kernel) (fun i hi => by
    have : i = 3 := by simp at hi; omega
    rw [this]
    rfl) 3 0 k (k' - 3) [] (by simp) (by omega) (by omega) (by simp)
  refine ⟨out, o1, ?_, o3⟩
  obtain ⟨j, rfl⟩ : ∃ j, k' = j + 3 := ⟨k' - 3, by omega⟩
  rw [Nat.add_sub_cancel] at o2
  rw [show j + 3 = (j + 2) + 1 from rfl, hop (by omega) (by omega) (q := 1) (by omega) (by omega) (by omega)]
  rw [show ((1 : Int) * 10) = 10 from rfl]
  rw [show j + 2 = (j + 1) + 1 from rfl, hop (by omega) (by omega) (q := 10) (by omega) (by omega) (by omega)]
  rw [show ((10 : Int) * 10) = 100 from rfl]
  rw [land (by omega) (by omega) (q := 100) (by omega) (by omega)]
  exact o2
def pl5 (i : Nat) : Int := if i = 0 then 1000 else (if i = 1 then 100 else (if i = 2 then 10 else (if i = 3 then 1 else 0)))
theorem digs5 {a : Nat} (h : 10000 ≤ a) (h' : a < 100000) : digs a = [((a / 10 / 10 / 10 / 10 : Nat) : Int), ((a / 10 / 10 / 10 % 10 : Nat) : Int), ((a / 10 / 10 % 10 : Nat) : Int), ((a / 10 % 10 : Nat) : Int), ((a % 10 : Nat) : Int)] := by
  rw [digs_ge (a := a) (by omega)]
  rw [digs_ge (a := a / 10) (by omega)]
  rw [digs_ge (a := a / 10 / 10) (by omega)]
  rw [digs_ge (a := a / 10 / 10 / 10) (by omega)]
  rw [digs_lt (by omega)]
  rfl
theorem at5_0 {a : Nat} (h : 10000 ≤ a) (h' : a < 100000) : At (a : Int) [((a / 10 / 10 / 10 / 10 : Nat) : Int), ((a / 10 / 10 / 10 % 10 : Nat) : Int), ((a / 10 / 10 % 10 : Nat) : Int), ((a / 10 % 10 : Nat) : Int), ((a % 10 : Nat) : Int)] 0 1000 := by
  simp [At, sw, hor, rd]
  omega
theorem at5_1 {a : Nat} (h : 10000 ≤ a) (h' : a < 100000) : At (a : Int) [((a / 10 / 10 / 10 / 10 : Nat) : Int), ((a / 10 / 10 / 10 % 10 : Nat) : Int), ((a / 10 / 10 % 10 : Nat) : Int), ((a / 10 % 10 : Nat) : Int), ((a % 10 : Nat) : Int)] 1 100 := by
  simp [At, sw, hor, rd]
  omega
theorem at5_2 {a : Nat} (h : 10000 ≤ a) (h' : a < 100000) : At (a : Int) [((a / 10 / 10 / 10 / 10 : Nat) : Int), ((a / 10 / 10 / 10 % 10 : Nat) : Int), ((a / 10 / 10 % 10 : Nat) : Int), ((a / 10 % 10 : Nat) : Int), ((a % 10 : Nat) : Int)] 2 10 := by
  simp [At, sw, hor, rd]
  omega
theorem at5_3 {a : Nat} (h : 10000 ≤ a) (h' : a < 100000) : At (a : Int) [((a / 10 / 10 / 10 / 10 : Nat) : Int), ((a / 10 / 10 / 10 % 10 : Nat) : Int), ((a / 10 / 10 % 10 : Nat) : Int), ((a / 10 % 10 : Nat) : Int), ((a % 10 : Nat) : Int)] 3 1 := by
  simp [At, sw, hor, rd]
  omega
theorem same5 {a : Nat} (h : 10000 ≤ a) (h' : a < 100000) {k k' : Nat} (hk : 30 ≤ k) (hk' : 30 ≤ k') : ∃ out, spec_swaps.l0 k [] (digs a) 0 = some out ∧ impl_SwappedOf.l0 k' (a : Int) 1 = some out ∧ out.length ≤ 20 := by
  have hl := digs_mem a
  rw [digs5 h h'] at hl ⊢
  obtain ⟨out, o1, o2, o3⟩ := both (a := (a : Int)) (by omega) (by omega) hl (by simp) pl5 (fun i hi => by
    have : i = 0 ∨ i = 1 ∨ i = 2 ∨ i = 3 := by simp at hi; omega
    rcases this with rfl | rfl | rfl | rfl
    · exact at5_0 h h'
    · exact at5_1 h h'
    · exact at5_2 h h'
    · exact at5_3 h h') (fun i hi => by
    have : i = 0 ∨ i = 1 ∨ i = 2 ∨ i = 3 := by simp at hi; omega
    rcases this with rfl | rfl | rfl | rfl <;> decide +kernel) (fun i hi => by
    have : i = 4 := by simp at hi; omega
    rw [this]
    rfl) 4 0 k (k' - 4) [] (by simp) (by omega) (by omega) (by simp)
  refine ⟨out, o1, ?_, o3⟩
  obtain ⟨j, rfl⟩ : ∃ j, k' = j + 4 := ⟨k' - 4, by omega⟩
  rw [Nat.add_sub_cancel] at o2
  rw [show j + 4 = (j + 3) + 1 from rfl, hop (by omega) (by omega) (q := 1) (by omega) (by omega) (by omega)]
  rw [show ((1 : Int) * 10) = 10 from rfl]
  rw [show j + 3 = (j + 2) + 1 from rfl, hop (by omega) (by omega) (q := 10) (by omega) (by omega) (by omega)]
  rw [show ((10 : Int) * 10) = 100 from rfl]
  rw [show j + 2 = (j + 1) + 1 from rfl, hop (by omega) (by omega) (q := 100) (by omega) (by omega) (by omega)]
  rw [show ((100 : Int) * 10) = 1000 from rfl]
  rw [land (by omega) (by omega) (q := 1000) (by omega) (by omega)]
  exact o2
def pl6 (i : Nat) : Int := if i = 0 then 10000 else (if i = 1 then 1000 else (if i = 2 then 100 else (if i = 3 then 10 else (if i = 4 then 1 else 0))))
theorem digs6 {a : Nat} (h : 100000 ≤ a) (h' : a < 1000000) : digs a = [((a / 10 / 10 / 10 / 10 / 10 : Nat) : Int), ((a / 10 / 10 / 10 / 10 % 10 : Nat) : Int), ((a / 10 / 10 / 10 % 10 : Nat) : Int), ((a / 10 / 10 % 10 : Nat) : Int), ((a / 10 % 10 : Nat) : Int), ((a % 10 : Nat) : Int)] := by
  rw [digs_ge (a := a) (by omega)]
  rw [digs_ge (a := a / 10) (by omega)]
  rw [digs_ge (a := a / 10 / 10) (by omega)]
  rw [digs_ge (a := a / 10 / 10 / 10) (by omega)]
  rw [digs_ge (a := a / 10 / 10 / 10 / 10) (by omega)]
  rw [digs_lt (by omega)]
  rfl
theorem at6_0 {a : Nat} (h : 100000 ≤ a) (h' : a < 1000000) : At (a : Int) [((a / 10 / 10 / 10 / 10 / 10 : Nat) : Int), ((a / 10 / 10 / 10 / 10 % 10 : Nat) : Int), ((a / 10 / 10 / 10 % 10 : Nat) : Int), ((a / 10 / 10 % 10 : Nat) : Int), ((a / 10 % 10 : Nat) : Int), ((a % 10 : Nat) : Int)] 0 10000 := by
  simp [At, sw, hor, rd]
  omega
theorem at6_1 {a : Nat} (h : 100000 ≤ a) (h' : a < 1000000) : At (a : Int) [((a / 10 / 10 / 10 / 10 / 10 : Nat) : Int), ((a / 10 / 10 / 10 / 10 % 10 : Nat) : Int), ((a / 10 / 10 / 10 % 10 : Nat) : Int), ((a / 10 / 10 % 10 : Nat) : Int), ((a / 10 % 10 : Nat) : Int), ((a % 10 : Nat) : Int)] 1 1000 := by
  simp [At, sw, hor, rd]
  omega
theorem at6_2 {a : Nat} (h : 100000 ≤ a) (h' : a < 1000000) : At (a : Int) [((a / 10 / 10 / 10 / 10 / 10 : Nat) : Int), ((a / 10 / 10 / 10 / 10 % 10 : Nat) : Int), ((a / 10 / 10 / 10 % 10 : Nat) : Int), ((a / 10 / 10 % 10 : Nat) : Int), ((a / 10 % 10 : Nat) : Int), ((a % 10 : Nat) : Int)] 2 100 := by
  simp [At, sw, hor, rd]
  omega
theorem at6_3 {a : Nat} (h : 100000 ≤ a) (h' : a < 1000000) : At (a : Int) [((a / 10 / 10 / 10 / 10 / 10 : Nat) : Int), ((a / 10 / 10 / 10 / 10 % 10 : Nat) : Int), ((a / 10 / 10 / 10 % 10 : Nat) : Int), ((a / 10 / 10 % 10 : Nat) : Int), ((a / 10 % 10 : Nat) : Int), ((a % 10 : Nat) : Int)] 3 10 := by
  simp [At, sw, hor, rd]
  omega
theorem at6_4 {a : Nat} (h : 100000 ≤ a) (h' : a < 1000000) : At (a : Int) [((a / 10 / 10 / 10 / 10 / 10 : Nat) : Int), ((a / 10 / 10 / 10 / 10 % 10 : Nat) : Int), ((a / 10 / 10 / 10 % 10 : Nat) : Int), ((a / 10 / 10 % 10 : Nat) : Int), ((a / 10 % 10 : Nat) : Int), ((a % 10 : Nat) : Int)] 4 1 := by
  simp [At, sw, hor, rd]
  omega
theorem same6 {a : Nat} (h : 100000 ≤ a) (h' : a < 1000000) {k k' : Nat} (hk : 30 ≤ k) (hk' : 30 ≤ k') : ∃ out, spec_swaps.l0 k [] (digs a) 0 = some out ∧ impl_SwappedOf.l0 k' (a : Int) 1 = some out ∧ out.length ≤ 20 := by
  have hl := digs_mem a
  rw [digs6 h h'] at hl ⊢
  obtain ⟨out, o1, o2, o3⟩ := both (a := (a : Int)) (by omega) (by omega) hl (by simp) pl6 (fun i hi => by
    have : i = 0 ∨ i = 1 ∨ i = 2 ∨ i = 3 ∨ i = 4 := by simp at hi; omega
    rcases this with rfl | rfl | rfl | rfl | rfl
    · exact at6_0 h h'
    · exact at6_1 h h'
    · exact at6_2 h h'
    · exact at6_3 h h'
    · exact at6_4 h h') (fun i hi => by
    have : i = 0 ∨ i = 1 ∨ i = 2 ∨ i = 3 ∨ i = 4 := by simp at hi; omega
    rcases this with rfl | rfl | rfl | rfl | rfl <;> decide +kernel) (fun i hi => by
    have : i = 5 := by simp at hi; omega
    rw [this]
    rfl) 5 0 k (k' - 5) [] (by simp) (by omega) (by omega) (by simp)
  refine ⟨out, o1, ?_, o3⟩
  obtain ⟨j, rfl⟩ : ∃ j, k' = j + 5 := ⟨k' - 5, by omega⟩
  rw [Nat.add_sub_cancel] at o2
  rw [show j + 5 = (j + 4) + 1 from rfl, hop (by omega) (by omega) (q := 1) (by omega) (by omega) (by omega)]
  rw [show ((1 : Int) * 10) = 10 from rfl]
  rw [show j + 4 = (j + 3) + 1 from rfl, hop (by omega) (by omega) (q := 10) (by omega) (by omega) (by omega)]
  rw [show ((10 : Int) * 10) = 100 from rfl]
  rw [show j + 3 = (j + 2) + 1 from rfl, hop (by omega) (by omega) (q := 100) (by omega) (by omega) (by omega)]
  rw [show ((100 : Int) * 10) = 1000 from rfl]
  rw [show j + 2 = (j + 1) + 1 from rfl, hop (by omega) (by omega) (q := 1000) (by omega) (by omega) (by omega)]
  rw [show ((1000 : Int) * 10) = 10000 from rfl]
  rw [land (by omega) (by omega) (q := 10000) (by omega) (by omega)]
  exact o2
def pl7 (i : Nat) : Int := if i = 0 then 100000 else (if i = 1 then 10000 else (if i = 2 then 1000 else (if i = 3 then 100 else (if i = 4 then 10 else (if i = 5 then 1 else 0)))))
theorem digs7 {a : Nat} (h : 1000000 ≤ a) (h' : a < 1000001) : digs a = [((a / 10 / 10 / 10 / 10 / 10 / 10 : Nat) : Int), ((a / 10 / 10 / 10 / 10 / 10 % 10 : Nat) : Int), ((a / 10 / 10 / 10 / 10 % 10 : Nat) : Int), ((a / 10 / 10 / 10 % 10 : Nat) : Int), ((a / 10 / 10 % 10 : Nat) : Int), ((a / 10 % 10 : Nat) : Int), ((a % 10 : Nat) : Int)] := by
  rw [digs_ge (a := a) (by omega)]
  rw [digs_ge (a := a / 10) (by omega)]
  rw [digs_ge (a := a / 10 / 10) (by omega)]
  rw [digs_ge (a := a / 10 / 10 / 10) (by omega)]
  rw [digs_ge (a := a / 10 / 10 / 10 / 10) (by omega)]
  rw [digs_ge (a := a / 10 / 10 / 10 / 10 / 10) (by omega)]
  rw [digs_lt (by omega)]
  rfl
theorem at7_0 {a : Nat} (h : 1000000 ≤ a) (h' : a < 1000001) : At (a : Int) [((a / 10 / 10 / 10 / 10 / 10 / 10 : Nat) : Int), ((a / 10 / 10 / 10 / 10 / 10 % 10 : Nat) : Int), ((a / 10 / 10 / 10 / 10 % 10 : Nat) : Int), ((a / 10 / 10 / 10 % 10 : Nat) : Int), ((a / 10 / 10 % 10 : Nat) : Int), ((a / 10 % 10 : Nat) : Int), ((a % 10 : Nat) : Int)] 0 100000 := by
  simp [At, sw, hor, rd]
  omega
theorem at7_1 {a : Nat} (h : 1000000 ≤ a) (h' : a < 1000001) : At (a : Int) [((a / 10 / 10 / 10 / 10 / 10 / 10 : Nat) : Int), ((a / 10 / 10 / 10 / 10 / 10 % 10 : Nat) : Int), ((a / 10 / 10 / 10 / 10 % 10 : Nat) : Int), ((a / 10 / 10 / 10 % 10 : Nat) : Int), ((a / 10 / 10 % 10 : Nat) : Int), ((a / 10 % 10 : Nat) : Int), ((a % 10 : Nat) : Int)] 1 10000 := by
  simp [At, sw, hor, rd]
  omega
theorem at7_2 {a : Nat} (h : 1000000 ≤ a) (h' : a < 1000001) : At (a : Int) [((a / 10 / 10 / 10 / 10 / 10 / 10 : Nat) : Int), ((a / 10 / 10 / 10 / 10 / 10 % 10 : Nat) : Int), ((a / 10 / 10 / 10 / 10 % 10 : Nat) : Int), ((a / 10 / 10 / 10 % 10 : Nat) : Int), ((a / 10 / 10 % 10 : Nat) : Int), ((a / 10 % 10 : Nat) : Int), ((a % 10 : Nat) : Int)] 2 1000 := by
  simp [At, sw, hor, rd]
  omega
theorem at7_3 {a : Nat} (h : 1000000 ≤ a) (h' : a < 1000001) : At (a : Int) [((a / 10 / 10 / 10 / 10 / 10 / 10 : Nat) : Int), ((a / 10 / 10 / 10 / 10 / 10 % 10 : Nat) : Int), ((a / 10 / 10 / 10 / 10 % 10 : Nat) : Int), ((a / 10 / 10 / 10 % 10 : Nat) : Int), ((a / 10 / 10 % 10 : Nat) : Int), ((a / 10 % 10 : Nat) : Int), ((a % 10 : Nat) : Int)] 3 100 := by
  simp [At, sw, hor, rd]
  omega
theorem at7_4 {a : Nat} (h : 1000000 ≤ a) (h' : a < 1000001) : At (a : Int) [((a / 10 / 10 / 10 / 10 / 10 / 10 : Nat) : Int), ((a / 10 / 10 / 10 / 10 / 10 % 10 : Nat) : Int), ((a / 10 / 10 / 10 / 10 % 10 : Nat) : Int), ((a / 10 / 10 / 10 % 10 : Nat) : Int), ((a / 10 / 10 % 10 : Nat) : Int), ((a / 10 % 10 : Nat) : Int), ((a % 10 : Nat) : Int)] 4 10 := by
  simp [At, sw, hor, rd]
  omega
theorem at7_5 {a : Nat} (h : 1000000 ≤ a) (h' : a < 1000001) : At (a : Int) [((a / 10 / 10 / 10 / 10 / 10 / 10 : Nat) : Int), ((a / 10 / 10 / 10 / 10 / 10 % 10 : Nat) : Int), ((a / 10 / 10 / 10 / 10 % 10 : Nat) : Int), ((a / 10 / 10 / 10 % 10 : Nat) : Int), ((a / 10 / 10 % 10 : Nat) : Int), ((a / 10 % 10 : Nat) : Int), ((a % 10 : Nat) : Int)] 5 1 := by
  simp [At, sw, hor, rd]
  omega
theorem same7 {a : Nat} (h : 1000000 ≤ a) (h' : a < 1000001) {k k' : Nat} (hk : 30 ≤ k) (hk' : 30 ≤ k') : ∃ out, spec_swaps.l0 k [] (digs a) 0 = some out ∧ impl_SwappedOf.l0 k' (a : Int) 1 = some out ∧ out.length ≤ 20 := by
  have hl := digs_mem a
  rw [digs7 h h'] at hl ⊢
  obtain ⟨out, o1, o2, o3⟩ := both (a := (a : Int)) (by omega) (by omega) hl (by simp) pl7 (fun i hi => by
    have : i = 0 ∨ i = 1 ∨ i = 2 ∨ i = 3 ∨ i = 4 ∨ i = 5 := by simp at hi; omega
    rcases this with rfl | rfl | rfl | rfl | rfl | rfl
    · exact at7_0 h h'
    · exact at7_1 h h'
    · exact at7_2 h h'
    · exact at7_3 h h'
    · exact at7_4 h h'
    · exact at7_5 h h') (fun i hi => by
    have : i = 0 ∨ i = 1 ∨ i = 2 ∨ i = 3 ∨ i = 4 ∨ i = 5 := by simp at hi; omega
    rcases this with rfl | rfl | rfl | rfl | rfl | rfl <;> decide +kernel) (fun i hi => by
    have : i = 6 := by simp at hi; omega
    rw [this]
    rfl) 6 0 k (k' - 6) [] (by simp) (by omega) (by omega) (by simp)
  refine ⟨out, o1, ?_, o3⟩
  obtain ⟨j, rfl⟩ : ∃ j, k' = j + 6 := ⟨k' - 6, by omega⟩
  rw [Nat.add_sub_cancel] at o2
  rw [show j + 6 = (j + 5) + 1 from rfl, hop (by omega) (by omega) (q := 1) (by omega) (by omega) (by omega)]
  rw [show ((1 : Int) * 10) = 10 from rfl]
  rw [show j + 5 = (j + 4) + 1 from rfl, hop (by omega) (by omega) (q := 10) (by omega) (by omega) (by omega)]
  rw [show ((10 : Int) * 10) = 100 from rfl]
  rw [show j + 4 = (j + 3) + 1 from rfl, hop (by omega) (by omega) (q := 100) (by omega) (by omega) (by omega)]
  rw [show ((100 : Int) * 10) = 1000 from rfl]
  rw [show j + 3 = (j + 2) + 1 from rfl, hop (by omega) (by omega) (q := 1000) (by omega) (by omega) (by omega)]
  rw [show ((1000 : Int) * 10) = 10000 from rfl]
  rw [show j + 2 = (j + 1) + 1 from rfl, hop (by omega) (by omega) (q := 10000) (by omega) (by omega) (by omega)]
  rw [show ((10000 : Int) * 10) = 100000 from rfl]
  rw [land (by omega) (by omega) (q := 100000) (by omega) (by omega)]
  exact o2
theorem same1 {a : Nat} (h : a < 10) {k k' : Nat} (hk : 30 ≤ k) (hk' : 30 ≤ k') : spec_swaps.l0 k [] (digs a) 0 = some [] ∧ impl_SwappedOf.l0 k' (a : Int) 1 = some [] := by
  obtain ⟨k, rfl⟩ : ∃ j, k = j + 1 := ⟨k - 1, by omega⟩
  obtain ⟨k', rfl⟩ : ∃ j, k' = j + 1 + 1 + 1 := ⟨k' - 3, by omega⟩
  constructor
  · rw [digs_lt h]
    simp only [spec_swaps.l0]
    rw [show wrap64 ((0 : Int) + 1) = 1 from by decide +kernel, if_neg (by simp)]
  · have g1 := wdiv10 (a := (a : Int)) (by omega) (by omega) (q := 10) (by omega)
    have g2 := wdiv10 (a := (a : Int)) (by omega) (by omega) (q := 1) (by omega)
    have g3 := wdiv (a := (a : Int)) (by omega) (by omega) (q := 1) (by omega)
    have n4 : (a : Int) / 1 < 10 := by omega
    have n5 : (1 : Int) > 0 := by decide
    have n6 : ¬ (10 : Int) = 0 := by decide
    have n7 : ¬ (1 : Int) = 0 := by decide
    have n8 : ¬ (0 : Int) > 0 := by decide
    rw [land (by omega) (by omega) (q := 1) (by omega) (by omega)]
    have last : impl_SwappedOf.l1 (k' + 1) (a : Int) (wrap64 (Int.tdiv 1 10)) [] = some [] := by
      rw [show wrap64 (Int.tdiv 1 10) = 0 from by decide +kernel]
      simp only [impl_SwappedOf.l1]
      rw [if_neg n8]
    rw [impl_SwappedOf.l1]
    rw [if_pos n5, show wrap64 ((1 : Int) * 10) = 10 from by decide +kernel, if_neg n6, if_neg n7, g1, g2, g3, if_pos n4, last]
    simp
theorem same {a : Nat} (h : a ≤ 1000000) {k k' : Nat} (hk : 30 ≤ k) (hk' : 30 ≤ k') : ∃ out, spec_swaps.l0 k [] (digs a) 0 = some out ∧ impl_SwappedOf.l0 k' (a : Int) 1 = some out ∧ out.length ≤ 20 := by
  by_cases h1 : a < 10
  · obtain ⟨x, y⟩ := same1 h1 hk hk'
    exact ⟨[], x, y, by simp⟩
  by_cases h2 : a < 100
  · exact same2 (by omega) h2 hk hk'
  by_cases h3 : a < 1000
  · exact same3 (by omega) h3 hk hk'
  by_cases h4 : a < 10000
  · exact same4 (by omega) h4 hk hk'
  by_cases h5 : a < 100000
  · exact same5 (by omega) h5 hk hk'
  by_cases h6 : a < 1000000
  · exact same6 (by omega) h6 hk hk'
  exact same7 (by omega) (by omega) hk hk'
theorem answers (a : Int) {k : Nat} (hk : 40 ≤ k) : ∃ out, spec_SwappedOf.f k a = some out ∧ impl_SwappedOf.f k a = some out ∧ out.length ≤ 20 := by
  obtain ⟨k, rfl⟩ : ∃ j, k = j + 1 := ⟨k - 1, by omega⟩
  by_cases h : 0 ≤ a ∧ a ≤ 1000000
  · obtain ⟨h0, h1⟩ := h
    obtain ⟨m, rfl⟩ : ∃ m : Nat, a = (m : Int) := ⟨a.toNat, by omega⟩
    obtain ⟨out, x, y, z⟩ := same (a := m) (by omega) (k := k + 1) (k' := k) (by omega) (by omega)
    refine ⟨out, ?_, ?_, z⟩
    · unfold spec_SwappedOf.f spec_swaps.f
      rw [specAmount_in h0 h1, digits_is (m := 7) (by omega) (by omega) (k + 1) (by omega)]
      simp only [Option.bind_some, if_true]
      rw [x]
      rfl
    · have c : ¬ ((m : Int) > 1000000) := by omega
      unfold impl_SwappedOf.f
      rw [if_neg (by omega), decide_eq_false c]
      simp only [impl_SwappedOf.j0]
      rw [if_neg (by simp)]
      exact y
  · refine ⟨[], ?_, ?_, by simp⟩
    · unfold spec_SwappedOf.f
      rw [specAmount_out h]
      rfl
    · unfold impl_SwappedOf.f
      by_cases c : a < 0
      · rw [if_pos c]
        simp only [impl_SwappedOf.j0, if_true]
      · have c' : a > 1000000 := by omega
        rw [if_neg c, decide_eq_true c']
        simp only [impl_SwappedOf.j0, if_true]
theorem law (a : Int) {k : Nat} (hk : 40 ≤ k) : laws_FnExactSwappedOf.f k a = some true := by
  unfold laws_FnExactSwappedOf.f
  obtain ⟨r, hs, hi, hl⟩ := answers a hk
  obtain ⟨m, hm, hh⟩ := mark_held (l := r) (by omega) (k := k) (by omega)
  rw [hs, hi]
  simp only [Option.bind_some]
  rw [eqIntS_is (by omega) (by omega)]
  simp only [Option.bind_some, if_true, hm, hh]
  have h0 : ¬ 1 + (r.length : Int) < 0 := by omega
  rw [if_neg h0, if_neg h0]

theorem FnExactSwappedOf : laws_FnExactSwappedOf.Pure := by
  intro a _
  exact ⟨40, law a (Nat.le_refl 40)⟩

end Go.Proofs.Ytgdnhidnojjpiac.Pure
