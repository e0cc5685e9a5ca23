/- The law FnValidPoints, as a statement on plain values, holds: ValidPoints is the reference's, and the same both ways and backwards. For every code of at most 2^47 - 4096 bytes. -/
import Derived.Test.YtgdnhidnojjpiacKit
import Derived.Test.YtgdnhidnojjpiacQFnValidPointsx3
namespace Go.Proofs.Ytgdnhidnojjpiac.Pure
open Go.RowKit Go.Proofs.Ytgdnhidnojjpiac.PFnValidPoints Go.Proofs.Ytgdnhidnojjpiac.Kit Go.Proofs.YtgdnhidnojjpiacW.PrintWords

theorem newReader_is (l : List Int) (h : ∀ x ∈ l, (Lit.int .u8 x).wf = true) : ∃ b, RB b ∧ spec_newReader.f l = some (b, 0) := by
  have hb := bytes_bd h
  unfold spec_newReader.f
  by_cases c : (l.length : Int) > 2000
  · rw [if_pos c, if_pos (by omega)]
    exact ⟨l.take 2000, ⟨by rw [List.length_take]; omega, fun x hx => hb x (List.mem_of_mem_take hx)⟩, rfl⟩
  · rw [if_neg c]
    exact ⟨l, ⟨by omega, hb⟩, rfl⟩
theorem pick_is {b : List Int} (hb : RB b) {p : Int} (n : Int) (h0 : 0 ≤ p) (h1 : p ≤ 1000000) {k : Nat} (hk : 1 ≤ k) :
    ∃ r, spec_reader_pick.f k b p n = some (r, p + 1) ∧ 0 ≤ r ∧ (1 ≤ n → r < n) := by
  obtain ⟨k, rfl⟩ : ∃ j, k = j + 1 := ⟨k - 1, by omega⟩
  have e0 : wrap64 (p + 1) = p + 1 := w64 (by omega) (by omega)
  have e1 : wrap64 (p + 1 - 1) = p := by rw [w64 (by omega) (by omega)]; omega
  unfold spec_reader_pick.f
  rw [e0]
  by_cases hn : n < 1
  · rw [if_pos hn]
    exact ⟨0, by simp [spec_reader_pick.j0], by omega, by omega⟩
  · rw [if_neg hn]
    by_cases hz : b.length = 0
    · exact ⟨0, by simp [spec_reader_pick.j0, hz], by omega, by omega⟩
    · have hz' : ((b.length : Int) == 0) = false := by
        rw [beq_eq_false_iff_ne]; omega
      rw [hz']
      simp only [spec_reader_pick.j0, e1]
      rw [if_neg (by decide)]
      have hn0 : ¬ n = 0 := by omega
      by_cases hp : p < (b.length : Int)
      · have hr := rd_byte hb p
        rw [if_pos hp, if_pos h0, if_neg hn0, w64 (by omega) (by omega)]
        have ht := tmod_in hr.1 (n := n) (by omega)
        exact ⟨_, rfl, ht.1, fun _ => ht.2⟩
      · have hl : (1 : Int) ≤ (b.length : Int) := by omega
        have hl2 : (b.length : Int) ≤ 2000 := by have := hb.1; omega
        have q1 := tmod_in h0 hl
        have d1 := tdiv_in h0 hl
        have e2 : wrap64 (wrap64 (p * 7) + 3) = p * 7 + 3 := by simp (disch := omega) only [w64]
        have q2 := tmod_in (x := p * 7 + 3) (by omega) hl
        rw [if_neg hp, if_neg (by omega), if_pos q1.1, if_pos q1.2, e2, if_pos q2.1, if_pos q2.2, if_neg hn0]
        have r1 := rd_byte hb (Int.tmod p (b.length : Int))
        have r2 := rd_byte hb (Int.tmod (p * 7 + 3) (b.length : Int))
        generalize rd b (Int.tmod p (b.length : Int)) = x1 at r1 ⊢
        generalize rd b (Int.tmod (p * 7 + 3) (b.length : Int)) = x2 at r2 ⊢
        generalize Int.tdiv p (b.length : Int) = x3 at d1 ⊢
        have e3 : wrap64 (wrap64 (wrap64 (wrap64 (wrap64 x1 * 131) + wrap64 (wrap64 x2 * 1117)) + wrap64 (p * 29)) + wrap64 (wrap64 x3 * 53)) = x1 * 131 + x2 * 1117 + p * 29 + x3 * 53 := by
          simp (disch := omega) only [w64]
        rw [e3]
        have e4 : wrap64 (Int.tdiv (x1 * 131 + x2 * 1117 + p * 29 + x3 * 53) 64) = (x1 * 131 + x2 * 1117 + p * 29 + x3 * 53) / 64 := by
          rw [tdiv_nn _ (by omega), w64 (by omega) (by omega)]
        rw [e4]
        have hx := xor_nn (a := x1 * 131 + x2 * 1117 + p * 29 + x3 * 53) (b := (x1 * 131 + x2 * 1117 + p * 29 + x3 * 53) / 64) (by omega) (by omega) (by omega) (by omega)
        have ht := tmod_in hx (n := n) (by omega)
        exact ⟨_, rfl, ht.1, fun _ => ht.2⟩
theorem one_is {b : List Int} (hb : RB b) {p : Int} (L : List Int) (hL : 1 ≤ L.length) (h0 : 0 ≤ p) (h1 : p ≤ 1000000) {k : Nat} (hk : 1 ≤ k) :
    ∃ v, spec_reader_one.f k b p L = some (v, p + 1) ∧ v ∈ L := by
  obtain ⟨r, hr, hr0, hr1⟩ := pick_is hb (L.length : Int) h0 h1 hk
  have hlt := hr1 (by omega)
  unfold spec_reader_one.f
  rw [hr]
  simp only [Option.bind_some]
  rw [if_pos hr0, if_pos hlt]
  have e : r = ((r.toNat : Nat) : Int) := by omega
  refine ⟨_, rfl, ?_⟩
  rw [e]
  exact rd_mem (by omega)
theorem total_l0 (xs : List Int) (hx : ∀ x ∈ xs, 0 ≤ x ∧ x ≤ 1000000) (hl : xs.length ≤ 1000000) :
    ∀ (d k i : Nat) (s : Int), xs.length - i = d → d < k → i ≤ xs.length → 0 ≤ s → s ≤ i * 1000000 → spec_total.l0 k xs s (i : Int) = some (s + (xs.drop i).sum) := by
  intro d
  induction d with
  | zero =>
    intro k i s hd hk hi h0 h1
    obtain ⟨k, rfl⟩ : ∃ j, k = j + 1 := ⟨k - 1, by omega⟩
    have e : ¬ (i : Int) < (xs.length : Int) := by omega
    simp only [spec_total.l0]
    rw [if_neg e, List.drop_of_length_le (by omega)]
    simp
  | succ d ih =>
    intro k i s hd hk hi h0 h1
    obtain ⟨k, rfl⟩ : ∃ j, k = j + 1 := ⟨k - 1, by omega⟩
    have hlt : i < xs.length := by omega
    have e : (i : Int) < (xs.length : Int) := by omega
    have hm := hx _ (rd_mem hlt)
    have e1 : wrap64 (s + rd xs (i : Int)) = s + rd xs (i : Int) := w64 (by omega) (by omega)
    have e2 : wrap64 ((i : Int) + 1) = ((i + 1 : Nat) : Int) := by rw [w64 (by omega) (by omega)]; simp
    simp only [spec_total.l0]
    rw [if_pos e, if_pos (by omega), e1, e2, ih k (i + 1) _ (by omega) (by omega) (by omega) (by omega) (by push_cast; omega), drop_rd hlt, List.sum_cons]
    congr 1
    omega
theorem total_is (xs : List Int) (hx : ∀ x ∈ xs, 0 ≤ x ∧ x ≤ 1000000) (hl : xs.length ≤ 1000000) {k : Nat} (hk : xs.length < k) : spec_total.f k xs = some xs.sum := by
  unfold spec_total.f
  have h := total_l0 xs hx hl xs.length k 0 0 (by omega) hk (by omega) (by omega) (by omega)
  simpa using h
theorem range_in {a lo hi : Int} (h : lo ≤ a) (h' : a ≤ hi) : spec_inRange.f a lo hi = some true := by
  unfold spec_inRange.f
  rw [if_pos h, decide_eq_true h']
theorem range_out {a lo hi : Int} (h : ¬ (lo ≤ a ∧ a ≤ hi)) : spec_inRange.f a lo hi = some false := by
  unfold spec_inRange.f
  by_cases h1 : lo ≤ a
  · rw [if_pos h1, decide_eq_false (by omega)]
  · rw [if_neg h1]
def inAll (l : List Int) (lo hi : Int) : Bool := l.all (fun x => decide (lo ≤ x ∧ x ≤ hi))
theorem inAll_mem {l : List Int} {lo hi : Int} (h : inAll l lo hi = true) : ∀ x ∈ l, lo ≤ x ∧ x ≤ hi := by
  unfold inAll at h
  intro x hx
  have := List.all_eq_true.mp h x hx
  simpa using this
theorem allWithin_l0 (lo hi : Int) (l : List Int) (hl : l.length ≤ 1048576) : ∀ (d k i : Nat), l.length - i = d → d < k → i ≤ l.length → impl_allWithin.l0 k lo hi l (l.length : Int) (i : Int) = some (inAll (l.drop i) lo hi) := by
  intro d
  induction d with
  | zero =>
    intro k i hd hk hle
    obtain ⟨k, rfl⟩ : ∃ j, k = j + 1 := ⟨k - 1, by omega⟩
    simp only [impl_allWithin.l0]
    rw [if_neg (by omega), List.drop_of_length_le (by omega)]
    rfl
  | succ d ih =>
    intro k i hd hk hle
    obtain ⟨k, rfl⟩ : ∃ j, k = j + 1 := ⟨k - 1, by omega⟩
    have e : wrap64 ((i : Int) + 1) = ((i + 1 : Nat) : Int) := by rw [w64 (by omega) (by omega)]; simp
    have hstep := ih k (i + 1) (by omega) (by omega) (by omega)
    simp only [impl_allWithin.l0]
    rw [e, if_pos (by omega), if_pos (by omega), if_pos (by omega), drop_rd (by omega), hstep]
    unfold inAll
    rw [List.all_cons]
    generalize rd l (i : Int) = x
    by_cases c1 : x < lo
    · rw [if_pos c1, decide_eq_false (by omega)]
      rfl
    · by_cases c2 : x > hi
      · rw [if_neg c1, if_pos c2, decide_eq_false (by omega)]
        rfl
      · rw [if_neg c1, if_neg c2, decide_eq_true (by omega)]
        rfl
theorem allWithin_is {l : List Int} (lo hi : Int) (hl : l.length ≤ 1048576) {k : Nat} (hk : l.length < k) : impl_allWithin.f k l lo hi = some (inAll l lo hi) := by
  unfold impl_allWithin.f
  have h := allWithin_l0 lo hi l hl l.length k 0 (by omega) hk (by omega)
  simpa using h
theorem allIn_l0 (lo hi : Int) (l : List Int) (hl : l.length ≤ 1048576) : ∀ (d k i : Nat), l.length - i = d → d < k → i ≤ l.length → spec_allIn.l0 k l lo hi (i : Int) = some (inAll (l.drop i) lo hi) := by
  intro d
  induction d with
  | zero =>
    intro k i hd hk hle
    obtain ⟨k, rfl⟩ : ∃ j, k = j + 1 := ⟨k - 1, by omega⟩
    simp only [spec_allIn.l0]
    rw [if_neg (by omega), List.drop_of_length_le (by omega)]
    rfl
  | succ d ih =>
    intro k i hd hk hle
    obtain ⟨k, rfl⟩ : ∃ j, k = j + 1 := ⟨k - 1, by omega⟩
    have e : wrap64 ((i : Int) + 1) = ((i + 1 : Nat) : Int) := by rw [w64 (by omega) (by omega)]; simp
    have hstep := ih k (i + 1) (by omega) (by omega) (by omega)
    simp only [spec_allIn.l0]
    rw [e, if_pos (by omega), if_pos (by omega), drop_rd (by omega), hstep]
    unfold inAll
    rw [List.all_cons]
    generalize rd l (i : Int) = x
    by_cases c1 : lo ≤ x ∧ x ≤ hi
    · rw [range_in c1.1 c1.2, decide_eq_true c1]
      rfl
    · rw [range_out c1, decide_eq_false c1]
      rfl
theorem allIn_is {l : List Int} (lo hi : Int) (hl : l.length ≤ 1048576) {k : Nat} (hk : l.length < k) : spec_allIn.f k l lo hi = some (inAll l lo hi) := by
  unfold spec_allIn.f
  have h := allIn_l0 lo hi l hl l.length k 0 (by omega) hk (by omega)
  simpa using h
theorem sumOf_l0 (xs : List Int) (hx : ∀ x ∈ xs, 0 ≤ x ∧ x ≤ 1000000) (hl : xs.length ≤ 1000000) :
    ∀ (d k i : Nat) (s : Int), xs.length - i = d → d < k → i ≤ xs.length → 0 ≤ s → s ≤ i * 1000000 → impl_sumOf.l0 k s xs (xs.length : Int) (i : Int) = some (s + (xs.drop i).sum) := by
  intro d
  induction d with
  | zero =>
    intro k i s hd hk hi h0 h1
    obtain ⟨k, rfl⟩ : ∃ j, k = j + 1 := ⟨k - 1, by omega⟩
    simp only [impl_sumOf.l0]
    rw [if_neg (by omega), List.drop_of_length_le (by omega)]
    simp
  | succ d ih =>
    intro k i s hd hk hi h0 h1
    obtain ⟨k, rfl⟩ : ∃ j, k = j + 1 := ⟨k - 1, by omega⟩
    have hlt : i < xs.length := by omega
    have hm := hx _ (rd_mem hlt)
    have e1 : wrap64 (s + rd xs (i : Int)) = s + rd xs (i : Int) := w64 (by omega) (by omega)
    have e2 : wrap64 ((i : Int) + 1) = ((i + 1 : Nat) : Int) := by rw [w64 (by omega) (by omega)]; simp
    simp only [impl_sumOf.l0]
    rw [if_pos (by omega), if_pos (by omega), if_pos (by omega), e1, e2, ih k (i + 1) _ (by omega) (by omega) (by omega) (by omega) (by push_cast; omega), drop_rd hlt, List.sum_cons]
    congr 1
    omega
theorem sumOf_is (xs : List Int) (hx : ∀ x ∈ xs, 0 ≤ x ∧ x ≤ 1000000) (hl : xs.length ≤ 1000000) {k : Nat} (hk : xs.length < k) : impl_sumOf.f k xs = some xs.sum := by
  unfold impl_sumOf.f
  have h := sumOf_l0 xs hx hl xs.length k 0 0 (by omega) hk (by omega) (by omega) (by omega)
  simpa using h
def okPoints (a b : List Int) : Bool := decide (a.length = b.length) && (decide (1 ≤ a.length ∧ a.length ≤ 10) && (inAll a 0 100 && (inAll b 0 100 && decide (a.sum = b.sum ∧ 0 < a.sum))))
theorem specPoints_is (a b : List Int) {k : Nat} (hk : 30 ≤ k) : spec_ValidPoints.f k a b = some (okPoints a b) := by
  unfold spec_ValidPoints.f spec_validPoints.f okPoints
  by_cases c1 : a.length = b.length
  · have c1' : (a.length : Int) = (b.length : Int) := by omega
    rw [if_pos c1', decide_eq_true c1]
    by_cases c2 : 1 ≤ a.length ∧ a.length ≤ 10
    · rw [range_in (by omega) (by omega), decide_eq_true c2]
      simp only [Option.bind_some, if_true, Bool.true_and]
      rw [allIn_is 0 100 (by omega) (by omega), allIn_is 0 100 (by omega) (by omega)]
      simp only [Option.bind_some]
      by_cases c3 : inAll a 0 100 = true
      · by_cases c4 : inAll b 0 100 = true
        · rw [if_pos c3, if_pos c4, total_is a (fun x hx => by have := inAll_mem c3 x hx; omega) (by omega) (by omega), total_is b (fun x hx => by have := inAll_mem c4 x hx; omega) (by omega) (by omega), c3, c4]
          simp only [Option.bind_some, Bool.true_and]
          by_cases c5 : a.sum = b.sum
          · by_cases c6 : 0 < a.sum
            · rw [if_pos c5, decide_eq_true c6, decide_eq_true ⟨c5, c6⟩]
              rfl
            · rw [if_pos c5, decide_eq_false c6, decide_eq_false (fun y => c6 y.2)]
              rfl
          · rw [if_neg c5, decide_eq_false (fun y => c5 y.1)]
            rfl
        · have c4' : inAll b 0 100 = false := by simpa using c4
          rw [if_pos c3, if_neg c4, c4']
          simp
      · have c3' : inAll a 0 100 = false := by simpa using c3
        rw [if_neg c3, c3']
        simp
    · rw [range_out (by omega), decide_eq_false c2]
      simp
  · have c1' : ¬ (a.length : Int) = (b.length : Int) := by omega
    rw [if_neg c1', decide_eq_false c1]
    simp
theorem implPoints_is (a b : List Int) {k : Nat} (hk : 30 ≤ k) : impl_ValidPoints.f k a b = some (okPoints a b) := by
  obtain ⟨k, rfl⟩ : ∃ j, k = j + 1 + 1 := ⟨k - 2, by omega⟩
  unfold impl_ValidPoints.f okPoints
  by_cases c2 : 1 ≤ a.length ∧ a.length ≤ 10
  · rw [if_neg (by omega), if_neg (by omega), decide_eq_true c2]
    by_cases c1 : a.length = b.length
    · have c1' : ((a.length : Int) != (b.length : Int)) = false := by rw [c1]; simp
      rw [c1', decide_eq_true c1]
      simp only [impl_ValidPoints.j0, Bool.true_and]
      rw [if_neg (by simp), allWithin_is 0 100 (by omega) (by omega)]
      simp only [Option.bind_some]
      by_cases c3 : inAll a 0 100 = true
      · rw [if_pos c3, c3, allWithin_is 0 100 (by omega) (by omega)]
        simp only [Option.bind_some, impl_ValidPoints.j1, Bool.true_and]
        by_cases c4 : inAll b 0 100 = true
        · rw [c4, if_neg (by simp), sumOf_is a (fun x hx => by have := inAll_mem c3 x hx; omega) (by omega) (by omega), sumOf_is b (fun x hx => by have := inAll_mem c4 x hx; omega) (by omega) (by omega)]
          simp only [Option.bind_some, Bool.true_and]
          by_cases c6 : 0 < a.sum
          · rw [if_pos c6]
            by_cases c5 : a.sum = b.sum
            · rw [decide_eq_true ⟨c5, c6⟩, c5]
              simp
            · rw [decide_eq_false (fun y => c5 y.1)]
              simp [c5]
          · rw [if_neg c6, decide_eq_false (fun y => c6 y.2)]
        · have c4' : inAll b 0 100 = false := by simpa using c4
          rw [c4']
          simp
      · have c3' : inAll a 0 100 = false := by simpa using c3
        rw [if_neg c3, c3']
        simp [impl_ValidPoints.j1]
    · have c1' : ((a.length : Int) != (b.length : Int)) = true := by rw [bne_iff_ne]; omega
      rw [c1', decide_eq_false c1]
      simp [impl_ValidPoints.j0]
  · rw [decide_eq_false c2]
    by_cases c3 : a.length < 1
    · rw [if_pos (by omega)]
      simp [impl_ValidPoints.j0]
    · rw [if_neg (by omega), if_pos (by omega)]
      simp [impl_ValidPoints.j0]

theorem draw_l0 {b : List Int} (hb : RB b) : ∀ (m k : Nat) (x y : List Int) (p : Int), m + 30 ≤ k → x.length + m ≤ 10 → x.length = y.length → 1 ≤ x.length + m → (∀ z ∈ x, 0 ≤ z ∧ z ≤ 100) → (∀ z ∈ y, 0 ≤ z ∧ z ≤ 100) → 0 ≤ p → p + 4 * (m : Int) ≤ 900 →
    ∃ u v q, spec_somePoints.l0 k x y (m : Int) b p = some (u, v, q) ∧ u.length ≤ 10 ∧ v.length ≤ 10 := by
  intro m
  induction m with
  | zero =>
    intro k x y p hk hx hxy h1 hzx hzy h0 hp
    obtain ⟨k, rfl⟩ : ∃ j, k = j + 1 := ⟨k - 1, by omega⟩
    have hx' := total_is x (fun z h => by have := hzx z h; omega) (by omega) (k := k) (by omega)
    have hy' := total_is y (fun z h => by have := hzy z h; omega) (by omega) (k := k) (by omega)
    obtain ⟨r, hr, _, _⟩ := pick_is hb 8 (p := p) (by omega) (by omega) (k := k) (by omega)
    simp only [spec_somePoints.l0]
    rw [if_neg (by simp), hx']
    simp only [Option.bind_some]
    rw [hy']
    simp only [Option.bind_some]
    rw [hr]
    simp only [Option.bind_some]
    by_cases c : r > 0
    · rw [if_pos c]
      by_cases c2 : wrap64 (x.sum - y.sum) > 0
      · rw [if_pos c2, if_pos (by omega)]
        exact ⟨_, _, _, rfl, by omega, by simp; omega⟩
      · rw [if_neg c2, if_pos (by omega)]
        exact ⟨_, _, _, rfl, by simp; omega, by omega⟩
    · rw [if_neg c]
      exact ⟨_, _, _, rfl, by omega, by omega⟩
  | succ m ih =>
    intro k x y p hk hx hxy h1 hzx hzy h0 hp
    obtain ⟨k, rfl⟩ : ∃ j, k = j + 1 := ⟨k - 1, by omega⟩
    obtain ⟨r, hr, r0, r1⟩ := pick_is hb 40 (p := p) (by omega) (by omega) (k := k) (by omega)
    have r2 := r1 (by omega)
    obtain ⟨s, hs, sm⟩ := one_is hb [10, 20, r, 0, 5] (by simp) (p := p + 1) (by omega) (by omega) (k := k) (by omega)
    obtain ⟨t, ht, t0, t1⟩ := pick_is hb 40 (p := p + 1 + 1) (by omega) (by omega) (k := k) (by omega)
    have t2 := t1 (by omega)
    obtain ⟨w, hw, wm⟩ := one_is hb [10, 5, t, 0, 20] (by simp) (p := p + 1 + 1 + 1) (by omega) (by omega) (k := k) (by omega)
    simp only [List.mem_cons, List.not_mem_nil, or_false] at sm wm
    obtain ⟨u, v, q, hl, hu, hv⟩ := ih k (x ++ [s]) (y ++ [w]) (p + 1 + 1 + 1 + 1) (by omega) (by simp; omega) (by simp; omega) (by simp; omega) (by
      intro z h
      rcases List.mem_append.mp h with h | h
      · exact hzx z h
      · simp only [List.mem_singleton] at h
        omega) (by
      intro z h
      rcases List.mem_append.mp h with h | h
      · exact hzy z h
      · simp only [List.mem_singleton] at h
        omega) (by omega) (by push_cast at hp; omega)
    refine ⟨u, v, q, ?_, hu, hv⟩
    have e : wrap64 (((m + 1 : Nat) : Int) - 1) = (m : Int) := (w64 (x := ((m + 1 : Nat) : Int) - 1) (by omega) (by omega)).trans (by omega)
    simp only [spec_somePoints.l0]
    rw [if_pos (by omega), e, hr]
    simp only [Option.bind_some]
    rw [hs]
    simp only [Option.bind_some]
    rw [if_pos (by omega), ht]
    simp only [Option.bind_some]
    rw [hw]
    simp only [Option.bind_some]
    rw [if_pos (by omega), hl]
theorem draw_is {l : List Int} (hl : ∀ x ∈ l, (Lit.int .u8 x).wf = true) {k : Nat} (hk : 60 ≤ k) : ∃ u v, spec_DrawValidPoints.f k l = some (u, v) ∧ u.length ≤ 10 ∧ v.length ≤ 10 := by
  obtain ⟨b, hb, hr⟩ := newReader_is l hl
  obtain ⟨m, hm, mm⟩ := one_is hb [4, 3, 5, 2, 1, 7] (by simp) (p := 0) (by omega) (by omega) (k := k) (by omega)
  simp only [List.mem_cons, List.not_mem_nil, or_false] at mm
  obtain ⟨u, v, q, hq, hu, hv⟩ := draw_l0 hb m.toNat k [] [] (0 + 1) (by omega) (by simp; omega) rfl (by simp; omega) (by simp) (by simp) (by omega) (by omega)
  have e : ((m.toNat : Nat) : Int) = m := by omega
  rw [e] at hq
  refine ⟨u, v, ?_, hu, hv⟩
  unfold spec_DrawValidPoints.f spec_somePoints.f
  rw [hr]
  simp only [Option.bind_some]
  rw [hm]
  simp only [Option.bind_some]
  rw [hq]
  rfl
theorem backwards_l0 (l : List Int) (hl : l.length ≤ 10) : ∀ (m k : Nat) (x : List Int), m + 1 ≤ k → m ≤ l.length → x = (l.drop m).reverse → laws_backwards.l0 k l x ((m : Int) - 1) = some l.reverse := by
  intro m
  induction m with
  | zero =>
    intro k x hk hm hx
    obtain ⟨k, rfl⟩ : ∃ j, k = j + 1 := ⟨k - 1, by omega⟩
    simp only [laws_backwards.l0]
    rw [if_neg (by simp), hx]
    simp
  | succ m ih =>
    intro k x hk hm hx
    obtain ⟨k, rfl⟩ : ∃ j, k = j + 1 := ⟨k - 1, by omega⟩
    have hstep := ih k (x ++ [rd l (m : Int)]) (by omega) (by omega) (by rw [hx, drop_rd (xs := l) (i := m) (by omega), List.reverse_cons])
    have hlx : x.length ≤ 10 := by rw [hx]; simp; omega
    have e0 : ((m + 1 : Nat) : Int) - 1 = (m : Int) := by omega
    have e : wrap64 ((m : Int) - 1) = (m : Int) - 1 := w64 (by omega) (by omega)
    rw [e0]
    simp only [laws_backwards.l0]
    rw [if_pos (by omega), if_pos (by omega), if_pos (by omega), if_pos (by omega), e]
    exact hstep
theorem backwards_is {l : List Int} (hl : l.length ≤ 10) {k : Nat} (hk : 20 ≤ k) : laws_backwards.f k l = some l.reverse := by
  unfold laws_backwards.f
  rw [w64 (by omega) (by omega)]
  exact backwards_l0 l hl l.length k [] (by omega) (Nat.le_refl _) (by simp)
theorem inAll_rev (l : List Int) (lo hi : Int) : inAll l.reverse lo hi = inAll l lo hi := by
  unfold inAll
  rw [List.all_reverse]
theorem okPoints_swap {a b : List Int} (h : okPoints a b = true) : okPoints b a = true := by
  unfold okPoints at h ⊢
  simp only [Bool.and_eq_true, decide_eq_true_eq] at h ⊢
  obtain ⟨h1, h2, h3, h4, h5⟩ := h
  exact ⟨h1.symm, by omega, h4, h3, h5.1.symm, by omega⟩
theorem okPoints_rev {a b : List Int} (h : okPoints a b = true) : okPoints a.reverse b.reverse = true := by
  unfold okPoints at h ⊢
  simp only [Bool.and_eq_true, decide_eq_true_eq, List.length_reverse, inAll_rev, List.sum_reverse] at h ⊢
  exact h

theorem FnValidPoints : laws_FnValidPoints.Pure := by
  intro l _ _ hl
  refine ⟨100, ?_⟩
  unfold laws_FnValidPoints.f
  by_cases c : (l.length : Int) > 1048576
  · rw [if_pos c]
  · rw [if_neg c]
    obtain ⟨u, v, hd, hu, hv⟩ := draw_is hl (k := 100) (by omega)
    rw [hd]
    simp only [Option.bind_some]
    rw [implPoints_is u v (by omega), specPoints_is u v (by omega)]
    simp only [Option.bind_some]
    by_cases h : okPoints u v = true
    · rw [h]
      simp only [laws_FnValidPoints.j0, bne_self_eq_false, Bool.not_true]
      rw [if_neg (by simp), if_neg (by simp), implPoints_is v u (by omega), okPoints_swap h]
      simp only [Option.bind_some, if_true]
      rw [backwards_is hu (by omega), backwards_is hv (by omega)]
      simp only [Option.bind_some]
      rw [implPoints_is _ _ (by omega), okPoints_rev h]
      rfl
    · have h' : okPoints u v = false := by simpa using h
      have hs := specPoints_is u v (k := 99) (by omega)
      rw [h'] at hs ⊢
      simp only [laws_FnValidPoints.j0, bne_self_eq_false, Bool.not_false]
      rw [if_neg (by simp), if_pos trivial, hs]
      rfl

end Go.Proofs.Ytgdnhidnojjpiac.Pure
