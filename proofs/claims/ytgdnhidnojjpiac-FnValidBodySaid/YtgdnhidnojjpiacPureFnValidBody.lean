/- The law FnValidBody, as a statement on plain values, holds: ValidBody is the reference's, and 1 less can win, too. For every code of at most 2^47 - 4096 bytes. -/
import Derived.Test.YtgdnhidnojjpiacKit
import Derived.Test.YtgdnhidnojjpiacPFnValidBodyx3
namespace Go.Proofs.Ytgdnhidnojjpiac.Pure
open Go.RowKit Go.Proofs.Ytgdnhidnojjpiac.PFnValidBody Go.Proofs.Ytgdnhidnojjpiac.Kit Go.Proofs.YtgdnhidnojjpiacW.PrintWords

theorem newReader_is (l : List Int) (h : ∀ x ∈ l, (Lit.int .u8 x).wf = true) : ∃ b, RB b ∧ spec_newReader.f l = some (b, 0) := by
  have hb := bytes_bd h
  unfold spec_newReader.f
  by_cases c : (l.length : Int) > 2000
  · rw [if_pos c, if_pos (by omega)]
    exact ⟨l.take 2000, ⟨by rw [List.length_take]; omega, fun x hx => hb x (List.mem_of_mem_take hx)⟩, rfl⟩
  · rw [if_neg c]
    exact ⟨l, ⟨by omega, hb⟩, rfl⟩
theorem pick_is {b : List Int} (hb : RB b) {p : Int} (n : Int) (h0 : 0 ≤ p) (h1 : p ≤ 1000000) {k : Nat} (hk : 1 ≤ k) :
    ∃ r, spec_reader_pick.f k b p n = some (r, p + 1) ∧ 0 ≤ r ∧ (1 ≤ n → r < n) := by
  obtain ⟨k, rfl⟩ : ∃ j, k = j + 1 := ⟨k - 1, by omega⟩
  have e0 : wrap64 (p + 1) = p + 1 := w64 (by omega) (by omega)
  have e1 : wrap64 (p + 1 - 1) = p := by rw [w64 (by omega) (by omega)]; omega
  unfold spec_reader_pick.f
  rw [e0]
  by_cases hn : n < 1
  · rw [if_pos hn]
    exact ⟨0, by simp [spec_reader_pick.j0], by omega, by omega⟩
  · rw [if_neg hn]
    by_cases hz : b.length = 0
    · exact ⟨0, by simp [spec_reader_pick.j0, hz], by omega, by omega⟩
    · have hz' : ((b.length : Int) == 0) = false := by
        rw [beq_eq_false_iff_ne]; omega
      rw [hz']
      simp only [spec_reader_pick.j0, e1]
      rw [if_neg (by decide)]
      have hn0 : ¬ n = 0 := by omega
      by_cases hp : p < (b.length : Int)
      · have hr := rd_byte hb p
        rw [if_pos hp, if_pos h0, if_neg hn0, w64 (by omega) (by omega)]
        have ht := tmod_in hr.1 (n := n) (by omega)
        exact ⟨_, rfl, ht.1, fun _ => ht.2⟩
      · have hl : (1 : Int) ≤ (b.length : Int) := by omega
        have hl2 : (b.length : Int) ≤ 2000 := by have := hb.1; omega
        have q1 := tmod_in h0 hl
        have d1 := tdiv_in h0 hl
        have e2 : wrap64 (wrap64 (p * 7) + 3) = p * 7 + 3 := by simp (disch := omega) only [w64]
        have q2 := tmod_in (x := p * 7 + 3) (by omega) hl
        rw [if_neg hp, if_neg (by omega), if_pos q1.1, if_pos q1.2, e2, if_pos q2.1, if_pos q2.2, if_neg hn0]
        have r1 := rd_byte hb (Int.tmod p (b.length : Int))
        have r2 := rd_byte hb (Int.tmod (p * 7 + 3) (b.length : Int))
        generalize rd b (Int.tmod p (b.length : Int)) = x1 at r1 ⊢
        generalize rd b (Int.tmod (p * 7 + 3) (b.length : Int)) = x2 at r2 ⊢
        generalize Int.tdiv p (b.length : Int) = x3 at d1 ⊢
        have e3 : wrap64 (wrap64 (wrap64 (wrap64 (wrap64 x1 * 131) + wrap64 (wrap64 x2 * 1117)) + wrap64 (p * 29)) + wrap64 (wrap64 x3 * 53)) = x1 * 131 + x2 * 1117 + p * 29 + x3 * 53 := by
          simp (disch := omega) only [w64]
        rw [e3]
        have e4 : wrap64 (Int.tdiv (x1 * 131 + x2 * 1117 + p * 29 + x3 * 53) 64) = (x1 * 131 + x2 * 1117 + p * 29 + x3 * 53) / 64 := by
          rw [tdiv_nn _ (by omega), w64 (by omega) (by omega)]
        rw [e4]
        have hx := xor_nn (a := x1 * 131 + x2 * 1117 + p * 29 + x3 * 53) (b := (x1 * 131 + x2 * 1117 + p * 29 + x3 * 53) / 64) (by omega) (by omega) (by omega) (by omega)
        have ht := tmod_in hx (n := n) (by omega)
        exact ⟨_, rfl, ht.1, fun _ => ht.2⟩
theorem one_is {b : List Int} (hb : RB b) {p : Int} (L : List Int) (hL : 1 ≤ L.length) (h0 : 0 ≤ p) (h1 : p ≤ 1000000) {k : Nat} (hk : 1 ≤ k) :
    ∃ v, spec_reader_one.f k b p L = some (v, p + 1) ∧ v ∈ L := by
  obtain ⟨r, hr, hr0, hr1⟩ := pick_is hb (L.length : Int) h0 h1 hk
  have hlt := hr1 (by omega)
  unfold spec_reader_one.f
  rw [hr]
  simp only [Option.bind_some]
  rw [if_pos hr0, if_pos hlt]
  have e : r = ((r.toNat : Nat) : Int) := by omega
  refine ⟨_, rfl, ?_⟩
  rw [e]
  exact rd_mem (by omega)
theorem total_l0 (xs : List Int) (hx : ∀ x ∈ xs, 0 ≤ x ∧ x ≤ 1000000) (hl : xs.length ≤ 1000000) :
    ∀ (d k i : Nat) (s : Int), xs.length - i = d → d < k → i ≤ xs.length → 0 ≤ s → s ≤ i * 1000000 → spec_total.l0 k xs s (i : Int) = some (s + (xs.drop i).sum) := by
  intro d
  induction d with
  | zero =>
    intro k i s hd hk hi h0 h1
    obtain ⟨k, rfl⟩ : ∃ j, k = j + 1 := ⟨k - 1, by omega⟩
    have e : ¬ (i : Int) < (xs.length : Int) := by omega
    simp only [spec_total.l0]
    rw [if_neg e, List.drop_of_length_le (by omega)]
    simp
  | succ d ih =>
    intro k i s hd hk hi h0 h1
    obtain ⟨k, rfl⟩ : ∃ j, k = j + 1 := ⟨k - 1, by omega⟩
    have hlt : i < xs.length := by omega
    have e : (i : Int) < (xs.length : Int) := by omega
    have hm := hx _ (rd_mem hlt)
    have e1 : wrap64 (s + rd xs (i : Int)) = s + rd xs (i : Int) := w64 (by omega) (by omega)
    have e2 : wrap64 ((i : Int) + 1) = ((i + 1 : Nat) : Int) := by rw [w64 (by omega) (by omega)]; simp
    simp only [spec_total.l0]
    rw [if_pos e, if_pos (by omega), e1, e2, ih k (i + 1) _ (by omega) (by omega) (by omega) (by omega) (by push_cast; omega), drop_rd hlt, List.sum_cons]
    congr 1
    omega
theorem total_is (xs : List Int) (hx : ∀ x ∈ xs, 0 ≤ x ∧ x ≤ 1000000) (hl : xs.length ≤ 1000000) {k : Nat} (hk : xs.length < k) : spec_total.f k xs = some xs.sum := by
  unfold spec_total.f
  have h := total_l0 xs hx hl xs.length k 0 0 (by omega) hk (by omega) (by omega) (by omega)
  simpa using h
theorem range_in {a lo hi : Int} (h : lo ≤ a) (h' : a ≤ hi) : spec_inRange.f a lo hi = some true := by
  unfold spec_inRange.f
  rw [if_pos h, decide_eq_true h']
theorem range_out {a lo hi : Int} (h : ¬ (lo ≤ a ∧ a ≤ hi)) : spec_inRange.f a lo hi = some false := by
  unfold spec_inRange.f
  by_cases h1 : lo ≤ a
  · rw [if_pos h1, decide_eq_false (by omega)]
  · rw [if_neg h1]
def inAll (l : List Int) (lo hi : Int) : Bool := l.all (fun x => decide (lo ≤ x ∧ x ≤ hi))
theorem inAll_mem {l : List Int} {lo hi : Int} (h : inAll l lo hi = true) : ∀ x ∈ l, lo ≤ x ∧ x ≤ hi := by
  unfold inAll at h
  intro x hx
  have := List.all_eq_true.mp h x hx
  simpa using this
theorem allWithin_l0 (lo hi : Int) (l : List Int) (hl : l.length ≤ 1048576) : ∀ (d k i : Nat), l.length - i = d → d < k → i ≤ l.length → impl_allWithin.l0 k lo hi l (l.length : Int) (i : Int) = some (inAll (l.drop i) lo hi) := by
  intro d
  induction d with
  | zero =>
    intro k i hd hk hle
    obtain ⟨k, rfl⟩ : ∃ j, k = j + 1 := ⟨k - 1, by omega⟩
    simp only [impl_allWithin.l0]
    rw [if_neg (by omega), List.drop_of_length_le (by omega)]
    rfl
  | succ d ih =>
    intro k i hd hk hle
    obtain ⟨k, rfl⟩ : ∃ j, k = j + 1 := ⟨k - 1, by omega⟩
    have e : wrap64 ((i : Int) + 1) = ((i + 1 : Nat) : Int) := by rw [w64 (by omega) (by omega)]; simp
    have hstep := ih k (i + 1) (by omega) (by omega) (by omega)
    simp only [impl_allWithin.l0]
    rw [e, if_pos (by omega), if_pos (by omega), if_pos (by omega), drop_rd (by omega), hstep]
    unfold inAll
    rw [List.all_cons]
    generalize rd l (i : Int) = x
    by_cases c1 : x < lo
    · rw [if_pos c1, decide_eq_false (by omega)]
      rfl
    · by_cases c2 : x > hi
      · rw [if_neg c1, if_pos c2, decide_eq_false (by omega)]
        rfl
      · rw [if_neg c1, if_neg c2, decide_eq_true (by omega)]
        rfl
theorem allWithin_is {l : List Int} (lo hi : Int) (hl : l.length ≤ 1048576) {k : Nat} (hk : l.length < k) : impl_allWithin.f k l lo hi = some (inAll l lo hi) := by
  unfold impl_allWithin.f
  have h := allWithin_l0 lo hi l hl l.length k 0 (by omega) hk (by omega)
  simpa using h
theorem allIn_l0 (lo hi : Int) (l : List Int) (hl : l.length ≤ 1048576) : ∀ (d k i : Nat), l.length - i = d → d < k → i ≤ l.length → spec_allIn.l0 k l lo hi (i : Int) = some (inAll (l.drop i) lo hi) := by
  intro d
  induction d with
  | zero =>
    intro k i hd hk hle
    obtain ⟨k, rfl⟩ : ∃ j, k = j + 1 := ⟨k - 1, by omega⟩
    simp only [spec_allIn.l0]
    rw [if_neg (by omega), List.drop_of_length_le (by omega)]
    rfl
  | succ d ih =>
    intro k i hd hk hle
    obtain ⟨k, rfl⟩ : ∃ j, k = j + 1 := ⟨k - 1, by omega⟩
    have e : wrap64 ((i : Int) + 1) = ((i + 1 : Nat) : Int) := by rw [w64 (by omega) (by omega)]; simp
    have hstep := ih k (i + 1) (by omega) (by omega) (by omega)
    simp only [spec_allIn.l0]
    rw [e, if_pos (by omega), if_pos (by omega), drop_rd (by omega), hstep]
    unfold inAll
    rw [List.all_cons]
    generalize rd l (i : Int) = x
    by_cases c1 : lo ≤ x ∧ x ≤ hi
    · rw [range_in c1.1 c1.2, decide_eq_true c1]
      rfl
    · rw [range_out c1, decide_eq_false c1]
      rfl
theorem allIn_is {l : List Int} (lo hi : Int) (hl : l.length ≤ 1048576) {k : Nat} (hk : l.length < k) : spec_allIn.f k l lo hi = some (inAll l lo hi) := by
  unfold spec_allIn.f
  have h := allIn_l0 lo hi l hl l.length k 0 (by omega) hk (by omega)
  simpa using h
theorem sumOf_l0 (xs : List Int) (hx : ∀ x ∈ xs, 0 ≤ x ∧ x ≤ 1000000) (hl : xs.length ≤ 1000000) :
    ∀ (d k i : Nat) (s : Int), xs.length - i = d → d < k → i ≤ xs.length → 0 ≤ s → s ≤ i * 1000000 → impl_sumOf.l0 k s xs (xs.length : Int) (i : Int) = some (s + (xs.drop i).sum) := by
  intro d
  induction d with
  | zero =>
    intro k i s hd hk hi h0 h1
    obtain ⟨k, rfl⟩ : ∃ j, k = j + 1 := ⟨k - 1, by omega⟩
    simp only [impl_sumOf.l0]
    rw [if_neg (by omega), List.drop_of_length_le (by omega)]
    simp
  | succ d ih =>
    intro k i s hd hk hi h0 h1
    obtain ⟨k, rfl⟩ : ∃ j, k = j + 1 := ⟨k - 1, by omega⟩
    have hlt : i < xs.length := by omega
    have hm := hx _ (rd_mem hlt)
    have e1 : wrap64 (s + rd xs (i : Int)) = s + rd xs (i : Int) := w64 (by omega) (by omega)
    have e2 : wrap64 ((i : Int) + 1) = ((i + 1 : Nat) : Int) := by rw [w64 (by omega) (by omega)]; simp
    simp only [impl_sumOf.l0]
    rw [if_pos (by omega), if_pos (by omega), if_pos (by omega), e1, e2, ih k (i + 1) _ (by omega) (by omega) (by omega) (by omega) (by push_cast; omega), drop_rd hlt, List.sum_cons]
    congr 1
    omega
theorem sumOf_is (xs : List Int) (hx : ∀ x ∈ xs, 0 ≤ x ∧ x ≤ 1000000) (hl : xs.length ≤ 1000000) {k : Nat} (hk : xs.length < k) : impl_sumOf.f k xs = some xs.sum := by
  unfold impl_sumOf.f
  have h := sumOf_l0 xs hx hl xs.length k 0 0 (by omega) hk (by omega) (by omega) (by omega)
  simpa using h
def okBody (l : List Int) (need : Int) : Bool := decide (1 ≤ l.length ∧ l.length ≤ 12) && (inAll l 0 100 && decide (1 ≤ need ∧ need ≤ l.sum))
theorem specBody_is (l : List Int) (need : Int) {k : Nat} (hk : 30 ≤ k) : spec_ValidBody.f k l need = some (okBody l need) := by
  unfold spec_ValidBody.f spec_validBody.f okBody
  by_cases c2 : 1 ≤ l.length ∧ l.length ≤ 12
  · rw [range_in (by omega) (by omega), decide_eq_true c2]
    simp only [Option.bind_some, if_true, Bool.true_and]
    rw [allIn_is 0 100 (by omega) (by omega)]
    simp only [Option.bind_some]
    by_cases c3 : inAll l 0 100 = true
    · rw [if_pos c3, c3, total_is l (fun x hx => by have := inAll_mem c3 x hx; omega) (by omega) (by omega)]
      simp only [Option.bind_some, Bool.true_and]
      by_cases c4 : 1 ≤ need ∧ need ≤ l.sum
      · rw [range_in c4.1 c4.2, decide_eq_true c4]
        rfl
      · rw [range_out c4, decide_eq_false c4]
        rfl
    · have c3' : inAll l 0 100 = false := by simpa using c3
      rw [if_neg c3, c3']
      rfl
  · rw [range_out (by omega), decide_eq_false c2]
    rfl
theorem implBody_is (l : List Int) (need : Int) {k : Nat} (hk : 30 ≤ k) : impl_ValidBody.f k l need = some (okBody l need) := by
  unfold impl_ValidBody.f okBody
  by_cases c2 : 1 ≤ l.length ∧ l.length ≤ 12
  · rw [if_neg (by omega), if_neg (by omega), decide_eq_true c2, allWithin_is 0 100 (by omega) (by omega)]
    simp only [Option.bind_some, Bool.true_and]
    by_cases c3 : inAll l 0 100 = true
    · rw [if_pos c3, c3, sumOf_is l (fun x hx => by have := inAll_mem c3 x hx; omega) (by omega) (by omega)]
      simp only [Option.bind_some, Bool.true_and]
      by_cases c4 : need ≥ 1
      · by_cases c5 : need ≤ l.sum
        · rw [if_pos c4, decide_eq_true c5, decide_eq_true ⟨c4, c5⟩]
        · rw [if_pos c4, decide_eq_false c5, decide_eq_false (fun y => c5 y.2)]
      · rw [if_neg c4, decide_eq_false (fun y => c4 y.1)]
    · have c3' : inAll l 0 100 = false := by simpa using c3
      rw [if_neg c3, c3']
      rfl
  · rw [decide_eq_false c2]
    by_cases c3 : l.length < 1
    · rw [if_pos (by omega)]
      rfl
    · rw [if_neg (by omega), if_pos (by omega)]
      rfl

theorem someBody_l0 {b : List Int} (hb : RB b) : ∀ (m k : Nat) (x : List Int) (y p : Int), m + 30 ≤ k → x.length + m ≤ 20 → (∀ z ∈ x, 0 ≤ z ∧ z ≤ 100) → 0 ≤ p → p + 2 * (m : Int) ≤ 900 →
    ∃ l n q, spec_someBody.l0 k (m : Int) b p x y = some (l, n, q) ∧ l.length = x.length + m ∧ (∀ z ∈ l, 0 ≤ z ∧ z ≤ 100) ∧ 0 ≤ q ∧ q ≤ p + 2 * (m : Int) + 2 := by
  intro m
  induction m with
  | zero =>
    intro k x y p hk hx hz h0 h1
    obtain ⟨k, rfl⟩ : ∃ j, k = j + 1 := ⟨k - 1, by omega⟩
    have ht := total_is x (fun z h => by have := hz z h; omega) (by omega) (k := k) (by omega)
    have hs := sum_bd hz
    have e1 : wrap64 (x.sum + 1) = x.sum + 1 := w64 (by omega) (by omega)
    obtain ⟨r, hr, _, _⟩ := pick_is hb (x.sum + 1) (p := p) (by omega) (by omega) (k := k) (by omega)
    obtain ⟨v, hv, _⟩ := one_is hb [wrap64 (wrap64 (Int.tdiv x.sum 2) + 1), wrap64 (wrap64 (Int.tdiv (wrap64 (2 * x.sum)) 3) + 1), x.sum, 1, wrap64 (1 + r)] (by simp) (p := p + 1) (by omega) (by omega) (k := k) (by omega)
    refine ⟨x, v, p + 1 + 1, ?_, by omega, hz, by omega, by omega⟩
    simp only [spec_someBody.l0]
    rw [if_neg (by simp), ht]
    simp only [Option.bind_some]
    rw [e1, hr]
    simp only [Option.bind_some]
    rw [hv]
    rfl
  | succ m ih =>
    intro k x y p hk hx hz h0 h1
    obtain ⟨k, rfl⟩ : ∃ j, k = j + 1 := ⟨k - 1, by omega⟩
    obtain ⟨r, hr, r0, r1⟩ := pick_is hb 10 (p := p) (by omega) (by omega) (k := k) (by omega)
    have r2 := r1 (by omega)
    obtain ⟨v, hv, vm⟩ := one_is hb [1, 2, 3, 5, 0, 1 + r, 100] (by simp) (p := p + 1) (by omega) (by omega) (k := k) (by omega)
    simp only [List.mem_cons, List.not_mem_nil, or_false] at vm
    obtain ⟨l, n, q, hl, hlen, hmem, q0, q1⟩ := ih k (x ++ [v]) y (p + 1 + 1) (by omega) (by simp; omega) (by
      intro z h
      rcases List.mem_append.mp h with h | h
      · exact hz z h
      · simp only [List.mem_singleton] at h
        omega) (by omega) (by push_cast at h1; omega)
    refine ⟨l, n, q, ?_, by simp at hlen; omega, hmem, q0, by push_cast; omega⟩
    have e : wrap64 (((m + 1 : Nat) : Int) - 1) = (m : Int) := (w64 (x := ((m + 1 : Nat) : Int) - 1) (by omega) (by omega)).trans (by omega)
    have e2 : wrap64 (1 + r) = 1 + r := w64 (by omega) (by omega)
    simp only [spec_someBody.l0]
    rw [if_pos (by omega), e, hr]
    simp only [Option.bind_some]
    rw [e2, hv]
    simp only [Option.bind_some]
    rw [if_pos (by omega), hl]
theorem fill_l0 {b : List Int} (p : Int) : ∀ (m k : Nat) (x : List Int) (y : Int), 9 - x.length = m → m + 1 ≤ k → ∃ l, spec_anyBody.l0 k b p x y = some (l, y, p) := by
  intro m
  induction m with
  | zero =>
    intro k x y hm hk
    obtain ⟨k, rfl⟩ : ∃ j, k = j + 1 := ⟨k - 1, by omega⟩
    refine ⟨x, ?_⟩
    simp only [spec_anyBody.l0]
    rw [if_neg (by omega)]
  | succ m ih =>
    intro k x y hm hk
    obtain ⟨k, rfl⟩ : ∃ j, k = j + 1 := ⟨k - 1, by omega⟩
    obtain ⟨l, hl⟩ := ih k (x ++ [1]) y (by simp; omega) (by omega)
    refine ⟨l, ?_⟩
    simp only [spec_anyBody.l0]
    rw [if_pos (by omega), if_pos (by omega), hl]
theorem draw_is {l : List Int} (hl : ∀ x ∈ l, (Lit.int .u8 x).wf = true) {k : Nat} (hk : 60 ≤ k) : ∃ r n, spec_DrawValidBody.f k l = some (r, n) := by
  obtain ⟨b, hb, hr⟩ := newReader_is l hl
  obtain ⟨m, hm, mm⟩ := one_is hb [4, 3, 5, 2, 1, 6, 8] (by simp) (p := 0) (by omega) (by omega) (k := k) (by omega)
  simp only [List.mem_cons, List.not_mem_nil, or_false] at mm
  obtain ⟨x, n, q, hx, hlen, hmem, q0, q1⟩ := someBody_l0 hb m.toNat k [] 0 (0 + 1) (by omega) (by simp; omega) (by simp) (by omega) (by omega)
  have e : ((m.toNat : Nat) : Int) = m := by omega
  rw [e] at hx
  have hsome : spec_someBody.f k b 0 = some (x, n, q) := by
    unfold spec_someBody.f
    rw [hm]
    simp only [Option.bind_some]
    exact hx
  have hx1 : 1 ≤ x.length ∧ x.length ≤ 8 := by simp at hlen; omega
  obtain ⟨r, hr2, _, _⟩ := pick_is hb 20 (p := q) (by omega) (by omega) (k := k) (by omega)
  unfold spec_DrawValidBody.f spec_anyBody.f
  rw [hr]
  simp only [Option.bind_some]
  rw [hsome]
  simp only [Option.bind_some]
  rw [hr2]
  simp only [Option.bind_some]
  by_cases c0 : r = 0
  · have ht := total_is x (fun z h => by have := hmem z h; omega) (by omega) (k := k) (by omega)
    obtain ⟨v, hv, _⟩ := one_is hb [0, wrap64 (x.sum + 1)] (by simp) (p := q + 1) (by omega) (by omega) (k := k) (by omega)
    rw [if_pos c0, ht]
    simp only [Option.bind_some]
    rw [hv]
    exact ⟨_, _, rfl⟩
  · rw [if_neg c0]
    by_cases c1 : r = 1
    · obtain ⟨v, hv, _⟩ := one_is hb [(-1), 101] (by simp) (p := q + 1) (by omega) (by omega) (k := k) (by omega)
      rw [if_pos c1, hv]
      simp only [Option.bind_some]
      rw [if_pos (by omega)]
      exact ⟨_, _, rfl⟩
    · rw [if_neg c1]
      by_cases c2 : r = 2
      · obtain ⟨z, hz⟩ := fill_l0 (b := b) (q + 1) (9 - x.length) k x n rfl (by omega)
        rw [if_pos c2, hz]
        exact ⟨_, _, rfl⟩
      · rw [if_neg c2]
        exact ⟨_, _, rfl⟩

theorem FnValidBody : laws_FnValidBody.Pure := by
  intro l _ _ hl
  refine ⟨100, ?_⟩
  unfold laws_FnValidBody.f
  by_cases c : (l.length : Int) > 1048576
  · rw [if_pos c]
  · rw [if_neg c]
    obtain ⟨r, n, hd⟩ := draw_is hl (k := 100) (by omega)
    rw [hd]
    simp only [Option.bind_some]
    rw [implBody_is r n (by omega), specBody_is r n (by omega)]
    simp only [Option.bind_some]
    by_cases h : okBody r n = true
    · rw [h]
      simp only [laws_FnValidBody.j0, bne_self_eq_false, Bool.not_true]
      rw [if_neg (by simp), if_neg (by simp)]
      by_cases c1 : n = 1
      · rw [if_pos c1]
      · unfold okBody at h
        simp only [Bool.and_eq_true, decide_eq_true_eq] at h
        have hs := sum_bd (fun x hx => inAll_mem h.2.1 x hx)
        have e1 : wrap64 (n - 1) = n - 1 := w64 (by omega) (by omega)
        have h2 : okBody r (n - 1) = true := by
          unfold okBody
          simp only [Bool.and_eq_true, decide_eq_true_eq]
          exact ⟨h.1, h.2.1, by omega, by omega⟩
        rw [if_neg c1, e1, implBody_is r (n - 1) (by omega), h2]
        rfl
    · have h' : okBody r n = false := by simpa using h
      have hs := specBody_is r n (k := 99) (by omega)
      rw [h'] at hs ⊢
      simp only [laws_FnValidBody.j0, bne_self_eq_false, Bool.not_false]
      rw [if_neg (by simp), if_pos trivial, hs]
      rfl

end Go.Proofs.Ytgdnhidnojjpiac.Pure
