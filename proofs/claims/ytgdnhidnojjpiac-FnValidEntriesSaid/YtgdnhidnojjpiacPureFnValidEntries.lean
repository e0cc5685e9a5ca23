/- The law FnValidEntries, as a statement on plain values, holds: ValidEntries is the reference's, and valid entries are valid without any one of them. For every code of at most 2^47 - 4096 bytes. -/
import Derived.Test.YtgdnhidnojjpiacKit
import Derived.Test.YtgdnhidnojjpiacPFnValidEntriesx3
namespace Go.Proofs.Ytgdnhidnojjpiac.Pure
open Go.RowKit Go.Proofs.Ytgdnhidnojjpiac.PFnValidEntries Go.Proofs.Ytgdnhidnojjpiac.Kit Go.Proofs.YtgdnhidnojjpiacW.PrintWords

theorem newReader_is (l : List Int) (h : ∀ x ∈ l, (Lit.int .u8 x).wf = true) : ∃ b, RB b ∧ spec_newReader.f l = some (b, 0) := by
  have hb := bytes_bd h
  unfold spec_newReader.f
  by_cases c : (l.length : Int) > 2000
  · rw [if_pos c, if_pos (by omega)]
    exact ⟨l.take 2000, ⟨by rw [List.length_take]; omega, fun x hx => hb x (List.mem_of_mem_take hx)⟩, rfl⟩
  · rw [if_neg c]
    exact ⟨l, ⟨by omega, hb⟩, rfl⟩
theorem pick_is {b : List Int} (hb : RB b) {p : Int} (n : Int) (h0 : 0 ≤ p) (h1 : p ≤ 1000000) {k : Nat} (hk : 1 ≤ k) :
    ∃ r, spec_reader_pick.f k b p n = some (r, p + 1) ∧ 0 ≤ r ∧ (1 ≤ n → r < n) := by
  obtain ⟨k, rfl⟩ : ∃ j, k = j + 1 := ⟨k - 1, by omega⟩
  have e0 : wrap64 (p + 1) = p + 1 := w64 (by omega) (by omega)
  have e1 : wrap64 (p + 1 - 1) = p := by rw [w64 (by omega) (by omega)]; omega
  unfold spec_reader_pick.f
  rw [e0]
  by_cases hn : n < 1
  · rw [if_pos hn]
    exact ⟨0, by simp [spec_reader_pick.j0], by omega, by omega⟩
  · rw [if_neg hn]
    by_cases hz : b.length = 0
    · exact ⟨0, by simp [spec_reader_pick.j0, hz], by omega, by omega⟩
    · have hz' : ((b.length : Int) == 0) = false := by
        rw [beq_eq_false_iff_ne]; omega
      rw [hz']
      simp only [spec_reader_pick.j0, e1]
      rw [if_neg (by decide)]
      have hn0 : ¬ n = 0 := by omega
      by_cases hp : p < (b.length : Int)
      · have hr := rd_byte hb p
        rw [if_pos hp, if_pos h0, if_neg hn0, w64 (by omega) (by omega)]
        have ht := tmod_in hr.1 (n := n) (by omega)
        exact ⟨_, rfl, ht.1, fun _ => ht.2⟩
      · have hl : (1 : Int) ≤ (b.length : Int) := by omega
        have hl2 : (b.length : Int) ≤ 2000 := by have := hb.1; omega
        have q1 := tmod_in h0 hl
        have d1 := tdiv_in h0 hl
        have e2 : wrap64 (wrap64 (p * 7) + 3) = p * 7 + 3 := by simp (disch := omega) only [w64]
        have q2 := tmod_in (x := p * 7 + 3) (by omega) hl
        rw [if_neg hp, if_neg (by omega), if_pos q1.1, if_pos q1.2, e2, if_pos q2.1, if_pos q2.2, if_neg hn0]
        have r1 := rd_byte hb (Int.tmod p (b.length : Int))
        have r2 := rd_byte hb (Int.tmod (p * 7 + 3) (b.length : Int))
        generalize rd b (Int.tmod p (b.length : Int)) = x1 at r1 ⊢
        generalize rd b (Int.tmod (p * 7 + 3) (b.length : Int)) = x2 at r2 ⊢
        generalize Int.tdiv p (b.length : Int) = x3 at d1 ⊢
        have e3 : wrap64 (wrap64 (wrap64 (wrap64 (wrap64 x1 * 131) + wrap64 (wrap64 x2 * 1117)) + wrap64 (p * 29)) + wrap64 (wrap64 x3 * 53)) = x1 * 131 + x2 * 1117 + p * 29 + x3 * 53 := by
          simp (disch := omega) only [w64]
        rw [e3]
        have e4 : wrap64 (Int.tdiv (x1 * 131 + x2 * 1117 + p * 29 + x3 * 53) 64) = (x1 * 131 + x2 * 1117 + p * 29 + x3 * 53) / 64 := by
          rw [tdiv_nn _ (by omega), w64 (by omega) (by omega)]
        rw [e4]
        have hx := xor_nn (a := x1 * 131 + x2 * 1117 + p * 29 + x3 * 53) (b := (x1 * 131 + x2 * 1117 + p * 29 + x3 * 53) / 64) (by omega) (by omega) (by omega) (by omega)
        have ht := tmod_in hx (n := n) (by omega)
        exact ⟨_, rfl, ht.1, fun _ => ht.2⟩
theorem one_is {b : List Int} (hb : RB b) {p : Int} (L : List Int) (hL : 1 ≤ L.length) (h0 : 0 ≤ p) (h1 : p ≤ 1000000) {k : Nat} (hk : 1 ≤ k) :
    ∃ v, spec_reader_one.f k b p L = some (v, p + 1) ∧ v ∈ L := by
  obtain ⟨r, hr, hr0, hr1⟩ := pick_is hb (L.length : Int) h0 h1 hk
  have hlt := hr1 (by omega)
  unfold spec_reader_one.f
  rw [hr]
  simp only [Option.bind_some]
  rw [if_pos hr0, if_pos hlt]
  have e : r = ((r.toNat : Nat) : Int) := by omega
  refine ⟨_, rfl, ?_⟩
  rw [e]
  exact rd_mem (by omega)
def okEntry (x : S72) : Bool := decide (0 ≤ x.f0 ∧ x.f0 ≤ 999 ∧ 1 ≤ x.f3 ∧ x.f3 ≤ 1000000 ∧ 0 ≤ x.f1 ∧ x.f1 ≤ 7 ∧ 0 ≤ x.f2 ∧ x.f2 ≤ 7 ∧ ¬ x.f1 = x.f2)
theorem range_is (a lo hi : Int) : spec_inRange.f a lo hi = some (decide (lo ≤ a ∧ a ≤ hi)) := by
  unfold spec_inRange.f
  by_cases h1 : lo ≤ a <;> simp [h1]
theorem specEntry_is (x : S72) : spec_validEntry.f x.f0 x.f1 x.f2 x.f3 = some (okEntry x) := by
  unfold spec_validEntry.f okEntry
  simp only [range_is, Option.bind_some]
  by_cases c1 : 0 ≤ x.f0 ∧ x.f0 ≤ 999
  · by_cases c2 : 0 ≤ x.f1 ∧ x.f1 ≤ 7
    · by_cases c3 : 0 ≤ x.f2 ∧ x.f2 ≤ 7
      · by_cases c4 : x.f1 = x.f2
        · simp [c1, c3, c4]
        · by_cases c5 : 1 ≤ x.f3 ∧ x.f3 ≤ 1000000
          · simp [c1, c2, c3, c4, c5]
          · have : ¬ (0 ≤ x.f0 ∧ x.f0 ≤ 999 ∧ 1 ≤ x.f3 ∧ x.f3 ≤ 1000000 ∧ 0 ≤ x.f1 ∧ x.f1 ≤ 7 ∧ 0 ≤ x.f2 ∧ x.f2 ≤ 7 ∧ ¬ x.f1 = x.f2) := by omega
            rw [decide_eq_true c1, decide_eq_true c2, decide_eq_true c3, decide_eq_false c5, decide_eq_false this]
            simp [c4]
      · have : ¬ (0 ≤ x.f0 ∧ x.f0 ≤ 999 ∧ 1 ≤ x.f3 ∧ x.f3 ≤ 1000000 ∧ 0 ≤ x.f1 ∧ x.f1 ≤ 7 ∧ 0 ≤ x.f2 ∧ x.f2 ≤ 7 ∧ ¬ x.f1 = x.f2) := by omega
        rw [decide_eq_true c1, decide_eq_true c2, decide_eq_false c3, decide_eq_false this]
        simp
    · have : ¬ (0 ≤ x.f0 ∧ x.f0 ≤ 999 ∧ 1 ≤ x.f3 ∧ x.f3 ≤ 1000000 ∧ 0 ≤ x.f1 ∧ x.f1 ≤ 7 ∧ 0 ≤ x.f2 ∧ x.f2 ≤ 7 ∧ ¬ x.f1 = x.f2) := by omega
      rw [decide_eq_true c1, decide_eq_false c2, decide_eq_false this]
      simp
  · have : ¬ (0 ≤ x.f0 ∧ x.f0 ≤ 999 ∧ 1 ≤ x.f3 ∧ x.f3 ≤ 1000000 ∧ 0 ≤ x.f1 ∧ x.f1 ≤ 7 ∧ 0 ≤ x.f2 ∧ x.f2 ≤ 7 ∧ ¬ x.f1 = x.f2) := by omega
    rw [decide_eq_false c1, decide_eq_false this]
    simp
theorem account_is (a : Int) : impl_validAccount.f a = some (decide (0 ≤ a ∧ a ≤ 7)) := by
  unfold impl_validAccount.f
  by_cases h1 : a ≥ 0
  · by_cases h2 : a < 8
    · rw [if_pos h1, decide_eq_true h2, decide_eq_true (by omega)]
    · rw [if_pos h1, decide_eq_false h2, decide_eq_false (by omega)]
  · rw [if_neg h1, decide_eq_false (by omega)]
theorem implEntry_is (x : S72) {k : Nat} (hk : 1 ≤ k) : impl_validEntry.f k x.f0 x.f1 x.f2 x.f3 = some (okEntry x) := by
  obtain ⟨k, rfl⟩ : ∃ j, k = j + 1 := ⟨k - 1, by omega⟩
  unfold impl_validEntry.f okEntry
  by_cases c1 : x.f0 < 0
  · rw [if_pos c1, decide_eq_false (by omega)]
    simp [impl_validEntry.j0]
  · by_cases c2 : x.f0 > 999
    · rw [if_neg c1, if_pos c2, decide_eq_false (by omega)]
      simp [impl_validEntry.j0]
    · by_cases c3 : x.f3 < 1
      · rw [if_neg c1, if_neg c2, if_pos c3, decide_eq_false (by omega)]
        simp [impl_validEntry.j0]
      · rw [if_neg c1, if_neg c2, if_neg c3]
        by_cases c4 : x.f3 > 1000000
        · rw [decide_eq_true c4]
          simp only [impl_validEntry.j0]
          rw [if_pos trivial, decide_eq_false (by omega)]
        · rw [decide_eq_false c4]
          simp only [impl_validEntry.j0, account_is, Option.bind_some]
          rw [if_neg (by simp)]
          by_cases c5 : 0 ≤ x.f1 ∧ x.f1 ≤ 7
          · by_cases c6 : 0 ≤ x.f2 ∧ x.f2 ≤ 7
            · by_cases c7 : x.f1 = x.f2
              · rw [decide_eq_true c5, decide_eq_true c6, decide_eq_false (fun y => y.2.2.2.2.2.2.2.2 c7)]
                simp [c7]
              · rw [decide_eq_true c5, decide_eq_true c6, decide_eq_true ⟨by omega, by omega, by omega, by omega, c5.1, c5.2, c6.1, c6.2, c7⟩]
                simp [c7]
            · rw [decide_eq_true c5, decide_eq_false c6, decide_eq_false (by omega)]
              simp
          · have : ¬ (0 ≤ x.f0 ∧ x.f0 ≤ 999 ∧ 1 ≤ x.f3 ∧ x.f3 ≤ 1000000 ∧ 0 ≤ x.f1 ∧ x.f1 ≤ 7 ∧ 0 ≤ x.f2 ∧ x.f2 ≤ 7 ∧ ¬ x.f1 = x.f2) := by omega
            rw [decide_eq_false c5, decide_eq_false this]
            simp
def okEntries (l : List S72) : Bool := l.all okEntry && decide (l.length ≤ 40)
theorem rdE {l : List S72} {i : Nat} (h : i < l.length) : l.drop i = rd_T72 l (i : Int) :: l.drop (i + 1) := by
  have e : rd_T72 l (i : Int) = l[i] := by simp [rd_T72, h]
  rw [e]
  exact List.drop_eq_getElem_cons h
theorem specEntries_l0 (l : List S72) (hl : l.length ≤ 1048576) : ∀ (d k i : Nat), l.length - i = d → d < k → i ≤ l.length → spec_validEntries.l0 k l (i : Int) = some ((l.drop i).all okEntry && decide (l.length ≤ 40)) := by
  intro d
  induction d with
  | zero =>
    intro k i hd hk hi
    obtain ⟨k, rfl⟩ : ∃ j, k = j + 1 := ⟨k - 1, by omega⟩
    simp only [spec_validEntries.l0]
    rw [if_neg (by omega), List.drop_of_length_le (by omega)]
    by_cases c : l.length ≤ 40
    · rw [decide_eq_true c, decide_eq_true (by omega)]
      rfl
    · rw [decide_eq_false c, decide_eq_false (by omega)]
      rfl
  | succ d ih =>
    intro k i hd hk hi
    obtain ⟨k, rfl⟩ : ∃ j, k = j + 1 := ⟨k - 1, by omega⟩
    have e : wrap64 ((i : Int) + 1) = ((i + 1 : Nat) : Int) := by rw [w64 (by omega) (by omega)]; simp
    simp only [spec_validEntries.l0]
    rw [e, if_pos (by omega), if_pos (by omega), specEntry_is, rdE (by omega)]
    simp only [Option.bind_some, List.all_cons]
    by_cases c : okEntry (rd_T72 l (i : Int)) = true
    · rw [if_pos c, c, ih k (i + 1) (by omega) (by omega) (by omega)]
      simp
    · rw [if_neg c]
      have c' : okEntry (rd_T72 l (i : Int)) = false := by simpa using c
      rw [c']
      simp
theorem specEntries_is {l : List S72} (hl : l.length ≤ 1048576) {k : Nat} (hk : l.length < k) : spec_validEntries.f k l = some (okEntries l) := by
  unfold spec_validEntries.f okEntries
  have h := specEntries_l0 l hl l.length k 0 (by omega) hk (by omega)
  simpa using h
theorem implEntries_l0 (l : List S72) (hl : l.length ≤ 40) : ∀ (d k i : Nat), l.length - i = d → d + 1 < k → i ≤ l.length → impl_ValidEntries.l0 k l (l.length : Int) (i : Int) = some ((l.drop i).all okEntry) := by
  intro d
  induction d with
  | zero =>
    intro k i hd hk hi
    obtain ⟨k, rfl⟩ : ∃ j, k = j + 1 := ⟨k - 1, by omega⟩
    simp only [impl_ValidEntries.l0]
    rw [if_neg (by omega), List.drop_of_length_le (by omega)]
    rfl
  | succ d ih =>
    intro k i hd hk hi
    obtain ⟨k, rfl⟩ : ∃ j, k = j + 1 := ⟨k - 1, by omega⟩
    have e : wrap64 ((i : Int) + 1) = ((i + 1 : Nat) : Int) := by rw [w64 (by omega) (by omega)]; simp
    simp only [impl_ValidEntries.l0]
    rw [e, if_pos (by omega), if_pos (by omega), if_pos (by omega), implEntry_is _ (by omega), rdE (by omega)]
    simp only [Option.bind_some, List.all_cons]
    by_cases c : okEntry (rd_T72 l (i : Int)) = true
    · rw [if_pos c, c, ih k (i + 1) (by omega) (by omega) (by omega)]
      simp
    · rw [if_neg c]
      have c' : okEntry (rd_T72 l (i : Int)) = false := by simpa using c
      rw [c']
      simp
theorem implEntries_is (l : List S72) {k : Nat} (hk : 50 ≤ k) : impl_ValidEntries.f k l = some (okEntries l) := by
  unfold impl_ValidEntries.f okEntries
  by_cases c : (l.length : Int) > 40
  · rw [if_pos c, decide_eq_false (by omega)]
    simp
  · rw [if_neg c, decide_eq_true (by omega)]
    have h := implEntries_l0 l (by omega) l.length k 0 (by omega) (by omega) (by omega)
    simpa using h
theorem okEntries_mem {l : List S72} (h : okEntries l = true) : l.length ≤ 40 ∧ ∀ x ∈ l, 1 ≤ x.f3 ∧ x.f3 ≤ 1000000 := by
  unfold okEntries at h
  simp only [Bool.and_eq_true, decide_eq_true_eq, List.all_eq_true] at h
  refine ⟨h.2, fun x hx => ?_⟩
  have := h.1 x hx
  unfold okEntry at this
  simp only [decide_eq_true_eq] at this
  exact ⟨this.2.2.1, this.2.2.2.1⟩

theorem some_l0 {b : List Int} (hb : RB b) : ∀ (m k : Nat) (x : List S72) (p : Int), m + 2 ≤ k → x.length + 2 * m ≤ 40 → 0 ≤ p → p + 8 * (m : Int) ≤ 900 →
    ∃ l q, spec_someEntries.l0 k x (m : Int) b p = some (l, q) ∧ l.length ≤ x.length + 2 * m ∧ 0 ≤ q ∧ q ≤ p + 8 * (m : Int) := by
  intro m
  induction m with
  | zero =>
    intro k x p hk hx h0 h1
    obtain ⟨k, rfl⟩ : ∃ j, k = j + 1 := ⟨k - 1, by omega⟩
    refine ⟨x, p, ?_, by omega, by omega, by omega⟩
    simp only [spec_someEntries.l0]
    rw [if_neg (by simp)]
  | succ m ih =>
    intro k x p hk hx h0 h1
    obtain ⟨k, rfl⟩ : ∃ j, k = j + 1 := ⟨k - 1, by omega⟩
    obtain ⟨a1, g1, _, _⟩ := pick_is hb 5 (p := p) (by omega) (by omega) (k := k) (by omega)
    obtain ⟨a2, g2, _, _⟩ := pick_is hb 6 (p := p + 1) (by omega) (by omega) (k := k) (by omega)
    obtain ⟨a3, g3, _, _⟩ := pick_is hb 4 (p := p + 1 + 1) (by omega) (by omega) (k := k) (by omega)
    obtain ⟨a4, g4, _, _⟩ := pick_is hb 250 (p := p + 1 + 1 + 1) (by omega) (by omega) (k := k) (by omega)
    obtain ⟨a5, g5, _, _⟩ := pick_is hb 100 (p := p + 1 + 1 + 1 + 1) (by omega) (by omega) (k := k) (by omega)
    obtain ⟨a6, g6, _⟩ := one_is hb [1200, wrap64 (1 + a4), 1234, 50, 90, wrap64 (100 * (wrap64 (1 + a5)))] (by simp) (p := p + 1 + 1 + 1 + 1 + 1) (by omega) (by omega) (k := k) (by omega)
    obtain ⟨a7, g7, _, _⟩ := pick_is hb 6 (p := p + 1 + 1 + 1 + 1 + 1 + 1) (by omega) (by omega) (k := k) (by omega)
    have e : wrap64 (((m + 1 : Nat) : Int) - 1) = (m : Int) := (w64 (x := ((m + 1 : Nat) : Int) - 1) (by omega) (by omega)).trans (by omega)
    simp only [spec_someEntries.l0]
    rw [if_pos (by omega), e, g1]
    simp only [Option.bind_some]
    rw [g2]
    simp only [Option.bind_some]
    rw [g3]
    simp only [Option.bind_some]
    rw [g4]
    simp only [Option.bind_some]
    rw [g5]
    simp only [Option.bind_some]
    rw [g6]
    simp only [Option.bind_some]
    rw [if_pos (by omega)]
    rw [g7]
    simp only [Option.bind_some]
    generalize hy : x ++ [(⟨a2, a1, Int.tmod (wrap64 ((wrap64 (a1 + 1)) + a3)) 5, a6⟩ : S72)] = y
    have ly : y.length = x.length + 1 := by rw [← hy]; simp
    by_cases c : a7 = 0
    · obtain ⟨a8, g8, b0, b1⟩ := pick_is hb (y.length : Int) (p := p + 1 + 1 + 1 + 1 + 1 + 1 + 1) (by omega) (by omega) (k := k) (by omega)
      have b2 := b1 (by omega)
      obtain ⟨l, q, hl, hlen, q0, q1⟩ := ih k (y ++ [(⟨(rd_T72 y a8).f0, (rd_T72 y a8).f1, (rd_T72 y a8).f2, (rd_T72 y a8).f3⟩ : S72)]) (p + 1 + 1 + 1 + 1 + 1 + 1 + 1 + 1) (by omega) (by simp; omega) (by omega) (by push_cast at h1; omega)
      refine ⟨l, q, ?_, by simp at hlen; omega, q0, by push_cast; omega⟩
      rw [if_pos c, g8]
      simp only [Option.bind_some]
      rw [if_pos b0, if_pos b2, if_pos (by omega), hl]
    · obtain ⟨l, q, hl, hlen, q0, q1⟩ := ih k y (p + 1 + 1 + 1 + 1 + 1 + 1 + 1) (by omega) (by omega) (by omega) (by push_cast at h1; omega)
      refine ⟨l, q, ?_, by omega, q0, by push_cast; omega⟩
      rw [if_neg c, hl]
theorem draw_is {l : List Int} (hl : ∀ x ∈ l, (Lit.int .u8 x).wf = true) {k : Nat} (hk : 60 ≤ k) : ∃ r, spec_DrawValidEntries.f k l = some r ∧ r.length ≤ 40 := by
  obtain ⟨b, hb, hr⟩ := newReader_is l hl
  obtain ⟨m, hm, mm⟩ := one_is hb [4, 5, 3, 7, 1, 0, 10] (by simp) (p := 0) (by omega) (by omega) (k := k) (by omega)
  simp only [List.mem_cons, List.not_mem_nil, or_false] at mm
  obtain ⟨x, q, hx, hlen, q0, q1⟩ := some_l0 hb m.toNat k [] (0 + 1) (by omega) (by simp; omega) (by omega) (by omega)
  have e : ((m.toNat : Nat) : Int) = m := by omega
  rw [e] at hx
  have hx2 : x.length ≤ 20 := by simp at hlen; omega
  have hsome : spec_someEntries.f k b 0 = some (x, q) := by
    unfold spec_someEntries.f
    rw [hm]
    simp only [Option.bind_some]
    exact hx
  unfold spec_DrawValidEntries.f spec_anyEntries.f
  rw [hr]
  simp only [Option.bind_some]
  rw [hsome]
  simp only [Option.bind_some]
  by_cases c : (x.length : Int) > 0
  · obtain ⟨i, gi, i0, i1⟩ := pick_is hb (x.length : Int) (p := q) (by omega) (by omega) (k := k) (by omega)
    have i2 := i1 (by omega)
    obtain ⟨j, gj, _, _⟩ := pick_is hb 20 (p := q + 1) (by omega) (by omega) (k := k) (by omega)
    rw [if_pos c, gi]
    simp only [Option.bind_some]
    rw [gj]
    simp only [Option.bind_some]
    by_cases c0 : j = 0
    · obtain ⟨v, gv, _⟩ := one_is hb [0, 1000001, 1000000] (by simp) (p := q + 1 + 1) (by omega) (by omega) (k := k) (by omega)
      rw [if_pos c0, gv]
      simp only [Option.bind_some]
      rw [if_pos i0, if_pos i2]
      exact ⟨_, rfl, by simp; omega⟩
    · rw [if_neg c0]
      by_cases c1 : j = 1
      · obtain ⟨v, gv, _⟩ := one_is hb [(rd_T72 x i).f1, 8, (-1)] (by simp) (p := q + 1 + 1) (by omega) (by omega) (k := k) (by omega)
        rw [if_pos c1, if_pos i0, if_pos i2, gv]
        exact ⟨_, rfl, by simp; omega⟩
      · rw [if_neg c1]
        by_cases c2 : j = 2
        · obtain ⟨v, gv, _⟩ := one_is hb [(-1), 1000] (by simp) (p := q + 1 + 1) (by omega) (by omega) (k := k) (by omega)
          rw [if_pos c2, gv]
          simp only [Option.bind_some]
          rw [if_pos i0, if_pos i2]
          exact ⟨_, rfl, by simp; omega⟩
        · rw [if_neg c2]
          exact ⟨x, rfl, by omega⟩
  · rw [if_neg c]
    exact ⟨x, rfl, by omega⟩
theorem without {l : List S72} (h : okEntries l = true) (i : Nat) : okEntries (l.take i ++ l.drop (i + 1)) = true := by
  unfold okEntries at h ⊢
  simp only [Bool.and_eq_true, decide_eq_true_eq, List.all_eq_true] at h ⊢
  refine ⟨fun x hx => ?_, ?_⟩
  · rcases List.mem_append.mp hx with hx | hx
    · exact h.1 x (List.mem_of_mem_take hx)
    · exact h.1 x (List.mem_of_mem_drop hx)
  · rw [List.length_append, List.length_take, List.length_drop]
    omega
theorem drop_is {l : List S72} (hl : l.length ≤ 40) {i : Nat} (hi : i < l.length) : laws_dropEntry.f l (i : Int) = some (l.take i ++ l.drop (i + 1)) := by
  have a1 : (0 : Int) ≤ (i : Int) := by omega
  have a2 : (i : Int) ≤ (l.length : Int) := by omega
  have a3 : (0 : Int) ≤ ((i + 1 : Nat) : Int) := by omega
  have a4 : ((i + 1 : Nat) : Int) ≤ (l.length : Int) := by omega
  have s1 : ∀ x : Nat, x ≤ 40 → 0 + x < 4398046511104 := by omega
  have s2 : ∀ x y : Nat, x ≤ 40 → y ≤ 40 → x + y < 4398046511104 := by omega
  have l1 : (l.take i).length ≤ 40 := Nat.le_trans (List.length_take_le' i l) hl
  have l2 : (l.drop (i + 1)).length ≤ 40 := by rw [List.length_drop]; exact Nat.le_trans (Nat.sub_le _ _) hl
  have e : wrap64 ((i : Int) + 1) = ((i + 1 : Nat) : Int) := (wsucc i (by omega)).trans (by omega)
  unfold laws_dropEntry.f
  simp -implicitDefEqProofs only [Option.bind_some, List.nil_append]
  rw [e]
  simp -implicitDefEqProofs only [Int.toNat_natCast, List.length_nil]
  rw [if_pos a1, if_pos a2, if_pos (s1 _ l1), if_pos a3, if_pos a4, if_pos (s2 _ _ l1 l2)]
theorem loop {l : List S72} (h : okEntries l = true) (hl : l.length ≤ 40) : ∀ (d k i : Nat), l.length - i = d → d + 60 ≤ k → i ≤ l.length → laws_FnValidEntries.l0 k l (i : Int) = some true := by
  intro d
  induction d with
  | zero =>
    intro k i hd hk hi
    obtain ⟨k, rfl⟩ : ∃ j, k = j + 1 := ⟨k - 1, by omega⟩
    simp only [laws_FnValidEntries.l0]
    rw [if_neg (by omega)]
  | succ d ih =>
    intro k i hd hk hi
    obtain ⟨k, rfl⟩ : ∃ j, k = j + 1 := ⟨k - 1, by omega⟩
    have hstep := ih k (i + 1) (by omega) (by omega) (by omega)
    have hw := without h i
    simp only [laws_FnValidEntries.l0]
    rw [wsucc i (by omega), if_pos (by omega), drop_is hl (by omega)]
    simp only [Option.bind_some]
    rw [implEntries_is _ (by omega), hw]
    simp only [Option.bind_some, if_true]
    exact hstep
theorem spec_is {l : List S72} (hl : l.length ≤ 1048576) {k : Nat} (hk : l.length < k) : spec_ValidEntries.f k l = some (okEntries l) := by
  unfold spec_ValidEntries.f
  rw [specEntries_is hl hk]
  rfl

theorem FnValidEntries : laws_FnValidEntries.Pure := by
  intro l _ _ hl
  refine ⟨130, ?_⟩
  unfold laws_FnValidEntries.f
  by_cases c : (l.length : Int) > 1048576
  · rw [if_pos c]
  · rw [if_neg c]
    obtain ⟨r, hd, hlen⟩ := draw_is hl (k := 130) (by omega)
    rw [hd]
    simp only [Option.bind_some]
    rw [implEntries_is r (by omega), spec_is (by omega) (by omega)]
    simp only [Option.bind_some]
    by_cases h : okEntries r = true
    · rw [h]
      have hlo := loop h hlen r.length 129 0 (by omega) (by omega) (by omega)
      simp only [laws_FnValidEntries.j0, bne_self_eq_false, Bool.not_true]
      rw [if_neg (by simp), if_neg (by simp)]
      exact hlo
    · have h' : okEntries r = false := by simpa using h
      have hs := spec_is (l := r) (by omega) (k := 129) (by omega)
      rw [h'] at hs ⊢
      simp only [laws_FnValidEntries.j0, bne_self_eq_false, Bool.not_false]
      rw [if_neg (by simp), if_pos trivial, hs]
      rfl

end Go.Proofs.Ytgdnhidnojjpiac.Pure
