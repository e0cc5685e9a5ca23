/- The law FnValidClaims, as a statement on plain values, holds: ValidClaims is the reference's, and valid claims are valid without any one of them. For every code of at most 2^47 - 4096 bytes. -/
import Derived.Test.YtgdnhidnojjpiaaKit
import Derived.Test.YtgdnhidnojjpiaaPFnValidClaimsx3
namespace Go.Proofs.Ytgdnhidnojjpiaa.Pure
open Go.RowKit Go.Proofs.Ytgdnhidnojjpiaa.PFnValidClaims Go.Proofs.Ytgdnhidnojjpiaa.Kit Go.Proofs.YtgdnhidnojjpiaaW.PrintWords

theorem newReader_is (l : List Int) (h : ∀ x ∈ l, (Lit.int .u8 x).wf = true) : ∃ b, RB b ∧ spec_newReader.f l = some (b, 0) := by
  have hb := bytes_bd h
  unfold spec_newReader.f
  by_cases c : (l.length : Int) > 2000
  · rw [if_pos c, if_pos (by omega)]
    exact ⟨l.take 2000, ⟨by rw [List.length_take]; omega, fun x hx => hb x (List.mem_of_mem_take hx)⟩, rfl⟩
  · rw [if_neg c]
    exact ⟨l, ⟨by omega, hb⟩, rfl⟩
theorem pick_is {b : List Int} (hb : RB b) {p : Int} (n : Int) (h0 : 0 ≤ p) (h1 : p ≤ 1000000) {k : Nat} (hk : 1 ≤ k) :
    ∃ r, spec_reader_pick.f k b p n = some (r, p + 1) ∧ 0 ≤ r ∧ (1 ≤ n → r < n) := by
  obtain ⟨k, rfl⟩ : ∃ j, k = j + 1 := ⟨k - 1, by omega⟩
  have e0 : wrap64 (p + 1) = p + 1 := w64 (by omega) (by omega)
  have e1 : wrap64 (p + 1 - 1) = p := by rw [w64 (by omega) (by omega)]; omega
  unfold spec_reader_pick.f
  rw [e0]
  by_cases hn : n < 1
  · rw [if_pos hn]
    exact ⟨0, by simp [spec_reader_pick.j0], by omega, by omega⟩
  · rw [if_neg hn]
    by_cases hz : b.length = 0
    · exact ⟨0, by simp [spec_reader_pick.j0, hz], by omega, by omega⟩
    · have hz' : ((b.length : Int) == 0) = false := by
        rw [beq_eq_false_iff_ne]; omega
      rw [hz']
      simp only [spec_reader_pick.j0, e1]
      rw [if_neg (by decide)]
      have hn0 : ¬ n = 0 := by omega
      by_cases hp : p < (b.length : Int)
      · have hr := rd_byte hb p
        rw [if_pos hp, if_pos h0, if_neg hn0, w64 (by omega) (by omega)]
        have ht := tmod_in hr.1 (n := n) (by omega)
        exact ⟨_, rfl, ht.1, fun _ => ht.2⟩
      · have hl : (1 : Int) ≤ (b.length : Int) := by omega
        have hl2 : (b.length : Int) ≤ 2000 := by have := hb.1; omega
        have q1 := tmod_in h0 hl
        have d1 := tdiv_in h0 hl
        have e2 : wrap64 (wrap64 (p * 7) + 3) = p * 7 + 3 := by simp (disch := omega) only [w64]
        have q2 := tmod_in (x := p * 7 + 3) (by omega) hl
        rw [if_neg hp, if_neg (by omega), if_pos q1.1, if_pos q1.2, e2, if_pos q2.1, if_pos q2.2, if_neg hn0]
        have r1 := rd_byte hb (Int.tmod p (b.length : Int))
        have r2 := rd_byte hb (Int.tmod (p * 7 + 3) (b.length : Int))
        generalize rd b (Int.tmod p (b.length : Int)) = x1 at r1 ⊢
        generalize rd b (Int.tmod (p * 7 + 3) (b.length : Int)) = x2 at r2 ⊢
        generalize Int.tdiv p (b.length : Int) = x3 at d1 ⊢
        have e3 : wrap64 (wrap64 (wrap64 (wrap64 (wrap64 x1 * 131) + wrap64 (wrap64 x2 * 1117)) + wrap64 (p * 29)) + wrap64 (wrap64 x3 * 53)) = x1 * 131 + x2 * 1117 + p * 29 + x3 * 53 := by
          simp (disch := omega) only [w64]
        rw [e3]
        have e4 : wrap64 (Int.tdiv (x1 * 131 + x2 * 1117 + p * 29 + x3 * 53) 64) = (x1 * 131 + x2 * 1117 + p * 29 + x3 * 53) / 64 := by
          rw [tdiv_nn _ (by omega), w64 (by omega) (by omega)]
        rw [e4]
        have hx := xor_nn (a := x1 * 131 + x2 * 1117 + p * 29 + x3 * 53) (b := (x1 * 131 + x2 * 1117 + p * 29 + x3 * 53) / 64) (by omega) (by omega) (by omega) (by omega)
        have ht := tmod_in hx (n := n) (by omega)
        exact ⟨_, rfl, ht.1, fun _ => ht.2⟩
theorem one_is {b : List Int} (hb : RB b) {p : Int} (L : List Int) (hL : 1 ≤ L.length) (h0 : 0 ≤ p) (h1 : p ≤ 1000000) {k : Nat} (hk : 1 ≤ k) :
    ∃ v, spec_reader_one.f k b p L = some (v, p + 1) ∧ v ∈ L := by
  obtain ⟨r, hr, hr0, hr1⟩ := pick_is hb (L.length : Int) h0 h1 hk
  have hlt := hr1 (by omega)
  unfold spec_reader_one.f
  rw [hr]
  simp only [Option.bind_some]
  rw [if_pos hr0, if_pos hlt]
  have e : r = ((r.toNat : Nat) : Int) := by omega
  refine ⟨_, rfl, ?_⟩
  rw [e]
  exact rd_mem (by omega)
def okClaim (x : S61) : Bool := decide (0 ≤ x.f0 ∧ x.f0 ≤ 4 ∧ 0 ≤ x.f1 ∧ x.f1 ≤ 100000)
theorem range_is (a lo hi : Int) : spec_inRange.f a lo hi = some (decide (lo ≤ a ∧ a ≤ hi)) := by
  unfold spec_inRange.f
  by_cases h1 : lo ≤ a <;> simp [h1]
def okClaims (l : List S61) : Bool := l.all okClaim && decide (l.length ≤ 20)
theorem rdE {l : List S61} {i : Nat} (h : i < l.length) : l.drop i = rd_T61 l (i : Int) :: l.drop (i + 1) := by
  have e : rd_T61 l (i : Int) = l[i] := by simp [rd_T61, h]
  rw [e]
  exact List.drop_eq_getElem_cons h
theorem specClaims_l0 (l : List S61) (hl : l.length ≤ 1048576) : ∀ (d k i : Nat), l.length - i = d → d < k → i ≤ l.length → spec_validClaims.l0 k l (i : Int) = some ((l.drop i).all okClaim && decide (l.length ≤ 20)) := by
  intro d
  induction d with
  | zero =>
    intro k i hd hk hi
    obtain ⟨k, rfl⟩ : ∃ j, k = j + 1 := ⟨k - 1, by omega⟩
    simp only [spec_validClaims.l0]
    rw [if_neg (by omega), List.drop_of_length_le (by omega)]
    by_cases c : l.length ≤ 20
    · rw [decide_eq_true c, decide_eq_true (by omega)]
      rfl
    · rw [decide_eq_false c, decide_eq_false (by omega)]
      rfl
  | succ d ih =>
    intro k i hd hk hi
    obtain ⟨k, rfl⟩ : ∃ j, k = j + 1 := ⟨k - 1, by omega⟩
    have e : wrap64 ((i : Int) + 1) = ((i + 1 : Nat) : Int) := by rw [w64 (by omega) (by omega)]; simp
    have hstep := ih k (i + 1) (by omega) (by omega) (by omega)
    simp only [spec_validClaims.l0]
    rw [e, if_pos (by omega), if_pos (by omega), rdE (by omega), range_is, range_is, hstep]
    simp only [Option.bind_some, List.all_cons]
    unfold okClaim
    generalize rd_T61 l (i : Int) = x
    by_cases c1 : 0 ≤ x.f0 ∧ x.f0 ≤ 4
    · by_cases c2 : 0 ≤ x.f1 ∧ x.f1 ≤ 100000
      · have c3 : 0 ≤ x.f0 ∧ x.f0 ≤ 4 ∧ 0 ≤ x.f1 ∧ x.f1 ≤ 100000 := by omega
        rw [decide_eq_true c1, decide_eq_true c2, decide_eq_true c3]
        simp
      · have c3 : ¬ (0 ≤ x.f0 ∧ x.f0 ≤ 4 ∧ 0 ≤ x.f1 ∧ x.f1 ≤ 100000) := by omega
        rw [decide_eq_true c1, decide_eq_false c2, decide_eq_false c3]
        simp
    · have c3 : ¬ (0 ≤ x.f0 ∧ x.f0 ≤ 4 ∧ 0 ≤ x.f1 ∧ x.f1 ≤ 100000) := by omega
      rw [decide_eq_false c1, decide_eq_false c3]
      simp
theorem specClaims_is {l : List S61} (hl : l.length ≤ 1048576) {k : Nat} (hk : l.length < k) : spec_ValidClaims.f k l = some (okClaims l) := by
  unfold spec_ValidClaims.f spec_validClaims.f okClaims
  have h := specClaims_l0 l hl l.length k 0 (by omega) hk (by omega)
  simp only [Int.natCast_zero, List.drop_zero] at h
  rw [h]
  rfl
theorem implClaims_l0 (l : List S61) (hl : l.length ≤ 20) : ∀ (d k i : Nat), l.length - i = d → d < k → i ≤ l.length → impl_ValidClaims.l0 k l (l.length : Int) (i : Int) = some ((l.drop i).all okClaim) := by
  intro d
  induction d with
  | zero =>
    intro k i hd hk hi
    obtain ⟨k, rfl⟩ : ∃ j, k = j + 1 := ⟨k - 1, by omega⟩
    simp only [impl_ValidClaims.l0]
    rw [if_neg (by omega), List.drop_of_length_le (by omega)]
    rfl
  | succ d ih =>
    intro k i hd hk hi
    obtain ⟨k, rfl⟩ : ∃ j, k = j + 1 := ⟨k - 1, by omega⟩
    have e : wrap64 ((i : Int) + 1) = ((i + 1 : Nat) : Int) := by rw [w64 (by omega) (by omega)]; simp
    have hstep := ih k (i + 1) (by omega) (by omega) (by omega)
    simp only [impl_ValidClaims.l0]
    rw [e, if_pos (by omega), if_pos (by omega), if_pos (by omega), rdE (by omega), hstep]
    simp only [List.all_cons]
    unfold okClaim
    generalize rd_T61 l (i : Int) = x
    by_cases c1 : x.f0 < 0
    · have c3 : ¬ (0 ≤ x.f0 ∧ x.f0 ≤ 4 ∧ 0 ≤ x.f1 ∧ x.f1 ≤ 100000) := by omega
      rw [if_pos c1, decide_eq_false c3]
      simp
    · by_cases c2 : x.f0 > 4
      · have c3 : ¬ (0 ≤ x.f0 ∧ x.f0 ≤ 4 ∧ 0 ≤ x.f1 ∧ x.f1 ≤ 100000) := by omega
        rw [if_neg c1, if_pos c2, decide_eq_false c3]
        simp
      · by_cases c4 : x.f1 < 0
        · have c3 : ¬ (0 ≤ x.f0 ∧ x.f0 ≤ 4 ∧ 0 ≤ x.f1 ∧ x.f1 ≤ 100000) := by omega
          rw [if_neg c1, if_neg c2, if_pos c4, decide_eq_false c3]
          simp
        · by_cases c5 : x.f1 > 100000
          · have c3 : ¬ (0 ≤ x.f0 ∧ x.f0 ≤ 4 ∧ 0 ≤ x.f1 ∧ x.f1 ≤ 100000) := by omega
            rw [if_neg c1, if_neg c2, if_neg c4, if_pos c5, decide_eq_false c3]
            simp
          · have c3 : 0 ≤ x.f0 ∧ x.f0 ≤ 4 ∧ 0 ≤ x.f1 ∧ x.f1 ≤ 100000 := by omega
            rw [if_neg c1, if_neg c2, if_neg c4, if_neg c5, decide_eq_true c3]
            simp
theorem implClaims_is (l : List S61) {k : Nat} (hk : 50 ≤ k) : impl_ValidClaims.f k l = some (okClaims l) := by
  unfold impl_ValidClaims.f okClaims
  by_cases c : (l.length : Int) > 20
  · rw [if_pos c, decide_eq_false (by omega)]
    simp
  · rw [if_neg c, decide_eq_true (by omega)]
    have h := implClaims_l0 l (by omega) l.length k 0 (by omega) (by omega) (by omega)
    simpa using h

theorem draw_l0 {b : List Int} (hb : RB b) : ∀ (m k : Nat) (x : List S61) (p : Int), m + 2 ≤ k → x.length + m ≤ 100 → 0 ≤ p → p + 3 * (m : Int) ≤ 900 →
    ∃ l q, spec_someClaims.l0 k x (m : Int) b p = some (l, q) ∧ l.length ≤ x.length + m := by
  intro m
  induction m with
  | zero =>
    intro k x p hk hx h0 h1
    obtain ⟨k, rfl⟩ : ∃ j, k = j + 1 := ⟨k - 1, by omega⟩
    simp only [spec_someClaims.l0]
    rw [if_neg (by simp)]
    by_cases c : (x.length : Int) > 0
    · obtain ⟨r, hr, _, _⟩ := pick_is hb 16 (p := p) (by omega) (by omega) (k := k) (by omega)
      rw [if_pos c, hr]
      simp only [Option.bind_some]
      by_cases c2 : r = 0
      · obtain ⟨v, hv, _⟩ := one_is hb [(-1), 5, 4] (by simp) (p := p + 1) (by omega) (by omega) (k := k) (by omega)
        rw [if_pos c2, hv]
        simp only [Option.bind_some]
        rw [if_pos (by omega)]
        exact ⟨_, _, rfl, by simp⟩
      · rw [if_neg c2]
        exact ⟨_, _, rfl, by simp⟩
    · rw [if_neg c]
      exact ⟨_, _, rfl, by simp⟩
  | succ m ih =>
    intro k x p hk hx h0 h1
    obtain ⟨k, rfl⟩ : ∃ j, k = j + 1 := ⟨k - 1, by omega⟩
    have e : wrap64 (((m + 1 : Nat) : Int) - 1) = (m : Int) := by rw [w64 (by omega) (by omega)]; omega
    obtain ⟨r, hr, _, _⟩ := pick_is hb 3 (p := p) (by omega) (by omega) (k := k) (by omega)
    obtain ⟨s, hs, _, _⟩ := pick_is hb 100 (p := p + 1) (by omega) (by omega) (k := k) (by omega)
    obtain ⟨v, hv, _⟩ := one_is hb [10, 7, s, 0, 33] (by simp) (p := p + 1 + 1) (by omega) (by omega) (k := k) (by omega)
    obtain ⟨l, q, hl, hlen⟩ := ih k (x ++ [⟨r, v⟩]) (p + 1 + 1 + 1) (by omega) (by simp; omega) (by omega) (by push_cast at h1; omega)
    refine ⟨l, q, ?_, by simp at hlen; omega⟩
    simp only [spec_someClaims.l0]
    rw [if_pos (by omega), e, hr]
    simp only [Option.bind_some]
    rw [hs]
    simp only [Option.bind_some]
    rw [hv]
    simp only [Option.bind_some]
    rw [if_pos (by omega), hl]
theorem draw_is {l : List Int} (hl : ∀ x ∈ l, (Lit.int .u8 x).wf = true) {k : Nat} (hk : 20 ≤ k) : ∃ r, spec_DrawValidClaims.f k l = some r ∧ r.length ≤ 7 := by
  obtain ⟨b, hb, hr⟩ := newReader_is l hl
  obtain ⟨n, hn, nm⟩ := one_is hb [4, 5, 3, 7, 1, 0] (by simp) (p := 0) (by omega) (by omega) (k := k) (by omega)
  simp only [List.mem_cons, List.not_mem_nil, or_false] at nm
  obtain ⟨r, q, hq, hlen⟩ := draw_l0 hb n.toNat k [] (0 + 1) (by omega) (by simp; omega) (by omega) (by omega)
  have e : ((n.toNat : Nat) : Int) = n := by omega
  rw [e] at hq
  refine ⟨r, ?_, by simp at hlen; omega⟩
  unfold spec_DrawValidClaims.f spec_someClaims.f
  rw [hr]
  simp only [Option.bind_some]
  rw [hn]
  simp only [Option.bind_some]
  rw [hq]
  rfl
theorem without {l : List S61} (h : okClaims l = true) (i : Nat) : okClaims (l.take i ++ l.drop (i + 1)) = true := by
  unfold okClaims at h ⊢
  simp only [Bool.and_eq_true, decide_eq_true_eq, List.all_eq_true] at h ⊢
  refine ⟨fun x hx => ?_, ?_⟩
  · rcases List.mem_append.mp hx with hx | hx
    · exact h.1 x (List.mem_of_mem_take hx)
    · exact h.1 x (List.mem_of_mem_drop hx)
  · rw [List.length_append, List.length_take, List.length_drop]
    omega
theorem loop {l : List S61} (h : okClaims l = true) (hl : l.length ≤ 7) : ∀ (d k i : Nat), l.length - i = d → d + 60 ≤ k → i ≤ l.length → laws_FnValidClaims.l0 k l (i : Int) = some true := by
  intro d
  induction d with
  | zero =>
    intro k i hd hk hi
    obtain ⟨k, rfl⟩ : ∃ j, k = j + 1 := ⟨k - 1, by omega⟩
    simp only [laws_FnValidClaims.l0]
    rw [if_neg (by omega)]
  | succ d ih =>
    intro k i hd hk hi
    obtain ⟨k, rfl⟩ : ∃ j, k = j + 1 := ⟨k - 1, by omega⟩
    have e : wrap64 ((i : Int) + 1) = ((i + 1 : Nat) : Int) := by rw [w64 (by omega) (by omega)]; simp
    have hstep := ih k (i + 1) (by omega) (by omega) (by omega)
    have hw := without h i
    simp only [laws_FnValidClaims.l0]
    rw [e, if_pos (by omega)]
    simp only [Option.bind_some, List.nil_append, Int.toNat_natCast]
    have l1 : (l.take i).length < 8796093022208 := by rw [List.length_take]; omega
    have l2 : (l.take i).length + (l.drop (i + 1)).length < 8796093022208 := by rw [List.length_take, List.length_drop]; omega
    rw [if_pos (by omega), if_pos (by omega), if_pos (by simpa using l1), if_pos (by omega), if_pos (by omega), if_pos l2, implClaims_is _ (by omega), hw]
    simp only [Option.bind_some, if_true]
    exact hstep

theorem FnValidClaims : laws_FnValidClaims.Pure := by
  intro l _ _ hl
  refine ⟨100, ?_⟩
  unfold laws_FnValidClaims.f
  by_cases c : (l.length : Int) > 1048576
  · rw [if_pos c]
  · rw [if_neg c]
    obtain ⟨r, hd, hlen⟩ := draw_is hl (k := 100) (by omega)
    rw [hd]
    simp only [Option.bind_some]
    rw [implClaims_is r (by omega), specClaims_is (by omega) (by omega)]
    simp only [Option.bind_some]
    by_cases h : okClaims r = true
    · rw [h]
      have hlo := loop h hlen r.length 99 0 (by omega) (by omega) (by omega)
      simp only [laws_FnValidClaims.j0, bne_self_eq_false, Bool.not_true]
      simpa using hlo
    · have h' : okClaims r = false := by simpa using h
      rw [h']
      have hs := specClaims_is (l := r) (by omega) (k := 99) (by omega)
      rw [h'] at hs
      simp [laws_FnValidClaims.j0, hs]

end Go.Proofs.Ytgdnhidnojjpiaa.Pure
