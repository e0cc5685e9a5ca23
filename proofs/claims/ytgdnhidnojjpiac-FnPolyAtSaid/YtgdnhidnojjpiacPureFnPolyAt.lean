/- The law FnPolyAt, as a statement on plain values, holds: PolyAt is the reference's; at 0 it is the first coefficient; and it is the first one and x times the value of the others, by 251. For every code of at most 2^47 - 4096 bytes. -/
import Derived.Test.YtgdnhidnojjpiacKit
import Derived.Test.YtgdnhidnojjpiacQFnPolyAtx3
namespace Go.Proofs.Ytgdnhidnojjpiac.Pure
open Go.RowKit Go.Proofs.Ytgdnhidnojjpiac.PFnPolyAt Go.Proofs.Ytgdnhidnojjpiac.Kit Go.Proofs.YtgdnhidnojjpiacW.PrintWords

theorem newReader_is (l : List Int) (h : ∀ x ∈ l, (Lit.int .u8 x).wf = true) : ∃ b, RB b ∧ spec_newReader.f l = some (b, 0) := by
  have hb := bytes_bd h
  unfold spec_newReader.f
  by_cases c : (l.length : Int) > 2000
  · rw [if_pos c, if_pos (by omega)]
    exact ⟨l.take 2000, ⟨by rw [List.length_take]; omega, fun x hx => hb x (List.mem_of_mem_take hx)⟩, rfl⟩
  · rw [if_neg c]
    exact ⟨l, ⟨by omega, hb⟩, rfl⟩
theorem pick_is {b : List Int} (hb : RB b) {p : Int} (n : Int) (h0 : 0 ≤ p) (h1 : p ≤ 1000000) {k : Nat} (hk : 1 ≤ k) :
    ∃ r, spec_reader_pick.f k b p n = some (r, p + 1) ∧ 0 ≤ r ∧ (1 ≤ n → r < n) := by
  obtain ⟨k, rfl⟩ : ∃ j, k = j + 1 := ⟨k - 1, by omega⟩
  have e0 : wrap64 (p + 1) = p + 1 := w64 (by omega) (by omega)
  have e1 : wrap64 (p + 1 - 1) = p := by rw [w64 (by omega) (by omega)]; omega
  unfold spec_reader_pick.f
  rw [e0]
  by_cases hn : n < 1
  · rw [if_pos hn]
    exact ⟨0, by simp [spec_reader_pick.j0], by omega, by omega⟩
  · rw [if_neg hn]
    by_cases hz : b.length = 0
    · exact ⟨0, by simp [spec_reader_pick.j0, hz], by omega, by omega⟩
    · have hz' : ((b.length : Int) == 0) = false := by
        rw [beq_eq_false_iff_ne]; omega
      rw [hz']
      simp only [spec_reader_pick.j0, e1]
      rw [if_neg (by decide)]
      have hn0 : ¬ n = 0 := by omega
      by_cases hp : p < (b.length : Int)
      · have hr := rd_byte hb p
        rw [if_pos hp, if_pos h0, if_neg hn0, w64 (by omega) (by omega)]
        have ht := tmod_in hr.1 (n := n) (by omega)
        exact ⟨_, rfl, ht.1, fun _ => ht.2⟩
      · have hl : (1 : Int) ≤ (b.length : Int) := by omega
        have hl2 : (b.length : Int) ≤ 2000 := by have := hb.1; omega
        have q1 := tmod_in h0 hl
        have d1 := tdiv_in h0 hl
        have e2 : wrap64 (wrap64 (p * 7) + 3) = p * 7 + 3 := by simp (disch := omega) only [w64]
        have q2 := tmod_in (x := p * 7 + 3) (by omega) hl
        rw [if_neg hp, if_neg (by omega), if_pos q1.1, if_pos q1.2, e2, if_pos q2.1, if_pos q2.2, if_neg hn0]
        have r1 := rd_byte hb (Int.tmod p (b.length : Int))
        have r2 := rd_byte hb (Int.tmod (p * 7 + 3) (b.length : Int))
        generalize rd b (Int.tmod p (b.length : Int)) = x1 at r1 ⊢
        generalize rd b (Int.tmod (p * 7 + 3) (b.length : Int)) = x2 at r2 ⊢
        generalize Int.tdiv p (b.length : Int) = x3 at d1 ⊢
        have e3 : wrap64 (wrap64 (wrap64 (wrap64 (wrap64 x1 * 131) + wrap64 (wrap64 x2 * 1117)) + wrap64 (p * 29)) + wrap64 (wrap64 x3 * 53)) = x1 * 131 + x2 * 1117 + p * 29 + x3 * 53 := by
          simp (disch := omega) only [w64]
        rw [e3]
        have e4 : wrap64 (Int.tdiv (x1 * 131 + x2 * 1117 + p * 29 + x3 * 53) 64) = (x1 * 131 + x2 * 1117 + p * 29 + x3 * 53) / 64 := by
          rw [tdiv_nn _ (by omega), w64 (by omega) (by omega)]
        rw [e4]
        have hx := xor_nn (a := x1 * 131 + x2 * 1117 + p * 29 + x3 * 53) (b := (x1 * 131 + x2 * 1117 + p * 29 + x3 * 53) / 64) (by omega) (by omega) (by omega) (by omega)
        have ht := tmod_in hx (n := n) (by omega)
        exact ⟨_, rfl, ht.1, fun _ => ht.2⟩
theorem one_is {b : List Int} (hb : RB b) {p : Int} (L : List Int) (hL : 1 ≤ L.length) (h0 : 0 ≤ p) (h1 : p ≤ 1000000) {k : Nat} (hk : 1 ≤ k) :
    ∃ v, spec_reader_one.f k b p L = some (v, p + 1) ∧ v ∈ L := by
  obtain ⟨r, hr, hr0, hr1⟩ := pick_is hb (L.length : Int) h0 h1 hk
  have hlt := hr1 (by omega)
  unfold spec_reader_one.f
  rw [hr]
  simp only [Option.bind_some]
  rw [if_pos hr0, if_pos hlt]
  have e : r = ((r.toNat : Nat) : Int) := by omega
  refine ⟨_, rfl, ?_⟩
  rw [e]
  exact rd_mem (by omega)
theorem range_in {a lo hi : Int} (h : lo ≤ a) (h' : a ≤ hi) : spec_inRange.f a lo hi = some true := by
  unfold spec_inRange.f
  rw [if_pos h, decide_eq_true h']
theorem range_out {a lo hi : Int} (h : ¬ (lo ≤ a ∧ a ≤ hi)) : spec_inRange.f a lo hi = some false := by
  unfold spec_inRange.f
  by_cases h1 : lo ≤ a
  · rw [if_pos h1, decide_eq_false (by omega)]
  · rw [if_neg h1]
def inAll (l : List Int) (lo hi : Int) : Bool := l.all (fun x => decide (lo ≤ x ∧ x ≤ hi))
theorem inAll_mem {l : List Int} {lo hi : Int} (h : inAll l lo hi = true) : ∀ x ∈ l, lo ≤ x ∧ x ≤ hi := by
  unfold inAll at h
  intro x hx
  have := List.all_eq_true.mp h x hx
  simpa using this
theorem allWithin_l0 (lo hi : Int) (l : List Int) (hl : l.length ≤ 1048576) : ∀ (d k i : Nat), l.length - i = d → d < k → i ≤ l.length → impl_allWithin.l0 k lo hi l (l.length : Int) (i : Int) = some (inAll (l.drop i) lo hi) := by
  intro d
  induction d with
  | zero =>
    intro k i hd hk hle
    obtain ⟨k, rfl⟩ : ∃ j, k = j + 1 := ⟨k - 1, by omega⟩
    simp only [impl_allWithin.l0]
    rw [if_neg (by omega), List.drop_of_length_le (by omega)]
    rfl
  | succ d ih =>
    intro k i hd hk hle
    obtain ⟨k, rfl⟩ : ∃ j, k = j + 1 := ⟨k - 1, by omega⟩
    have e : wrap64 ((i : Int) + 1) = ((i + 1 : Nat) : Int) := by rw [w64 (by omega) (by omega)]; simp
    have hstep := ih k (i + 1) (by omega) (by omega) (by omega)
    simp only [impl_allWithin.l0]
    rw [e, if_pos (by omega), if_pos (by omega), if_pos (by omega), drop_rd (by omega), hstep]
    unfold inAll
    rw [List.all_cons]
    generalize rd l (i : Int) = x
    by_cases c1 : x < lo
    · rw [if_pos c1, decide_eq_false (by omega)]
      rfl
    · by_cases c2 : x > hi
      · rw [if_neg c1, if_pos c2, decide_eq_false (by omega)]
        rfl
      · rw [if_neg c1, if_neg c2, decide_eq_true (by omega)]
        rfl
theorem allWithin_is {l : List Int} (lo hi : Int) (hl : l.length ≤ 1048576) {k : Nat} (hk : l.length < k) : impl_allWithin.f k l lo hi = some (inAll l lo hi) := by
  unfold impl_allWithin.f
  have h := allWithin_l0 lo hi l hl l.length k 0 (by omega) hk (by omega)
  simpa using h
theorem allIn_l0 (lo hi : Int) (l : List Int) (hl : l.length ≤ 1048576) : ∀ (d k i : Nat), l.length - i = d → d < k → i ≤ l.length → spec_allIn.l0 k l lo hi (i : Int) = some (inAll (l.drop i) lo hi) := by
  intro d
  induction d with
  | zero =>
    intro k i hd hk hle
    obtain ⟨k, rfl⟩ : ∃ j, k = j + 1 := ⟨k - 1, by omega⟩
    simp only [spec_allIn.l0]
    rw [if_neg (by omega), List.drop_of_length_le (by omega)]
    rfl
  | succ d ih =>
    intro k i hd hk hle
    obtain ⟨k, rfl⟩ : ∃ j, k = j + 1 := ⟨k - 1, by omega⟩
    have e : wrap64 ((i : Int) + 1) = ((i + 1 : Nat) : Int) := by rw [w64 (by omega) (by omega)]; simp
    have hstep := ih k (i + 1) (by omega) (by omega) (by omega)
    simp only [spec_allIn.l0]
    rw [e, if_pos (by omega), if_pos (by omega), drop_rd (by omega), hstep]
    unfold inAll
    rw [List.all_cons]
    generalize rd l (i : Int) = x
    by_cases c1 : lo ≤ x ∧ x ≤ hi
    · rw [range_in c1.1 c1.2, decide_eq_true c1]
      rfl
    · rw [range_out c1, decide_eq_false c1]
      rfl
theorem allIn_is {l : List Int} (lo hi : Int) (hl : l.length ≤ 1048576) {k : Nat} (hk : l.length < k) : spec_allIn.f k l lo hi = some (inAll l lo hi) := by
  unfold spec_allIn.f
  have h := allIn_l0 lo hi l hl l.length k 0 (by omega) hk (by omega)
  simpa using h

theorem at_pr (l : List Int) {j m : Nat} (h : j + 1 + m = l.length) : Bw.pr l l.length j = (m, rd l (m : Int)) := by
  unfold Bw.pr rd
  have e : l.length - 1 - j = m := by omega
  rw [e, List.getD_eq_getElem?_getD, Int.toNat_natCast]
theorem poly_l0 (l : List Int) (hl : l.length ≤ 1048576) (x : Int) : ∀ (m k j : Nat), j + m = l.length → m < k →
    spec_polyAt.l0 k l x (acc x (Bw.upto (Bw.pr l l.length) j)) ((m : Int) - 1) = some (polyOf x l) := by
  intro m
  induction m with
  | zero =>
    intro k j hj hk
    obtain ⟨k, rfl⟩ : ∃ i, k = i + 1 := ⟨k - 1, by omega⟩
    have e : j = l.length := by omega
    have c : ¬ (((0 : Nat) : Int) - 1 ≥ 0) := by omega
    rw [spec_polyAt.l0, if_neg c, e]
    rfl
  | succ m ih =>
    intro k j hj hk
    obtain ⟨k, rfl⟩ : ∃ i, k = i + 1 := ⟨k - 1, by omega⟩
    have e0 : ((m + 1 : Nat) : Int) - 1 = (m : Int) := by omega
    have c1 : (m : Int) ≥ 0 := by omega
    have c2 : (0 : Int) ≤ (m : Int) := by omega
    have c3 : (m : Int) < (l.length : Int) := by omega
    have e1 : wrap64 ((m : Int) - 1) = (m : Int) - 1 := w64 (by omega) (by omega)
    have hstep := ih k (j + 1) (by omega) (by omega)
    rw [Bw.upto_succ, acc_snoc, at_pr l (j := j) (m := m) (by omega)] at hstep
    rw [e0, spec_polyAt.l0, if_pos c1, if_pos c2, if_pos c3, e1]
    exact hstep
theorem poly_is {l : List Int} (hl : l.length ≤ 1048576) (x : Int) {k : Nat} (hk : l.length < k) : spec_polyAt.f k l x = some (polyOf x l) := by
  unfold spec_polyAt.f
  rw [w64 (x := (l.length : Int) - 1) (by omega) (by omega)]
  exact poly_l0 l hl x l.length k 0 (by omega) hk
theorem spec_is {l : List Int} (hl : l.length ≤ 1048576) (x : Int) {k : Nat} (hk : l.length + 2 ≤ k) : spec_PolyAt.f k l x = impl_PolyAt.f k l x := by
  have hv : spec_validPoly.f k l = impl_validCoefs.f k l := by
    unfold spec_validPoly.f impl_validCoefs.f
    rw [allIn_is 0 250 hl (by omega), allWithin_is 0 250 hl (by omega)]
  unfold spec_PolyAt.f impl_PolyAt.f
  rw [hv, poly_is hl x (by omega)]
  congr 1
  funext t
  cases t with
  | false => simp
  | true =>
    unfold spec_validRest.f spec_inRange.f
    by_cases h0 : x < 0
    · have h1 : ¬ 0 ≤ x := by omega
      simp [h0, h1]
    · have h1 : 0 ≤ x := by omega
      by_cases h2 : 250 < x
      · have h3 : ¬ x ≤ 250 := by omega
        simp [h0, h1, h2, h3]
      · have h3 : x ≤ 250 := by omega
        simp [h0, h1, h2, h3]
theorem impl_some {l : List Int} (hl : l.length ≤ 1048576) (x : Int) {k : Nat} (hk : l.length + 2 ≤ k) : ∃ r, impl_PolyAt.f k l x = some r := by
  have hv : ∃ t, impl_validCoefs.f k l = some t := by
    unfold impl_validCoefs.f
    rw [allWithin_is 0 250 hl (by omega)]
    by_cases c : (l.length : Int) ≤ 8
    · rw [if_pos c]; exact ⟨_, rfl⟩
    · rw [if_neg c]; exact ⟨_, rfl⟩
  obtain ⟨t, ht⟩ := hv
  unfold impl_PolyAt.f
  rw [ht]
  simp only [Option.bind_some]
  by_cases c : t = true
  · rw [if_pos c]
    by_cases h0 : x < 0
    · rw [if_pos h0]; exact ⟨_, rfl⟩
    · rw [if_neg h0]
      by_cases h2 : 250 < x
      · rw [if_pos h2]; exact ⟨_, rfl⟩
      · rw [if_neg h2]; exact ⟨_, rfl⟩
  · rw [if_neg c]; exact ⟨_, rfl⟩

theorem coefs_l0 {b : List Int} (hb : RB b) : ∀ (m k : Nat) (x : List Int) (p : Int), m + 2 < k → x.length + m ≤ 8 → 0 ≤ p → p + 2 * (m : Int) ≤ 800 →
    ∃ out q, spec_someCoefs.l0 k x (m : Int) b p = some (out, q) ∧ out.length = x.length + m ∧ 0 ≤ q ∧ q ≤ 900 := by
  intro m
  induction m with
  | zero =>
    intro k x p hk hx h0 h1
    obtain ⟨k, rfl⟩ : ∃ j, k = j + 1 := ⟨k - 1, by omega⟩
    have c : ¬ (((0 : Nat) : Int) > 0) := by omega
    rw [spec_someCoefs.l0, if_neg c]
    by_cases c1 : (x.length : Int) > 0
    · obtain ⟨r, hr, _, _⟩ := pick_is hb 16 (p := p) (by omega) (by omega) (k := k) (by omega)
      rw [if_pos c1, hr]
      simp only [Option.bind_some]
      by_cases c2 : r = 0
      · obtain ⟨v, hv, _⟩ := one_is hb [(-1), 251] (by simp) (p := p + 1) (by omega) (by omega) (k := k) (by omega)
        have c3 : 0 < (x.length : Int) := by omega
        rw [if_pos c2, hv]
        simp only [Option.bind_some]
        rw [if_pos c3]
        exact ⟨_, _, rfl, by rw [List.length_set]; omega, by omega, by omega⟩
      · rw [if_neg c2]
        exact ⟨x, _, rfl, by omega, by omega, by omega⟩
    · rw [if_neg c1]
      exact ⟨x, _, rfl, by omega, by omega, by omega⟩
  | succ m ih =>
    intro k x p hk hx h0 h1
    obtain ⟨k, rfl⟩ : ∃ j, k = j + 1 := ⟨k - 1, by omega⟩
    obtain ⟨r, hr, _, _⟩ := pick_is hb 251 (p := p) (by omega) (by omega) (k := k) (by omega)
    obtain ⟨v, hv, _⟩ := one_is hb [r, 0, 250, 1] (by simp) (p := p + 1) (by omega) (by omega) (k := k) (by omega)
    have c : ((m + 1 : Nat) : Int) > 0 := by omega
    have e : wrap64 (((m + 1 : Nat) : Int) - 1) = (m : Int) := (w64 (x := ((m + 1 : Nat) : Int) - 1) (by omega) (by omega)).trans (by omega)
    have hx8 : x.length ≤ 8 := by omega
    have s1 : x.length < 17592186044416 := Nat.lt_of_le_of_lt hx8 (by decide)
    have hlen : (x ++ [v]).length = x.length + 1 := by simp
    obtain ⟨out, q, ho, hl, q0, q1⟩ := ih k (x ++ [v]) (p + 1 + 1) (by clear e s1; omega) (by rw [hlen]; clear e s1; omega) (by clear e s1; omega) (by clear e s1; omega)
    refine ⟨out, q, ?_, by rw [hl, hlen]; clear e s1 ho; omega, q0, q1⟩
    rw [spec_someCoefs.l0, if_pos c, hr]
    simp only [Option.bind_some]
    rw [hv]
    simp only [Option.bind_some]
    rw [if_pos s1, e]
    exact ho
theorem draw_is {l : List Int} (hl : ∀ x ∈ l, (Lit.int .u8 x).wf = true) {k : Nat} (hk : 30 ≤ k) : ∃ c x, spec_DrawPolyAt.f k l = some (c, x) ∧ c.length ≤ 8 := by
  obtain ⟨b, hb, hr⟩ := newReader_is l hl
  obtain ⟨n, hn, mn⟩ := one_is hb [3, 2, 4, 1, 0, 8] (by simp) (p := 0) (by omega) (by omega) (k := k) (by omega)
  simp only [List.mem_cons, List.not_mem_nil, or_false] at mn
  obtain ⟨m, rfl⟩ : ∃ m : Nat, n = (m : Int) := ⟨n.toNat, by omega⟩
  obtain ⟨c, q, hc, hlen, q0, q1⟩ := coefs_l0 hb m k [] (0 + 1) (by omega) (by simp; omega) (by omega) (by omega)
  have hs : spec_someCoefs.f k b 0 = some (c, q) := by
    unfold spec_someCoefs.f
    rw [hn]
    simp only [Option.bind_some]
    exact hc
  obtain ⟨r, h1, _, _⟩ := pick_is hb 251 (p := q) (by omega) (by omega) (k := k) (by omega)
  obtain ⟨x, h2, _⟩ := one_is hb [r, 0, 1, 250, 251, (-1)] (by simp) (p := q + 1) (by omega) (by omega) (k := k) (by omega)
  refine ⟨c, x, ?_, by simp at hlen; omega⟩
  unfold spec_DrawPolyAt.f
  rw [hr]
  simp only [Option.bind_some]
  rw [hs]
  simp only [Option.bind_some]
  rw [h1]
  simp only [Option.bind_some]
  rw [h2]
  rfl

def accV (x : Int) (l : List Int) : Int := l.foldl (fun v p => Int.tmod (wrap64 (wrap64 (v * x) + p)) 251) 0
theorem acc_V (x : Int) (l : List (Nat × Int)) : acc x l = accV x (l.map Prod.snd) := by
  unfold acc accV
  rw [List.foldl_map]
theorem vals (l : List Int) : (Bw.upto (Bw.pr l l.length) l.length).map Prod.snd = l.reverse := by
  apply List.ext_getElem
  · simp [Bw.upto]
  · intro i h1 h2
    simp [Bw.upto, Bw.pr, List.getElem_reverse]
    have : i < l.length := by simpa using h2
    rw [List.getElem?_eq_getElem (by omega)]
    rfl
theorem poly_V (x : Int) (l : List Int) : polyOf x l = accV x l.reverse := by
  unfold polyOf
  rw [acc_V, vals]
theorem poly_cons (x h : Int) (t : List Int) : polyOf x (h :: t) = Int.tmod (wrap64 (wrap64 (polyOf x t * x) + h)) 251 := by
  rw [poly_V, poly_V, List.reverse_cons]
  unfold accV
  rw [List.foldl_append]
  rfl
theorem valid_is {l : List Int} (hl : l.length ≤ 1048576) {k : Nat} (hk : l.length + 2 ≤ k) : impl_validCoefs.f k l = some (decide ((l.length : Int) ≤ 8) && inAll l 0 250) := by
  unfold impl_validCoefs.f
  rw [allWithin_is 0 250 hl (by omega)]
  by_cases c : (l.length : Int) ≤ 8
  · rw [if_pos c, decide_eq_true c]
    rfl
  · rw [if_neg c, decide_eq_false c]
    rfl
theorem inAll_of {l : List Int} {lo hi : Int} (h : ∀ x ∈ l, lo ≤ x ∧ x ≤ hi) : inAll l lo hi = true := by
  unfold inAll
  simpa using h
theorem impl_in {l : List Int} (hl : l.length ≤ 8) (hv : ∀ v ∈ l, 0 ≤ v ∧ v ≤ 250) {x : Int} (h0 : 0 ≤ x) (h1 : x ≤ 250) {k : Nat} (hk : l.length + 2 ≤ k) : impl_PolyAt.f k l x = some (polyOf x l) := by
  have hi : inAll l 0 250 = true := inAll_of hv
  unfold impl_PolyAt.f
  rw [valid_is (by omega) hk, hi, decide_eq_true (show (l.length : Int) ≤ 8 by omega)]
  simp only [Option.bind_some, Bool.and_true, if_true]
  rw [if_neg (show ¬ x < 0 by omega), if_neg (show ¬ 250 < x by omega)]
theorem impl_out {l : List Int} (hl : l.length ≤ 1048576) {x r : Int} {k : Nat} (hk : l.length + 2 ≤ k) (h : impl_PolyAt.f k l x = some r) (hr : ¬ r < 0) : l.length ≤ 8 ∧ (∀ v ∈ l, 0 ≤ v ∧ v ≤ 250) ∧ 0 ≤ x ∧ x ≤ 250 ∧ r = polyOf x l := by
  unfold impl_PolyAt.f at h
  rw [valid_is hl hk] at h
  simp only [Option.bind_some] at h
  by_cases c : (decide ((l.length : Int) ≤ 8) && inAll l 0 250) = true
  · rw [if_pos c] at h
    rw [Bool.and_eq_true, decide_eq_true_eq] at c
    by_cases c0 : x < 0
    · rw [if_pos c0] at h
      have := Option.some.inj h
      omega
    · rw [if_neg c0] at h
      by_cases c1 : 250 < x
      · rw [if_pos c1] at h
        have := Option.some.inj h
        omega
      · rw [if_neg c1] at h
        exact ⟨by omega, inAll_mem c.2, by omega, by omega, (Option.some.inj h).symm⟩
  · rw [if_neg c] at h
    have := Option.some.inj h
    omega
theorem j0_true {c : List Int} (hc : c.length ≤ 8) {x out : Int} {k : Nat} (hk : 30 ≤ k) (h : impl_PolyAt.f k c x = some out) : laws_FnPolyAt.j0 (k + 1) c x out true = some true := by
  rw [laws_FnPolyAt.j0, if_pos rfl, spec_is (by omega) x (by omega), h]
  simp
theorem j0_false {c : List Int} (hc : c.length ≤ 8) (hne : ¬ (c.length : Int) = 0) (hv : ∀ v ∈ c, 0 ≤ v ∧ v ≤ 250) {x : Int} (h0 : 0 ≤ x) (h1 : x ≤ 250) {k : Nat} (hk : 30 ≤ k) : laws_FnPolyAt.j0 (k + 1) c x (polyOf x c) false = some true := by
  cases c with
  | nil => exact absurd rfl hne
  | cons h t =>
    have hh := hv h (by simp)
    have ht : ∀ v ∈ t, 0 ≤ v ∧ v ≤ 250 := fun v hv' => hv v (by simp [hv'])
    have hl : t.length + 1 ≤ 8 := by simpa using hc
    have i1 := impl_in hc hv (x := 0) (by omega) (by omega) (k := k) (by omega)
    have i2 := impl_in (l := t) (by omega) ht h0 h1 (k := k) (by omega)
    have p0 : polyOf 0 (h :: t) = h := by
      rw [poly_cons, Int.mul_zero, w64 (x := 0) (by omega) (by omega), Int.zero_add, w64 (by omega) (by omega), tmod_nn _ hh.1]
      omega
    have r0 : rd (h :: t) 0 = h := rfl
    have c1 : 0 < ((h :: t).length : Int) := by rw [List.length_cons]; omega
    have c2 : 1 ≤ ((h :: t).length : Int) := by rw [List.length_cons]; omega
    have e : wrap64 (h + wrap64 (x * polyOf x t)) = wrap64 (wrap64 (polyOf x t * x) + h) := by rw [Int.mul_comm x, Int.add_comm h]
    have d1 : (h :: t).drop 1 = t := rfl
    rw [laws_FnPolyAt.j0, if_neg (by simp), i1]
    simp only [Option.bind_some]
    rw [if_pos c1, r0, if_pos p0, if_pos c2, d1, i2]
    simp only [Option.bind_some]
    rw [e, ← poly_cons]
    simp
theorem law {l : List Int} (hl : ∀ x ∈ l, (Lit.int .u8 x).wf = true) {k : Nat} (hk : 40 ≤ k) : laws_FnPolyAt.f (k + 1) l = some true := by
  unfold laws_FnPolyAt.f
  by_cases cl : (l.length : Int) > 1048576
  · rw [if_pos cl]
  · rw [if_neg cl]
    obtain ⟨c, x, hd, hc⟩ := draw_is hl (k := k + 1) (by omega)
    obtain ⟨out, ho⟩ := impl_some (l := c) (by omega) x (k := k) (by omega)
    have ho' : impl_PolyAt.f (k + 1) c x = some out := impl_PolyAt.mono _ _ _ _ ho
    rw [hd]
    simp only [Option.bind_some]
    rw [spec_is (by omega) x (by omega), ho']
    simp only [Option.bind_some, if_true]
    by_cases c0 : out < 0
    · rw [if_pos c0]
      exact j0_true hc (by omega) ho
    · rw [if_neg c0]
      obtain ⟨_, hv, x0, x1, hr⟩ := impl_out (l := c) (by omega) (by omega) ho c0
      by_cases c1 : (c.length : Int) = 0
      · rw [show ((c.length : Int) == 0) = true from beq_iff_eq.mpr c1]
        exact j0_true hc (by omega) ho
      · rw [show ((c.length : Int) == 0) = false from beq_eq_false_iff_ne.mpr c1, hr]
        exact j0_false hc c1 hv x0 x1 (by omega)

theorem FnPolyAt : laws_FnPolyAt.Pure := by
  intro l _ _ hl
  exact ⟨41, law hl (k := 40) (Nat.le_refl 40)⟩

end Go.Proofs.Ytgdnhidnojjpiac.Pure
