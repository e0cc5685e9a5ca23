/- The law FnLateFine, as a statement on plain values, holds: LateFine is the reference's; one day's fine is the rounded part, no days' is nothing, it never passes the amount nor falls with more days, and it is the day's fine times the days, at most the amount. For every code of at most 2^47 - 4096 bytes. -/
import Derived.Test.YtgdnhidnojjpiabKit
import Derived.Test.YtgdnhidnojjpiabQFnLateFinex5
namespace Go.Proofs.Ytgdnhidnojjpiab.Pure
open Go.RowKit Go.Proofs.Ytgdnhidnojjpiab.PFnLateFine Go.Proofs.Ytgdnhidnojjpiab.Kit Go.Proofs.YtgdnhidnojjpiabW.PrintWords

theorem newReader_is (l : List Int) (h : ∀ x ∈ l, (Lit.int .u8 x).wf = true) : ∃ b, RB b ∧ spec_newReader.f l = some (b, 0) := by
  have hb := bytes_bd h
  unfold spec_newReader.f
  by_cases c : (l.length : Int) > 2000
  · rw [if_pos c, if_pos (by omega)]
    exact ⟨l.take 2000, ⟨by rw [List.length_take]; omega, fun x hx => hb x (List.mem_of_mem_take hx)⟩, rfl⟩
  · rw [if_neg c]
    exact ⟨l, ⟨by omega, hb⟩, rfl⟩
theorem pick_is {b : List Int} (hb : RB b) {p : Int} (n : Int) (h0 : 0 ≤ p) (h1 : p ≤ 1000000) {k : Nat} (hk : 1 ≤ k) :
    ∃ r, spec_reader_pick.f k b p n = some (r, p + 1) ∧ 0 ≤ r ∧ (1 ≤ n → r < n) := by
  obtain ⟨k, rfl⟩ : ∃ j, k = j + 1 := ⟨k - 1, by omega⟩
  have e0 : wrap64 (p + 1) = p + 1 := w64 (by omega) (by omega)
  have e1 : wrap64 (p + 1 - 1) = p := by rw [w64 (by omega) (by omega)]; omega
  unfold spec_reader_pick.f
  rw [e0]
  by_cases hn : n < 1
  · rw [if_pos hn]
    exact ⟨0, by simp [spec_reader_pick.j0], by omega, by omega⟩
  · rw [if_neg hn]
    by_cases hz : b.length = 0
    · exact ⟨0, by simp [spec_reader_pick.j0, hz], by omega, by omega⟩
    · have hz' : ((b.length : Int) == 0) = false := by
        rw [beq_eq_false_iff_ne]; omega
      rw [hz']
      simp only [spec_reader_pick.j0, e1]
      rw [if_neg (by decide)]
      have hn0 : ¬ n = 0 := by omega
      by_cases hp : p < (b.length : Int)
      · have hr := rd_byte hb p
        rw [if_pos hp, if_pos h0, if_neg hn0, w64 (by omega) (by omega)]
        have ht := tmod_in hr.1 (n := n) (by omega)
        exact ⟨_, rfl, ht.1, fun _ => ht.2⟩
      · have hl : (1 : Int) ≤ (b.length : Int) := by omega
        have hl2 : (b.length : Int) ≤ 2000 := by have := hb.1; omega
        have q1 := tmod_in h0 hl
        have d1 := tdiv_in h0 hl
        have e2 : wrap64 (wrap64 (p * 7) + 3) = p * 7 + 3 := by simp (disch := omega) only [w64]
        have q2 := tmod_in (x := p * 7 + 3) (by omega) hl
        rw [if_neg hp, if_neg (by omega), if_pos q1.1, if_pos q1.2, e2, if_pos q2.1, if_pos q2.2, if_neg hn0]
        have r1 := rd_byte hb (Int.tmod p (b.length : Int))
        have r2 := rd_byte hb (Int.tmod (p * 7 + 3) (b.length : Int))
        generalize rd b (Int.tmod p (b.length : Int)) = x1 at r1 ⊢
        generalize rd b (Int.tmod (p * 7 + 3) (b.length : Int)) = x2 at r2 ⊢
        generalize Int.tdiv p (b.length : Int) = x3 at d1 ⊢
        have e3 : wrap64 (wrap64 (wrap64 (wrap64 (wrap64 x1 * 131) + wrap64 (wrap64 x2 * 1117)) + wrap64 (p * 29)) + wrap64 (wrap64 x3 * 53)) = x1 * 131 + x2 * 1117 + p * 29 + x3 * 53 := by
          simp (disch := omega) only [w64]
        rw [e3]
        have e4 : wrap64 (Int.tdiv (x1 * 131 + x2 * 1117 + p * 29 + x3 * 53) 64) = (x1 * 131 + x2 * 1117 + p * 29 + x3 * 53) / 64 := by
          rw [tdiv_nn _ (by omega), w64 (by omega) (by omega)]
        rw [e4]
        have hx := xor_nn (a := x1 * 131 + x2 * 1117 + p * 29 + x3 * 53) (b := (x1 * 131 + x2 * 1117 + p * 29 + x3 * 53) / 64) (by omega) (by omega) (by omega) (by omega)
        have ht := tmod_in hx (n := n) (by omega)
        exact ⟨_, rfl, ht.1, fun _ => ht.2⟩
theorem one_is {b : List Int} (hb : RB b) {p : Int} (L : List Int) (hL : 1 ≤ L.length) (h0 : 0 ≤ p) (h1 : p ≤ 1000000) {k : Nat} (hk : 1 ≤ k) :
    ∃ v, spec_reader_one.f k b p L = some (v, p + 1) ∧ v ∈ L := by
  obtain ⟨r, hr, hr0, hr1⟩ := pick_is hb (L.length : Int) h0 h1 hk
  have hlt := hr1 (by omega)
  unfold spec_reader_one.f
  rw [hr]
  simp only [Option.bind_some]
  rw [if_pos hr0, if_pos hlt]
  have e : r = ((r.toNat : Nat) : Int) := by omega
  refine ⟨_, rfl, ?_⟩
  rw [e]
  exact rd_mem (by omega)
theorem someRate_is {b : List Int} (hb : RB b) {p : Int} (h0 : 0 ≤ p) (h1 : p ≤ 1000) {k : Nat} (hk : 1 ≤ k) :
    ∃ n d, spec_someRate.f k b p = some (n, d, p + 4) ∧ 0 ≤ n ∧ n ≤ 1000 ∧ 1 ≤ d ∧ d ≤ 1000 := by
  obtain ⟨x, hx, x0, x1⟩ := pick_is hb 50 (p := p) (by omega) (by omega) hk
  have x2 := x1 (by omega)
  have ex : wrap64 (1 + x) = 1 + x := w64 (by omega) (by omega)
  obtain ⟨d, hd, dm⟩ := one_is hb [100, 12, 2, 4, 1000, 8, 1, 365, 1 + x] (by simp) (p := p + 1) (by omega) (by omega) hk
  have d0 : 1 ≤ d ∧ d ≤ 1000 := by
    simp only [List.mem_cons, List.not_mem_nil, or_false] at dm
    omega
  have ed : wrap64 (d + 1) = d + 1 := w64 (by omega) (by omega)
  obtain ⟨y, hy, y0, y1⟩ := pick_is hb (d + 1) (p := p + 1 + 1) (by omega) (by omega) hk
  have y2 := y1 (by omega)
  obtain ⟨n, hn, nm⟩ := one_is hb [1, 0, mn 5 d, d, y, mn 3 d] (by simp) (p := p + 1 + 1 + 1) (by omega) (by omega) hk
  refine ⟨n, d, ?_, ?_⟩
  · unfold spec_someRate.f
    rw [hx]
    simp only [Option.bind_some, ex, hd, ed, hy, hn]
    congr 3
    omega
  · have m5 : mn 5 d ≤ 5 ∧ 0 ≤ mn 5 d := by unfold mn; omega
    have m3 : mn 3 d ≤ 3 ∧ 0 ≤ mn 3 d := by unfold mn; omega
    simp only [List.mem_cons, List.not_mem_nil, or_false] at nm
    omega
theorem anyRate_is {b : List Int} (hb : RB b) {p : Int} (h0 : 0 ≤ p) (h1 : p ≤ 900) {k : Nat} (hk : 1 ≤ k) :
    ∃ n d q, spec_anyRate.f k b p = some (n, d, q) ∧ -1 ≤ n ∧ n ≤ 1001 ∧ 0 ≤ d ∧ d ≤ 1001 ∧ 0 ≤ q ∧ q ≤ p + 10 := by
  obtain ⟨n, d, hs, n0, n1, d0, d1⟩ := someRate_is hb h0 (by omega) hk
  obtain ⟨x, hx, x0, x1⟩ := pick_is hb 16 (p := p + 4) (by omega) (by omega) hk
  have ed : wrap64 (d + 1) = d + 1 := w64 (by omega) (by omega)
  unfold spec_anyRate.f
  rw [hs]
  simp only [Option.bind_some, hx, ed]
  by_cases c1 : x = 0
  · obtain ⟨y, hy, ym⟩ := one_is hb [(-1), d + 1] (by simp) (p := p + 4 + 1) (by omega) (by omega) hk
    simp only [List.mem_cons, List.not_mem_nil, or_false] at ym
    rw [if_pos c1, hy]
    exact ⟨y, d, _, rfl, by omega, by omega, by omega, by omega, by omega, by omega⟩
  · rw [if_neg c1]
    by_cases c2 : x = 1
    · obtain ⟨y, hy, ym⟩ := one_is hb [0, 1001] (by simp) (p := p + 4 + 1) (by omega) (by omega) hk
      simp only [List.mem_cons, List.not_mem_nil, or_false] at ym
      rw [if_pos c2, hy]
      exact ⟨n, y, _, rfl, by omega, by omega, by omega, by omega, by omega, by omega⟩
    · rw [if_neg c2]
      exact ⟨n, d, _, rfl, by omega, by omega, by omega, by omega, by omega, by omega⟩
theorem implPart_in {n p d : Int} (hn : 0 ≤ n) (hn' : n ≤ 1000000) (hp : 0 ≤ p) (hd : 1 ≤ d) (hd' : d ≤ 1000) (hpd : p ≤ d) : impl_validPart.f n p d = some true := by
  unfold impl_validPart.f impl_ValidRate.f
  rw [if_pos hn, if_pos hn', if_pos hd, if_pos hd', if_pos hp, decide_eq_true hpd]
  rfl
theorem implPart_out {n p d : Int} (h : ¬ (0 ≤ n ∧ n ≤ 1000000 ∧ 0 ≤ p ∧ 1 ≤ d ∧ d ≤ 1000 ∧ p ≤ d)) : impl_validPart.f n p d = some false := by
  unfold impl_validPart.f impl_ValidRate.f
  by_cases h1 : n ≥ 0
  · by_cases h2 : n ≤ 1000000
    · by_cases h3 : d ≥ 1
      · by_cases h4 : d ≤ 1000
        · by_cases h5 : p ≥ 0
          · have h6 : ¬ p ≤ d := by omega
            simp [h1, h2, h3, h4, h5, h6]
          · simp [h1, h2, h3, h4, h5]
        · simp [h1, h2, h3, h4]
      · simp [h1, h2, h3]
    · simp [h1, h2]
  · simp [h1]
theorem specRate_in {p d : Int} (hp : 0 ≤ p) (hd : 1 ≤ d) (hd' : d ≤ 1000) (hpd : p ≤ d) : spec_validRate.f p d = some true := by
  unfold spec_validRate.f spec_inRange.f
  rw [if_pos hd, decide_eq_true hd', if_pos hp, decide_eq_true hpd]
  rfl
theorem specRate_out {p d : Int} (h : ¬ (0 ≤ p ∧ 1 ≤ d ∧ d ≤ 1000 ∧ p ≤ d)) : spec_validRate.f p d = some false := by
  unfold spec_validRate.f spec_inRange.f
  by_cases h1 : 1 ≤ d
  · by_cases h2 : d ≤ 1000
    · by_cases h3 : 0 ≤ p
      · have h4 : ¬ p ≤ d := by omega
        simp [h1, h2, h3, h4]
      · simp [h1, h2, h3]
    · simp [h1, h2]
  · simp [h1]
/-- n * p / d, rounded up -/
def up (n p d : Int) : Int := (n * p + d - 1) / d
theorem up_bd {n p d : Int} (hn : 0 ≤ n) (hn' : n ≤ 1000000) (hp : 0 ≤ p) (hd : 1 ≤ d) (hd' : d ≤ 1000) (hpd : p ≤ d) : 0 ≤ up n p d ∧ up n p d ≤ n ∧ wrap64 (Int.tdiv (wrap64 (wrap64 (wrap64 (n * p) + d) - 1)) d) = up n p d := by
  have hb := part_bd hn (by omega) hp (by omega)
  have h1 : n * p ≤ n * d := Int.mul_le_mul_of_nonneg_left hpd hn
  have a : 0 ≤ up n p d := Int.ediv_nonneg (by omega) (by omega)
  have b : up n p d < n + 1 := by
    unfold up
    refine Int.ediv_lt_of_lt_mul (by omega) ?_
    grind
  refine ⟨a, by omega, ?_⟩
  have e1 : wrap64 (wrap64 (wrap64 (n * p) + d) - 1) = n * p + d - 1 := by
    generalize n * p = P at hb ⊢
    simp (disch := omega) only [w64]
  rw [e1, tdiv_nn _ (by omega)]
  exact w64 (by unfold up at a; omega) (by unfold up at b; omega)
theorem implUp_is {n p d : Int} (hn : 0 ≤ n) (hn' : n ≤ 1000000) (hp : 0 ≤ p) (hd : 1 ≤ d) (hd' : d ≤ 1000) (hpd : p ≤ d) : impl_RoundUp.f n p d = some (up n p d) := by
  unfold impl_RoundUp.f
  rw [implPart_in hn hn' hp hd hd' hpd]
  simp only [Option.bind_some, if_true]
  rw [if_neg (by omega), (up_bd hn hn' hp hd hd' hpd).2.2]
theorem implUp_out {n p d : Int} (h : ¬ (0 ≤ n ∧ n ≤ 1000000 ∧ 0 ≤ p ∧ 1 ≤ d ∧ d ≤ 1000 ∧ p ≤ d)) : impl_RoundUp.f n p d = some (-1) := by
  unfold impl_RoundUp.f
  rw [implPart_out h]
  simp
/-- what is rounded up is what is rounded down, or 1 more where a rest is left -/
theorem up_down {P d : Int} (hd : 1 ≤ d) : (P + d - 1) / d = if P % d = 0 then P / d else P / d + 1 := by
  have h := Int.emod_add_mul_ediv P d
  have h0 := Int.emod_nonneg P (b := d) (by omega)
  have h1 := Int.emod_lt_of_pos P (b := d) (by omega)
  generalize P / d = q at h ⊢
  generalize P % d = r at h h0 h1 ⊢
  subst h
  split
  · exact div_of (by omega) (by grind) (by grind)
  · exact div_of (by omega) (by grind) (by grind)
/-- the fine of t days -/
def fine (n p d t : Int) : Int := if 0 < up n p d ∧ n / up n p d < t then n else up n p d * t
theorem fine_prod {n p d t : Int} (hn : 0 ≤ n) (ht : 0 ≤ t) (hu : 0 ≤ up n p d) (h : ¬ (0 < up n p d ∧ n / up n p d < t)) : 0 ≤ up n p d * t ∧ up n p d * t ≤ n := by
  refine ⟨Int.mul_nonneg hu ht, ?_⟩
  by_cases h0 : up n p d = 0
  · rw [h0]; omega
  · have h1 : t ≤ n / up n p d := by omega
    have h2 : up n p d * t ≤ up n p d * (n / up n p d) := Int.mul_le_mul_of_nonneg_left h1 hu
    have h3 : up n p d * (n / up n p d) ≤ n := Int.mul_ediv_self_le (by omega)
    omega
theorem implRate_in {p d : Int} (hp : 0 ≤ p) (hd : 1 ≤ d) (hd' : d ≤ 1000) (hpd : p ≤ d) : impl_ValidRate.f p d = some true := by
  unfold impl_ValidRate.f
  rw [if_pos hd, if_pos hd', if_pos hp, decide_eq_true hpd]
theorem implRate_out {p d : Int} (h : ¬ (0 ≤ p ∧ 1 ≤ d ∧ d ≤ 1000 ∧ p ≤ d)) : impl_ValidRate.f p d = some false := by
  unfold impl_ValidRate.f
  by_cases h1 : d ≥ 1
  · by_cases h2 : d ≤ 1000
    · by_cases h3 : p ≥ 0
      · have h4 : ¬ p ≤ d := by omega
        simp [h1, h2, h3, h4]
      · simp [h1, h2, h3]
    · simp [h1, h2]
  · simp [h1]
theorem implLate_in {n p d t : Int} (hn : 0 ≤ n) (hn' : n ≤ 100000) (hp : 0 ≤ p) (hd : 1 ≤ d) (hd' : d ≤ 1000) (hpd : p ≤ d) (ht : 0 ≤ t) {k : Nat} (hk : 1 ≤ k) : impl_LateFine.f k n p d t = some (fine n p d t) := by
  obtain ⟨k, rfl⟩ : ∃ j, k = j + 1 := ⟨k - 1, by omega⟩
  have hu := up_bd hn (by omega) hp hd hd' hpd
  have hq : 0 ≤ n / up n p d := Int.ediv_nonneg hn hu.1
  have hq' : n / up n p d ≤ n := Int.ediv_le_self _ hn
  unfold impl_LateFine.f
  rw [if_neg (by omega), if_neg (by omega), implRate_in hp hd hd' hpd]
  simp only [Option.bind_some, if_true, impl_LateFine.j0]
  rw [if_neg (by simp; omega), implUp_is hn (by omega) hp hd hd' hpd]
  simp only [Option.bind_some]
  unfold fine
  by_cases h0 : up n p d > 0
  · rw [if_pos h0, if_neg (by omega), tdiv_nn _ hn, w64 (x := n / up n p d) (by omega) (by omega)]
    by_cases h1 : t > n / up n p d
    · rw [if_pos h1, if_pos ⟨h0, h1⟩]
    · have hpr := fine_prod (t := t) hn ht hu.1 (fun x => h1 x.2)
      rw [if_neg h1, if_neg (fun x => h1 x.2), w64 (by omega) (by omega)]
  · have hpr := fine_prod (t := t) hn ht hu.1 (fun x => h0 x.1)
    rw [if_neg h0, if_neg (fun x => h0 x.1), w64 (by omega) (by omega)]
theorem implLate_out {n p d t : Int} (h : ¬ (0 ≤ n ∧ n ≤ 100000 ∧ (0 ≤ p ∧ 1 ≤ d ∧ d ≤ 1000 ∧ p ≤ d) ∧ 0 ≤ t)) {k : Nat} (hk : 1 ≤ k) : impl_LateFine.f k n p d t = some (-1) := by
  obtain ⟨k, rfl⟩ : ∃ j, k = j + 1 := ⟨k - 1, by omega⟩
  unfold impl_LateFine.f
  by_cases h1 : n < 0
  · simp [h1, impl_LateFine.j0]
  · by_cases h2 : n > 100000
    · simp [h1, h2, impl_LateFine.j0]
    · by_cases h3 : 0 ≤ p ∧ 1 ≤ d ∧ d ≤ 1000 ∧ p ≤ d
      · have h4 : t < 0 := by omega
        rw [implRate_in h3.1 h3.2.1 h3.2.2.1 h3.2.2.2]
        simp [h1, h2, h4, impl_LateFine.j0]
      · rw [implRate_out h3]
        simp [h1, h2, impl_LateFine.j0]
theorem specRange_in {a lo hi : Int} (h : lo ≤ a) (h' : a ≤ hi) : spec_inRange.f a lo hi = some true := by
  unfold spec_inRange.f
  rw [if_pos h, decide_eq_true h']
theorem specRange_out {a lo hi : Int} (h : ¬ (lo ≤ a ∧ a ≤ hi)) : spec_inRange.f a lo hi = some false := by
  unfold spec_inRange.f
  by_cases h1 : lo ≤ a
  · rw [if_pos h1, decide_eq_false (by omega)]
  · rw [if_neg h1]
theorem specLate_in {n p d t : Int} (hn : 0 ≤ n) (hn' : n ≤ 100000) (hp : 0 ≤ p) (hd : 1 ≤ d) (hd' : d ≤ 1000) (hpd : p ≤ d) (ht : 0 ≤ t) {k : Nat} (hk : 1 ≤ k) : spec_LateFine.f k n p d t = some (fine n p d t) := by
  obtain ⟨k, rfl⟩ : ∃ j, k = j + 1 := ⟨k - 1, by omega⟩
  have hu := up_bd hn (by omega) hp hd hd' hpd
  have hq : 0 ≤ n / up n p d := Int.ediv_nonneg hn hu.1
  have hq' : n / up n p d ≤ n := Int.ediv_le_self _ hn
  unfold spec_LateFine.f
  rw [specRange_in hn hn']
  simp only [Option.bind_some, if_true]
  rw [specRate_in hp hd hd' hpd]
  simp only [Option.bind_some, if_true, spec_LateFine.j0]
  rw [if_neg (by simp; omega), if_neg (by omega), hu.2.2]
  unfold fine
  by_cases h0 : up n p d = 0
  · rw [if_pos h0, if_neg (by omega), h0]
    simp
    exact w64 (by omega) (by omega)
  · rw [if_neg h0, tdiv_nn _ hn, w64 (x := n / up n p d) (by omega) (by omega)]
    by_cases h1 : t ≤ n / up n p d
    · have hpr := fine_prod (t := t) hn ht hu.1 (fun x => by omega)
      have hm : mn t n = t := by unfold mn; omega
      rw [if_pos h1, if_neg (fun x => by omega), hm, w64 (by omega) (by omega)]
    · rw [if_neg h1, if_pos ⟨by omega, by omega⟩]
theorem specLate_out {n p d t : Int} (h : ¬ (0 ≤ n ∧ n ≤ 100000 ∧ (0 ≤ p ∧ 1 ≤ d ∧ d ≤ 1000 ∧ p ≤ d) ∧ 0 ≤ t)) {k : Nat} (hk : 1 ≤ k) : spec_LateFine.f k n p d t = some (-1) := by
  obtain ⟨k, rfl⟩ : ∃ j, k = j + 1 := ⟨k - 1, by omega⟩
  unfold spec_LateFine.f
  by_cases h1 : 0 ≤ n ∧ n ≤ 100000
  · rw [specRange_in h1.1 h1.2]
    by_cases h3 : 0 ≤ p ∧ 1 ≤ d ∧ d ≤ 1000 ∧ p ≤ d
    · have h4 : t < 0 := by omega
      rw [specRate_in h3.1 h3.2.1 h3.2.2.1 h3.2.2.2]
      simp [h4, spec_LateFine.j0]
    · rw [specRate_out h3]
      simp [spec_LateFine.j0]
  · rw [specRange_out h1]
    simp [spec_LateFine.j0]

theorem draw_is {l : List Int} (hl : ∀ x ∈ l, (Lit.int .u8 x).wf = true) {k : Nat} (hk : 2 ≤ k) : ∃ n p d t, spec_DrawLateFine.f k l = some (n, p, d, t) ∧ -1 ≤ t ∧ t ≤ 1000000 := by
  obtain ⟨b, hb, hr⟩ := newReader_is l hl
  obtain ⟨a1, g1, a10, a11⟩ := pick_is hb 250 (p := 0) (by omega) (by omega) (k := k) (by omega)
  obtain ⟨n, g2, _⟩ := one_is hb [1000, a1, 0, 100000, 100001, (-1)] (by simp) (p := 0 + 1) (by omega) (by omega) (k := k) (by omega)
  obtain ⟨p, d, q, g3, _, _, _, _, q0, q1⟩ := anyRate_is hb (p := 0 + 1 + 1) (by omega) (by omega) (k := k) (by omega)
  obtain ⟨a4, g4, a40, a41⟩ := pick_is hb 100 (p := q) (by omega) (by omega) (k := k) (by omega)
  have a42 := a41 (by omega)
  obtain ⟨t, g5, tm⟩ := one_is hb [3, 0, 30, 1000000, (-1), a4] (by simp) (p := q + 1) (by omega) (by omega) (k := k) (by omega)
  simp only [List.mem_cons, List.not_mem_nil, or_false] at tm
  refine ⟨n, p, d, t, ?_, by omega, by omega⟩
  unfold spec_DrawLateFine.f
  rw [hr]
  simp only [Option.bind_some]
  rw [g1]
  simp only [Option.bind_some]
  rw [g2]
  simp only [Option.bind_some]
  rw [g3]
  simp only [Option.bind_some]
  rw [g4]
  simp only [Option.bind_some]
  rw [g5]
  rfl
theorem fine_eq {n p d t : Int} (hn : 0 ≤ n) (ht : 0 ≤ t) (hu : 0 ≤ up n p d) : fine n p d t = mn n (t * up n p d) := by
  have hc := Int.mul_comm t (up n p d)
  by_cases h : 0 < up n p d ∧ n / up n p d < t
  · have e : fine n p d t = n := by unfold fine; rw [if_pos h]
    rw [e]
    have h1 : n < (n / up n p d + 1) * up n p d := Int.lt_mul_of_ediv_lt h.1 (by omega)
    have h2 : (n / up n p d + 1) * up n p d ≤ t * up n p d := Int.mul_le_mul_of_nonneg_right (by omega) hu
    generalize t * up n p d = m at h2
    generalize (n / up n p d + 1) * up n p d = m' at h1 h2
    unfold mn
    omega
  · have e : fine n p d t = up n p d * t := by unfold fine; rw [if_neg h]
    have hp := fine_prod hn ht hu h
    rw [e, hc]
    generalize up n p d * t = m at hp
    unfold mn
    omega
theorem fine_one {n p d : Int} (hn : 0 ≤ n) (hu : 0 ≤ up n p d) (hu' : up n p d ≤ n) : fine n p d 1 = up n p d := by
  rw [fine_eq hn (by omega) hu, Int.one_mul]
  generalize up n p d = u at hu hu'
  unfold mn
  omega
theorem fine_zero {n p d : Int} (hn : 0 ≤ n) (hu : 0 ≤ up n p d) : fine n p d 0 = 0 := by
  rw [fine_eq hn (by omega) hu, Int.zero_mul]
  unfold mn
  omega
theorem fine_mono {n p d t s : Int} (hn : 0 ≤ n) (ht : 0 ≤ t) (hs : t ≤ s) (hu : 0 ≤ up n p d) : fine n p d t ≤ fine n p d s := by
  rw [fine_eq hn ht hu, fine_eq hn (by omega) hu]
  have h := Int.mul_le_mul_of_nonneg_right hs hu
  generalize t * up n p d = x at h
  generalize s * up n p d = y at h
  unfold mn
  omega
theorem fine_bd {n p d t : Int} (hn : 0 ≤ n) (ht : 0 ≤ t) (hu : 0 ≤ up n p d) : 0 ≤ fine n p d t ∧ fine n p d t ≤ n := by
  rw [fine_eq hn ht hu]
  have h := Int.mul_nonneg ht hu
  generalize t * up n p d = x at h
  unfold mn
  omega
theorem j0_in {n p d t : Int} (hn : 0 ≤ n) (hn' : n ≤ 100000) (hp : 0 ≤ p) (hd : 1 ≤ d) (hd' : d ≤ 1000) (hpd : p ≤ d) (ht : 0 ≤ t) (ht' : t ≤ 1000000) {k : Nat} (hk : 1 ≤ k) :
    laws_FnLateFine.j0 (k + 1) n t (fine n p d t) false p d = some true := by
  have hu := up_bd hn (by omega) hp hd hd' hpd
  have hb := fine_bd (t := t) hn ht hu.1
  have hl : ∀ s, 0 ≤ s → impl_LateFine.f k n p d s = some (fine n p d s) := fun s hs => implLate_in hn hn' hp hd hd' hpd hs hk
  have hr := implUp_is hn (by omega) hp hd hd' hpd
  have f1 := fine_one hn hu.1 hu.2.1
  have f0 := fine_zero (p := p) (d := d) hn hu.1
  have fe := fine_eq (t := t) hn ht hu.1
  have hm : 0 ≤ t * up n p d ∧ t * up n p d ≤ 1000000 * 100000 := by
    refine ⟨Int.mul_nonneg ht hu.1, ?_⟩
    have a : t * up n p d ≤ t * 100000 := Int.mul_le_mul_of_nonneg_left (by omega) ht
    omega
  have hw : wrap64 (t * up n p d) = t * up n p d := w64 (by omega) (by omega)
  simp only [laws_FnLateFine.j0]
  rw [if_neg (by simp), hl 1 (by omega), hr, hl 0 (by omega), f1, f0]
  simp only [Option.bind_some, if_true]
  rw [if_pos hb.2]
  have last : (if t > 1000 then (some true : Option Bool) else some (fine n p d t == mn n (wrap64 (t * up n p d)))) = some true := by
    rw [hw, ← fe]
    simp
  by_cases c : t = 0
  · rw [if_pos c]
    exact last
  · have hmono := fine_mono (p := p) (d := d) hn (t := t - 1) (s := t) (by omega) (by omega) hu.1
    rw [if_neg c, w64 (x := t - 1) (by omega) (by omega), hl (t - 1) (by omega)]
    simp only [Option.bind_some]
    rw [if_pos hmono]
    exact last
theorem law {l : List Int} (hl : ∀ x ∈ l, (Lit.int .u8 x).wf = true) {k : Nat} (hk : 2 ≤ k) : laws_FnLateFine.f (k + 1) l = some true := by
  unfold laws_FnLateFine.f
  by_cases c : (l.length : Int) > 1048576
  · rw [if_pos c]
  · rw [if_neg c]
    obtain ⟨n, p, d, t, hd, t0, t1⟩ := draw_is hl (k := k + 1) (by omega)
    rw [hd]
    simp only [Option.bind_some]
    by_cases h : 0 ≤ n ∧ n ≤ 100000 ∧ (0 ≤ p ∧ 1 ≤ d ∧ d ≤ 1000 ∧ p ≤ d) ∧ 0 ≤ t
    · obtain ⟨h1, h2, ⟨h3, h4, h5, h6⟩, h7⟩ := h
      have hb := fine_bd (t := t) h1 h7 (up_bd h1 (by omega) h3 h4 h5 h6).1
      have c0 : ¬ fine n p d t < 0 := by omega
      rw [specLate_in h1 h2 h3 h4 h5 h6 h7 (by omega), implLate_in h1 h2 h3 h4 h5 h6 h7 (by omega)]
      simp only [Option.bind_some, if_true]
      rw [decide_eq_false c0]
      exact j0_in h1 h2 h3 h4 h5 h6 h7 t1 (by omega)
    · rw [specLate_out h (by omega), implLate_out h (by omega)]
      simp only [Option.bind_some, if_true]
      rw [decide_eq_true (by omega)]
      simp only [laws_FnLateFine.j0, if_true]
      rw [specLate_out h (by omega)]
      rfl

theorem FnLateFine : laws_FnLateFine.Pure := by
  intro l _ _ hl
  exact ⟨3, law hl (k := 2) (by omega)⟩

end Go.Proofs.Ytgdnhidnojjpiab.Pure
