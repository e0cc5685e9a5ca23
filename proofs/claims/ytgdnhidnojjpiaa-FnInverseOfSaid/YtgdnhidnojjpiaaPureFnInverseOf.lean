/- The law FnInverseOf, as a statement on plain values, holds: InverseOf is the reference's, its product with the number leaves the rest 1, and it is its own inverse. For every code of at most 2^47 - 4096 bytes. -/
import Derived.Test.YtgdnhidnojjpiaaKit
import Derived.Test.YtgdnhidnojjpiaaPFnInverseOfx2
namespace Go.Proofs.Ytgdnhidnojjpiaa.Pure
open Go.RowKit Go.Proofs.Ytgdnhidnojjpiaa.PFnInverseOf Go.Proofs.Ytgdnhidnojjpiaa.Kit Go.Proofs.YtgdnhidnojjpiaaW.PrintWords

theorem newReader_is (l : List Int) (h : ∀ x ∈ l, (Lit.int .u8 x).wf = true) : ∃ b, RB b ∧ spec_newReader.f l = some (b, 0) := by
  have hb := bytes_bd h
  unfold spec_newReader.f
  by_cases c : (l.length : Int) > 2000
  · rw [if_pos c, if_pos (by omega)]
    exact ⟨l.take 2000, ⟨by rw [List.length_take]; omega, fun x hx => hb x (List.mem_of_mem_take hx)⟩, rfl⟩
  · rw [if_neg c]
    exact ⟨l, ⟨by omega, hb⟩, rfl⟩
theorem pick_is {b : List Int} (hb : RB b) {p : Int} (n : Int) (h0 : 0 ≤ p) (h1 : p ≤ 1000000) {k : Nat} (hk : 1 ≤ k) :
    ∃ r, spec_reader_pick.f k b p n = some (r, p + 1) ∧ 0 ≤ r ∧ (1 ≤ n → r < n) := by
  obtain ⟨k, rfl⟩ : ∃ j, k = j + 1 := ⟨k - 1, by omega⟩
  have e0 : wrap64 (p + 1) = p + 1 := w64 (by omega) (by omega)
  have e1 : wrap64 (p + 1 - 1) = p := by rw [w64 (by omega) (by omega)]; omega
  unfold spec_reader_pick.f
  rw [e0]
  by_cases hn : n < 1
  · rw [if_pos hn]
    exact ⟨0, by simp [spec_reader_pick.j0], by omega, by omega⟩
  · rw [if_neg hn]
    by_cases hz : b.length = 0
    · exact ⟨0, by simp [spec_reader_pick.j0, hz], by omega, by omega⟩
    · have hz' : ((b.length : Int) == 0) = false := by
        rw [beq_eq_false_iff_ne]; omega
      rw [hz']
      simp only [spec_reader_pick.j0, e1]
      rw [if_neg (by decide)]
      have hn0 : ¬ n = 0 := by omega
      by_cases hp : p < (b.length : Int)
      · have hr := rd_byte hb p
        rw [if_pos hp, if_pos h0, if_neg hn0, w64 (by omega) (by omega)]
        have ht := tmod_in hr.1 (n := n) (by omega)
        exact ⟨_, rfl, ht.1, fun _ => ht.2⟩
      · have hl : (1 : Int) ≤ (b.length : Int) := by omega
        have hl2 : (b.length : Int) ≤ 2000 := by have := hb.1; omega
        have q1 := tmod_in h0 hl
        have d1 := tdiv_in h0 hl
        have e2 : wrap64 (wrap64 (p * 7) + 3) = p * 7 + 3 := by simp (disch := omega) only [w64]
        have q2 := tmod_in (x := p * 7 + 3) (by omega) hl
        rw [if_neg hp, if_neg (by omega), if_pos q1.1, if_pos q1.2, e2, if_pos q2.1, if_pos q2.2, if_neg hn0]
        have r1 := rd_byte hb (Int.tmod p (b.length : Int))
        have r2 := rd_byte hb (Int.tmod (p * 7 + 3) (b.length : Int))
        generalize rd b (Int.tmod p (b.length : Int)) = x1 at r1 ⊢
        generalize rd b (Int.tmod (p * 7 + 3) (b.length : Int)) = x2 at r2 ⊢
        generalize Int.tdiv p (b.length : Int) = x3 at d1 ⊢
        have e3 : wrap64 (wrap64 (wrap64 (wrap64 (wrap64 x1 * 131) + wrap64 (wrap64 x2 * 1117)) + wrap64 (p * 29)) + wrap64 (wrap64 x3 * 53)) = x1 * 131 + x2 * 1117 + p * 29 + x3 * 53 := by
          simp (disch := omega) only [w64]
        rw [e3]
        have e4 : wrap64 (Int.tdiv (x1 * 131 + x2 * 1117 + p * 29 + x3 * 53) 64) = (x1 * 131 + x2 * 1117 + p * 29 + x3 * 53) / 64 := by
          rw [tdiv_nn _ (by omega), w64 (by omega) (by omega)]
        rw [e4]
        have hx := xor_nn (a := x1 * 131 + x2 * 1117 + p * 29 + x3 * 53) (b := (x1 * 131 + x2 * 1117 + p * 29 + x3 * 53) / 64) (by omega) (by omega) (by omega) (by omega)
        have ht := tmod_in hx (n := n) (by omega)
        exact ⟨_, rfl, ht.1, fun _ => ht.2⟩
theorem one_is {b : List Int} (hb : RB b) {p : Int} (L : List Int) (hL : 1 ≤ L.length) (h0 : 0 ≤ p) (h1 : p ≤ 1000000) {k : Nat} (hk : 1 ≤ k) :
    ∃ v, spec_reader_one.f k b p L = some (v, p + 1) ∧ v ∈ L := by
  obtain ⟨r, hr, hr0, hr1⟩ := pick_is hb (L.length : Int) h0 h1 hk
  have hlt := hr1 (by omega)
  unfold spec_reader_one.f
  rw [hr]
  simp only [Option.bind_some]
  rw [if_pos hr0, if_pos hlt]
  have e : r = ((r.toNat : Nat) : Int) := by omega
  refine ⟨_, rfl, ?_⟩
  rw [e]
  exact rd_mem (by omega)

def at_ (n : Int) : Option Bool := (impl_InverseOf.f 300 n).bind fun t123 => ((spec_InverseOf.f 300 n).bind fun t124 => (if t123 = t124 then (laws_FnInverseOf.j0 300 n t123 (decide (t123 < 0))) else (laws_FnInverseOf.j0 300 n t123 true)))
set_option maxRecDepth 100000 in
theorem inside : (List.range 250).all (fun i => at_ ((i : Int) + 1) == some true) = true := by
  decide +kernel
theorem all_ (a : Int) : at_ a = some true := by
  by_cases h1 : a < 1
  · have e1 : ¬ 1 ≤ a := by omega
    simp [at_, laws_FnInverseOf.j0, spec_InverseOf.f, impl_InverseOf.f, spec_inRange.f, impl_InverseOf.j0, h1, e1]
  · by_cases h2 : a > 250
    · have e1 : 1 ≤ a := by omega
      have e2 : ¬ a ≤ 250 := by omega
      simp [at_, laws_FnInverseOf.j0, spec_InverseOf.f, impl_InverseOf.f, spec_inRange.f, impl_InverseOf.j0, h1, h2, e1, e2]
    · have h := List.all_eq_true.mp inside (a - 1).toNat (List.mem_range.mpr (by omega))
      have e : (((a - 1).toNat : Nat) : Int) + 1 = a := by omega
      rw [e] at h
      simpa using h

theorem FnInverseOf : laws_FnInverseOf.Pure := by
  intro l _ _ hl
  refine ⟨300, ?_⟩
  unfold laws_FnInverseOf.f
  by_cases c : (l.length : Int) > 1048576
  · rw [if_pos c]
  · rw [if_neg c]
    obtain ⟨b, hb, hr⟩ := newReader_is l hl
    obtain ⟨x, hx, _, _⟩ := pick_is hb 250 (p := 0) (by omega) (by omega) (k := 300) (by omega)
    obtain ⟨n, hn, _⟩ := one_is hb [wrap64 (1 + x), 1, 250, 0, 251, (-1)] (by simp) (p := 0 + 1) (by omega) (by omega) (k := 300) (by omega)
    have hd : spec_DrawInverseOf.f 300 l = some n := by
      unfold spec_DrawInverseOf.f
      rw [hr]
      simp only [Option.bind_some, hx, hn]
    rw [hd]
    simp only [Option.bind_some]
    exact all_ n

end Go.Proofs.Ytgdnhidnojjpiaa.Pure
