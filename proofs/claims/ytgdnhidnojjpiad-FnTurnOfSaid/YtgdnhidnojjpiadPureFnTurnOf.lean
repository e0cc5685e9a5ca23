/- The law FnTurnOf, as a statement on plain values, holds: TurnOf is the reference's, and in the turn that it tells the order holds the member. For every code of at most 2^47 - 4096 bytes. -/
import Derived.Test.YtgdnhidnojjpiadKit
import Derived.Test.YtgdnhidnojjpiadQFnTurnOfx3
namespace Go.Proofs.Ytgdnhidnojjpiad.Pure
open Go.RowKit Go.Proofs.Ytgdnhidnojjpiad.PFnTurnOf Go.Proofs.Ytgdnhidnojjpiad.Kit Go.Proofs.YtgdnhidnojjpiadW.PrintWords

theorem newReader_is (l : List Int) (h : ∀ x ∈ l, (Lit.int .u8 x).wf = true) : ∃ b, RB b ∧ spec_newReader.f l = some (b, 0) := by
  have hb := bytes_bd h
  unfold spec_newReader.f
  by_cases c : (l.length : Int) > 2000
  · rw [if_pos c, if_pos (by omega)]
    exact ⟨l.take 2000, ⟨by rw [List.length_take]; omega, fun x hx => hb x (List.mem_of_mem_take hx)⟩, rfl⟩
  · rw [if_neg c]
    exact ⟨l, ⟨by omega, hb⟩, rfl⟩
theorem pick_is {b : List Int} (hb : RB b) {p : Int} (n : Int) (h0 : 0 ≤ p) (h1 : p ≤ 1000000) {k : Nat} (hk : 1 ≤ k) :
    ∃ r, spec_reader_pick.f k b p n = some (r, p + 1) ∧ 0 ≤ r ∧ (1 ≤ n → r < n) := by
  obtain ⟨k, rfl⟩ : ∃ j, k = j + 1 := ⟨k - 1, by omega⟩
  have e0 : wrap64 (p + 1) = p + 1 := w64 (by omega) (by omega)
  have e1 : wrap64 (p + 1 - 1) = p := by rw [w64 (by omega) (by omega)]; omega
  unfold spec_reader_pick.f
  rw [e0]
  by_cases hn : n < 1
  · rw [if_pos hn]
    exact ⟨0, by simp [spec_reader_pick.j0], by omega, by omega⟩
  · rw [if_neg hn]
    by_cases hz : b.length = 0
    · exact ⟨0, by simp [spec_reader_pick.j0, hz], by omega, by omega⟩
    · have hz' : ((b.length : Int) == 0) = false := by
        rw [beq_eq_false_iff_ne]; omega
      rw [hz']
      simp only [spec_reader_pick.j0, e1]
      rw [if_neg (by decide)]
      have hn0 : ¬ n = 0 := by omega
      by_cases hp : p < (b.length : Int)
      · have hr := rd_byte hb p
        rw [if_pos hp, if_pos h0, if_neg hn0, w64 (by omega) (by omega)]
        have ht := tmod_in hr.1 (n := n) (by omega)
        exact ⟨_, rfl, ht.1, fun _ => ht.2⟩
      · have hl : (1 : Int) ≤ (b.length : Int) := by omega
        have hl2 : (b.length : Int) ≤ 2000 := by have := hb.1; omega
        have q1 := tmod_in h0 hl
        have d1 := tdiv_in h0 hl
        have e2 : wrap64 (wrap64 (p * 7) + 3) = p * 7 + 3 := by simp (disch := omega) only [w64]
        have q2 := tmod_in (x := p * 7 + 3) (by omega) hl
        rw [if_neg hp, if_neg (by omega), if_pos q1.1, if_pos q1.2, e2, if_pos q2.1, if_pos q2.2, if_neg hn0]
        have r1 := rd_byte hb (Int.tmod p (b.length : Int))
        have r2 := rd_byte hb (Int.tmod (p * 7 + 3) (b.length : Int))
        generalize rd b (Int.tmod p (b.length : Int)) = x1 at r1 ⊢
        generalize rd b (Int.tmod (p * 7 + 3) (b.length : Int)) = x2 at r2 ⊢
        generalize Int.tdiv p (b.length : Int) = x3 at d1 ⊢
        have e3 : wrap64 (wrap64 (wrap64 (wrap64 (wrap64 x1 * 131) + wrap64 (wrap64 x2 * 1117)) + wrap64 (p * 29)) + wrap64 (wrap64 x3 * 53)) = x1 * 131 + x2 * 1117 + p * 29 + x3 * 53 := by
          simp (disch := omega) only [w64]
        rw [e3]
        have e4 : wrap64 (Int.tdiv (x1 * 131 + x2 * 1117 + p * 29 + x3 * 53) 64) = (x1 * 131 + x2 * 1117 + p * 29 + x3 * 53) / 64 := by
          rw [tdiv_nn _ (by omega), w64 (by omega) (by omega)]
        rw [e4]
        have hx := xor_nn (a := x1 * 131 + x2 * 1117 + p * 29 + x3 * 53) (b := (x1 * 131 + x2 * 1117 + p * 29 + x3 * 53) / 64) (by omega) (by omega) (by omega) (by omega)
        have ht := tmod_in hx (n := n) (by omega)
        exact ⟨_, rfl, ht.1, fun _ => ht.2⟩
theorem one_is {b : List Int} (hb : RB b) {p : Int} (L : List Int) (hL : 1 ≤ L.length) (h0 : 0 ≤ p) (h1 : p ≤ 1000000) {k : Nat} (hk : 1 ≤ k) :
    ∃ v, spec_reader_one.f k b p L = some (v, p + 1) ∧ v ∈ L := by
  obtain ⟨r, hr, hr0, hr1⟩ := pick_is hb (L.length : Int) h0 h1 hk
  have hlt := hr1 (by omega)
  unfold spec_reader_one.f
  rw [hr]
  simp only [Option.bind_some]
  rw [if_pos hr0, if_pos hlt]
  have e : r = ((r.toNat : Nat) : Int) := by omega
  refine ⟨_, rfl, ?_⟩
  rw [e]
  exact rd_mem (by omega)
theorem place_l0 (a : Int) (l : List Int) (hl : l.length ≤ 1048576) : ∀ (d k i : Nat), l.length - i = d → d < k → i ≤ l.length → spec_placeIn.l0 k l a (i : Int) = some (placeFrom a (l.drop i) i) := by
  intro d
  induction d with
  | zero =>
    intro k i hd hk hi
    obtain ⟨k, rfl⟩ : ∃ j, k = j + 1 := ⟨k - 1, by omega⟩
    simp only [spec_placeIn.l0]
    rw [if_neg (by omega), List.drop_of_length_le (by omega)]
    rfl
  | succ d ih =>
    intro k i hd hk hi
    obtain ⟨k, rfl⟩ : ∃ j, k = j + 1 := ⟨k - 1, by omega⟩
    have e : wrap64 ((i : Int) + 1) = ((i + 1 : Nat) : Int) := by rw [w64 (by omega) (by omega)]; simp
    simp only [spec_placeIn.l0]
    rw [if_pos (by omega), if_pos (by omega), e, drop_rd (by omega)]
    unfold placeFrom
    by_cases c : rd l (i : Int) = a
    · rw [if_pos c, if_pos c]
    · rw [if_neg c, if_neg c]
      exact ih k (i + 1) (by omega) (by omega) (by omega)
theorem place_is (a : Int) {l : List Int} (hl : l.length ≤ 1048576) {k : Nat} (hk : l.length < k) : spec_placeIn.f k l a = some (placeFrom a l 0) := by
  unfold spec_placeIn.f
  have h := place_l0 a l hl l.length k 0 (by omega) hk (by omega)
  simpa using h
theorem members_l0 (n : Int) (hn : 0 ≤ n) (hn' : n ≤ 1048576) (l : List Int) (hl : l.length ≤ 1048576) : ∀ (d k i : Nat), l.length - i = d → d + l.length < k → i ≤ l.length → spec_validMembers.l0 k l n (i : Int) = some (chk n (l.take i) (l.drop i)) := by
  intro d
  induction d with
  | zero =>
    intro k i hd hk hi
    obtain ⟨k, rfl⟩ : ∃ j, k = j + 1 := ⟨k - 1, by omega⟩
    simp only [spec_validMembers.l0]
    rw [if_neg (by omega), List.drop_of_length_le (by omega)]
    simp [chk]
  | succ d ih =>
    intro k i hd hk hi
    obtain ⟨k, rfl⟩ : ∃ j, k = j + 1 := ⟨k - 1, by omega⟩
    have e : wrap64 ((i : Int) + 1) = ((i + 1 : Nat) : Int) := by rw [w64 (by omega) (by omega)]; simp
    have e1 : wrap64 (n - 1) = n - 1 := w64 (by omega) (by omega)
    simp only [spec_validMembers.l0]
    rw [if_pos (by omega), if_pos (by omega), e, e1, drop_rd (by omega), Int.toNat_natCast]
    unfold chk spec_inRange.f
    generalize hx : rd l (i : Int) = x
    by_cases c1 : 0 ≤ x
    · rw [if_pos c1]
      simp only [Option.bind_some]
      by_cases c2 : x < n
      · have c2' : decide (x ≤ n - 1) = true := decide_eq_true (by omega)
        rw [c2', if_pos rfl, if_pos (by omega), place_is x (by rw [List.length_take]; omega) (by rw [List.length_take]; omega)]
        simp only [Option.bind_some]
        have hp := (placeFrom_mem x (l.take i) 0).1
        by_cases c3 : x ∈ l.take i
        · rw [if_pos (hp.mpr c3), if_neg (fun y => y.2.2 c3)]
        · rw [if_neg (fun y => c3 (hp.mp y)), if_pos ⟨c1, c2, c3⟩, ih k (i + 1) (by omega) (by omega) (by omega), take_rd (by omega), hx]
      · have c2' : decide (x ≤ n - 1) = false := decide_eq_false (by omega)
        have c4 : ¬ (0 ≤ x ∧ x < n ∧ ¬ x ∈ l.take i) := fun y => c2 y.2.1
        rw [c2', if_neg (by simp), if_neg c4]
    · have c4 : ¬ (0 ≤ x ∧ x < n ∧ ¬ x ∈ l.take i) := fun y => c1 y.1
      rw [if_neg c1, if_neg c4]
      simp
theorem members_is {n : Int} (hn : 0 ≤ n) (hn' : n ≤ 1048576) {l : List Int} (hl : l.length ≤ 1048576) {k : Nat} (hk : 2 * l.length < k) : spec_validMembers.f k l n = some (chk n [] l) := by
  unfold spec_validMembers.f
  have h := members_l0 n hn hn' l hl l.length k 0 (by omega) (by omega) (by omega)
  simpa using h
theorem different_l0 (n : Nat) (_ : n ≤ 1048576) (l : List Int) (hl : l.length ≤ 1048576) : ∀ (d k i : Nat) (s : List Bool), l.length - i = d → d < k → i ≤ l.length → s.length = n → (∀ v : Nat, v < n → s[v]? = some (decide ((v : Int) ∈ l.take i))) →
    impl_differentBelow.l0 k (n : Int) s l (l.length : Int) (i : Int) = some (chk (n : Int) (l.take i) (l.drop i)) := by
  intro d
  induction d with
  | zero =>
    intro k i s hd hk hi hs h
    obtain ⟨k, rfl⟩ : ∃ j, k = j + 1 := ⟨k - 1, by omega⟩
    simp only [impl_differentBelow.l0]
    rw [if_neg (by omega), List.drop_of_length_le (by omega)]
    simp [chk]
  | succ d ih =>
    intro k i s hd hk hi hs h
    obtain ⟨k, rfl⟩ : ∃ j, k = j + 1 := ⟨k - 1, by omega⟩
    have e : wrap64 ((i : Int) + 1) = ((i + 1 : Nat) : Int) := by rw [w64 (by omega) (by omega)]; simp
    simp only [impl_differentBelow.l0]
    rw [if_pos (by omega), if_pos (by omega), if_pos (by omega), e, drop_rd (by omega)]
    unfold chk
    generalize hx : rd l (i : Int) = x
    by_cases c1 : x < 0
    · rw [if_pos c1, if_neg (fun y => by omega)]
    · rw [if_neg c1]
      by_cases c2 : x < (n : Int)
      · rw [if_neg (by omega), if_pos (by omega), if_pos (by omega)]
        have hv := h x.toNat (by omega)
        have ex : ((x.toNat : Nat) : Int) = x := by omega
        rw [ex] at hv
        have hr : rdOf false s x = decide (x ∈ l.take i) := by
          unfold rdOf
          rw [List.getD_eq_getElem?_getD, hv]
          rfl
        rw [hr]
        by_cases c3 : x ∈ l.take i
        · rw [decide_eq_true c3, if_pos rfl, if_neg (fun y => y.2.2 c3)]
        · rw [decide_eq_false c3, if_neg (by simp), if_pos ⟨by omega, c2, c3⟩]
          rw [ih k (i + 1) _ (by omega) (by omega) (by omega) (by simpa using hs) ?_, take_rd (by omega), hx]
          intro v hv'
          rw [set_at (by omega), take_rd (by omega), hx]
          by_cases c4 : x.toNat = v
          · have c5 : (v : Int) = x := by omega
            rw [if_pos c4, c5]
            simp
          · have c5 : ¬ (v : Int) = x := by omega
            rw [if_neg c4, h v hv']
            simp [c5]
      · rw [if_pos (by omega), if_neg (fun y => c2 y.2.1)]
theorem different_is {n : Nat} (hn : n ≤ 1048576) {l : List Int} (hl : l.length ≤ n) {k : Nat} (hk : l.length < k) : impl_differentBelow.f k l (n : Int) = some (chk (n : Int) [] l) := by
  unfold impl_differentBelow.f
  rw [if_neg (by omega), if_pos (by omega), if_pos (by omega)]
  have h := different_l0 n hn l (by omega) l.length k 0 (List.replicate ((n : Int)).toNat false) (by omega) hk (by omega) (by simp) (by
    intro v hv
    simp [List.getElem?_replicate]
    omega)
  simpa using h
def okOrder (l : List Int) : Bool := decide (1 ≤ l.length) && (decide (l.length ≤ 12) && chk (l.length : Int) [] l)
theorem specOrder_is {l : List Int} (hl : l.length ≤ 1048576) {k : Nat} (hk : 30 ≤ k) : spec_validOrder.f k l = some (okOrder l) := by
  unfold spec_validOrder.f okOrder spec_inRange.f
  by_cases c1 : 1 ≤ l.length
  · have c1' : (1 : Int) ≤ (l.length : Int) := by omega
    by_cases c2 : l.length ≤ 12
    · have c2' : (l.length : Int) ≤ 12 := by omega
      simp only [c1', c2', c1, c2, if_true, decide_true, Option.bind_some, Bool.true_and]
      rw [members_is (n := (l.length : Int)) (by omega) (by omega) hl (by omega)]
      simp
    · have c2' : ¬ (l.length : Int) ≤ 12 := by omega
      simp [c1', c2', c1, c2]
  · have c1' : ¬ (1 : Int) ≤ (l.length : Int) := by omega
    simp [c1', c1]
theorem implOrder_is {l : List Int} (hl : l.length ≤ 1048576) {k : Nat} (hk : 30 ≤ k) : impl_ValidOrder.f k l = some (okOrder l) := by
  unfold impl_ValidOrder.f okOrder
  by_cases c1 : 1 ≤ l.length
  · have c1' : (l.length : Int) ≥ 1 := by omega
    by_cases c2 : l.length ≤ 12
    · have c2' : (l.length : Int) ≤ 12 := by omega
      rw [if_pos c1', if_pos c2', different_is (n := l.length) hl (by omega) (by omega)]
      simp [c1, c2]
    · have c2' : ¬ (l.length : Int) ≤ 12 := by omega
      simp [c1', c2', c1, c2]
  · have c1' : ¬ (l.length : Int) ≥ 1 := by omega
    simp [c1', c1]
theorem okOrder_true {l : List Int} (h : okOrder l = true) : 1 ≤ l.length ∧ l.length ≤ 12 ∧ (∀ x ∈ l, 0 ≤ x ∧ x < (l.length : Int)) ∧ l.Nodup := by
  unfold okOrder at h
  simp only [Bool.and_eq_true, decide_eq_true_eq] at h
  have c := chk_true l [] h.2.2 (by simp)
  exact ⟨h.1, h.2.1, c.1, by simpa using c.2⟩
theorem index_l0 (a : Int) (l : List Int) (hl : l.length ≤ 1048576) : ∀ (d k i : Nat), l.length - i = d → d < k → i ≤ l.length → slices_Index_int_int.l0 k l a (l.length : Int) (i : Int) = some (placeFrom a (l.drop i) i) := by
  intro d
  induction d with
  | zero =>
    intro k i hd hk hi
    obtain ⟨k, rfl⟩ : ∃ j, k = j + 1 := ⟨k - 1, by omega⟩
    simp only [slices_Index_int_int.l0]
    rw [if_neg (by omega), List.drop_of_length_le (by omega)]
    rfl
  | succ d ih =>
    intro k i hd hk hi
    obtain ⟨k, rfl⟩ : ∃ j, k = j + 1 := ⟨k - 1, by omega⟩
    have e : wrap64 ((i : Int) + 1) = ((i + 1 : Nat) : Int) := by rw [w64 (by omega) (by omega)]; simp
    simp only [slices_Index_int_int.l0]
    rw [if_pos (by omega), if_pos (by omega), if_pos (by omega), e, drop_rd (by omega)]
    unfold placeFrom
    by_cases c : rd l (i : Int) = a
    · rw [if_pos c.symm, if_pos c]
    · rw [if_neg (fun y => c y.symm), if_neg c]
      exact ih k (i + 1) (by omega) (by omega) (by omega)
theorem index_is (a : Int) {l : List Int} (hl : l.length ≤ 1048576) {k : Nat} (hk : l.length < k) : slices_Index_int_int.f k l a = some (placeFrom a l 0) := by
  unfold slices_Index_int_int.f
  have h := index_l0 a l hl l.length k 0 (by omega) hk (by omega)
  simpa using h

theorem spec_is {l : List Int} (hl : l.length ≤ 1048576) (a : Int) {k : Nat} (hk : l.length + 40 ≤ k) : spec_TurnOf.f k l a = some (if okOrder l = true then placeFrom a l 0 else -1) := by
  unfold spec_TurnOf.f
  rw [specOrder_is hl (by omega)]
  simp only [Option.bind_some]
  by_cases c : okOrder l = true
  · rw [if_pos c, if_pos c, place_is a hl (by omega)]
    rfl
  · rw [if_neg c, if_neg c]
theorem impl_is {l : List Int} (hl : l.length ≤ 1048576) (a : Int) {k : Nat} (hk : l.length + 40 ≤ k) : impl_TurnOf.f k l a = some (if okOrder l = true then placeFrom a l 0 else -1) := by
  unfold impl_TurnOf.f
  rw [implOrder_is hl (by omega)]
  simp only [Option.bind_some]
  by_cases c : okOrder l = true
  · rw [if_pos c, if_pos c, index_is a hl (by omega)]
    rfl
  · rw [if_neg c, if_neg c]
theorem copy_is {l : List Int} (hl : l.length ≤ 100) : spec_copyInts.f l = some l := by
  have c : 0 + l.length < 17592186044416 := by rw [Nat.zero_add]; exact Nat.lt_of_le_of_lt hl (by decide)
  unfold spec_copyInts.f
  simp -implicitDefEqProofs only [Option.bind_some, List.nil_append, List.length_nil]
  rw [if_pos c]
theorem cut_len (x : List Int) (r : Nat) (h : r ≤ x.length) (v : Int) : (x.take r ++ [v] ++ x.drop r).length = x.length + 1 := by
  rw [List.length_append, List.length_append, List.length_take, List.length_drop]
  simp only [List.length_cons, List.length_nil]
  generalize x.length = n at h
  omega
theorem cut_s1 (x : List Int) (r : Nat) (h : x.length ≤ 12) : (x.take r).length < 17592186044416 :=
  Nat.lt_of_le_of_lt (Nat.le_trans (List.length_take_le' r x) h) (by decide)
theorem cut_s2 (x : List Int) (r : Nat) (h : r ≤ x.length) (hx : x.length ≤ 12) (v : Int) : (x.take r ++ [v]).length + (x.drop r).length < 17592186044416 := by
  rw [← List.length_append, cut_len x r h v]
  exact Nat.lt_of_le_of_lt (Nat.succ_le_succ hx) (by decide)
theorem cut_s3 (x : List Int) (r : Nat) (h : x.length ≤ 12) : (x.drop r).length ≤ 100 := by
  rw [List.length_drop]
  exact Nat.le_trans (Nat.sub_le _ _) (Nat.le_trans h (by decide))
theorem turns_step {b : List Int} {n i : Int} {x : List Int} {p r : Int} {k : Nat} (hx : x.length ≤ 12) (c1 : i < n) (hr : spec_reader_pick.f k b p ((x.length : Int) + 1) = some (r, p + 1)) (r0 : 0 ≤ r) (c3 : r ≤ (x.length : Int)) (c4 : r.toNat ≤ x.length) (ew : wrap64 ((x.length : Int) + 1) = (x.length : Int) + 1) :
    spec_turns.l0 (k + 1) n x i b p = spec_turns.l0 k n (x.take r.toNat ++ [i] ++ x.drop r.toNat) (wrap64 (i + 1)) b (p + 1) := by
  rw [spec_turns.l0]
  rw [if_pos c1, ew, hr]
  simp only [Option.bind_some]
  rw [if_pos r0, if_pos c3, copy_is (cut_s3 x r.toNat hx)]
  simp only [Option.bind_some]
  rw [if_pos (cut_s1 x r.toNat hx), if_pos (cut_s2 x r.toNat c4 hx i)]
theorem turns_l0 {b : List Int} (hb : RB b) (n : Nat) (hn : n ≤ 12) : ∀ (d k i : Nat) (x : List Int) (p : Int), n - i = d → d + 1 < k → i ≤ n → x.length = i → 0 ≤ p → p + (d : Int) ≤ 900 →
    ∃ out, spec_turns.l0 k (n : Int) x (i : Int) b p = some (out, p + (d : Int)) ∧ out.length = n := by
  intro d
  induction d with
  | zero =>
    intro k i x p hd hk hi hx h0 h1
    obtain ⟨k, rfl⟩ : ∃ j, k = j + 1 := ⟨k - 1, by omega⟩
    have c : ¬ (i : Int) < (n : Int) := by omega
    refine ⟨x, ?_, by omega⟩
    rw [spec_turns.l0, if_neg c]
    simp
  | succ d ih =>
    intro k i x p hd hk hi hx h0 h1
    obtain ⟨k, rfl⟩ : ∃ j, k = j + 1 := ⟨k - 1, by omega⟩
    obtain ⟨r, hr, r0, r1⟩ := pick_is hb ((x.length : Int) + 1) (p := p) (by omega) (by omega) (k := k) (by omega)
    have r2 := r1 (by omega)
    have c1 : (i : Int) < (n : Int) := by omega
    have c3 : r ≤ (x.length : Int) := by omega
    have c4 : r.toNat ≤ x.length := by omega
    have c5 : x.length ≤ 12 := by omega
    have c6 : p + 1 + (d : Int) = p + ((d + 1 : Nat) : Int) := by omega
    have ew : wrap64 ((x.length : Int) + 1) = (x.length : Int) + 1 := w64 (by omega) (by omega)
    have l3 := cut_len x r.toNat c4 (i : Int)
    rw [hx] at l3
    obtain ⟨out, ho, hlen⟩ := ih k (i + 1) (x.take r.toNat ++ [(i : Int)] ++ x.drop r.toNat) (p + 1) (by clear l3 ew hr; omega) (by clear l3 ew hr; omega) (by clear l3 ew hr; omega) l3 (by clear l3 ew hr; omega) (by clear l3 ew hr; omega)
    refine ⟨out, ?_, hlen⟩
    rw [turns_step c5 c1 hr r0 c3 c4 ew, wsucc i (by clear l3 ew hr ho; omega), ← c6]
    exact ho
theorem draw_is {l : List Int} (hl : ∀ x ∈ l, (Lit.int .u8 x).wf = true) {k : Nat} (hk : 30 ≤ k) : ∃ r a, spec_DrawTurnOf.f k l = some (r, a) ∧ r.length ≤ 12 := by
  obtain ⟨b, hb, hr⟩ := newReader_is l hl
  obtain ⟨n, hn, mn⟩ := one_is hb [4, 3, 5, 1, 2, 7, 12] (by simp) (p := 0) (by omega) (by omega) (k := k) (by omega)
  simp only [List.mem_cons, List.not_mem_nil, or_false] at mn
  obtain ⟨m, rfl⟩ : ∃ m : Nat, n = (m : Int) := ⟨n.toNat, by omega⟩
  obtain ⟨x, hx, hlen⟩ := turns_l0 hb m (by omega) m k 0 [] (0 + 1) (by omega) (by omega) (by omega) rfl (by omega) (by omega)
  have ht : spec_turns.f k b (0 + 1) (m : Int) = some (x, 0 + 1 + (m : Int)) := hx
  obtain ⟨c, hc, c0, _⟩ := pick_is hb 20 (p := 0 + 1 + (m : Int)) (by omega) (by omega) (k := k) (by omega)
  have hany : ∃ r q, spec_anyOrder.f k b 0 = some (r, q) ∧ r.length ≤ 12 ∧ 0 ≤ q ∧ q ≤ 100 := by
    have e1 : wrap64 ((x.length : Int) - 1) = (x.length : Int) - 1 := w64 (by omega) (by omega)
    have a1 : 0 ≤ (x.length : Int) - 1 := by omega
    have a2 : (x.length : Int) - 1 < (x.length : Int) := by omega
    have a3 : 0 < (x.length : Int) := by omega
    unfold spec_anyOrder.f
    rw [hn]
    simp only [Option.bind_some]
    rw [ht]
    simp only [Option.bind_some]
    rw [hc]
    simp only [Option.bind_some]
    by_cases d0 : c = 0
    · obtain ⟨v, hv, _⟩ := one_is hb [(-1), 12, rd x ((x.length : Int) - 1)] (by simp) (p := 0 + 1 + (m : Int) + 1) (by omega) (by omega) (k := k) (by omega)
      rw [if_pos d0, e1, if_pos a1, if_pos a2, hv]
      simp only [Option.bind_some]
      rw [if_pos a3]
      exact ⟨_, _, rfl, by rw [List.length_set]; omega, by omega, by omega⟩
    · rw [if_neg d0]
      by_cases d1 : c = 1
      · rw [if_pos d1]
        exact ⟨[], _, rfl, by simp, by omega, by omega⟩
      · rw [if_neg d1]
        exact ⟨x, _, rfl, by omega, by omega, by omega⟩
  obtain ⟨r, q, hq, hrl, q0, q1⟩ := hany
  obtain ⟨a, ha, _⟩ := one_is hb [0, 1, 2, 3, (-1), 12] (by simp) (p := q) (by omega) (by omega) (k := k) (by omega)
  refine ⟨r, a, ?_, hrl⟩
  unfold spec_DrawTurnOf.f
  rw [hr]
  simp only [Option.bind_some]
  rw [hq]
  simp only [Option.bind_some]
  rw [ha]
  rfl
theorem place_rd (a : Int) : ∀ (t l : List Int) (i : Nat), l.drop i = t → 0 ≤ placeFrom a t i → ∃ j : Nat, placeFrom a t i = (j : Int) ∧ j < l.length ∧ rd l (j : Int) = a := by
  intro t
  induction t with
  | nil => intro l i h h0; simp [placeFrom] at h0
  | cons x t ih =>
    intro l i h h0
    have hi : i < l.length := by
      rcases Nat.lt_or_ge i l.length with c | c
      · exact c
      · rw [List.drop_of_length_le c] at h
        exact absurd h (by simp)
    rw [drop_rd hi] at h
    injection h with h1 h2
    unfold placeFrom at h0 ⊢
    by_cases c : x = a
    · rw [if_pos c]
      exact ⟨i, rfl, hi, h1.trans c⟩
    · rw [if_neg c] at h0 ⊢
      exact ih l (i + 1) h2 h0
theorem law {l : List Int} (hl : ∀ x ∈ l, (Lit.int .u8 x).wf = true) {k : Nat} (hk : 60 ≤ k) : laws_FnTurnOf.f k l = some true := by
  unfold laws_FnTurnOf.f
  by_cases c : (l.length : Int) > 1048576
  · rw [if_pos c]
  · rw [if_neg c]
    obtain ⟨r, a, hd, hlen⟩ := draw_is hl (k := k) (by omega)
    have hs := spec_is (l := r) (by omega) a (k := k) (by omega)
    have hi := impl_is (l := r) (by omega) a (k := k) (by omega)
    rw [hd]
    simp only [Option.bind_some]
    rw [hs, hi]
    simp only [Option.bind_some, if_true]
    generalize hg : (if okOrder r = true then placeFrom a r 0 else -1) = g
    by_cases c1 : g < 0
    · rw [if_pos c1]
      simp
    · rw [if_neg c1]
      by_cases ho : okOrder r = true
      · rw [if_pos ho] at hg
        obtain ⟨j, hj, jl, jr⟩ := place_rd a r r 0 rfl (by omega)
        rw [hg] at hj
        have b1 : 0 ≤ g := by omega
        have b2 : g < (r.length : Int) := by omega
        rw [if_pos b1, if_pos b2, hj, jr]
        simp
      · rw [if_neg ho] at hg
        omega

theorem FnTurnOf : laws_FnTurnOf.Pure := by
  intro l _ _ hl
  exact ⟨60, law hl (Nat.le_refl 60)⟩

end Go.Proofs.Ytgdnhidnojjpiad.Pure
