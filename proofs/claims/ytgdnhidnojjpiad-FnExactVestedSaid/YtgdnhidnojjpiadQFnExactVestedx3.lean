/- The program's Vested answers what its plain function answers, for all 64-bit integers. -/
import Derived.Laws.BitsLemmas
import Derived.Test.YtgdnhidnojjpiadPFnExactVestedx0
import Derived.Test.YtgdnhidnojjpiadQFnExactVestedx2
namespace Go.Proofs.Ytgdnhidnojjpiad.PFnExactVested
open Go.RowKit Go.Proofs.YtgdnhidnojjpiadW.PrintWords Go.Proofs.YtgdnhidnojjpiadW.PrintLast Go.Proofs.YtgdnhidnojjpiadW.PrintMore
set_option linter.unusedVariables false
set_option linter.unusedSimpArgs false

theorem wrapU (n : Int) : IntKind.u64.wrap n = n % 18446744073709551616 := by simp [IntKind.wrap, IntKind.bits, IntKind.signed]
theorem wrapU_id {n : Int} (h : 0 ≤ n) (h' : n < 18446744073709551616) : IntKind.u64.wrap n = n := by rw [wrapU]; omega
theorem mask32 {x : Int} (h : 0 ≤ x) (h' : x < 18446744073709551616) : Go.bits .and .u64 x 4294967295 = x % 4294967296 :=
  bits_mask .u64 64 (by decide) (fun n a b => wrapU_id a (by omega)) 32 (by decide) x h h'
theorem mul_small {s m : Int} (h : 0 ≤ s) (h' : s ≤ 100000) (hm : 0 ≤ m) (hm' : m ≤ 1000) : bits_Mul64.f s m = some (0, s * m) := by
  have p0 : 0 ≤ s * m := Int.mul_nonneg h hm
  have p1 : s * m ≤ 100000 * 1000 := Int.le_trans (Int.mul_le_mul_of_nonneg_right h' hm) (Int.mul_le_mul_of_nonneg_left hm' (by omega))
  have a1 : Go.bits .and .u64 s 4294967295 = s := by rw [mask32 h (by omega)]; omega
  have a2 : Go.bits .and .u64 m 4294967295 = m := by rw [mask32 hm (by omega)]; omega
  have a3 : Go.bits .and .u64 0 4294967295 = 0 := by rw [mask32 (by omega) (by omega)]; omega
  have d1 : s / 4294967296 = 0 := by omega
  have d2 : m / 4294967296 = 0 := by omega
  have z : IntKind.u64.wrap 0 = 0 := wrapU_id (by omega) (by omega)
  unfold bits_Mul64.f
  rw [a1, a2, d1, d2, wrapU_id (n := s * m) p0 (by omega)]
  have d3 : s * m / 4294967296 = 0 := by omega
  rw [d3]
  simp only [Int.zero_mul, Int.mul_zero, z, Int.add_zero, Int.zero_ediv, a3]

def impl_Vested.f (s m t : Int) : Int := if s < 0 then -1 else if 100000 < s then -1 else if m < 0 then -1 else if t < 1 then -1 else if 999 < t then -1 else if t ≤ m then s else s * m / t
set_option maxHeartbeats 8000000 in
set_option maxRecDepth 100000 in
theorem impl_Vested.part (s m t : Int) (w : World) (h : 0 ≤ s) (h' : s ≤ 100000) (hm : 0 ≤ m) (ht : 1 ≤ t) (ht' : t ≤ 999) (hmt : m < t) :
    Calls Try.prog 12 #[.int .i64 s, .int .i64 m, .int .i64 t] w fun e w' => e = .returned (.int .i64 (s * m / t)) ∧ Below w.heap.size w w' := by
  have HB := Aside0.mk (Below.refl w.heap.size w)
  have c1 : decide (s < 0) = false := decide_eq_false (by omega)
  have c2 : decide (100000 < s) = false := decide_eq_false (by omega)
  have c3 : decide (m < 0) = false := decide_eq_false (by omega)
  have c4 : decide (t < 1) = false := decide_eq_false (by omega)
  have c5 : decide (999 < t) = false := decide_eq_false (by omega)
  have c6 : decide (t ≤ m) = false := decide_eq_false (by omega)
  have hM := mul_small h h' hm (by omega)
  have hT : 0 < t := by omega
  have p0 : 0 ≤ s * m := Int.mul_nonneg h hm
  have p1 : s * m ≤ 100000 * 1000 := Int.le_trans (Int.mul_le_mul_of_nonneg_right h' hm) (Int.mul_le_mul_of_nonneg_left (by omega) (by omega))
  have q0 : 0 ≤ s * m / t := Int.ediv_nonneg p0 (by omega)
  have q1 : s * m / t ≤ s * m := Int.ediv_le_self _ p0
  have e1 : IntKind.u64.wrap (Int.tdiv (s * m) t) = s * m / t := by rw [Int.tdiv_eq_ediv_of_nonneg p0]; exact wrapU_id q0 (by omega)
  have hD : ∀ w : World, Calls Try.prog 26 #[.int .u64 0, .int .u64 (s * m), .int .u64 t] w fun e w' => e = .returned (.tuple #[.int .u64 (s * m / t), .int .u64 (Int.tmod (s * m) t)]) ∧ Drawn0 w w' := by
    intro w
    have := bits_Div64.calls (s * m) t w hT
    rw [e1] at this
    exact this
  have e2 : IntKind.i64.wrap (s * m / t) = s * m / t := by rw [IntKind.wrap_i64]; omega
  clear e1
  generalize s * m / t = q at *
  generalize s * m = z at *
  go_enter Try.func12, Try.ntmps12
  go_wp2_with (first | (go_at_call 25; (with_reducible refine (bits_Mul64.calls s m 0 z _ hM).mono ?_); rintro e w' ⟨rfl, ⟨nd, rfl⟩⟩) | (go_at_call 26; (with_reducible refine (hD _).mono ?_); rintro e w' ⟨rfl, ⟨nd, rfl⟩⟩))
  go_ret
  exact ⟨by first | rfl | (simp [errW_none, errW_some] <;> rfl) | (simp [*, errW_none, errW_some] <;> rfl), by repeat (first | (with_reducible first | exact HB.out | apply below_alloc | apply pw_below_drewN | apply below_drew1) | exact HB.out)⟩
set_option maxHeartbeats 8000000 in
set_option maxRecDepth 100000 in
theorem impl_Vested.way0 (s m t : Int) (w : World)  (h0 : s < 0) :
    Calls Try.prog 12 #[.int .i64 s, .int .i64 m, .int .i64 t] w fun e w' => e = .returned (.int .i64 (-1)) ∧ Below w.heap.size w w' := by
  have HB := Aside0.mk (Below.refl w.heap.size w)
  have c0 : decide (s < 0) = true := decide_eq_true h0
  clear h0
  go_enter Try.func12, Try.ntmps12
  go_wp2
  go_ret
  exact ⟨by first | rfl | (simp [errW_none, errW_some] <;> rfl) | (simp [*, errW_none, errW_some] <;> rfl), by repeat (first | (with_reducible first | exact HB.out | apply below_alloc | apply pw_below_drewN | apply below_drew1) | exact HB.out)⟩
set_option maxHeartbeats 8000000 in
set_option maxRecDepth 100000 in
theorem impl_Vested.way1 (s m t : Int) (w : World) (h0 : ¬ (s < 0)) (h1 : 100000 < s) :
    Calls Try.prog 12 #[.int .i64 s, .int .i64 m, .int .i64 t] w fun e w' => e = .returned (.int .i64 (-1)) ∧ Below w.heap.size w w' := by
  have HB := Aside0.mk (Below.refl w.heap.size w)
  have c0 : decide (s < 0) = false := decide_eq_false h0
  have c1 : decide (100000 < s) = true := decide_eq_true h1
  clear h0 h1
  go_enter Try.func12, Try.ntmps12
  go_wp2
  go_ret
  exact ⟨by first | rfl | (simp [errW_none, errW_some] <;> rfl) | (simp [*, errW_none, errW_some] <;> rfl), by repeat (first | (with_reducible first | exact HB.out | apply below_alloc | apply pw_below_drewN | apply below_drew1) | exact HB.out)⟩
set_option maxHeartbeats 8000000 in
set_option maxRecDepth 100000 in
theorem impl_Vested.way2 (s m t : Int) (w : World) (h0 : ¬ (s < 0)) (h1 : ¬ (100000 < s)) (h2 : m < 0) :
    Calls Try.prog 12 #[.int .i64 s, .int .i64 m, .int .i64 t] w fun e w' => e = .returned (.int .i64 (-1)) ∧ Below w.heap.size w w' := by
  have HB := Aside0.mk (Below.refl w.heap.size w)
  have c0 : decide (s < 0) = false := decide_eq_false h0
  have c1 : decide (100000 < s) = false := decide_eq_false h1
  have c2 : decide (m < 0) = true := decide_eq_true h2
  clear h0 h1 h2
  go_enter Try.func12, Try.ntmps12
  go_wp2
  go_ret
  exact ⟨by first | rfl | (simp [errW_none, errW_some] <;> rfl) | (simp [*, errW_none, errW_some] <;> rfl), by repeat (first | (with_reducible first | exact HB.out | apply below_alloc | apply pw_below_drewN | apply below_drew1) | exact HB.out)⟩
set_option maxHeartbeats 8000000 in
set_option maxRecDepth 100000 in
theorem impl_Vested.way3 (s m t : Int) (w : World) (h0 : ¬ (s < 0)) (h1 : ¬ (100000 < s)) (h2 : ¬ (m < 0)) (h3 : t < 1) :
    Calls Try.prog 12 #[.int .i64 s, .int .i64 m, .int .i64 t] w fun e w' => e = .returned (.int .i64 (-1)) ∧ Below w.heap.size w w' := by
  have HB := Aside0.mk (Below.refl w.heap.size w)
  have c0 : decide (s < 0) = false := decide_eq_false h0
  have c1 : decide (100000 < s) = false := decide_eq_false h1
  have c2 : decide (m < 0) = false := decide_eq_false h2
  have c3 : decide (t < 1) = true := decide_eq_true h3
  clear h0 h1 h2 h3
  go_enter Try.func12, Try.ntmps12
  go_wp2
  go_ret
  exact ⟨by first | rfl | (simp [errW_none, errW_some] <;> rfl) | (simp [*, errW_none, errW_some] <;> rfl), by repeat (first | (with_reducible first | exact HB.out | apply below_alloc | apply pw_below_drewN | apply below_drew1) | exact HB.out)⟩
set_option maxHeartbeats 8000000 in
set_option maxRecDepth 100000 in
theorem impl_Vested.way4 (s m t : Int) (w : World) (h0 : ¬ (s < 0)) (h1 : ¬ (100000 < s)) (h2 : ¬ (m < 0)) (h3 : ¬ (t < 1)) (h4 : 999 < t) :
    Calls Try.prog 12 #[.int .i64 s, .int .i64 m, .int .i64 t] w fun e w' => e = .returned (.int .i64 (-1)) ∧ Below w.heap.size w w' := by
  have HB := Aside0.mk (Below.refl w.heap.size w)
  have c0 : decide (s < 0) = false := decide_eq_false h0
  have c1 : decide (100000 < s) = false := decide_eq_false h1
  have c2 : decide (m < 0) = false := decide_eq_false h2
  have c3 : decide (t < 1) = false := decide_eq_false h3
  have c4 : decide (999 < t) = true := decide_eq_true h4
  clear h0 h1 h2 h3 h4
  go_enter Try.func12, Try.ntmps12
  go_wp2
  go_ret
  exact ⟨by first | rfl | (simp [errW_none, errW_some] <;> rfl) | (simp [*, errW_none, errW_some] <;> rfl), by repeat (first | (with_reducible first | exact HB.out | apply below_alloc | apply pw_below_drewN | apply below_drew1) | exact HB.out)⟩
set_option maxHeartbeats 8000000 in
set_option maxRecDepth 100000 in
theorem impl_Vested.way5 (s m t : Int) (w : World) (h0 : ¬ (s < 0)) (h1 : ¬ (100000 < s)) (h2 : ¬ (m < 0)) (h3 : ¬ (t < 1)) (h4 : ¬ (999 < t)) (h5 : t ≤ m) :
    Calls Try.prog 12 #[.int .i64 s, .int .i64 m, .int .i64 t] w fun e w' => e = .returned (.int .i64 s) ∧ Below w.heap.size w w' := by
  have HB := Aside0.mk (Below.refl w.heap.size w)
  have c0 : decide (s < 0) = false := decide_eq_false h0
  have c1 : decide (100000 < s) = false := decide_eq_false h1
  have c2 : decide (m < 0) = false := decide_eq_false h2
  have c3 : decide (t < 1) = false := decide_eq_false h3
  have c4 : decide (999 < t) = false := decide_eq_false h4
  have c5 : decide (t ≤ m) = true := decide_eq_true h5
  clear h0 h1 h2 h3 h4 h5
  go_enter Try.func12, Try.ntmps12
  go_wp2
  go_ret
  exact ⟨by first | rfl | (simp [errW_none, errW_some] <;> rfl) | (simp [*, errW_none, errW_some] <;> rfl), by repeat (first | (with_reducible first | exact HB.out | apply below_alloc | apply pw_below_drewN | apply below_drew1) | exact HB.out)⟩
theorem impl_Vested.calls (s m t : Int) (w : World) :
    Calls Try.prog 12 #[.int .i64 s, .int .i64 m, .int .i64 t] w fun e w' => e = .returned (.int .i64 (impl_Vested.f s m t)) ∧ Below w.heap.size w w' := by
  unfold impl_Vested.f
  by_cases h0 : s < 0
  · rw [if_pos h0]; exact impl_Vested.way0 s m t w h0
  rw [if_neg h0]
  by_cases h1 : 100000 < s
  · rw [if_pos h1]; exact impl_Vested.way1 s m t w h0 h1
  rw [if_neg h1]
  by_cases h2 : m < 0
  · rw [if_pos h2]; exact impl_Vested.way2 s m t w h0 h1 h2
  rw [if_neg h2]
  by_cases h3 : t < 1
  · rw [if_pos h3]; exact impl_Vested.way3 s m t w h0 h1 h2 h3
  rw [if_neg h3]
  by_cases h4 : 999 < t
  · rw [if_pos h4]; exact impl_Vested.way4 s m t w h0 h1 h2 h3 h4
  rw [if_neg h4]
  by_cases h5 : t ≤ m
  · rw [if_pos h5]; exact impl_Vested.way5 s m t w h0 h1 h2 h3 h4 h5
  rw [if_neg h5]
  exact impl_Vested.part s m t w (by omega) (by omega) (by omega) (by omega) (by omega) (by omega)

def laws_FnExactVested.f (s m t : Int) : Option Bool := (spec_Vested.f s m t).bind fun x => if impl_Vested.f s m t = x then some true else some false
set_option maxHeartbeats 8000000 in
set_option maxRecDepth 100000 in
theorem laws_FnExactVested.calls (s m t : Int) (r : Bool) (w : World) (h : laws_FnExactVested.f s m t = some r) :
    Calls Try.prog 4 #[.int .i64 s, .int .i64 m, .int .i64 t] w fun e w' => e = .returned (.bool r) ∧ Below w.heap.size w w' := by
  have HB := Aside0.mk (Below.refl w.heap.size w)
  unfold laws_FnExactVested.f at h
  obtain ⟨x, hx, h⟩ := Option.bind_eq_some_iff.mp h
  have hI := fun w => impl_Vested.calls s m t w
  generalize impl_Vested.f s m t = y at h hI
  by_cases c : y = x
  · rw [if_pos c] at h
    obtain rfl := Option.some.inj h
    subst c
    have c0 : (y == y) = true := beq_self_eq_true y
    have c1 : (y != y) = false := bne_self_eq_false y
    go_enter Try.func4, Try.ntmps4
    go_wp2_with (first | (go_at_call 11; (with_reducible refine (spec_Vested.calls s m t y _ hx).mono ?_); rintro e w' ⟨rfl, hb⟩; have n0_ := Aside0.mk (below_step (by repeat (first | (with_reducible first | exact HB.out | apply below_alloc | apply pw_below_drewN | apply below_drew1) | exact HB.out)) hb); clear HB hb; have HB := n0_; clear n0_) | (go_at_call 12; (with_reducible refine (hI _).mono ?_); rintro e w'' ⟨rfl, hb⟩; have n0_ := Aside0.mk (below_step (by repeat (first | (with_reducible first | exact HB.out | apply below_alloc | apply pw_below_drewN | apply below_drew1) | exact HB.out)) hb); clear HB hb; have HB := n0_; clear n0_))
    go_ret
    exact ⟨by first | rfl | (simp [errW_none, errW_some] <;> rfl) | (simp [*, errW_none, errW_some] <;> rfl), by repeat (first | (with_reducible first | exact HB.out | apply below_alloc | apply pw_below_drewN | apply below_drew1) | exact HB.out)⟩
  · rw [if_neg c] at h
    obtain rfl := Option.some.inj h
    have c0 : (y == x) = false := beq_eq_false_iff_ne.mpr c
    have c1 : (y != x) = true := bne_iff_ne.mpr c
    go_enter Try.func4, Try.ntmps4
    go_wp2_with (first | (go_at_call 11; (with_reducible refine (spec_Vested.calls s m t x _ hx).mono ?_); rintro e w' ⟨rfl, hb⟩; have n0_ := Aside0.mk (below_step (by repeat (first | (with_reducible first | exact HB.out | apply below_alloc | apply pw_below_drewN | apply below_drew1) | exact HB.out)) hb); clear HB hb; have HB := n0_; clear n0_) | (go_at_call 12; (with_reducible refine (hI _).mono ?_); rintro e w'' ⟨rfl, hb⟩; have n0_ := Aside0.mk (below_step (by repeat (first | (with_reducible first | exact HB.out | apply below_alloc | apply pw_below_drewN | apply below_drew1) | exact HB.out)) hb); clear HB hb; have HB := n0_; clear n0_))
    go_ret
    exact ⟨by first | rfl | (simp [errW_none, errW_some] <;> rfl) | (simp [*, errW_none, errW_some] <;> rfl), by repeat (first | (with_reducible first | exact HB.out | apply below_alloc | apply pw_below_drewN | apply below_drew1) | exact HB.out)⟩
end Go.Proofs.Ytgdnhidnojjpiad.PFnExactVested
