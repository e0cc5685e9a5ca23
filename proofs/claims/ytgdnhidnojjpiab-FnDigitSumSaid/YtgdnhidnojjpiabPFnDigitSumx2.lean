-- PRINTED BY print.sh 35421559b90ae4d0a3588c463048766b98c2df88dd9212a6774a882060cdf62d: not written by this session
import Derived.Test.YtgdnhidnojjpiabPFnDigitSumx0
import Derived.Test.YtgdnhidnojjpiabPFnDigitSumx1
namespace Go.Proofs.Ytgdnhidnojjpiab.PFnDigitSum
open Go.RowKit Go.Proofs.YtgdnhidnojjpiabW.PrintWords Go.Proofs.YtgdnhidnojjpiabW.PrintLast Go.Proofs.YtgdnhidnojjpiabW.PrintMore
attribute [local go_sem] max2_int min2_int max_two min_two max_three min_three max_four min_four   -- for this text's walks alone
set_option linter.unusedVariables false
set_option linter.unusedSimpArgs false

/-! ### spec_DigitSum: function 17 -/
def spec_DigitSum.f (k : Nat) (a0 : Int) : Option (Int) := (spec_validAmount.f a0).bind fun t135 => (if t135 = true then ((spec_digits.f k a0).bind fun t136 => ((spec_total.f k t136).bind fun t139 => (some t139))) else (some (-1)))
theorem spec_DigitSum.mono : ∀ a0 k, LeO (spec_DigitSum.f k a0) (spec_DigitSum.f (k + 1) a0) := by
  intro a0 k
  unfold spec_DigitSum.f
  repeat' first
      | (with_reducible exact spec_digits.mono _ _)
      | (with_reducible exact spec_total.mono _ _)
      | (with_reducible exact LeO.refl _)
      | (with_reducible exact LeO.none _)
      | (with_reducible refine LeO.ite ?_ ?_)
      | (with_reducible refine LeO.bind ?_ (fun _ => ?_))
      | exact spec_digits.mono _ _
      | exact spec_total.mono _ _
      | exact LeO.none _
      | refine LeO.ite ?_ ?_
      | refine LeO.bind ?_ (fun _ => ?_)
set_option maxHeartbeats 8000000 in
set_option maxRecDepth 100000 in
theorem spec_DigitSum.calls (k : Nat) (a0 : Int) (r : Int) (w : World) (h : spec_DigitSum.f k a0 = some r) :
    Calls Try.prog 17 #[.int .i64 a0] w fun e w' => e = .returned (.int .i64 r) ∧ Below w.heap.size w w' := by
  have HB := Aside0.mk (Below.refl w.heap.size w)
  have H : ((spec_validAmount.f a0).bind fun t135 => (if t135 = true then ((spec_digits.f k a0).bind fun t136 => ((spec_total.f k t136).bind fun t139 => (some t139))) else (some (-1)))) = some r := h
  clear h
  replace H := Option.bind_eq_some_iff.mp H
  obtain ⟨t135, A20, H⟩ := H
  replace H : (if t135 = true then ((spec_digits.f k a0).bind fun t136 => ((spec_total.f k t136).bind fun t139 => (some t139))) else (some (-1))) = some r := H
  have A2 := Aside0.mk A20
  clear A20
  by_cases c3 : t135 = true
  · subst c3
    have H1 : ((spec_digits.f k a0).bind fun t136 => ((spec_total.f k t136).bind fun t139 => (some t139))) = some r := by rw [if_pos rfl] at H; exact H
    clear H
    have H := H1
    clear H1
    replace H := Option.bind_eq_some_iff.mp H
    obtain ⟨t136, A40, H⟩ := H
    replace H : ((spec_total.f k t136).bind fun t139 => (some t139)) = some r := H
    have A4 := Aside0.mk A40
    clear A40
    replace H := Option.bind_eq_some_iff.mp H
    obtain ⟨t139, A50, H⟩ := H
    replace H : (some t139) = some r := H
    have A5 := Aside0.mk A50
    clear A50
    obtain rfl := Option.some.inj H
    go_enter Try.func17, Try.ntmps17
    go_wp2_with (first | ((with_reducible refine gate_callee (f := 54) rfl ?_); refine goesL_ (some 4) rfl rfl Try.func54 (by kernel_rfl) rfl #[.int .i64 a0] rfl (by (try simp only [List.map_toArray, List.map_cons, List.map_nil]); first | done | rfl | (simp only [List.length_drop, List.length_take]; rfl)) ?_; (with_reducible refine (spec_validAmount.calls a0 true _ A2.out).mono ?_); rintro e w' ⟨rfl, ⟨nd, rfl⟩⟩; refine ⟨_, rfl, ?_⟩) | ((with_reducible refine gate_callee (f := 56) rfl ?_); refine goesL_ (some 7) rfl rfl Try.func56 (by kernel_rfl) rfl #[.int .i64 a0] rfl (by (try simp only [List.map_toArray, List.map_cons, List.map_nil]); first | done | rfl | (simp only [List.length_drop, List.length_take]; rfl)) ?_; (with_reducible refine (spec_digits.calls k a0 t136 _ A4.out).mono ?_); rintro e w6 ⟨v137, rfl, ho0, hb⟩; refine ⟨_, rfl, ?_⟩; have n0_ := Aside0.mk (Kd.R_lower ho0 (below_size (by repeat (first | (with_reducible first | exact HB.out | apply below_alloc | apply pw_below_drewN | apply below_drew1) | exact HB.out)))); have n1_ := Aside0.mk (below_step (by repeat (first | (with_reducible first | exact HB.out | apply below_alloc | apply pw_below_drewN | apply below_drew1) | exact HB.out)) hb); clear HB; have HO138 := n0_; have HB := n1_; clear n0_ n1_; (try clear hb); (try clear hb2); (try clear hk); (try clear hi); (try clear ho0); obtain ⟨Ao7, co7, eo7⟩ := Kd.R_slice HO138.out; subst eo7) | ((with_reducible refine gate_callee (f := 55) rfl ?_); refine goesL_ (some 8) rfl rfl Try.func55 (by kernel_rfl) rfl #[.slice Ao7 t136.length co7] rfl (by (try simp only [List.map_toArray, List.map_cons, List.map_nil]); first | done | rfl | (simp only [List.length_drop, List.length_take]; rfl)) ?_; (with_reducible refine (spec_total.calls k _ _ t136 t139 _ ?side1 ?side2 A5.out).mono ?_); (case side1 => repeat (first | exact (Kd.R_reads' HO138.out).2.2 | (with_reducible refine Kd.C_alloc ?_ _) | (with_reducible refine Kd.C_drewN ?_ _) | (with_reducible refine Kd.C_drew ?_))); (case side2 => exact (Kd.R_reads' HO138.out).2.1); rintro e w' ⟨rfl, ⟨nd, rfl⟩⟩; refine ⟨_, rfl, ?_⟩))
    go_ret
    exact ⟨by first | rfl | (simp [errW_none, errW_some] <;> rfl) | (simp [*, errW_none, errW_some] <;> rfl), by repeat (first | (with_reducible first | exact HB.out | apply below_alloc | apply pw_below_drewN | apply below_drew1) | exact HB.out)⟩
  · replace c3 := Bool.eq_false_iff.mpr c3
    subst c3
    have H1 : (some (-1)) = some r := by rw [if_neg (show ¬ (false = true) by decide)] at H; exact H
    clear H
    have H := H1
    clear H1
    obtain rfl := Option.some.inj H
    go_enter Try.func17, Try.ntmps17
    go_wp2_with (first | ((with_reducible refine gate_callee (f := 54) rfl ?_); refine goesL_ (some 4) rfl rfl Try.func54 (by kernel_rfl) rfl #[.int .i64 a0] rfl (by (try simp only [List.map_toArray, List.map_cons, List.map_nil]); first | done | rfl | (simp only [List.length_drop, List.length_take]; rfl)) ?_; (with_reducible refine (spec_validAmount.calls a0 false _ A2.out).mono ?_); rintro e w' ⟨rfl, ⟨nd, rfl⟩⟩; refine ⟨_, rfl, ?_⟩))
    go_ret
    exact ⟨by first | rfl | (simp [errW_none, errW_some] <;> rfl) | (simp [*, errW_none, errW_some] <;> rfl), by repeat (first | (with_reducible first | exact HB.out | apply below_alloc | apply pw_below_drewN | apply below_drew1) | exact HB.out)⟩

/-! ### laws_FnDigitSum: function 3 -/
def laws_FnDigitSum.j0 : Nat → Int → Int → Bool → Option (Bool)
  | 0, _, _, _ => none
  | k + 1, x3, x4, x19 => if x19 = true then ((spec_DigitSum.f k x3).bind fun t143 => (some (x4 == t143))) else (if (wrap64 (10 * x3)) > 1000000 then (if x3 = 1000000 then (some ((Int.tmod x4 9) == (Int.tmod x3 9))) else (if (Int.tmod x3 10) = 9 then (some ((Int.tmod x4 9) == (Int.tmod x3 9))) else ((impl_DigitSum.f k (wrap64 (x3 + 1))).bind fun t144 => (if t144 = (wrap64 (x4 + 1)) then (some ((Int.tmod x4 9) == (Int.tmod x3 9))) else (some false))))) else ((impl_DigitSum.f k (wrap64 (10 * x3))).bind fun t145 => (if t145 = x4 then (if x3 = 1000000 then (some ((Int.tmod x4 9) == (Int.tmod x3 9))) else (if (Int.tmod x3 10) = 9 then (some ((Int.tmod x4 9) == (Int.tmod x3 9))) else ((impl_DigitSum.f k (wrap64 (x3 + 1))).bind fun t146 => (if t146 = (wrap64 (x4 + 1)) then (some ((Int.tmod x4 9) == (Int.tmod x3 9))) else (some false))))) else (some false))))
def laws_FnDigitSum.f (k : Nat) (l0 : List Int) : Option (Bool) := if (l0.length : Int) > 1048576 then (some true) else ((spec_DrawDigitSum.f k l0).bind fun t140 => ((impl_DigitSum.f k t140).bind fun t141 => ((spec_DigitSum.f k t140).bind fun t142 => (if t141 = t142 then (laws_FnDigitSum.j0 k t140 t141 (decide (t141 < 0))) else (laws_FnDigitSum.j0 k t140 t141 true)))))
theorem laws_FnDigitSum.mono_l : ∀ k, (∀ y0 y1 y2, LeO (laws_FnDigitSum.j0 k y0 y1 y2) (laws_FnDigitSum.j0 (k + 1) y0 y1 y2))
  | 0 => fun _ _ _ r h => by simp [laws_FnDigitSum.j0] at h
  | k + 1 => by
    have ih0 := laws_FnDigitSum.mono_l k
    · intro y0 y1 y2
      unfold laws_FnDigitSum.j0
      repeat' first
      | (with_reducible exact ih0 _ _ _)
      | (with_reducible exact impl_DigitSum.mono _ _)
      | (with_reducible exact spec_DigitSum.mono _ _)
      | (with_reducible exact spec_DrawDigitSum.mono _ _)
      | (with_reducible exact LeO.refl _)
      | (with_reducible exact LeO.none _)
      | (with_reducible refine LeO.ite ?_ ?_)
      | (with_reducible refine LeO.bind ?_ (fun _ => ?_))
      | exact ih0 _ _ _
      | exact impl_DigitSum.mono _ _
      | exact spec_DigitSum.mono _ _
      | exact spec_DrawDigitSum.mono _ _
      | exact LeO.none _
      | refine LeO.ite ?_ ?_
      | refine LeO.bind ?_ (fun _ => ?_)
theorem laws_FnDigitSum.mono : ∀ a0 k, LeO (laws_FnDigitSum.f k a0) (laws_FnDigitSum.f (k + 1) a0) := by
  intro a0 k
  have ih0 := laws_FnDigitSum.mono_l k
  unfold laws_FnDigitSum.f
  repeat' first
      | (with_reducible exact ih0 _ _ _)
      | (with_reducible exact impl_DigitSum.mono _ _)
      | (with_reducible exact spec_DigitSum.mono _ _)
      | (with_reducible exact spec_DrawDigitSum.mono _ _)
      | (with_reducible exact LeO.refl _)
      | (with_reducible exact LeO.none _)
      | (with_reducible refine LeO.ite ?_ ?_)
      | (with_reducible refine LeO.bind ?_ (fun _ => ?_))
      | exact ih0 _ _ _
      | exact impl_DigitSum.mono _ _
      | exact spec_DigitSum.mono _ _
      | exact spec_DrawDigitSum.mono _ _
      | exact LeO.none _
      | refine LeO.ite ?_ ?_
      | refine LeO.bind ?_ (fun _ => ?_)
set_option maxHeartbeats 8000000 in
set_option maxRecDepth 100000 in
theorem laws_FnDigitSum.calls (k : Nat) (A0 : Option Addr) (c0 : Nat) (l0 : List Int) (r : Bool) (w : World) (hr0 : Kd.C (Kd.int .u8) w A0 l0.length l0) (hc0 : l0.length ≤ c0) (h : laws_FnDigitSum.f k l0 = some r) :
    Calls Try.prog 3 #[.slice A0 l0.length c0] w fun e w' => e = .returned (.bool r) ∧ Below w.heap.size w w' := by
  have HR0 := Aside0.mk hr0
  have HC0 := Aside0.mk hc0
  clear hr0 hc0
  have HB := Aside0.mk (Below.refl w.heap.size w)
  have H : (if (l0.length : Int) > 1048576 then (some true) else ((spec_DrawDigitSum.f k l0).bind fun t140 => ((impl_DigitSum.f k t140).bind fun t141 => ((spec_DigitSum.f k t140).bind fun t142 => (if t141 = t142 then (laws_FnDigitSum.j0 k t140 t141 (decide (t141 < 0))) else (laws_FnDigitSum.j0 k t140 t141 true)))))) = some r := h
  clear h
  by_cases c2 : (l0.length : Int) > 1048576
  · rw [if_pos c2] at H
    have c2b0 : decide (1048576 < (l0.length : Int)) = true := decide_eq_true c2
    have c2b1 : decide (1048576 < l0.length) = true := decide_eq_true (by omega)
    clear c2
    obtain rfl := Option.some.inj H
    go_enter Try.func3, Try.ntmps3
    go_wp2
    go_ret
    exact ⟨by first | rfl | (simp [errW_none, errW_some] <;> rfl) | (simp [*, errW_none, errW_some] <;> rfl), by repeat (first | (with_reducible first | exact HB.out | apply below_alloc | apply pw_below_drewN | apply below_drew1) | exact HB.out)⟩
  · rw [if_neg c2] at H
    have c2b0 : decide (1048576 < (l0.length : Int)) = false := decide_eq_false c2
    have c2b1 : decide (1048576 < l0.length) = false := decide_eq_false (by omega)
    clear c2
    replace H := Option.bind_eq_some_iff.mp H
    obtain ⟨t140, A30, H⟩ := H
    replace H : ((impl_DigitSum.f k t140).bind fun t141 => ((spec_DigitSum.f k t140).bind fun t142 => (if t141 = t142 then (laws_FnDigitSum.j0 k t140 t141 (decide (t141 < 0))) else (laws_FnDigitSum.j0 k t140 t141 true)))) = some r := H
    have A3 := Aside0.mk A30
    clear A30
    replace H := Option.bind_eq_some_iff.mp H
    obtain ⟨t141, A40, H⟩ := H
    replace H : ((spec_DigitSum.f k t140).bind fun t142 => (if t141 = t142 then (laws_FnDigitSum.j0 k t140 t141 (decide (t141 < 0))) else (laws_FnDigitSum.j0 k t140 t141 true))) = some r := H
    have A4 := Aside0.mk A40
    clear A40
    have HC5 := Aside0.mk H
    clear H
    go_enter Try.func3, Try.ntmps3
    go_upto_region 5 with (first | ((with_reducible refine gate_callee (f := 15) rfl ?_); refine goesL_ (some 9) rfl rfl Try.func15 (by kernel_rfl) rfl #[.slice A0 l0.length c0] rfl (by (try simp only [List.map_toArray, List.map_cons, List.map_nil]); first | done | rfl | (simp only [List.length_drop, List.length_take]; rfl)) ?_; (with_reducible refine (spec_DrawDigitSum.calls k _ _ l0 t140 _ ?side1 ?side2 A3.out).mono ?_); (case side1 => repeat (first | exact HR0.out | (with_reducible refine Kd.C_alloc ?_ _) | (with_reducible refine Kd.C_drewN ?_ _) | (with_reducible refine Kd.C_drew ?_))); (case side2 => exact HC0.out); rintro e w6 ⟨rfl, hb⟩; refine ⟨_, rfl, ?_⟩; have n0_ := Aside0.mk (below_step (by repeat (first | (with_reducible first | exact HB.out | apply below_alloc | apply pw_below_drewN | apply below_drew1) | exact HB.out)) hb); clear HB; have HB := n0_; clear n0_; (try clear hb); (try clear hb2); (try clear hk); (try clear hi)) | ((with_reducible refine gate_callee (f := 16) rfl ?_); refine goesL_ (some 11) rfl rfl Try.func16 (by kernel_rfl) rfl #[.int .i64 t140] rfl (by (try simp only [List.map_toArray, List.map_cons, List.map_nil]); first | done | rfl | (simp only [List.length_drop, List.length_take]; rfl)) ?_; (with_reducible refine (impl_DigitSum.calls k t140 t141 _ A4.out).mono ?_); rintro e w' ⟨rfl, ⟨nd, rfl⟩⟩; refine ⟨_, rfl, ?_⟩))
    (try simp only [Act.put, List.setIfInBounds_toArray, List.set_cons_zero, List.set_cons_succ])
    go_cut [19] (fun v19 wc => ∃ (kq : Nat) (x19_4 : Bool), v19 = .bool x19_4 ∧ Aside0 (laws_FnDigitSum.j0 kq t140 t141 x19_4 = some r) ∧ Aside0 (kq ≤ k) ∧ Aside0 (Below w.heap.size w wc))
    case first =>
      have H := HC5.out
      clear HC5
      replace H := Option.bind_eq_some_iff.mp H
      obtain ⟨t142, A70, H⟩ := H
      replace H : (if t141 = t142 then (laws_FnDigitSum.j0 k t140 t141 (decide (t141 < 0))) else (laws_FnDigitSum.j0 k t140 t141 true)) = some r := H
      have A7 := Aside0.mk A70
      clear A70
      by_cases c8 : t141 = t142
      · rw [if_pos c8] at H
        have c8b0 : (t141 == t142) = true := beq_iff_eq.mpr c8
        have c8b1 : (t141 != t142) = false := bne_eq_false_iff_eq.mpr c8
        clear c8
        (first | rw [c8b0] | (simp only [i64_w, i32_w]; rw [c8b0]) | skip)
        have H' := Aside0.mk H
        clear H
        go_wp2_with (first | ((with_reducible refine gate_callee (f := 17) rfl ?_); refine goesL_ (some 14) rfl rfl Try.func17 (by kernel_rfl) rfl #[.int .i64 t140] rfl (by (try simp only [List.map_toArray, List.map_cons, List.map_nil]); first | done | rfl | (simp only [List.length_drop, List.length_take]; rfl)) ?_; (with_reducible refine (spec_DigitSum.calls k t140 t142 _ A7.out).mono ?_); rintro e w9 ⟨rfl, hb⟩; refine ⟨_, rfl, ?_⟩; have n0_ := Aside0.mk (below_step (by repeat (first | (with_reducible first | exact HB.out | apply below_alloc | apply pw_below_drewN | apply below_drew1) | exact HB.out)) hb); clear HB; have HB := n0_; clear n0_; (try clear hb); (try clear hb2); (try clear hk); (try clear hi)))
        go_meet
        case rel => exact ⟨_, (decide (t141 < 0)), (by first | rfl | (simp; done) | (simp [*]; done)), H', ⟨by first | omega | exact Nat.le_refl _⟩, ⟨by repeat (first | (with_reducible first | exact HB.out | apply below_alloc | apply pw_below_drewN | apply below_drew1) | exact HB.out)⟩⟩
      · rw [if_neg c8] at H
        have c8b0 : (t141 == t142) = false := beq_eq_false_iff_ne.mpr c8
        have c8b1 : (t141 != t142) = true := bne_iff_ne.mpr c8
        (first | rw [c8b0] | (simp only [i64_w, i32_w]; rw [c8b0]) | skip)
        have H' := Aside0.mk H
        clear H
        go_wp2_with (first | ((with_reducible refine gate_callee (f := 17) rfl ?_); refine goesL_ (some 14) rfl rfl Try.func17 (by kernel_rfl) rfl #[.int .i64 t140] rfl (by (try simp only [List.map_toArray, List.map_cons, List.map_nil]); first | done | rfl | (simp only [List.length_drop, List.length_take]; rfl)) ?_; (with_reducible refine (spec_DigitSum.calls k t140 t142 _ A7.out).mono ?_); rintro e w10 ⟨rfl, hb⟩; refine ⟨_, rfl, ?_⟩; have n0_ := Aside0.mk (below_step (by repeat (first | (with_reducible first | exact HB.out | apply below_alloc | apply pw_below_drewN | apply below_drew1) | exact HB.out)) hb); clear HB; have HB := n0_; clear n0_; (try clear hb); (try clear hb2); (try clear hk); (try clear hi)))
        go_meet
        case rel => exact ⟨_, (true), (by first | rfl | (simp; done) | (simp [*]; done)), H', ⟨by first | omega | exact Nat.le_refl _⟩, ⟨by repeat (first | (with_reducible first | exact HB.out | apply below_alloc | apply pw_below_drewN | apply below_drew1) | exact HB.out)⟩⟩
    case rest =>
      clear HC5
      try clear c1
      try clear c2
      try clear c2b0
      try clear c2b1
      try clear p2
      try clear c3
      try clear c8
      try clear c8b0
      try clear c8b1
      obtain ⟨kq, x19_4, rfl, HA, HJ4, HB⟩ := hcut
      cases kq with
      | zero => exact absurd HA.out (by simp [laws_FnDigitSum.j0])
      | succ kj4 =>
        have H := HA.out
        clear HA
        simp only [laws_FnDigitSum.j0] at H
        by_cases c11 : x19_4 = true
        · subst c11
          have H1 : ((spec_DigitSum.f kj4 t140).bind fun t143 => (some (t141 == t143))) = some r := by rw [if_pos rfl] at H; exact H
          clear H
          have H := H1
          clear H1
          replace H := Option.bind_eq_some_iff.mp H
          obtain ⟨t143, A120, H⟩ := H
          replace H : (some (t141 == t143)) = some r := H
          have A12 := Aside0.mk A120
          clear A120
          obtain rfl := Option.some.inj H
          go_wp2_with (first | ((with_reducible refine gate_callee (f := 17) rfl ?_); refine goesL_ (some 22) rfl rfl Try.func17 (by kernel_rfl) rfl #[.int .i64 t140] rfl (by (try simp only [List.map_toArray, List.map_cons, List.map_nil]); first | done | rfl | (simp only [List.length_drop, List.length_take]; rfl)) ?_; (with_reducible refine (spec_DigitSum.calls kj4 t140 t143 _ A12.out).mono ?_); rintro e w13 ⟨rfl, hb⟩; refine ⟨_, rfl, ?_⟩; have n0_ := Aside0.mk (below_step (by repeat (first | (with_reducible first | exact HB.out | apply below_alloc | apply pw_below_drewN | apply below_drew1) | exact HB.out)) hb); clear HB; have HB := n0_; clear n0_; (try clear hb); (try clear hb2); (try clear hk); (try clear hi)))
          go_ret
          exact ⟨by first | rfl | (simp [errW_none, errW_some] <;> rfl) | (simp [*, errW_none, errW_some] <;> rfl), by repeat (first | (with_reducible first | exact HB.out | apply below_alloc | apply pw_below_drewN | apply below_drew1) | exact HB.out)⟩
        · replace c11 := Bool.eq_false_iff.mpr c11
          subst c11
          have H1 : (if (wrap64 (10 * t140)) > 1000000 then (if t140 = 1000000 then (some ((Int.tmod t141 9) == (Int.tmod t140 9))) else (if (Int.tmod t140 10) = 9 then (some ((Int.tmod t141 9) == (Int.tmod t140 9))) else ((impl_DigitSum.f kj4 (wrap64 (t140 + 1))).bind fun t144 => (if t144 = (wrap64 (t141 + 1)) then (some ((Int.tmod t141 9) == (Int.tmod t140 9))) else (some false))))) else ((impl_DigitSum.f kj4 (wrap64 (10 * t140))).bind fun t145 => (if t145 = t141 then (if t140 = 1000000 then (some ((Int.tmod t141 9) == (Int.tmod t140 9))) else (if (Int.tmod t140 10) = 9 then (some ((Int.tmod t141 9) == (Int.tmod t140 9))) else ((impl_DigitSum.f kj4 (wrap64 (t140 + 1))).bind fun t146 => (if t146 = (wrap64 (t141 + 1)) then (some ((Int.tmod t141 9) == (Int.tmod t140 9))) else (some false))))) else (some false)))) = some r := by rw [if_neg (show ¬ (false = true) by decide)] at H; exact H
          clear H
          have H := H1
          clear H1
          by_cases c14 : (wrap64 (10 * t140)) > 1000000
          · rw [if_pos c14] at H
            have c14b0 : decide (1000000 < (wrap64 (10 * t140))) = true := decide_eq_true c14
            clear c14
            by_cases c15 : t140 = 1000000
            · rw [if_pos c15] at H
              have c15b0 : (t140 == 1000000) = true := beq_iff_eq.mpr c15
              have c15b1 : (t140 != 1000000) = false := bne_eq_false_iff_eq.mpr c15
              clear c15
              obtain rfl := Option.some.inj H
              go_wp2
              go_ret
              exact ⟨by first | rfl | (simp [errW_none, errW_some] <;> rfl) | (simp [*, errW_none, errW_some] <;> rfl), by repeat (first | (with_reducible first | exact HB.out | apply below_alloc | apply pw_below_drewN | apply below_drew1) | exact HB.out)⟩
            · rw [if_neg c15] at H
              have c15b0 : (t140 == 1000000) = false := beq_eq_false_iff_ne.mpr c15
              have c15b1 : (t140 != 1000000) = true := bne_iff_ne.mpr c15
              by_cases c16 : (Int.tmod t140 10) = 9
              · rw [if_pos c16] at H
                have c16b0 : ((Int.tmod t140 10) == 9) = true := beq_iff_eq.mpr c16
                have c16b1 : ((Int.tmod t140 10) != 9) = false := bne_eq_false_iff_eq.mpr c16
                clear c16
                obtain rfl := Option.some.inj H
                go_wp2
                go_ret
                exact ⟨by first | rfl | (simp [errW_none, errW_some] <;> rfl) | (simp [*, errW_none, errW_some] <;> rfl), by repeat (first | (with_reducible first | exact HB.out | apply below_alloc | apply pw_below_drewN | apply below_drew1) | exact HB.out)⟩
              · rw [if_neg c16] at H
                have c16b0 : ((Int.tmod t140 10) == 9) = false := beq_eq_false_iff_ne.mpr c16
                have c16b1 : ((Int.tmod t140 10) != 9) = true := bne_iff_ne.mpr c16
                replace H := Option.bind_eq_some_iff.mp H
                obtain ⟨t144, A170, H⟩ := H
                replace H : (if t144 = (wrap64 (t141 + 1)) then (some ((Int.tmod t141 9) == (Int.tmod t140 9))) else (some false)) = some r := H
                have A17 := Aside0.mk A170
                clear A170
                by_cases c18 : t144 = (wrap64 (t141 + 1))
                · rw [if_pos c18] at H
                  have c18b0 : (t144 == (wrap64 (t141 + 1))) = true := beq_iff_eq.mpr c18
                  have c18b1 : (t144 != (wrap64 (t141 + 1))) = false := bne_eq_false_iff_eq.mpr c18
                  clear c18
                  obtain rfl := Option.some.inj H
                  go_wp2_with (first | (go_at_call 16; (with_reducible refine (impl_DigitSum.calls kj4 (wrap64 (t140 + 1)) t144 _ A17.out).mono ?_); rintro e w' ⟨rfl, ⟨nd, rfl⟩⟩))
                  go_ret
                  exact ⟨by first | rfl | (simp [errW_none, errW_some] <;> rfl) | (simp [*, errW_none, errW_some] <;> rfl), by repeat (first | (with_reducible first | exact HB.out | apply below_alloc | apply pw_below_drewN | apply below_drew1) | exact HB.out)⟩
                · rw [if_neg c18] at H
                  have c18b0 : (t144 == (wrap64 (t141 + 1))) = false := beq_eq_false_iff_ne.mpr c18
                  have c18b1 : (t144 != (wrap64 (t141 + 1))) = true := bne_iff_ne.mpr c18
                  obtain rfl := Option.some.inj H
                  go_wp2_with (first | (go_at_call 16; (with_reducible refine (impl_DigitSum.calls kj4 (wrap64 (t140 + 1)) t144 _ A17.out).mono ?_); rintro e w' ⟨rfl, ⟨nd, rfl⟩⟩))
                  go_ret
                  exact ⟨by first | rfl | (simp [errW_none, errW_some] <;> rfl) | (simp [*, errW_none, errW_some] <;> rfl), by repeat (first | (with_reducible first | exact HB.out | apply below_alloc | apply pw_below_drewN | apply below_drew1) | exact HB.out)⟩
          · rw [if_neg c14] at H
            have c14b0 : decide (1000000 < (wrap64 (10 * t140))) = false := decide_eq_false c14
            clear c14
            replace H := Option.bind_eq_some_iff.mp H
            obtain ⟨t145, A190, H⟩ := H
            replace H : (if t145 = t141 then (if t140 = 1000000 then (some ((Int.tmod t141 9) == (Int.tmod t140 9))) else (if (Int.tmod t140 10) = 9 then (some ((Int.tmod t141 9) == (Int.tmod t140 9))) else ((impl_DigitSum.f kj4 (wrap64 (t140 + 1))).bind fun t146 => (if t146 = (wrap64 (t141 + 1)) then (some ((Int.tmod t141 9) == (Int.tmod t140 9))) else (some false))))) else (some false)) = some r := H
            have A19 := Aside0.mk A190
            clear A190
            by_cases c20 : t145 = t141
            · rw [if_pos c20] at H
              have c20b0 : (t145 == t141) = true := beq_iff_eq.mpr c20
              have c20b1 : (t145 != t141) = false := bne_eq_false_iff_eq.mpr c20
              clear c20
              by_cases c21 : t140 = 1000000
              · rw [if_pos c21] at H
                have c21b0 : (t140 == 1000000) = true := beq_iff_eq.mpr c21
                have c21b1 : (t140 != 1000000) = false := bne_eq_false_iff_eq.mpr c21
                clear c21
                obtain rfl := Option.some.inj H
                go_wp2_with (first | (go_at_call 16; (with_reducible refine (impl_DigitSum.calls kj4 (wrap64 (10 * t140)) t145 _ A19.out).mono ?_); rintro e w' ⟨rfl, ⟨nd, rfl⟩⟩))
                go_ret
                exact ⟨by first | rfl | (simp [errW_none, errW_some] <;> rfl) | (simp [*, errW_none, errW_some] <;> rfl), by repeat (first | (with_reducible first | exact HB.out | apply below_alloc | apply pw_below_drewN | apply below_drew1) | exact HB.out)⟩
              · rw [if_neg c21] at H
                have c21b0 : (t140 == 1000000) = false := beq_eq_false_iff_ne.mpr c21
                have c21b1 : (t140 != 1000000) = true := bne_iff_ne.mpr c21
                by_cases c22 : (Int.tmod t140 10) = 9
                · rw [if_pos c22] at H
                  have c22b0 : ((Int.tmod t140 10) == 9) = true := beq_iff_eq.mpr c22
                  have c22b1 : ((Int.tmod t140 10) != 9) = false := bne_eq_false_iff_eq.mpr c22
                  clear c22
                  obtain rfl := Option.some.inj H
                  go_wp2_with (first | (go_at_call 16; (with_reducible refine (impl_DigitSum.calls kj4 (wrap64 (10 * t140)) t145 _ A19.out).mono ?_); rintro e w' ⟨rfl, ⟨nd, rfl⟩⟩))
                  go_ret
                  exact ⟨by first | rfl | (simp [errW_none, errW_some] <;> rfl) | (simp [*, errW_none, errW_some] <;> rfl), by repeat (first | (with_reducible first | exact HB.out | apply below_alloc | apply pw_below_drewN | apply below_drew1) | exact HB.out)⟩
                · rw [if_neg c22] at H
                  have c22b0 : ((Int.tmod t140 10) == 9) = false := beq_eq_false_iff_ne.mpr c22
                  have c22b1 : ((Int.tmod t140 10) != 9) = true := bne_iff_ne.mpr c22
                  replace H := Option.bind_eq_some_iff.mp H
                  obtain ⟨t146, A230, H⟩ := H
                  replace H : (if t146 = (wrap64 (t141 + 1)) then (some ((Int.tmod t141 9) == (Int.tmod t140 9))) else (some false)) = some r := H
                  have A23 := Aside0.mk A230
                  clear A230
                  by_cases c24 : t146 = (wrap64 (t141 + 1))
                  · rw [if_pos c24] at H
                    have c24b0 : (t146 == (wrap64 (t141 + 1))) = true := beq_iff_eq.mpr c24
                    have c24b1 : (t146 != (wrap64 (t141 + 1))) = false := bne_eq_false_iff_eq.mpr c24
                    clear c24
                    obtain rfl := Option.some.inj H
                    go_wp2_with (first | (go_at_call 16; (with_reducible refine (impl_DigitSum.calls kj4 (wrap64 (10 * t140)) t145 _ A19.out).mono ?_); rintro e w' ⟨rfl, ⟨nd, rfl⟩⟩) | (go_at_call 16; (with_reducible refine (impl_DigitSum.calls kj4 (wrap64 (t140 + 1)) t146 _ A23.out).mono ?_); rintro e w' ⟨rfl, ⟨nd, rfl⟩⟩))
                    go_ret
                    exact ⟨by first | rfl | (simp [errW_none, errW_some] <;> rfl) | (simp [*, errW_none, errW_some] <;> rfl), by repeat (first | (with_reducible first | exact HB.out | apply below_alloc | apply pw_below_drewN | apply below_drew1) | exact HB.out)⟩
                  · rw [if_neg c24] at H
                    have c24b0 : (t146 == (wrap64 (t141 + 1))) = false := beq_eq_false_iff_ne.mpr c24
                    have c24b1 : (t146 != (wrap64 (t141 + 1))) = true := bne_iff_ne.mpr c24
                    obtain rfl := Option.some.inj H
                    go_wp2_with (first | (go_at_call 16; (with_reducible refine (impl_DigitSum.calls kj4 (wrap64 (10 * t140)) t145 _ A19.out).mono ?_); rintro e w' ⟨rfl, ⟨nd, rfl⟩⟩) | (go_at_call 16; (with_reducible refine (impl_DigitSum.calls kj4 (wrap64 (t140 + 1)) t146 _ A23.out).mono ?_); rintro e w' ⟨rfl, ⟨nd, rfl⟩⟩))
                    go_ret
                    exact ⟨by first | rfl | (simp [errW_none, errW_some] <;> rfl) | (simp [*, errW_none, errW_some] <;> rfl), by repeat (first | (with_reducible first | exact HB.out | apply below_alloc | apply pw_below_drewN | apply below_drew1) | exact HB.out)⟩
            · rw [if_neg c20] at H
              have c20b0 : (t145 == t141) = false := beq_eq_false_iff_ne.mpr c20
              have c20b1 : (t145 != t141) = true := bne_iff_ne.mpr c20
              obtain rfl := Option.some.inj H
              go_wp2_with (first | (go_at_call 16; (with_reducible refine (impl_DigitSum.calls kj4 (wrap64 (10 * t140)) t145 _ A19.out).mono ?_); rintro e w' ⟨rfl, ⟨nd, rfl⟩⟩))
              go_ret
              exact ⟨by first | rfl | (simp [errW_none, errW_some] <;> rfl) | (simp [*, errW_none, errW_some] <;> rfl), by repeat (first | (with_reducible first | exact HB.out | apply below_alloc | apply pw_below_drewN | apply below_drew1) | exact HB.out)⟩

/-- THE ONE PURE STATEMENT of laws_FnDigitSum: yours. -/
def laws_FnDigitSum.Pure : Prop := ∀ (l0 : List Int), l0.length ≤ maxLen → l0.length * 1 ≤ 140737488351232 → (∀ x ∈ l0, (Lit.int .u8 x).wf = true) → ∃ k, laws_FnDigitSum.f k l0 = some true
theorem laws_FnDigitSum.walk (P : laws_FnDigitSum.Pure) (a0 : Option Addr) (len0 cap0 : Nat) (z0 : List Int) (w : World) (w0 : (a0 = none ∧ len0 = 0 ∧ cap0 = 0 ∧ z0 = []) ∨ ∃ x, a0 = some x ∧ len0 ≤ cap0 ∧ cap0 ≤ maxLen ∧ z0.length = cap0 ∧ (∀ i, i < z0.length → w.cell? (x.add i) = some (.int .u8 (z0.getD i 0))) ∧ ∀ n ∈ z0, (Lit.int .u8 n).wf = true) (y0 : len0 * 1 ≤ 140737488351232) :
    Calls Try.prog 3 #[.slice a0 len0 cap0] w fun e w' => e = .returned (.bool true) ∧ Below w.heap.size w w' := by
  obtain ⟨l0, rfl, hr0, hm0, hw0, hc0⟩ := ReadsInt.ofRowC w0
  obtain ⟨k, h⟩ := P l0 hm0 y0 hw0
  refine (laws_FnDigitSum.calls k _ _ l0 true w (Kd.C_of_reads (d := (0 : Int)) (h1 := fun _ => rfl) hr0) hc0 h).mono ?_
  rintro e w' ⟨rfl, hd⟩
  exact ⟨rfl, hd⟩

end Go.Proofs.Ytgdnhidnojjpiab.PFnDigitSum
