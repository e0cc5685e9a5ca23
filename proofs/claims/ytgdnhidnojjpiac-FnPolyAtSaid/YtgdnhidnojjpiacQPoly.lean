/- The program's PolyAt answers what its plain function answers. Condition: the slice reads as the list. -/
import Derived.Test.YtgdnhidnojjpiacQBack
namespace Go.Proofs.Ytgdnhidnojjpiac.PFnPolyAt
open Go.RowKit Go.Shelf Go.Proofs.YtgdnhidnojjpiacW.PrintWords Go.Proofs.YtgdnhidnojjpiacW.PrintLast Go.Proofs.YtgdnhidnojjpiacW.PrintMore
set_option linter.unusedVariables false
set_option linter.unusedSimpArgs false
attribute [local go_sem] Oper.semAt_some

/-- the value of the pairs that came, from the front -/
def acc (x : Int) (l : List (Nat × Int)) : Int := l.foldl (fun v p => Int.tmod (wrap64 (wrap64 (v * x) + p.2)) 251) 0
theorem acc_snoc (x : Int) (pre : List (Nat × Int)) (p : Nat × Int) : acc x (pre ++ [p]) = Int.tmod (wrap64 (wrap64 (acc x pre * x) + p.2)) 251 := by simp [acc]
def polyOf (x : Int) (l : List Int) : Int := acc x (Bw.upto (Bw.pr l l.length) l.length)

theorem cell_other {W : World} {B B' : Nat} (hne : B ≠ B') {v u : Value} (h : W.cell? ⟨B, 0, none⟩ = some v) : (W.setCell ⟨B', 0, none⟩ u).cell? ⟨B, 0, none⟩ = some v := by
  have hlt : B < W.heap.size := by
    rcases Nat.lt_or_ge B W.heap.size with c | c
    · exact c
    · simp [World.cell?, Array.getElem?_eq_none c] at h
  have hb := (grownBy_setCell' W B' u).block B hlt (fun e => hne (Option.some.inj e))
  simpa [World.cell?, hb] using h

set_option maxRecDepth 100000 in
set_option maxHeartbeats 2000000 in
theorem impl_PolyAt.way (k : Nat) (A0 : Option Addr) (c0 : Nat) (zs : List Int) (x : Int) (w : World) (hr0 : Kd.C (Kd.int .i64) w A0 zs.length zs) (hc0 : zs.length ≤ c0) (hv : impl_validCoefs.f k zs = some true) (h0 : 0 ≤ x) (h1 : x ≤ 250) :
    Calls Try.prog 46 #[.slice A0 zs.length c0, .int .i64 x] w fun e w' => e = .returned (.int .i64 (polyOf x zs)) ∧ Below w.heap.size w w' := by
  have hreach : zs.length * 8 ≤ 140737488351232 := by
    unfold impl_validCoefs.f at hv
    by_cases c : (zs.length : Int) ≤ 8
    · omega
    · rw [if_neg c] at hv
      exact absurd hv (by simp)
  have hI : Bw.Ints w.heap.size w (.slice A0 zs.length c0) zs := Bw.Ints.of hr0
  refine (callsIn_wide (n := 3)).mp ?_
  have hro : Fence.wide.round = none := rfl
  have h46 : Fence.wide.fn 46 := trivial
  have h78 : Fence.wide.fn 83 := trivial
  have h86 : Fence.wide.fn 108 := trivial
  have h77 : Fence.wide.fn 82 := trivial
  generalize hF : Fence.wide = F at hro h46 h78 h86 h77
  have c1 : decide (x < 0) = false := decide_eq_false (by omega)
  have c2 : decide (250 < x) = false := decide_eq_false (by omega)
  have hV : ∀ w n, Kd.C (Kd.int .i64) w A0 zs.length zs → CallsIn F n Try.prog 82 #[.slice A0 zs.length c0] w fun e w' => e = .returned (.bool true) ∧ Drawn0 w w' := by
    intro w n h
    rw [← hF]
    exact callsIn_wide.mpr (impl_validCoefs.calls k A0 c0 zs true w h hc0 hv)
  clear hF
  refine callsIn_of_wp_marks Try.func46 rfl h46 ?_ hro
  simp only [Try.ntmps46, List.size_toArray, List.length_cons, List.length_nil, Nat.reduceAdd, Nat.reduceSub, Array.replicate_succ, Array.replicate_zero, List.push_toArray, List.append_toArray, List.nil_append, List.cons_append]
  gi_wp2_with (first | (gi_at_call 82; refine (hV _ _ ?_).mono ?_; (· first | exact hr0 | exact Kd.C_alloc hr0 _); rintro e w' ⟨rfl, ⟨nd, rfl⟩⟩) | (gi_at_call 83; refine (Bw.backward_in F _ h78 hro _ _ _ _).mono ?_; rintro e w' ⟨rfl, rfl⟩))
  have bX : Boxed ((w.alloc (.cells #[.int .i64 x] 3)).drewN nd) w.heap.size 3 (.int .i64 x) := Boxed.new w 3 (.int .i64 x)
  have z1 : ((w.alloc (.cells #[.int .i64 x] 3)).drewN nd).heap.size = w.heap.size + 1 := World.size_alloc ..
  have bV := Boxed.new ((w.alloc (.cells #[.int .i64 x] 3)).drewN nd) 3 (.int .i64 0)
  have bS := Boxed.new (((w.alloc (.cells #[.int .i64 x] 3)).drewN nd).alloc (.cells #[.int .i64 0] 3)) 25 (.slice A0 zs.length c0)
  have hB0 : Below w.heap.size w ((((w.alloc (.cells #[.int .i64 x] 3)).drewN nd).alloc (.cells #[.int .i64 0] 3)).alloc (.cells #[.slice A0 zs.length c0] 25)) := ((pw_below_drewN ((Below.refl _ w).alloc (Nat.le_refl _) _) nd).alloc (by omega) _).alloc (by rw [World.size_alloc]; omega) _
  rw [World.size_alloc, z1] at bS
  rw [z1] at bV
  have bX3 := (bX.alloc (.cells #[.int .i64 0] 3)).alloc (.cells #[.slice A0 zs.length c0] 25)
  have bV3 := bV.alloc (.cells #[.slice A0 zs.length c0] 25)
  have hsz : ((((w.alloc (.cells #[.int .i64 x] 3)).drewN nd).alloc (.cells #[.int .i64 0] 3)).alloc (.cells #[.slice A0 zs.length c0] 25)).heap.size = w.heap.size + 3 := by rw [World.size_alloc, World.size_alloc, z1]
  generalize ((((w.alloc (.cells #[.int .i64 x] 3)).drewN nd).alloc (.cells #[.int .i64 0] 3)).alloc (.cells #[.slice A0 zs.length c0] 25)) = W0 at *
  refine wpIn_rangeFunc_ownG hro (by omega) (gf := 108) (lb := #[.pointer (some ⟨w.heap.size + 1 + 1, 0, none⟩)]) rfl h86 (enters_of Try.func108 (by kernel_rfl) rfl)
    (Bw.back_stops F (3 - 1) h86 hro (by omega) (w.heap.size + 1 + 1) w.heap.size _ zs hreach _ (by omega) (by omega) bS.cell (hI.below hB0)) Bw.Kp.trans (Bw.Kp_b (by omega) (by omega)) (Below.refl _ _) (fun _ => rfl)
    (fun pre W => (W.cell? ⟨w.heap.size, 0, none⟩ = some (.int .i64 x) ∧ W.cell? ⟨w.heap.size + 1, 0, none⟩ = some (.int .i64 (acc x pre)) ∧ W.frozen? ⟨w.heap.size + 1, 0, none⟩ = false) ∧ Below w.heap.size w W)
    (fun _ _ _ => False)
    (OwnFrom.and (Own.from (fun s A B row hs hg hr => ⟨cell_kept hs.1 hg hr, cell_kept hs.2.1 hg hr, (frozen_kept hs.2.1 hg hr).trans hs.2.2⟩) _) (ownFrom_below (Nat.le_refl _) (by omega)))
    (fun _ _ _ _ _ hs _ _ => hs)
    ⟨⟨bX3.cell, bV3.cell, bV3.frozen⟩, hB0⟩
    (fun p => { tmps := #[.slice A0 zs.length c0, .int .i64 x, undef, .pointer (some ⟨w.heap.size, 0, none⟩), .int .i64 0, .pointer (some ⟨w.heap.size + 1, 0, none⟩), undef, .int .i64 p.2, .slice A0 zs.length c0, .bool true, .bool false, .bool false, .int .i64 x, .bool false, .bool false, .bool false, .int .i64 x, .bool false, .bool false, .slice A0 zs.length c0, .func (.func 108) #[] #[.pointer (some ⟨w.heap.size + 1 + 1, 0, none⟩)], .int .i64 (p.1 : Int), .int .i64 p.2, undef, undef, undef, undef, undef, undef, undef], defers := [] }) ?assign ?body ?done ?stop
  case assign =>
    intro l p W K hK
    gi_wp2
    exact hK
  case body =>
    rintro l pre p W ⟨⟨hx, hc, hf⟩, hB⟩ _
    gi_wp2
    exact ⟨(KeepsOthers.setCell _ _ _).from _, ⟨(Below.refl w.heap.size W).setCell (p := ⟨w.heap.size + 1, 0, none⟩) (Nat.le_succ _) _, fun _ hv => cell_other (by omega) hv⟩, ⟨cell_other (by omega) hx, by rw [acc_snoc]; exact World.cell?_setCell_same' _ _ _ (by rw [hc]; rfl), by rw [World.frozen?_setCell]; exact hf⟩, hB.setCell (p := ⟨w.heap.size + 1, 0, none⟩) (Nat.le_succ _) _⟩
  case done =>
    rintro D ys W hD rfl ⟨⟨hx, hc, _⟩, hB⟩ hK
    gi_wp2
    refine ⟨by simp, .inl ⟨_, _, rfl, run_takeDeferred hK, ?_⟩⟩
    exact ⟨_, results_tmp rfl _ _ _, rfl, hB.trans (belowK_b (w := w) (Nat.le_refl _) W D _ _ (by omega) hK rfl rfl)⟩
  case stop =>
    rintro D c pre W _ _ h _
    exact h.elim
set_option maxRecDepth 100000 in
set_option maxHeartbeats 2000000 in
theorem impl_PolyAt.no (k : Nat) (A0 : Option Addr) (c0 : Nat) (zs : List Int) (x : Int) (w : World) (hr0 : Kd.C (Kd.int .i64) w A0 zs.length zs) (hc0 : zs.length ≤ c0) (hv : impl_validCoefs.f k zs = some false)  :
    Calls Try.prog 46 #[.slice A0 zs.length c0, .int .i64 x] w fun e w' => e = .returned (.int .i64 (-1)) ∧ Below w.heap.size w w' := by
  refine (callsIn_wide (n := 3)).mp ?_
  have hro : Fence.wide.round = none := rfl
  have h46 : Fence.wide.fn 46 := trivial
  have h77 : Fence.wide.fn 82 := trivial
  generalize hF : Fence.wide = F at hro h46 h77
  have hV : ∀ w n, Kd.C (Kd.int .i64) w A0 zs.length zs → CallsIn F n Try.prog 82 #[.slice A0 zs.length c0] w fun e w' => e = .returned (.bool false) ∧ Drawn0 w w' := by
    intro w n h
    rw [← hF]
    exact callsIn_wide.mpr (impl_validCoefs.calls k A0 c0 zs false w h hc0 hv)
  clear hF
  refine callsIn_of_wp_marks Try.func46 rfl h46 ?_ hro
  simp only [Try.ntmps46, List.size_toArray, List.length_cons, List.length_nil, Nat.reduceAdd, Nat.reduceSub, Array.replicate_succ, Array.replicate_zero, List.push_toArray, List.append_toArray, List.nil_append, List.cons_append]
  gi_wp2_with (gi_at_call 82; refine (hV _ _ ?_).mono ?_; (· first | exact hr0 | exact Kd.C_alloc hr0 _); rintro e w' ⟨rfl, ⟨nd, rfl⟩⟩)
  have hB0 : Below w.heap.size w ((w.alloc (.cells #[.int .i64 x] 3)).drewN nd) := pw_below_drewN ((Below.refl _ w).alloc (Nat.le_refl _) _) nd
  exact ⟨_, results_tmp rfl _ _ _, rfl, hB0⟩
set_option maxRecDepth 100000 in
set_option maxHeartbeats 2000000 in
theorem impl_PolyAt.low (k : Nat) (A0 : Option Addr) (c0 : Nat) (zs : List Int) (x : Int) (w : World) (hr0 : Kd.C (Kd.int .i64) w A0 zs.length zs) (hc0 : zs.length ≤ c0) (hv : impl_validCoefs.f k zs = some true) (h0 : x < 0) :
    Calls Try.prog 46 #[.slice A0 zs.length c0, .int .i64 x] w fun e w' => e = .returned (.int .i64 (-1)) ∧ Below w.heap.size w w' := by
  refine (callsIn_wide (n := 3)).mp ?_
  have hro : Fence.wide.round = none := rfl
  have h46 : Fence.wide.fn 46 := trivial
  have h77 : Fence.wide.fn 82 := trivial
  generalize hF : Fence.wide = F at hro h46 h77
  have c1 : decide (x < 0) = true := decide_eq_true h0
  have hV : ∀ w n, Kd.C (Kd.int .i64) w A0 zs.length zs → CallsIn F n Try.prog 82 #[.slice A0 zs.length c0] w fun e w' => e = .returned (.bool true) ∧ Drawn0 w w' := by
    intro w n h
    rw [← hF]
    exact callsIn_wide.mpr (impl_validCoefs.calls k A0 c0 zs true w h hc0 hv)
  clear hF
  refine callsIn_of_wp_marks Try.func46 rfl h46 ?_ hro
  simp only [Try.ntmps46, List.size_toArray, List.length_cons, List.length_nil, Nat.reduceAdd, Nat.reduceSub, Array.replicate_succ, Array.replicate_zero, List.push_toArray, List.append_toArray, List.nil_append, List.cons_append]
  gi_wp2_with (gi_at_call 82; refine (hV _ _ ?_).mono ?_; (· first | exact hr0 | exact Kd.C_alloc hr0 _); rintro e w' ⟨rfl, ⟨nd, rfl⟩⟩)
  have hB0 : Below w.heap.size w ((w.alloc (.cells #[.int .i64 x] 3)).drewN nd) := pw_below_drewN ((Below.refl _ w).alloc (Nat.le_refl _) _) nd
  exact ⟨_, results_tmp rfl _ _ _, rfl, hB0⟩
set_option maxRecDepth 100000 in
set_option maxHeartbeats 2000000 in
theorem impl_PolyAt.high (k : Nat) (A0 : Option Addr) (c0 : Nat) (zs : List Int) (x : Int) (w : World) (hr0 : Kd.C (Kd.int .i64) w A0 zs.length zs) (hc0 : zs.length ≤ c0) (hv : impl_validCoefs.f k zs = some true) (h0 : ¬ x < 0) (h1 : 250 < x) :
    Calls Try.prog 46 #[.slice A0 zs.length c0, .int .i64 x] w fun e w' => e = .returned (.int .i64 (-1)) ∧ Below w.heap.size w w' := by
  refine (callsIn_wide (n := 3)).mp ?_
  have hro : Fence.wide.round = none := rfl
  have h46 : Fence.wide.fn 46 := trivial
  have h77 : Fence.wide.fn 82 := trivial
  generalize hF : Fence.wide = F at hro h46 h77
  have c1 : decide (x < 0) = false := decide_eq_false h0
  have c2 : decide (250 < x) = true := decide_eq_true h1
  have hV : ∀ w n, Kd.C (Kd.int .i64) w A0 zs.length zs → CallsIn F n Try.prog 82 #[.slice A0 zs.length c0] w fun e w' => e = .returned (.bool true) ∧ Drawn0 w w' := by
    intro w n h
    rw [← hF]
    exact callsIn_wide.mpr (impl_validCoefs.calls k A0 c0 zs true w h hc0 hv)
  clear hF
  refine callsIn_of_wp_marks Try.func46 rfl h46 ?_ hro
  simp only [Try.ntmps46, List.size_toArray, List.length_cons, List.length_nil, Nat.reduceAdd, Nat.reduceSub, Array.replicate_succ, Array.replicate_zero, List.push_toArray, List.append_toArray, List.nil_append, List.cons_append]
  gi_wp2_with (gi_at_call 82; refine (hV _ _ ?_).mono ?_; (· first | exact hr0 | exact Kd.C_alloc hr0 _); rintro e w' ⟨rfl, ⟨nd, rfl⟩⟩)
  have hB0 : Below w.heap.size w ((w.alloc (.cells #[.int .i64 x] 3)).drewN nd) := pw_below_drewN ((Below.refl _ w).alloc (Nat.le_refl _) _) nd
  exact ⟨_, results_tmp rfl _ _ _, rfl, hB0⟩
def impl_PolyAt.f (k : Nat) (l : List Int) (x : Int) : Option Int := (impl_validCoefs.f k l).bind fun t => if t = true then (if x < 0 then some (-1) else if 250 < x then some (-1) else some (polyOf x l)) else some (-1)
theorem impl_PolyAt.mono : ∀ a0 a1 k, LeO (impl_PolyAt.f k a0 a1) (impl_PolyAt.f (k + 1) a0 a1) := by
  intro a0 a1 k
  unfold impl_PolyAt.f
  exact LeO.bind (impl_validCoefs.mono _ _) (fun _ => LeO.refl _)
theorem impl_PolyAt.calls (k : Nat) (A0 : Option Addr) (c0 : Nat) (zs : List Int) (x : Int) (r : Int) (w : World) (hr0 : Kd.C (Kd.int .i64) w A0 zs.length zs) (hc0 : zs.length ≤ c0) (h : impl_PolyAt.f k zs x = some r) :
    Calls Try.prog 46 #[.slice A0 zs.length c0, .int .i64 x] w fun e w' => e = .returned (.int .i64 r) ∧ Below w.heap.size w w' := by
  unfold impl_PolyAt.f at h
  obtain ⟨t, hv, h⟩ := Option.bind_eq_some_iff.mp h
  cases t with
  | false =>
    obtain rfl : -1 = r := by simpa using h
    exact impl_PolyAt.no k A0 c0 zs x w hr0 hc0 hv
  | true =>
    rw [if_pos rfl] at h
    by_cases h0 : x < 0
    · rw [if_pos h0] at h
      obtain rfl := Option.some.inj h
      exact impl_PolyAt.low k A0 c0 zs x w hr0 hc0 hv h0
    rw [if_neg h0] at h
    by_cases h1 : 250 < x
    · rw [if_pos h1] at h
      obtain rfl := Option.some.inj h
      exact impl_PolyAt.high k A0 c0 zs x w hr0 hc0 hv h0 h1
    rw [if_neg h1] at h
    obtain rfl := Option.some.inj h
    exact impl_PolyAt.way k A0 c0 zs x w hr0 hc0 hv (by omega) (by omega)
end Go.Proofs.Ytgdnhidnojjpiac.PFnPolyAt
