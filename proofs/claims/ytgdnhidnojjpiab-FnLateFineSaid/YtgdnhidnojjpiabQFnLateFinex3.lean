/- The law FnLateFine as a function on plain values, and that more rounds change none of its answers. For the number of rounds that is given. -/
import Derived.Test.YtgdnhidnojjpiabPFnLateFinex0
import Derived.Test.YtgdnhidnojjpiabPFnLateFinex1
import Derived.Test.YtgdnhidnojjpiabPFnLateFinex2
namespace Go.Proofs.Ytgdnhidnojjpiab.PFnLateFine
open Go.RowKit Go.Proofs.YtgdnhidnojjpiabW.PrintWords Go.Proofs.YtgdnhidnojjpiabW.PrintLast Go.Proofs.YtgdnhidnojjpiabW.PrintMore
attribute [local go_sem] max2_int min2_int max_two min_two max_three min_three max_four min_four   -- for this text's walks alone
set_option linter.unusedVariables false
set_option linter.unusedSimpArgs false

/-! ### laws_FnLateFine: function 13 -/
def laws_FnLateFine.j0 : Nat → Int → Int → Int → Bool → Int → Int → Option (Bool)
  | 0, _, _, _, _, _, _ => none
  | k + 1, x3, x5, x6, x29, x182000, x182001 => if x29 = true then ((spec_LateFine.f k x3 x182000 x182001 x5).bind fun t184 => (some (x6 == t184))) else ((impl_LateFine.f k x3 x182000 x182001 1).bind fun t185 => ((impl_RoundUp.f x3 x182000 x182001).bind fun t186 => (if t185 = t186 then ((impl_LateFine.f k x3 x182000 x182001 0).bind fun t187 => (if t187 = 0 then (if x6 ≤ x3 then (if x5 = 0 then (if x5 > 1000 then (some true) else ((impl_RoundUp.f x3 x182000 x182001).bind fun t188 => (some (x6 == (mn x3 (wrap64 (x5 * t188))))))) else ((impl_LateFine.f k x3 x182000 x182001 (wrap64 (x5 - 1))).bind fun t189 => (if x6 ≥ t189 then (if x5 > 1000 then (some true) else ((impl_RoundUp.f x3 x182000 x182001).bind fun t190 => (some (x6 == (mn x3 (wrap64 (x5 * t190))))))) else (some false)))) else (some false)) else (some false))) else (some false))))
def laws_FnLateFine.f (k : Nat) (l0 : List Int) : Option (Bool) := if (l0.length : Int) > 1048576 then (some true) else ((spec_DrawLateFine.f k l0).bind fun bt177 => ((impl_LateFine.f k bt177.1 bt177.2.1 bt177.2.2.1 bt177.2.2.2).bind fun t182 => ((spec_LateFine.f k bt177.1 bt177.2.1 bt177.2.2.1 bt177.2.2.2).bind fun t183 => (if t182 = t183 then (laws_FnLateFine.j0 k bt177.1 bt177.2.2.2 t182 (decide (t182 < 0)) bt177.2.1 bt177.2.2.1) else (laws_FnLateFine.j0 k bt177.1 bt177.2.2.2 t182 true bt177.2.1 bt177.2.2.1)))))
theorem laws_FnLateFine.mono_l : ∀ k, (∀ y0 y1 y2 y3 y4 y5, LeO (laws_FnLateFine.j0 k y0 y1 y2 y3 y4 y5) (laws_FnLateFine.j0 (k + 1) y0 y1 y2 y3 y4 y5))
  | 0 => fun _ _ _ _ _ _ r h => by simp [laws_FnLateFine.j0] at h
  | k + 1 => by
    have ih0 := laws_FnLateFine.mono_l k
    · intro y0 y1 y2 y3 y4 y5
      unfold laws_FnLateFine.j0
      repeat' first
      | (with_reducible exact ih0 _ _ _ _ _ _)
      | (with_reducible exact impl_LateFine.mono _ _ _ _ _)
      | (with_reducible exact spec_DrawLateFine.mono _ _)
      | (with_reducible exact spec_LateFine.mono _ _ _ _ _)
      | (with_reducible exact LeO.refl _)
      | (with_reducible exact LeO.none _)
      | (with_reducible refine LeO.ite ?_ ?_)
      | (with_reducible refine LeO.bind ?_ (fun _ => ?_))
      | exact ih0 _ _ _ _ _ _
      | exact impl_LateFine.mono _ _ _ _ _
      | exact spec_DrawLateFine.mono _ _
      | exact spec_LateFine.mono _ _ _ _ _
      | exact LeO.none _
      | refine LeO.ite ?_ ?_
      | refine LeO.bind ?_ (fun _ => ?_)
theorem laws_FnLateFine.mono : ∀ a0 k, LeO (laws_FnLateFine.f k a0) (laws_FnLateFine.f (k + 1) a0) := by
  intro a0 k
  have ih0 := laws_FnLateFine.mono_l k
  unfold laws_FnLateFine.f
  repeat' first
      | (with_reducible exact ih0 _ _ _ _ _ _)
      | (with_reducible exact impl_LateFine.mono _ _ _ _ _)
      | (with_reducible exact spec_DrawLateFine.mono _ _)
      | (with_reducible exact spec_LateFine.mono _ _ _ _ _)
      | (with_reducible exact LeO.refl _)
      | (with_reducible exact LeO.none _)
      | (with_reducible refine LeO.ite ?_ ?_)
      | (with_reducible refine LeO.bind ?_ (fun _ => ?_))
      | exact ih0 _ _ _ _ _ _
      | exact impl_LateFine.mono _ _ _ _ _
      | exact spec_DrawLateFine.mono _ _
      | exact spec_LateFine.mono _ _ _ _ _
      | exact LeO.none _
      | refine LeO.ite ?_ ?_
      | refine LeO.bind ?_ (fun _ => ?_)
def laws_FnLateFine.T7 : Bool × List (List Nat × List Nat) := (true, [([], []), ([], []), ([0, 1], [0, 1]), ([], []), ([], []), ([3, 4, 2], [3, 4]), ([2, 5], [2, 5]), ([6, 5], [6]), ([7], [7]), ([7], [7]), ([8, 9, 7, 7], [7, 8, 9]), ([10, 7], [7, 10]), ([7, 11], [7, 11]), ([12, 10], [12]), ([13], [13]), ([13], [13]), ([14, 15, 13], [13, 14, 15]), ([13, 16], [13, 16]), ([17, 13], [17]), ([18], [18]), ([19, 18], [18, 19]), ([20, 18, 18], [18, 20]), ([21], [21]), ([21], [21]), ([21], [21]), ([21], [21]), ([25, 21], [21, 25]), ([23, 24, 26, 21, 21], [21, 23, 24, 26]), ([22, 27, 21], [21, 22, 27]), ([21, 28, 18], [18, 21, 28]), ([18, 29], [18, 29]), ([30, 27], [30]), ([31], [31]), ([32, 31], [31, 32]), ([33, 31, 31], [31, 33]), ([34], [34]), ([34], [34]), ([34], [34]), ([34], [34]), ([34], [34]), ([38, 39, 34, 34], [34, 38, 39]), ([37, 40, 34], [34, 37, 40]), ([36, 41, 34], [34, 36, 41]), ([35, 42, 34], [34, 35, 42]), ([34, 43, 31], [31, 34, 43]), ([31, 44], [31, 44]), ([45, 40, 0, 1, 2, 3, 4, 5, 6, 7, 8, 9, 10, 11, 12, 13, 14, 15, 16, 17, 18, 19, 20, 21, 22, 23, 24, 25, 26, 27, 28, 29, 30, 31, 32, 33, 34, 35, 36, 37, 38, 39, 40, 41, 42, 43, 44, 45], [45])])
def laws_FnLateFine.B7 : List Nat := [0, 0, 3, 0, 0, 31, 63, 127, 255, 255, 1023, 2047, 4095, 8191, 16383, 16383, 65535, 131071, 262143, 524287, 1048575, 2097151, 4194303, 4194303, 4194303, 4194303, 37748735, 130023423, 268435455, 536870911, 1073741823, 2147483647, 4294967295, 8589934591, 17179869183, 34359738367, 34359738367, 34359738367, 34359738367, 34359738367, 858993459199, 2095944040447, 4363686772735, 8796093022207, 17592186044415, 35184372088831, 70368744177663]
theorem laws_FnLateFine.tab7 : rtab .any (opsOf Try.f13 7) = laws_FnLateFine.T7 := by kernel_rfl
theorem laws_FnLateFine.bits7 : waitsOk laws_FnLateFine.T7.2 laws_FnLateFine.B7 = true := by kernel_rfl
end Go.Proofs.Ytgdnhidnojjpiab.PFnLateFine
