/- The given statement on the law FnExactValidEntries holds: whatever values of their types the arguments have, the law returns true, and its arguments read afterwards as before. No condition beyond the row's own. (Made by wip/row.py; the walk is the print's, the plain law is PureFnExactValidEntries.) -/
import Derived.Test.YtgdnhidnojjpiacRows
import Derived.Test.YtgdnhidnojjpiacPFnExactValidEntriesx2
import Derived.Test.YtgdnhidnojjpiacPureFnExactValidEntries
import Derived.WalkKit
import Derived.ProofKit
import Derived.OpenShut
import Derived.ShutString
import Derived.ChangeOld
import Derived.Below
import Derived.SizedLaws
import Derived.Lib.SmallJoins
import Derived.Test.YtgdnhidnojjpiacOpen
namespace Go.Proofs.Ytgdnhidnojjpiac.fnExactValidEntries
open Go.ChangeShapes Go.WideShapes Go.ChangeAt Go.RowKit Go.Joins
open Go.ChangeMaps (open_string shut_string)
set_option linter.unusedVariables false
theorem own : ownKnob Try.prog.godebug = none := by kernel_rfl
theorem laidOut : laidOutB Try.prog = true := by kernel_rfl
set_option maxRecDepth 100000 in
theorem lifted (os : Os) (started : os.Started) (H : Type) (enc : TypeId × Value → H) :
    ReturnsInHanded {} Try.checked os 4 .any (Rows.fnExactValidEntriesSpec.pre6 enc Try.prog Try.f4 Rows.fnExactValidEntriesRow.domain false) (Rows.fnExactValidEntriesSpec.post enc Try.prog Try.f4 false true false false) := by
  refine returnsInHanded_of_change_sized (C := Try.checked) own started (by kernel_rfl) Try.func4
    (ChangeSpec.witness6 (enc := enc) (C := Try.checked) false ⟨#[], #[.slice none 0 0], []⟩ 8 (by kernel_rfl) (by kernel_rfl) (by kernel_rfl) (by kernel_rfl)) ?_
  intro W base args ds gs before hval0 hW hcnd hsz0 _
  have hsz : (DataW.weightsEach Try.prog (Try.f4.params.toList ++ Rows.fnExactValidEntriesSpec.plain.varTypes Try.prog) (ds ++ gs)).all (· ≤ reachBytes) = true := hsz0
  have hval : ∀ (j : Nat) t v, Try.f4.params[j]? = some t → args[j]? = some v → Value.okWide Try.prog W .any base t v := hval0
  have hW' := hW
  obtain ⟨p, q, hA0, hV, rfl, hfz, hnd⟩ := hW
  have hA : DataW.TrodAll enc Try.prog W 0 (fun _ => true) true Try.f4.params.toList args.toList ds p := hA0
  rw [Try.params4] at hA hval hsz
  obtain ⟨v0, vs0, d0, ds0, p0, q0, hargs, rfl, rfl, h0, r0⟩ := trodAll_cons hA
  obtain ⟨rfl, rfl, rfl⟩ := trodAll_nil r0
  obtain rfl : args = #[v0] := by cases args; simp_all
  obtain ⟨rfl, rfl⟩ := trodVars_none hV
  have k0 := h0
  have lt0 : ∀ x ∈ p0, x.block < W.heap.size := by obtain ⟨m, hm⟩ := k0; exact DataW.trod_lt m _ _ _ hm
  obtain ⟨A0, len0, cap0, rfl⟩ := okWide_slice Try.underlying30 (hval 0 30 v0 rfl rfl)
  obtain ⟨le0, hm0, hs0, hc0⟩ := Open.open_int_structs Try.underlying30 Try.underlying74 (by kernel_rfl) (by kernel_rfl) (fun j f hj => by rcases j with _ | _ | _ | _ | j <;> simp at hj <;> subst hj <;> exact Try.underlying3) h0
  obtain ⟨xs0, rfl, C0⟩ := Open.row4 PFnExactValidEntries.k74 (fun a b c d => ⟨a, b, c, d⟩) rfl (fun w a b c d => PFnExactValidEntries.k74_mk w ⟨a, b, c, d⟩) hm0 hs0 hc0
  clear hA0 hval0 hsz0 hsz
  obtain ⟨k, hk⟩ := Pure.FnExactValidEntries xs0 hm0
  refine (PFnExactValidEntries.laws_FnExactValidEntries.calls k A0 cap0 xs0 true W C0 le0 hk).mono fun e W' ⟨he, bel⟩ => ?_
  subst he
  exact ⟨_, rfl, _, _, _, [], _, [], hW', trodAll_mk1 (shut_bool Try.underlying4 _), (trodAll_cons_mk (Below.trod laidOut (by kernel_rfl) (of_decide_eq_true (by kernel_rfl)) k0 bel lt0) trodAll_mk0), rfl, bel.frame _, fun h => by cases h⟩
theorem over : Rows.fnExactValidEntriesRow.holds Try.pinned (OpenSpec.ofChange Rows.fnExactValidEntriesSpec) :=
  OpenClaim.holds_of_wide 4 Try.f4 rfl rfl rfl rfl rfl rfl rfl ⟨rfl, rfl, rfl, rfl, rfl⟩ rfl rfl rfl rfl rfl (by kernel_rfl) Try.func4 (by kernel_rfl)
    (of_decide_eq_true (by kernel_rfl)) (by unfold Func.isWrapper; first | (rw [if_pos (by decide +kernel)]; kernel_rfl) | (rw [if_neg (by decide +kernel)]; exact ⟨rfl, rfl⟩))
    (fun os started H enc _ => lifted os started H enc)
theorem proved : Rows.FnExactValidEntriesSaid := over
#print axioms proved
end Go.Proofs.Ytgdnhidnojjpiac.fnExactValidEntries
namespace Go.Proofs.Ytgdnhidnojjpiac
/-- The row, under a short name, for the claim. -/
theorem fnExactValidEntries_holds : Rows.FnExactValidEntriesSaid := fnExactValidEntries.proved
end Go.Proofs.Ytgdnhidnojjpiac
