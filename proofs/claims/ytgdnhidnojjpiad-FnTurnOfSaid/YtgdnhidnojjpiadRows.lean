/-
  No cell of these rows narrows 'for every input' (looked for: loops, veiled, ifaces, maps, wideKeys, modest, calm, conditions, laid).
  DERIVED. THE GIVEN ROWS OF THIS SEAT. 5 by the template 'for every input the law returns true; each argument reads behind the call as it read before'; 0 by the template 'total and deterministic' (their statements: YtgdnhidnojjpiadTotals.lean).
  GIVEN WITH THE SEED: the statements are not yours to turn. If you find one false, say at which input.
  Laid BY PROGRAM, IN A SANDBOX (cutbox-rows.mjs): the forced cells as the released guide's own fill.sh prints them over the translation d0bf3b0e14952728… (all of the seat's roots in one cut). By AI agents, Wed Nov 11 2026. No macro, syntax, notation, axiom, sorry.
-/
import Derived.Test.YtgdnhidnojjpiadChecked
import GoSem.Claim
import GoSem.ClaimJoined
import GoSem.ClaimMapViews
import Derived.JoinedTies
import Derived.KernelRfl
namespace Go.Proofs.Ytgdnhidnojjpiad
/- THE CELL 'sum', in the pinned program and in every row, IS THE sha256 OF THE DUMP (.gsa) THAT YtgdnhidnojjpiadProg.lean LOADS. Nothing in Lean hashes anything: it is a label: what it is worth is what the hold of that sum in a sandbox is worth. -/
noncomputable def Try.pinned : Pinned := { name := "ytgdnhidnojjpiad", sum := "d0bf3b0e1495272803c308d6c3ec19b18069d49ffd2b2c54b405e874d5e89494", checked := Try.checked }
namespace Rows
def none {H : Type} : Left H := { results := [], args := [] }

/-- 'laws.FnExactInterestOf': WHATEVER THE INPUT: true; the input reads as it did. -/
def fnExactInterestOfSpec : ChangeSpec := { name := "fnExactInterestOf", fn := fun _ => fun
  | [d1, d2, d3] => { results := [.lit (.bool true)], args := [d1, d2, d3] }
  | _ => none }
def fnExactInterestOfRow : OpenClaim := { program := "ytgdnhidnojjpiad", sum := "d0bf3b0e1495272803c308d6c3ec19b18069d49ffd2b2c54b405e874d5e89494", func := "loop.example/savingsclub/laws.FnExactInterestOf", spec := "fnExactInterestOf", apart := false }
def FnExactInterestOfSaid : Prop := fnExactInterestOfRow.holds Try.pinned (OpenSpec.ofChange fnExactInterestOfSpec)

/-- ITS FALSE NEIGHBOUR: 'it returns false'. Refute it at one input. -/
def fnExactInterestOfWrong : ChangeSpec := { name := "fnExactInterestOf", fn := fun _ => fun
  | [d1, d2, d3] => { results := [.lit (.bool false)], args := [d1, d2, d3] }
  | _ => none }
def FnExactInterestOfWrongFalsely : Prop := fnExactInterestOfRow.holds Try.pinned (OpenSpec.ofChange fnExactInterestOfWrong)

/-- 'laws.FnExactVested': WHATEVER THE INPUT: true; the input reads as it did. -/
def fnExactVestedSpec : ChangeSpec := { name := "fnExactVested", fn := fun _ => fun
  | [d1, d2, d3] => { results := [.lit (.bool true)], args := [d1, d2, d3] }
  | _ => none }
def fnExactVestedRow : OpenClaim := { program := "ytgdnhidnojjpiad", sum := "d0bf3b0e1495272803c308d6c3ec19b18069d49ffd2b2c54b405e874d5e89494", func := "loop.example/savingsclub/laws.FnExactVested", spec := "fnExactVested", named := ["math/bits.divideError", "math/bits.overflowError"], apart := false }
def FnExactVestedSaid : Prop := fnExactVestedRow.holds Try.pinned (OpenSpec.ofChange fnExactVestedSpec)

/-- ITS FALSE NEIGHBOUR: 'it returns false'. Refute it at one input. -/
def fnExactVestedWrong : ChangeSpec := { name := "fnExactVested", fn := fun _ => fun
  | [d1, d2, d3] => { results := [.lit (.bool false)], args := [d1, d2, d3] }
  | _ => none }
def FnExactVestedWrongFalsely : Prop := fnExactVestedRow.holds Try.pinned (OpenSpec.ofChange fnExactVestedWrong)

/-- 'laws.FnCompound': WHATEVER THE INPUT: true; the input reads as it did. -/
def fnCompoundSpec : ChangeSpec := { name := "fnCompound", fn := fun _ => fun
  | [d] => { results := [.lit (.bool true)], args := [d] }
  | _ => none }
def fnCompoundRow : OpenClaim := { program := "ytgdnhidnojjpiad", sum := "d0bf3b0e1495272803c308d6c3ec19b18069d49ffd2b2c54b405e874d5e89494", func := "loop.example/savingsclub/laws.FnCompound", spec := "fnCompound", apart := false }
def FnCompoundSaid : Prop := fnCompoundRow.holds Try.pinned (OpenSpec.ofChange fnCompoundSpec)

/-- ITS FALSE NEIGHBOUR: 'it returns false'. Refute it at one input. -/
def fnCompoundWrong : ChangeSpec := { name := "fnCompound", fn := fun _ => fun
  | [d] => { results := [.lit (.bool false)], args := [d] }
  | _ => none }
def FnCompoundWrongFalsely : Prop := fnCompoundRow.holds Try.pinned (OpenSpec.ofChange fnCompoundWrong)

/-- 'laws.FnCompoundMore': WHATEVER THE INPUT: true; the input reads as it did. -/
def fnCompoundMoreSpec : ChangeSpec := { name := "fnCompoundMore", fn := fun _ => fun
  | [d] => { results := [.lit (.bool true)], args := [d] }
  | _ => none }
def fnCompoundMoreRow : OpenClaim := { program := "ytgdnhidnojjpiad", sum := "d0bf3b0e1495272803c308d6c3ec19b18069d49ffd2b2c54b405e874d5e89494", func := "loop.example/savingsclub/laws.FnCompoundMore", spec := "fnCompoundMore", apart := false }
def FnCompoundMoreSaid : Prop := fnCompoundMoreRow.holds Try.pinned (OpenSpec.ofChange fnCompoundMoreSpec)

/-- ITS FALSE NEIGHBOUR: 'it returns false'. Refute it at one input. -/
def fnCompoundMoreWrong : ChangeSpec := { name := "fnCompoundMore", fn := fun _ => fun
  | [d] => { results := [.lit (.bool false)], args := [d] }
  | _ => none }
def FnCompoundMoreWrongFalsely : Prop := fnCompoundMoreRow.holds Try.pinned (OpenSpec.ofChange fnCompoundMoreWrong)

/-- 'laws.FnTurnOf': WHATEVER THE INPUT: true; the input reads as it did. -/
def fnTurnOfSpec : ChangeSpec := { name := "fnTurnOf", fn := fun _ => fun
  | [d] => { results := [.lit (.bool true)], args := [d] }
  | _ => none }
def fnTurnOfRow : OpenClaim := { program := "ytgdnhidnojjpiad", sum := "d0bf3b0e1495272803c308d6c3ec19b18069d49ffd2b2c54b405e874d5e89494", func := "loop.example/savingsclub/laws.FnTurnOf", spec := "fnTurnOf", apart := false }
def FnTurnOfSaid : Prop := fnTurnOfRow.holds Try.pinned (OpenSpec.ofChange fnTurnOfSpec)

/-- ITS FALSE NEIGHBOUR: 'it returns false'. Refute it at one input. -/
def fnTurnOfWrong : ChangeSpec := { name := "fnTurnOf", fn := fun _ => fun
  | [d] => { results := [.lit (.bool false)], args := [d] }
  | _ => none }
def FnTurnOfWrongFalsely : Prop := fnTurnOfRow.holds Try.pinned (OpenSpec.ofChange fnTurnOfWrong)

/- THE SECOND FORM. 'bulk': how many values and letters a reading holds, each counted each time it is reached (what is shared counts as often as it is met; a slice's spare places count too). A statement '..UptoSaid' is the law's where the arguments, and the package variables that the reading takes, are together of bulk at most 1048576: NARROWER than '..Said'. Prove '..Said' where nothing that the law and all that it calls make is longer than what came in: it says more and counts as full. Else prove '..UptoSaid'. A law counts once. -/
mutual
def uptoBulk {H : Type} : DataW H → Nat
  | .lit (.string bytes) => bytes.length + 1
  | .lit _ => 1
  | .nil => 1
  | .ptr d => uptoBulk d + 1
  | .slice elems spare => uptoBulkAll elems + uptoBulkAll spare + 1
  | .agg parts => uptoBulkAll parts + 1
  | .iface _ d => uptoBulk d + 1
  | .map entries => uptoBulkEntries entries + 1
  | .held _ => 1
def uptoBulkAll {H : Type} : List (DataW H) → Nat
  | [] => 0
  | d :: r => uptoBulk d + uptoBulkAll r
def uptoBulkEntries {H : Type} : List (Lit × DataW H) → Nat
  | [] => 0
  | x :: r => uptoBulkEntry x + uptoBulkEntries r
def uptoBulkEntry {H : Type} : Lit × DataW H → Nat
  | (.string bytes, d) => bytes.length + uptoBulk d + 1
  | (_, d) => uptoBulk d + 1
 end
def uptoSmall : (H : Type) → List (DataW H) → Bool := fun _ ds => decide (uptoBulkAll ds ≤ 1048576)
def OpenSpec.upto (s : _root_.Go.ChangeSpec) : _root_.Go.OpenSpec := { _root_.Go.OpenSpec.ofChange s with cond := some uptoSmall }

/-- 'laws.FnExactInterestOf', WHERE WHAT IT READS IS OF BULK AT MOST 1048576: true; the input reads as it did. -/
def fnExactInterestOfUptoRow : OpenClaim := { program := "ytgdnhidnojjpiad", sum := "d0bf3b0e1495272803c308d6c3ec19b18069d49ffd2b2c54b405e874d5e89494", func := "loop.example/savingsclub/laws.FnExactInterestOf", spec := "fnExactInterestOf", apart := false, narrowed := true }
def FnExactInterestOfUptoSaid : Prop := fnExactInterestOfUptoRow.holds Try.pinned (OpenSpec.upto fnExactInterestOfSpec)

/-- 'laws.FnExactVested', WHERE WHAT IT READS IS OF BULK AT MOST 1048576: true; the input reads as it did. -/
def fnExactVestedUptoRow : OpenClaim := { program := "ytgdnhidnojjpiad", sum := "d0bf3b0e1495272803c308d6c3ec19b18069d49ffd2b2c54b405e874d5e89494", func := "loop.example/savingsclub/laws.FnExactVested", spec := "fnExactVested", named := ["math/bits.divideError", "math/bits.overflowError"], apart := false, narrowed := true }
def FnExactVestedUptoSaid : Prop := fnExactVestedUptoRow.holds Try.pinned (OpenSpec.upto fnExactVestedSpec)

/-- 'laws.FnCompound', WHERE WHAT IT READS IS OF BULK AT MOST 1048576: true; the input reads as it did. -/
def fnCompoundUptoRow : OpenClaim := { program := "ytgdnhidnojjpiad", sum := "d0bf3b0e1495272803c308d6c3ec19b18069d49ffd2b2c54b405e874d5e89494", func := "loop.example/savingsclub/laws.FnCompound", spec := "fnCompound", apart := false, narrowed := true }
def FnCompoundUptoSaid : Prop := fnCompoundUptoRow.holds Try.pinned (OpenSpec.upto fnCompoundSpec)

/-- 'laws.FnCompoundMore', WHERE WHAT IT READS IS OF BULK AT MOST 1048576: true; the input reads as it did. -/
def fnCompoundMoreUptoRow : OpenClaim := { program := "ytgdnhidnojjpiad", sum := "d0bf3b0e1495272803c308d6c3ec19b18069d49ffd2b2c54b405e874d5e89494", func := "loop.example/savingsclub/laws.FnCompoundMore", spec := "fnCompoundMore", apart := false, narrowed := true }
def FnCompoundMoreUptoSaid : Prop := fnCompoundMoreUptoRow.holds Try.pinned (OpenSpec.upto fnCompoundMoreSpec)

/-- 'laws.FnTurnOf', WHERE WHAT IT READS IS OF BULK AT MOST 1048576: true; the input reads as it did. -/
def fnTurnOfUptoRow : OpenClaim := { program := "ytgdnhidnojjpiad", sum := "d0bf3b0e1495272803c308d6c3ec19b18069d49ffd2b2c54b405e874d5e89494", func := "loop.example/savingsclub/laws.FnTurnOf", spec := "fnTurnOf", apart := false, narrowed := true }
def FnTurnOfUptoSaid : Prop := fnTurnOfUptoRow.holds Try.pinned (OpenSpec.upto fnTurnOfSpec)

end Rows
end Go.Proofs.Ytgdnhidnojjpiad
