/-
  No cell of these rows narrows 'for every input' (looked for: loops, veiled, ifaces, maps, wideKeys, modest, calm, conditions, laid).
  DERIVED. THE GIVEN ROWS OF THIS SEAT. 12 by the template 'for every input the law returns true; each argument reads behind the call as it read before'; 0 by the template 'total and deterministic' (their statements: YtgdnhidnojjpiaaTotals.lean).
  GIVEN WITH THE SEED: the statements are not yours to turn. If you find one false, say at which input.
  Laid BY PROGRAM, IN A SANDBOX (cutbox-rows.mjs): the forced cells as the released guide's own fill.sh prints them over the translation 731ad1f20ebf6aa3… (all of the seat's roots in one cut). By AI agents, Wed Nov 11 2026. No macro, syntax, notation, axiom, sorry.
-/
import Derived.Test.YtgdnhidnojjpiaaChecked
import GoSem.Claim
import GoSem.ClaimJoined
import GoSem.ClaimMapViews
import Derived.JoinedTies
import Derived.KernelRfl
namespace Go.Proofs.Ytgdnhidnojjpiaa
/- THE CELL 'sum', in the pinned program and in every row, IS THE sha256 OF THE DUMP (.gsa) THAT YtgdnhidnojjpiaaProg.lean LOADS. Nothing in Lean hashes anything: it is a label: what it is worth is what the hold of that sum in a sandbox is worth. -/
noncomputable def Try.pinned : Pinned := { name := "ytgdnhidnojjpiaa", sum := "731ad1f20ebf6aa374915536b3f09964c439f69e0376f348067205fc44759151", checked := Try.checked }
namespace Rows
def none {H : Type} : Left H := { results := [], args := [] }

/-- 'laws.FnExactCreditAfter': WHATEVER THE INPUT: true; the input reads as it did. -/
def fnExactCreditAfterSpec : ChangeSpec := { name := "fnExactCreditAfter", fn := fun _ => fun
  | [d1, d2, d3] => { results := [.lit (.bool true)], args := [d1, d2, d3] }
  | _ => none }
def fnExactCreditAfterRow : OpenClaim := { program := "ytgdnhidnojjpiaa", sum := "731ad1f20ebf6aa374915536b3f09964c439f69e0376f348067205fc44759151", func := "loop.example/savingsclub/laws.FnExactCreditAfter", spec := "fnExactCreditAfter", apart := false }
def FnExactCreditAfterSaid : Prop := fnExactCreditAfterRow.holds Try.pinned (OpenSpec.ofChange fnExactCreditAfterSpec)

/-- ITS FALSE NEIGHBOUR: 'it returns false'. Refute it at one input. -/
def fnExactCreditAfterWrong : ChangeSpec := { name := "fnExactCreditAfter", fn := fun _ => fun
  | [d1, d2, d3] => { results := [.lit (.bool false)], args := [d1, d2, d3] }
  | _ => none }
def FnExactCreditAfterWrongFalsely : Prop := fnExactCreditAfterRow.holds Try.pinned (OpenSpec.ofChange fnExactCreditAfterWrong)

/-- 'laws.FnPotOf': WHATEVER THE INPUT: true; the input reads as it did. -/
def fnPotOfSpec : ChangeSpec := { name := "fnPotOf", fn := fun _ => fun
  | [d] => { results := [.lit (.bool true)], args := [d] }
  | _ => none }
def fnPotOfRow : OpenClaim := { program := "ytgdnhidnojjpiaa", sum := "731ad1f20ebf6aa374915536b3f09964c439f69e0376f348067205fc44759151", func := "loop.example/savingsclub/laws.FnPotOf", spec := "fnPotOf", apart := false }
def FnPotOfSaid : Prop := fnPotOfRow.holds Try.pinned (OpenSpec.ofChange fnPotOfSpec)

/-- ITS FALSE NEIGHBOUR: 'it returns false'. Refute it at one input. -/
def fnPotOfWrong : ChangeSpec := { name := "fnPotOf", fn := fun _ => fun
  | [d] => { results := [.lit (.bool false)], args := [d] }
  | _ => none }
def FnPotOfWrongFalsely : Prop := fnPotOfRow.holds Try.pinned (OpenSpec.ofChange fnPotOfWrong)

/-- 'laws.FnCommitTo': WHATEVER THE INPUT: true; the input reads as it did. -/
def fnCommitToSpec : ChangeSpec := { name := "fnCommitTo", fn := fun _ => fun
  | [d] => { results := [.lit (.bool true)], args := [d] }
  | _ => none }
def fnCommitToRow : OpenClaim := { program := "ytgdnhidnojjpiaa", sum := "731ad1f20ebf6aa374915536b3f09964c439f69e0376f348067205fc44759151", func := "loop.example/savingsclub/laws.FnCommitTo", spec := "fnCommitTo", apart := false }
def FnCommitToSaid : Prop := fnCommitToRow.holds Try.pinned (OpenSpec.ofChange fnCommitToSpec)

/-- ITS FALSE NEIGHBOUR: 'it returns false'. Refute it at one input. -/
def fnCommitToWrong : ChangeSpec := { name := "fnCommitTo", fn := fun _ => fun
  | [d] => { results := [.lit (.bool false)], args := [d] }
  | _ => none }
def FnCommitToWrongFalsely : Prop := fnCommitToRow.holds Try.pinned (OpenSpec.ofChange fnCommitToWrong)

/-- 'laws.FnCommitToOnce': WHATEVER THE INPUT: true; the input reads as it did. -/
def fnCommitToOnceSpec : ChangeSpec := { name := "fnCommitToOnce", fn := fun _ => fun
  | [d] => { results := [.lit (.bool true)], args := [d] }
  | _ => none }
def fnCommitToOnceRow : OpenClaim := { program := "ytgdnhidnojjpiaa", sum := "731ad1f20ebf6aa374915536b3f09964c439f69e0376f348067205fc44759151", func := "loop.example/savingsclub/laws.FnCommitToOnce", spec := "fnCommitToOnce", apart := false }
def FnCommitToOnceSaid : Prop := fnCommitToOnceRow.holds Try.pinned (OpenSpec.ofChange fnCommitToOnceSpec)

/-- ITS FALSE NEIGHBOUR: 'it returns false'. Refute it at one input. -/
def fnCommitToOnceWrong : ChangeSpec := { name := "fnCommitToOnce", fn := fun _ => fun
  | [d] => { results := [.lit (.bool false)], args := [d] }
  | _ => none }
def FnCommitToOnceWrongFalsely : Prop := fnCommitToOnceRow.holds Try.pinned (OpenSpec.ofChange fnCommitToOnceWrong)

/-- 'laws.FnExactLateFine': WHATEVER THE INPUT: true; the input reads as it did. -/
def fnExactLateFineSpec : ChangeSpec := { name := "fnExactLateFine", fn := fun _ => fun
  | [d1, d2, d3] => { results := [.lit (.bool true)], args := [d1, d2, d3] }
  | _ => none }
def fnExactLateFineRow : OpenClaim := { program := "ytgdnhidnojjpiaa", sum := "731ad1f20ebf6aa374915536b3f09964c439f69e0376f348067205fc44759151", func := "loop.example/savingsclub/laws.FnExactLateFine", spec := "fnExactLateFine", apart := false }
def FnExactLateFineSaid : Prop := fnExactLateFineRow.holds Try.pinned (OpenSpec.ofChange fnExactLateFineSpec)

/-- ITS FALSE NEIGHBOUR: 'it returns false'. Refute it at one input. -/
def fnExactLateFineWrong : ChangeSpec := { name := "fnExactLateFine", fn := fun _ => fun
  | [d1, d2, d3] => { results := [.lit (.bool false)], args := [d1, d2, d3] }
  | _ => none }
def FnExactLateFineWrongFalsely : Prop := fnExactLateFineRow.holds Try.pinned (OpenSpec.ofChange fnExactLateFineWrong)

/-- 'laws.FnExactRoundEven': WHATEVER THE INPUT: true; the input reads as it did. -/
def fnExactRoundEvenSpec : ChangeSpec := { name := "fnExactRoundEven", fn := fun _ => fun
  | [d1, d2] => { results := [.lit (.bool true)], args := [d1, d2] }
  | _ => none }
def fnExactRoundEvenRow : OpenClaim := { program := "ytgdnhidnojjpiaa", sum := "731ad1f20ebf6aa374915536b3f09964c439f69e0376f348067205fc44759151", func := "loop.example/savingsclub/laws.FnExactRoundEven", spec := "fnExactRoundEven", apart := false }
def FnExactRoundEvenSaid : Prop := fnExactRoundEvenRow.holds Try.pinned (OpenSpec.ofChange fnExactRoundEvenSpec)

/-- ITS FALSE NEIGHBOUR: 'it returns false'. Refute it at one input. -/
def fnExactRoundEvenWrong : ChangeSpec := { name := "fnExactRoundEven", fn := fun _ => fun
  | [d1, d2] => { results := [.lit (.bool false)], args := [d1, d2] }
  | _ => none }
def FnExactRoundEvenWrongFalsely : Prop := fnExactRoundEvenRow.holds Try.pinned (OpenSpec.ofChange fnExactRoundEvenWrong)

/-- 'laws.FnNineOf': WHATEVER THE INPUT: true; the input reads as it did. -/
def fnNineOfSpec : ChangeSpec := { name := "fnNineOf", fn := fun _ => fun
  | [d] => { results := [.lit (.bool true)], args := [d] }
  | _ => none }
def fnNineOfRow : OpenClaim := { program := "ytgdnhidnojjpiaa", sum := "731ad1f20ebf6aa374915536b3f09964c439f69e0376f348067205fc44759151", func := "loop.example/savingsclub/laws.FnNineOf", spec := "fnNineOf", apart := false }
def FnNineOfSaid : Prop := fnNineOfRow.holds Try.pinned (OpenSpec.ofChange fnNineOfSpec)

/-- ITS FALSE NEIGHBOUR: 'it returns false'. Refute it at one input. -/
def fnNineOfWrong : ChangeSpec := { name := "fnNineOf", fn := fun _ => fun
  | [d] => { results := [.lit (.bool false)], args := [d] }
  | _ => none }
def FnNineOfWrongFalsely : Prop := fnNineOfRow.holds Try.pinned (OpenSpec.ofChange fnNineOfWrong)

/-- 'laws.FnExactNetAfter': WHATEVER THE INPUT: true; the input reads as it did. -/
def fnExactNetAfterSpec : ChangeSpec := { name := "fnExactNetAfter", fn := fun _ => fun
  | [d1, d2, d3] => { results := [.lit (.bool true)], args := [d1, d2, d3] }
  | _ => none }
def fnExactNetAfterRow : OpenClaim := { program := "ytgdnhidnojjpiaa", sum := "731ad1f20ebf6aa374915536b3f09964c439f69e0376f348067205fc44759151", func := "loop.example/savingsclub/laws.FnExactNetAfter", spec := "fnExactNetAfter", apart := false }
def FnExactNetAfterSaid : Prop := fnExactNetAfterRow.holds Try.pinned (OpenSpec.ofChange fnExactNetAfterSpec)

/-- ITS FALSE NEIGHBOUR: 'it returns false'. Refute it at one input. -/
def fnExactNetAfterWrong : ChangeSpec := { name := "fnExactNetAfter", fn := fun _ => fun
  | [d1, d2, d3] => { results := [.lit (.bool false)], args := [d1, d2, d3] }
  | _ => none }
def FnExactNetAfterWrongFalsely : Prop := fnExactNetAfterRow.holds Try.pinned (OpenSpec.ofChange fnExactNetAfterWrong)

/-- 'laws.FnInverseOf': WHATEVER THE INPUT: true; the input reads as it did. -/
def fnInverseOfSpec : ChangeSpec := { name := "fnInverseOf", fn := fun _ => fun
  | [d] => { results := [.lit (.bool true)], args := [d] }
  | _ => none }
def fnInverseOfRow : OpenClaim := { program := "ytgdnhidnojjpiaa", sum := "731ad1f20ebf6aa374915536b3f09964c439f69e0376f348067205fc44759151", func := "loop.example/savingsclub/laws.FnInverseOf", spec := "fnInverseOf", apart := false }
def FnInverseOfSaid : Prop := fnInverseOfRow.holds Try.pinned (OpenSpec.ofChange fnInverseOfSpec)

/-- ITS FALSE NEIGHBOUR: 'it returns false'. Refute it at one input. -/
def fnInverseOfWrong : ChangeSpec := { name := "fnInverseOf", fn := fun _ => fun
  | [d] => { results := [.lit (.bool false)], args := [d] }
  | _ => none }
def FnInverseOfWrongFalsely : Prop := fnInverseOfRow.holds Try.pinned (OpenSpec.ofChange fnInverseOfWrong)

/-- 'laws.FnExactValidOrder': WHATEVER THE INPUT: true; the input reads as it did. -/
def fnExactValidOrderSpec : ChangeSpec := { name := "fnExactValidOrder", fn := fun _ => fun
  | [d] => { results := [.lit (.bool true)], args := [d] }
  | _ => none }
def fnExactValidOrderRow : OpenClaim := { program := "ytgdnhidnojjpiaa", sum := "731ad1f20ebf6aa374915536b3f09964c439f69e0376f348067205fc44759151", func := "loop.example/savingsclub/laws.FnExactValidOrder", spec := "fnExactValidOrder", apart := false }
def FnExactValidOrderSaid : Prop := fnExactValidOrderRow.holds Try.pinned (OpenSpec.ofChange fnExactValidOrderSpec)

/-- ITS FALSE NEIGHBOUR: 'it returns false'. Refute it at one input. -/
def fnExactValidOrderWrong : ChangeSpec := { name := "fnExactValidOrder", fn := fun _ => fun
  | [d] => { results := [.lit (.bool false)], args := [d] }
  | _ => none }
def FnExactValidOrderWrongFalsely : Prop := fnExactValidOrderRow.holds Try.pinned (OpenSpec.ofChange fnExactValidOrderWrong)

/-- 'laws.FnValidClaims': WHATEVER THE INPUT: true; the input reads as it did. -/
def fnValidClaimsSpec : ChangeSpec := { name := "fnValidClaims", fn := fun _ => fun
  | [d] => { results := [.lit (.bool true)], args := [d] }
  | _ => none }
def fnValidClaimsRow : OpenClaim := { program := "ytgdnhidnojjpiaa", sum := "731ad1f20ebf6aa374915536b3f09964c439f69e0376f348067205fc44759151", func := "loop.example/savingsclub/laws.FnValidClaims", spec := "fnValidClaims", apart := false }
def FnValidClaimsSaid : Prop := fnValidClaimsRow.holds Try.pinned (OpenSpec.ofChange fnValidClaimsSpec)

/-- ITS FALSE NEIGHBOUR: 'it returns false'. Refute it at one input. -/
def fnValidClaimsWrong : ChangeSpec := { name := "fnValidClaims", fn := fun _ => fun
  | [d] => { results := [.lit (.bool false)], args := [d] }
  | _ => none }
def FnValidClaimsWrongFalsely : Prop := fnValidClaimsRow.holds Try.pinned (OpenSpec.ofChange fnValidClaimsWrong)

/-- 'laws.FnExactSplitEven': WHATEVER THE INPUT: true; the input reads as it did. -/
def fnExactSplitEvenSpec : ChangeSpec := { name := "fnExactSplitEven", fn := fun _ => fun
  | [d1, d2] => { results := [.lit (.bool true)], args := [d1, d2] }
  | _ => none }
def fnExactSplitEvenRow : OpenClaim := { program := "ytgdnhidnojjpiaa", sum := "731ad1f20ebf6aa374915536b3f09964c439f69e0376f348067205fc44759151", func := "loop.example/savingsclub/laws.FnExactSplitEven", spec := "fnExactSplitEven", apart := false }
def FnExactSplitEvenSaid : Prop := fnExactSplitEvenRow.holds Try.pinned (OpenSpec.ofChange fnExactSplitEvenSpec)

/-- ITS FALSE NEIGHBOUR: 'it returns false'. Refute it at one input. -/
def fnExactSplitEvenWrong : ChangeSpec := { name := "fnExactSplitEven", fn := fun _ => fun
  | [d1, d2] => { results := [.lit (.bool false)], args := [d1, d2] }
  | _ => none }
def FnExactSplitEvenWrongFalsely : Prop := fnExactSplitEvenRow.holds Try.pinned (OpenSpec.ofChange fnExactSplitEvenWrong)

/- THE SECOND FORM. 'bulk': how many values and letters a reading holds, each counted each time it is reached (what is shared counts as often as it is met; a slice's spare places count too). A statement '..UptoSaid' is the law's where the arguments, and the package variables that the reading takes, are together of bulk at most 1048576: NARROWER than '..Said'. Prove '..Said' where nothing that the law and all that it calls make is longer than what came in: it says more and counts as full. Else prove '..UptoSaid'. A law counts once. -/
mutual
def uptoBulk {H : Type} : DataW H → Nat
  | .lit (.string bytes) => bytes.length + 1
  | .lit _ => 1
  | .nil => 1
  | .ptr d => uptoBulk d + 1
  | .slice elems spare => uptoBulkAll elems + uptoBulkAll spare + 1
  | .agg parts => uptoBulkAll parts + 1
  | .iface _ d => uptoBulk d + 1
  | .map entries => uptoBulkEntries entries + 1
  | .held _ => 1
def uptoBulkAll {H : Type} : List (DataW H) → Nat
  | [] => 0
  | d :: r => uptoBulk d + uptoBulkAll r
def uptoBulkEntries {H : Type} : List (Lit × DataW H) → Nat
  | [] => 0
  | x :: r => uptoBulkEntry x + uptoBulkEntries r
def uptoBulkEntry {H : Type} : Lit × DataW H → Nat
  | (.string bytes, d) => bytes.length + uptoBulk d + 1
  | (_, d) => uptoBulk d + 1
 end
def uptoSmall : (H : Type) → List (DataW H) → Bool := fun _ ds => decide (uptoBulkAll ds ≤ 1048576)
def OpenSpec.upto (s : _root_.Go.ChangeSpec) : _root_.Go.OpenSpec := { _root_.Go.OpenSpec.ofChange s with cond := some uptoSmall }

/-- 'laws.FnExactCreditAfter', WHERE WHAT IT READS IS OF BULK AT MOST 1048576: true; the input reads as it did. -/
def fnExactCreditAfterUptoRow : OpenClaim := { program := "ytgdnhidnojjpiaa", sum := "731ad1f20ebf6aa374915536b3f09964c439f69e0376f348067205fc44759151", func := "loop.example/savingsclub/laws.FnExactCreditAfter", spec := "fnExactCreditAfter", apart := false, narrowed := true }
def FnExactCreditAfterUptoSaid : Prop := fnExactCreditAfterUptoRow.holds Try.pinned (OpenSpec.upto fnExactCreditAfterSpec)

/-- 'laws.FnPotOf', WHERE WHAT IT READS IS OF BULK AT MOST 1048576: true; the input reads as it did. -/
def fnPotOfUptoRow : OpenClaim := { program := "ytgdnhidnojjpiaa", sum := "731ad1f20ebf6aa374915536b3f09964c439f69e0376f348067205fc44759151", func := "loop.example/savingsclub/laws.FnPotOf", spec := "fnPotOf", apart := false, narrowed := true }
def FnPotOfUptoSaid : Prop := fnPotOfUptoRow.holds Try.pinned (OpenSpec.upto fnPotOfSpec)

/-- 'laws.FnCommitTo', WHERE WHAT IT READS IS OF BULK AT MOST 1048576: true; the input reads as it did. -/
def fnCommitToUptoRow : OpenClaim := { program := "ytgdnhidnojjpiaa", sum := "731ad1f20ebf6aa374915536b3f09964c439f69e0376f348067205fc44759151", func := "loop.example/savingsclub/laws.FnCommitTo", spec := "fnCommitTo", apart := false, narrowed := true }
def FnCommitToUptoSaid : Prop := fnCommitToUptoRow.holds Try.pinned (OpenSpec.upto fnCommitToSpec)

/-- 'laws.FnCommitToOnce', WHERE WHAT IT READS IS OF BULK AT MOST 1048576: true; the input reads as it did. -/
def fnCommitToOnceUptoRow : OpenClaim := { program := "ytgdnhidnojjpiaa", sum := "731ad1f20ebf6aa374915536b3f09964c439f69e0376f348067205fc44759151", func := "loop.example/savingsclub/laws.FnCommitToOnce", spec := "fnCommitToOnce", apart := false, narrowed := true }
def FnCommitToOnceUptoSaid : Prop := fnCommitToOnceUptoRow.holds Try.pinned (OpenSpec.upto fnCommitToOnceSpec)

/-- 'laws.FnExactLateFine', WHERE WHAT IT READS IS OF BULK AT MOST 1048576: true; the input reads as it did. -/
def fnExactLateFineUptoRow : OpenClaim := { program := "ytgdnhidnojjpiaa", sum := "731ad1f20ebf6aa374915536b3f09964c439f69e0376f348067205fc44759151", func := "loop.example/savingsclub/laws.FnExactLateFine", spec := "fnExactLateFine", apart := false, narrowed := true }
def FnExactLateFineUptoSaid : Prop := fnExactLateFineUptoRow.holds Try.pinned (OpenSpec.upto fnExactLateFineSpec)

/-- 'laws.FnExactRoundEven', WHERE WHAT IT READS IS OF BULK AT MOST 1048576: true; the input reads as it did. -/
def fnExactRoundEvenUptoRow : OpenClaim := { program := "ytgdnhidnojjpiaa", sum := "731ad1f20ebf6aa374915536b3f09964c439f69e0376f348067205fc44759151", func := "loop.example/savingsclub/laws.FnExactRoundEven", spec := "fnExactRoundEven", apart := false, narrowed := true }
def FnExactRoundEvenUptoSaid : Prop := fnExactRoundEvenUptoRow.holds Try.pinned (OpenSpec.upto fnExactRoundEvenSpec)

/-- 'laws.FnNineOf', WHERE WHAT IT READS IS OF BULK AT MOST 1048576: true; the input reads as it did. -/
def fnNineOfUptoRow : OpenClaim := { program := "ytgdnhidnojjpiaa", sum := "731ad1f20ebf6aa374915536b3f09964c439f69e0376f348067205fc44759151", func := "loop.example/savingsclub/laws.FnNineOf", spec := "fnNineOf", apart := false, narrowed := true }
def FnNineOfUptoSaid : Prop := fnNineOfUptoRow.holds Try.pinned (OpenSpec.upto fnNineOfSpec)

/-- 'laws.FnExactNetAfter', WHERE WHAT IT READS IS OF BULK AT MOST 1048576: true; the input reads as it did. -/
def fnExactNetAfterUptoRow : OpenClaim := { program := "ytgdnhidnojjpiaa", sum := "731ad1f20ebf6aa374915536b3f09964c439f69e0376f348067205fc44759151", func := "loop.example/savingsclub/laws.FnExactNetAfter", spec := "fnExactNetAfter", apart := false, narrowed := true }
def FnExactNetAfterUptoSaid : Prop := fnExactNetAfterUptoRow.holds Try.pinned (OpenSpec.upto fnExactNetAfterSpec)

/-- 'laws.FnInverseOf', WHERE WHAT IT READS IS OF BULK AT MOST 1048576: true; the input reads as it did. -/
def fnInverseOfUptoRow : OpenClaim := { program := "ytgdnhidnojjpiaa", sum := "731ad1f20ebf6aa374915536b3f09964c439f69e0376f348067205fc44759151", func := "loop.example/savingsclub/laws.FnInverseOf", spec := "fnInverseOf", apart := false, narrowed := true }
def FnInverseOfUptoSaid : Prop := fnInverseOfUptoRow.holds Try.pinned (OpenSpec.upto fnInverseOfSpec)

/-- 'laws.FnExactValidOrder', WHERE WHAT IT READS IS OF BULK AT MOST 1048576: true; the input reads as it did. -/
def fnExactValidOrderUptoRow : OpenClaim := { program := "ytgdnhidnojjpiaa", sum := "731ad1f20ebf6aa374915536b3f09964c439f69e0376f348067205fc44759151", func := "loop.example/savingsclub/laws.FnExactValidOrder", spec := "fnExactValidOrder", apart := false, narrowed := true }
def FnExactValidOrderUptoSaid : Prop := fnExactValidOrderUptoRow.holds Try.pinned (OpenSpec.upto fnExactValidOrderSpec)

/-- 'laws.FnValidClaims', WHERE WHAT IT READS IS OF BULK AT MOST 1048576: true; the input reads as it did. -/
def fnValidClaimsUptoRow : OpenClaim := { program := "ytgdnhidnojjpiaa", sum := "731ad1f20ebf6aa374915536b3f09964c439f69e0376f348067205fc44759151", func := "loop.example/savingsclub/laws.FnValidClaims", spec := "fnValidClaims", apart := false, narrowed := true }
def FnValidClaimsUptoSaid : Prop := fnValidClaimsUptoRow.holds Try.pinned (OpenSpec.upto fnValidClaimsSpec)

/-- 'laws.FnExactSplitEven', WHERE WHAT IT READS IS OF BULK AT MOST 1048576: true; the input reads as it did. -/
def fnExactSplitEvenUptoRow : OpenClaim := { program := "ytgdnhidnojjpiaa", sum := "731ad1f20ebf6aa374915536b3f09964c439f69e0376f348067205fc44759151", func := "loop.example/savingsclub/laws.FnExactSplitEven", spec := "fnExactSplitEven", apart := false, narrowed := true }
def FnExactSplitEvenUptoSaid : Prop := fnExactSplitEvenUptoRow.holds Try.pinned (OpenSpec.upto fnExactSplitEvenSpec)

end Rows
end Go.Proofs.Ytgdnhidnojjpiaa
