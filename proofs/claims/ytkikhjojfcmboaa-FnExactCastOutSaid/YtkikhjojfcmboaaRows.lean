/-
  No cell of these rows narrows 'for every input' (looked for: loops, veiled, ifaces, maps, wideKeys, modest, calm, conditions, laid).
  DERIVED. THE GIVEN ROWS OF THIS SEAT. 12 by the template 'for every input the law returns true; each argument reads behind the call as it read before'; 0 by the template 'total and deterministic' (their statements: YtkikhjojfcmboaaTotals.lean).
  GIVEN WITH THE SEED: the statements are not yours to turn. If you find one false, say at which input.
  Laid BY PROGRAM, IN A SANDBOX (cutbox-rows.mjs): the forced cells as the released guide's own fill.sh prints them over the translation 211956c039635633… (all of the seat's roots in one cut). By AI agents, Wed Nov 11 2026. No macro, syntax, notation, axiom, sorry.
-/
import Derived.Test.YtkikhjojfcmboaaChecked
import GoSem.Claim
import GoSem.ClaimJoined
import GoSem.ClaimMapViews
import Derived.JoinedTies
import Derived.KernelRfl
namespace Go.Proofs.Ytkikhjojfcmboaa
/- THE CELL 'sum', in the pinned program and in every row, IS THE sha256 OF THE DUMP (.gsa) THAT YtkikhjojfcmboaaProg.lean LOADS. Nothing in Lean hashes anything: it is a label: what it is worth is what the hold of that sum in a sandbox is worth. -/
noncomputable def Try.pinned : Pinned := { name := "ytkikhjojfcmboaa", sum := "211956c03963563393b1006a2250a2595fb9744f3965fac210d69bc16c9fb34b", checked := Try.checked }
namespace Rows
def none {H : Type} : Left H := { results := [], args := [] }

/-- 'laws.FnExactConstants': WHATEVER THE INPUT: true; the input reads as it did. -/
def fnExactConstantsSpec : ChangeSpec := { name := "fnExactConstants", fn := fun _ => fun
  | [] => { results := [.lit (.bool true)], args := [] }
  | _ => none }
def fnExactConstantsRow : OpenClaim := { program := "ytkikhjojfcmboaa", sum := "211956c03963563393b1006a2250a2595fb9744f3965fac210d69bc16c9fb34b", func := "loop.example/savingsclub/laws.FnExactConstants", spec := "fnExactConstants", apart := false }
def FnExactConstantsSaid : Prop := fnExactConstantsRow.holds Try.pinned (OpenSpec.ofChange fnExactConstantsSpec)

/-- ITS FALSE NEIGHBOUR: 'it returns false'. Refute it at one input. -/
def fnExactConstantsWrong : ChangeSpec := { name := "fnExactConstants", fn := fun _ => fun
  | [] => { results := [.lit (.bool false)], args := [] }
  | _ => none }
def FnExactConstantsWrongFalsely : Prop := fnExactConstantsRow.holds Try.pinned (OpenSpec.ofChange fnExactConstantsWrong)

/-- 'laws.FnExactNineOf': WHATEVER THE INPUT: true; the input reads as it did. -/
def fnExactNineOfSpec : ChangeSpec := { name := "fnExactNineOf", fn := fun _ => fun
  | [d] => { results := [.lit (.bool true)], args := [d] }
  | _ => none }
def fnExactNineOfRow : OpenClaim := { program := "ytkikhjojfcmboaa", sum := "211956c03963563393b1006a2250a2595fb9744f3965fac210d69bc16c9fb34b", func := "loop.example/savingsclub/laws.FnExactNineOf", spec := "fnExactNineOf", apart := false }
def FnExactNineOfSaid : Prop := fnExactNineOfRow.holds Try.pinned (OpenSpec.ofChange fnExactNineOfSpec)

/-- ITS FALSE NEIGHBOUR: 'it returns false'. Refute it at one input. -/
def fnExactNineOfWrong : ChangeSpec := { name := "fnExactNineOf", fn := fun _ => fun
  | [d] => { results := [.lit (.bool false)], args := [d] }
  | _ => none }
def FnExactNineOfWrongFalsely : Prop := fnExactNineOfRow.holds Try.pinned (OpenSpec.ofChange fnExactNineOfWrong)

/-- 'laws.FnExactPotOf': WHATEVER THE INPUT: true; the input reads as it did. -/
def fnExactPotOfSpec : ChangeSpec := { name := "fnExactPotOf", fn := fun _ => fun
  | [d1, d2] => { results := [.lit (.bool true)], args := [d1, d2] }
  | _ => none }
def fnExactPotOfRow : OpenClaim := { program := "ytkikhjojfcmboaa", sum := "211956c03963563393b1006a2250a2595fb9744f3965fac210d69bc16c9fb34b", func := "loop.example/savingsclub/laws.FnExactPotOf", spec := "fnExactPotOf", apart := false }
def FnExactPotOfSaid : Prop := fnExactPotOfRow.holds Try.pinned (OpenSpec.ofChange fnExactPotOfSpec)

/-- ITS FALSE NEIGHBOUR: 'it returns false'. Refute it at one input. -/
def fnExactPotOfWrong : ChangeSpec := { name := "fnExactPotOf", fn := fun _ => fun
  | [d1, d2] => { results := [.lit (.bool false)], args := [d1, d2] }
  | _ => none }
def FnExactPotOfWrongFalsely : Prop := fnExactPotOfRow.holds Try.pinned (OpenSpec.ofChange fnExactPotOfWrong)

/-- 'laws.FnExactCommitTo': WHATEVER THE INPUT: true; the input reads as it did. -/
def fnExactCommitToSpec : ChangeSpec := { name := "fnExactCommitTo", fn := fun _ => fun
  | [d1, d2] => { results := [.lit (.bool true)], args := [d1, d2] }
  | _ => none }
def fnExactCommitToRow : OpenClaim := { program := "ytkikhjojfcmboaa", sum := "211956c03963563393b1006a2250a2595fb9744f3965fac210d69bc16c9fb34b", func := "loop.example/savingsclub/laws.FnExactCommitTo", spec := "fnExactCommitTo", apart := false }
def FnExactCommitToSaid : Prop := fnExactCommitToRow.holds Try.pinned (OpenSpec.ofChange fnExactCommitToSpec)

/-- ITS FALSE NEIGHBOUR: 'it returns false'. Refute it at one input. -/
def fnExactCommitToWrong : ChangeSpec := { name := "fnExactCommitTo", fn := fun _ => fun
  | [d1, d2] => { results := [.lit (.bool false)], args := [d1, d2] }
  | _ => none }
def FnExactCommitToWrongFalsely : Prop := fnExactCommitToRow.holds Try.pinned (OpenSpec.ofChange fnExactCommitToWrong)

/-- 'laws.FnExactValidRate': WHATEVER THE INPUT: true; the input reads as it did. -/
def fnExactValidRateSpec : ChangeSpec := { name := "fnExactValidRate", fn := fun _ => fun
  | [d] => { results := [.lit (.bool true)], args := [d] }
  | _ => none }
def fnExactValidRateRow : OpenClaim := { program := "ytkikhjojfcmboaa", sum := "211956c03963563393b1006a2250a2595fb9744f3965fac210d69bc16c9fb34b", func := "loop.example/savingsclub/laws.FnExactValidRate", spec := "fnExactValidRate", apart := false }
def FnExactValidRateSaid : Prop := fnExactValidRateRow.holds Try.pinned (OpenSpec.ofChange fnExactValidRateSpec)

/-- ITS FALSE NEIGHBOUR: 'it returns false'. Refute it at one input. -/
def fnExactValidRateWrong : ChangeSpec := { name := "fnExactValidRate", fn := fun _ => fun
  | [d] => { results := [.lit (.bool false)], args := [d] }
  | _ => none }
def FnExactValidRateWrongFalsely : Prop := fnExactValidRateRow.holds Try.pinned (OpenSpec.ofChange fnExactValidRateWrong)

/-- 'laws.FnExactInverseOf': WHATEVER THE INPUT: true; the input reads as it did. -/
def fnExactInverseOfSpec : ChangeSpec := { name := "fnExactInverseOf", fn := fun _ => fun
  | [d] => { results := [.lit (.bool true)], args := [d] }
  | _ => none }
def fnExactInverseOfRow : OpenClaim := { program := "ytkikhjojfcmboaa", sum := "211956c03963563393b1006a2250a2595fb9744f3965fac210d69bc16c9fb34b", func := "loop.example/savingsclub/laws.FnExactInverseOf", spec := "fnExactInverseOf", apart := false }
def FnExactInverseOfSaid : Prop := fnExactInverseOfRow.holds Try.pinned (OpenSpec.ofChange fnExactInverseOfSpec)

/-- ITS FALSE NEIGHBOUR: 'it returns false'. Refute it at one input. -/
def fnExactInverseOfWrong : ChangeSpec := { name := "fnExactInverseOf", fn := fun _ => fun
  | [d] => { results := [.lit (.bool false)], args := [d] }
  | _ => none }
def FnExactInverseOfWrongFalsely : Prop := fnExactInverseOfRow.holds Try.pinned (OpenSpec.ofChange fnExactInverseOfWrong)

/-- 'laws.FnExactCastOut': WHATEVER THE INPUT: true; the input reads as it did. -/
def fnExactCastOutSpec : ChangeSpec := { name := "fnExactCastOut", fn := fun _ => fun
  | [d1, d2] => { results := [.lit (.bool true)], args := [d1, d2] }
  | _ => none }
def fnExactCastOutRow : OpenClaim := { program := "ytkikhjojfcmboaa", sum := "211956c03963563393b1006a2250a2595fb9744f3965fac210d69bc16c9fb34b", func := "loop.example/savingsclub/laws.FnExactCastOut", spec := "fnExactCastOut", apart := false }
def FnExactCastOutSaid : Prop := fnExactCastOutRow.holds Try.pinned (OpenSpec.ofChange fnExactCastOutSpec)

/-- ITS FALSE NEIGHBOUR: 'it returns false'. Refute it at one input. -/
def fnExactCastOutWrong : ChangeSpec := { name := "fnExactCastOut", fn := fun _ => fun
  | [d1, d2] => { results := [.lit (.bool false)], args := [d1, d2] }
  | _ => none }
def FnExactCastOutWrongFalsely : Prop := fnExactCastOutRow.holds Try.pinned (OpenSpec.ofChange fnExactCastOutWrong)

/-- 'laws.FnExactRoundDown': WHATEVER THE INPUT: true; the input reads as it did. -/
def fnExactRoundDownSpec : ChangeSpec := { name := "fnExactRoundDown", fn := fun _ => fun
  | [d1, d2] => { results := [.lit (.bool true)], args := [d1, d2] }
  | _ => none }
def fnExactRoundDownRow : OpenClaim := { program := "ytkikhjojfcmboaa", sum := "211956c03963563393b1006a2250a2595fb9744f3965fac210d69bc16c9fb34b", func := "loop.example/savingsclub/laws.FnExactRoundDown", spec := "fnExactRoundDown", apart := false }
def FnExactRoundDownSaid : Prop := fnExactRoundDownRow.holds Try.pinned (OpenSpec.ofChange fnExactRoundDownSpec)

/-- ITS FALSE NEIGHBOUR: 'it returns false'. Refute it at one input. -/
def fnExactRoundDownWrong : ChangeSpec := { name := "fnExactRoundDown", fn := fun _ => fun
  | [d1, d2] => { results := [.lit (.bool false)], args := [d1, d2] }
  | _ => none }
def FnExactRoundDownWrongFalsely : Prop := fnExactRoundDownRow.holds Try.pinned (OpenSpec.ofChange fnExactRoundDownWrong)

/-- 'laws.FnExactRoundUp': WHATEVER THE INPUT: true; the input reads as it did. -/
def fnExactRoundUpSpec : ChangeSpec := { name := "fnExactRoundUp", fn := fun _ => fun
  | [d1, d2] => { results := [.lit (.bool true)], args := [d1, d2] }
  | _ => none }
def fnExactRoundUpRow : OpenClaim := { program := "ytkikhjojfcmboaa", sum := "211956c03963563393b1006a2250a2595fb9744f3965fac210d69bc16c9fb34b", func := "loop.example/savingsclub/laws.FnExactRoundUp", spec := "fnExactRoundUp", apart := false }
def FnExactRoundUpSaid : Prop := fnExactRoundUpRow.holds Try.pinned (OpenSpec.ofChange fnExactRoundUpSpec)

/-- ITS FALSE NEIGHBOUR: 'it returns false'. Refute it at one input. -/
def fnExactRoundUpWrong : ChangeSpec := { name := "fnExactRoundUp", fn := fun _ => fun
  | [d1, d2] => { results := [.lit (.bool false)], args := [d1, d2] }
  | _ => none }
def FnExactRoundUpWrongFalsely : Prop := fnExactRoundUpRow.holds Try.pinned (OpenSpec.ofChange fnExactRoundUpWrong)

/-- 'laws.FnExactDigitSum': WHATEVER THE INPUT: true; the input reads as it did. -/
def fnExactDigitSumSpec : ChangeSpec := { name := "fnExactDigitSum", fn := fun _ => fun
  | [d] => { results := [.lit (.bool true)], args := [d] }
  | _ => none }
def fnExactDigitSumRow : OpenClaim := { program := "ytkikhjojfcmboaa", sum := "211956c03963563393b1006a2250a2595fb9744f3965fac210d69bc16c9fb34b", func := "loop.example/savingsclub/laws.FnExactDigitSum", spec := "fnExactDigitSum", recurses := true, apart := false }
def FnExactDigitSumSaid : Prop := fnExactDigitSumRow.holds Try.pinned (OpenSpec.ofChange fnExactDigitSumSpec)

/-- ITS FALSE NEIGHBOUR: 'it returns false'. Refute it at one input. -/
def fnExactDigitSumWrong : ChangeSpec := { name := "fnExactDigitSum", fn := fun _ => fun
  | [d] => { results := [.lit (.bool false)], args := [d] }
  | _ => none }
def FnExactDigitSumWrongFalsely : Prop := fnExactDigitSumRow.holds Try.pinned (OpenSpec.ofChange fnExactDigitSumWrong)

/-- 'laws.FnExactAlternateSum': WHATEVER THE INPUT: true; the input reads as it did. -/
def fnExactAlternateSumSpec : ChangeSpec := { name := "fnExactAlternateSum", fn := fun _ => fun
  | [d] => { results := [.lit (.bool true)], args := [d] }
  | _ => none }
def fnExactAlternateSumRow : OpenClaim := { program := "ytkikhjojfcmboaa", sum := "211956c03963563393b1006a2250a2595fb9744f3965fac210d69bc16c9fb34b", func := "loop.example/savingsclub/laws.FnExactAlternateSum", spec := "fnExactAlternateSum", recurses := true, apart := false }
def FnExactAlternateSumSaid : Prop := fnExactAlternateSumRow.holds Try.pinned (OpenSpec.ofChange fnExactAlternateSumSpec)

/-- ITS FALSE NEIGHBOUR: 'it returns false'. Refute it at one input. -/
def fnExactAlternateSumWrong : ChangeSpec := { name := "fnExactAlternateSum", fn := fun _ => fun
  | [d] => { results := [.lit (.bool false)], args := [d] }
  | _ => none }
def FnExactAlternateSumWrongFalsely : Prop := fnExactAlternateSumRow.holds Try.pinned (OpenSpec.ofChange fnExactAlternateSumWrong)

/-- 'laws.FnExactRoundNear': WHATEVER THE INPUT: true; the input reads as it did. -/
def fnExactRoundNearSpec : ChangeSpec := { name := "fnExactRoundNear", fn := fun _ => fun
  | [d1, d2] => { results := [.lit (.bool true)], args := [d1, d2] }
  | _ => none }
def fnExactRoundNearRow : OpenClaim := { program := "ytkikhjojfcmboaa", sum := "211956c03963563393b1006a2250a2595fb9744f3965fac210d69bc16c9fb34b", func := "loop.example/savingsclub/laws.FnExactRoundNear", spec := "fnExactRoundNear", apart := false }
def FnExactRoundNearSaid : Prop := fnExactRoundNearRow.holds Try.pinned (OpenSpec.ofChange fnExactRoundNearSpec)

/-- ITS FALSE NEIGHBOUR: 'it returns false'. Refute it at one input. -/
def fnExactRoundNearWrong : ChangeSpec := { name := "fnExactRoundNear", fn := fun _ => fun
  | [d1, d2] => { results := [.lit (.bool false)], args := [d1, d2] }
  | _ => none }
def FnExactRoundNearWrongFalsely : Prop := fnExactRoundNearRow.holds Try.pinned (OpenSpec.ofChange fnExactRoundNearWrong)

/- THE SECOND FORM. 'bulk': how many values and letters a reading holds, each counted each time it is reached (what is shared counts as often as it is met; a slice's spare places count too). A statement '..UptoSaid' is the law's where the arguments, and the package variables that the reading takes, are together of bulk at most 1048576: NARROWER than '..Said'. Prove '..Said' where nothing that the law and all that it calls make is longer than what came in: it says more and counts as full. Else prove '..UptoSaid'. A law counts once. -/
mutual
def uptoBulk {H : Type} : DataW H → Nat
  | .lit (.string bytes) => bytes.length + 1
  | .lit _ => 1
  | .nil => 1
  | .ptr d => uptoBulk d + 1
  | .slice elems spare => uptoBulkAll elems + uptoBulkAll spare + 1
  | .agg parts => uptoBulkAll parts + 1
  | .iface _ d => uptoBulk d + 1
  | .map entries => uptoBulkEntries entries + 1
  | .held _ => 1
def uptoBulkAll {H : Type} : List (DataW H) → Nat
  | [] => 0
  | d :: r => uptoBulk d + uptoBulkAll r
def uptoBulkEntries {H : Type} : List (Lit × DataW H) → Nat
  | [] => 0
  | x :: r => uptoBulkEntry x + uptoBulkEntries r
def uptoBulkEntry {H : Type} : Lit × DataW H → Nat
  | (.string bytes, d) => bytes.length + uptoBulk d + 1
  | (_, d) => uptoBulk d + 1
 end
def uptoSmall : (H : Type) → List (DataW H) → Bool := fun _ ds => decide (uptoBulkAll ds ≤ 1048576)
def OpenSpec.upto (s : _root_.Go.ChangeSpec) : _root_.Go.OpenSpec := { _root_.Go.OpenSpec.ofChange s with cond := some uptoSmall }

/-- 'laws.FnExactConstants', WHERE WHAT IT READS IS OF BULK AT MOST 1048576: true; the input reads as it did. -/
def fnExactConstantsUptoRow : OpenClaim := { program := "ytkikhjojfcmboaa", sum := "211956c03963563393b1006a2250a2595fb9744f3965fac210d69bc16c9fb34b", func := "loop.example/savingsclub/laws.FnExactConstants", spec := "fnExactConstants", apart := false, narrowed := true }
def FnExactConstantsUptoSaid : Prop := fnExactConstantsUptoRow.holds Try.pinned (OpenSpec.upto fnExactConstantsSpec)

/-- 'laws.FnExactNineOf', WHERE WHAT IT READS IS OF BULK AT MOST 1048576: true; the input reads as it did. -/
def fnExactNineOfUptoRow : OpenClaim := { program := "ytkikhjojfcmboaa", sum := "211956c03963563393b1006a2250a2595fb9744f3965fac210d69bc16c9fb34b", func := "loop.example/savingsclub/laws.FnExactNineOf", spec := "fnExactNineOf", apart := false, narrowed := true }
def FnExactNineOfUptoSaid : Prop := fnExactNineOfUptoRow.holds Try.pinned (OpenSpec.upto fnExactNineOfSpec)

/-- 'laws.FnExactPotOf', WHERE WHAT IT READS IS OF BULK AT MOST 1048576: true; the input reads as it did. -/
def fnExactPotOfUptoRow : OpenClaim := { program := "ytkikhjojfcmboaa", sum := "211956c03963563393b1006a2250a2595fb9744f3965fac210d69bc16c9fb34b", func := "loop.example/savingsclub/laws.FnExactPotOf", spec := "fnExactPotOf", apart := false, narrowed := true }
def FnExactPotOfUptoSaid : Prop := fnExactPotOfUptoRow.holds Try.pinned (OpenSpec.upto fnExactPotOfSpec)

/-- 'laws.FnExactCommitTo', WHERE WHAT IT READS IS OF BULK AT MOST 1048576: true; the input reads as it did. -/
def fnExactCommitToUptoRow : OpenClaim := { program := "ytkikhjojfcmboaa", sum := "211956c03963563393b1006a2250a2595fb9744f3965fac210d69bc16c9fb34b", func := "loop.example/savingsclub/laws.FnExactCommitTo", spec := "fnExactCommitTo", apart := false, narrowed := true }
def FnExactCommitToUptoSaid : Prop := fnExactCommitToUptoRow.holds Try.pinned (OpenSpec.upto fnExactCommitToSpec)

/-- 'laws.FnExactValidRate', WHERE WHAT IT READS IS OF BULK AT MOST 1048576: true; the input reads as it did. -/
def fnExactValidRateUptoRow : OpenClaim := { program := "ytkikhjojfcmboaa", sum := "211956c03963563393b1006a2250a2595fb9744f3965fac210d69bc16c9fb34b", func := "loop.example/savingsclub/laws.FnExactValidRate", spec := "fnExactValidRate", apart := false, narrowed := true }
def FnExactValidRateUptoSaid : Prop := fnExactValidRateUptoRow.holds Try.pinned (OpenSpec.upto fnExactValidRateSpec)

/-- 'laws.FnExactInverseOf', WHERE WHAT IT READS IS OF BULK AT MOST 1048576: true; the input reads as it did. -/
def fnExactInverseOfUptoRow : OpenClaim := { program := "ytkikhjojfcmboaa", sum := "211956c03963563393b1006a2250a2595fb9744f3965fac210d69bc16c9fb34b", func := "loop.example/savingsclub/laws.FnExactInverseOf", spec := "fnExactInverseOf", apart := false, narrowed := true }
def FnExactInverseOfUptoSaid : Prop := fnExactInverseOfUptoRow.holds Try.pinned (OpenSpec.upto fnExactInverseOfSpec)

/-- 'laws.FnExactCastOut', WHERE WHAT IT READS IS OF BULK AT MOST 1048576: true; the input reads as it did. -/
def fnExactCastOutUptoRow : OpenClaim := { program := "ytkikhjojfcmboaa", sum := "211956c03963563393b1006a2250a2595fb9744f3965fac210d69bc16c9fb34b", func := "loop.example/savingsclub/laws.FnExactCastOut", spec := "fnExactCastOut", apart := false, narrowed := true }
def FnExactCastOutUptoSaid : Prop := fnExactCastOutUptoRow.holds Try.pinned (OpenSpec.upto fnExactCastOutSpec)

/-- 'laws.FnExactRoundDown', WHERE WHAT IT READS IS OF BULK AT MOST 1048576: true; the input reads as it did. -/
def fnExactRoundDownUptoRow : OpenClaim := { program := "ytkikhjojfcmboaa", sum := "211956c03963563393b1006a2250a2595fb9744f3965fac210d69bc16c9fb34b", func := "loop.example/savingsclub/laws.FnExactRoundDown", spec := "fnExactRoundDown", apart := false, narrowed := true }
def FnExactRoundDownUptoSaid : Prop := fnExactRoundDownUptoRow.holds Try.pinned (OpenSpec.upto fnExactRoundDownSpec)

/-- 'laws.FnExactRoundUp', WHERE WHAT IT READS IS OF BULK AT MOST 1048576: true; the input reads as it did. -/
def fnExactRoundUpUptoRow : OpenClaim := { program := "ytkikhjojfcmboaa", sum := "211956c03963563393b1006a2250a2595fb9744f3965fac210d69bc16c9fb34b", func := "loop.example/savingsclub/laws.FnExactRoundUp", spec := "fnExactRoundUp", apart := false, narrowed := true }
def FnExactRoundUpUptoSaid : Prop := fnExactRoundUpUptoRow.holds Try.pinned (OpenSpec.upto fnExactRoundUpSpec)

/-- 'laws.FnExactDigitSum', WHERE WHAT IT READS IS OF BULK AT MOST 1048576: true; the input reads as it did. -/
def fnExactDigitSumUptoRow : OpenClaim := { program := "ytkikhjojfcmboaa", sum := "211956c03963563393b1006a2250a2595fb9744f3965fac210d69bc16c9fb34b", func := "loop.example/savingsclub/laws.FnExactDigitSum", spec := "fnExactDigitSum", recurses := true, apart := false, narrowed := true }
def FnExactDigitSumUptoSaid : Prop := fnExactDigitSumUptoRow.holds Try.pinned (OpenSpec.upto fnExactDigitSumSpec)

/-- 'laws.FnExactAlternateSum', WHERE WHAT IT READS IS OF BULK AT MOST 1048576: true; the input reads as it did. -/
def fnExactAlternateSumUptoRow : OpenClaim := { program := "ytkikhjojfcmboaa", sum := "211956c03963563393b1006a2250a2595fb9744f3965fac210d69bc16c9fb34b", func := "loop.example/savingsclub/laws.FnExactAlternateSum", spec := "fnExactAlternateSum", recurses := true, apart := false, narrowed := true }
def FnExactAlternateSumUptoSaid : Prop := fnExactAlternateSumUptoRow.holds Try.pinned (OpenSpec.upto fnExactAlternateSumSpec)

/-- 'laws.FnExactRoundNear', WHERE WHAT IT READS IS OF BULK AT MOST 1048576: true; the input reads as it did. -/
def fnExactRoundNearUptoRow : OpenClaim := { program := "ytkikhjojfcmboaa", sum := "211956c03963563393b1006a2250a2595fb9744f3965fac210d69bc16c9fb34b", func := "loop.example/savingsclub/laws.FnExactRoundNear", spec := "fnExactRoundNear", apart := false, narrowed := true }
def FnExactRoundNearUptoSaid : Prop := fnExactRoundNearUptoRow.holds Try.pinned (OpenSpec.upto fnExactRoundNearSpec)

end Rows
end Go.Proofs.Ytkikhjojfcmboaa
