/-
  No cell of these rows narrows 'for every input' (looked for: loops, veiled, ifaces, maps, wideKeys, modest, calm, conditions, laid).
  DERIVED. THE GIVEN ROWS OF THIS SEAT. 12 by the template 'for every input the law returns true; each argument reads behind the call as it read before'; 0 by the template 'total and deterministic' (their statements: YtgdnhidnojjpiabTotals.lean).
  GIVEN WITH THE SEED: the statements are not yours to turn. If you find one false, say at which input.
  Laid BY PROGRAM, IN A SANDBOX (cutbox-rows.mjs): the forced cells as the released guide's own fill.sh prints them over the translation daef7e21339fae08… (all of the seat's roots in one cut). By AI agents, Wed Nov 11 2026. No macro, syntax, notation, axiom, sorry.
-/
import Derived.Test.YtgdnhidnojjpiabChecked
import GoSem.Claim
import GoSem.ClaimJoined
import GoSem.ClaimMapViews
import Derived.JoinedTies
import Derived.KernelRfl
namespace Go.Proofs.Ytgdnhidnojjpiab
/- THE CELL 'sum', in the pinned program and in every row, IS THE sha256 OF THE DUMP (.gsa) THAT YtgdnhidnojjpiabProg.lean LOADS. Nothing in Lean hashes anything: it is a label: what it is worth is what the hold of that sum in a sandbox is worth. -/
noncomputable def Try.pinned : Pinned := { name := "ytgdnhidnojjpiab", sum := "daef7e21339fae08f6b0149ba46788f2287132f74dc5d67155d49819bc698447", checked := Try.checked }
namespace Rows
def none {H : Type} : Left H := { results := [], args := [] }

/-- 'laws.FnDigitSum': WHATEVER THE INPUT: true; the input reads as it did. -/
def fnDigitSumSpec : ChangeSpec := { name := "fnDigitSum", fn := fun _ => fun
  | [d] => { results := [.lit (.bool true)], args := [d] }
  | _ => none }
def fnDigitSumRow : OpenClaim := { program := "ytgdnhidnojjpiab", sum := "daef7e21339fae08f6b0149ba46788f2287132f74dc5d67155d49819bc698447", func := "loop.example/savingsclub/laws.FnDigitSum", spec := "fnDigitSum", recurses := true, apart := false }
def FnDigitSumSaid : Prop := fnDigitSumRow.holds Try.pinned (OpenSpec.ofChange fnDigitSumSpec)

/-- ITS FALSE NEIGHBOUR: 'it returns false'. Refute it at one input. -/
def fnDigitSumWrong : ChangeSpec := { name := "fnDigitSum", fn := fun _ => fun
  | [d] => { results := [.lit (.bool false)], args := [d] }
  | _ => none }
def FnDigitSumWrongFalsely : Prop := fnDigitSumRow.holds Try.pinned (OpenSpec.ofChange fnDigitSumWrong)

/-- 'laws.FnAlternateSum': WHATEVER THE INPUT: true; the input reads as it did. -/
def fnAlternateSumSpec : ChangeSpec := { name := "fnAlternateSum", fn := fun _ => fun
  | [d] => { results := [.lit (.bool true)], args := [d] }
  | _ => none }
def fnAlternateSumRow : OpenClaim := { program := "ytgdnhidnojjpiab", sum := "daef7e21339fae08f6b0149ba46788f2287132f74dc5d67155d49819bc698447", func := "loop.example/savingsclub/laws.FnAlternateSum", spec := "fnAlternateSum", recurses := true, apart := false }
def FnAlternateSumSaid : Prop := fnAlternateSumRow.holds Try.pinned (OpenSpec.ofChange fnAlternateSumSpec)

/-- ITS FALSE NEIGHBOUR: 'it returns false'. Refute it at one input. -/
def fnAlternateSumWrong : ChangeSpec := { name := "fnAlternateSum", fn := fun _ => fun
  | [d] => { results := [.lit (.bool false)], args := [d] }
  | _ => none }
def FnAlternateSumWrongFalsely : Prop := fnAlternateSumRow.holds Try.pinned (OpenSpec.ofChange fnAlternateSumWrong)

/-- 'laws.FnExactValidClaims': WHATEVER THE INPUT: true; the input reads as it did. -/
def fnExactValidClaimsSpec : ChangeSpec := { name := "fnExactValidClaims", fn := fun _ => fun
  | [d] => { results := [.lit (.bool true)], args := [d] }
  | _ => none }
def fnExactValidClaimsRow : OpenClaim := { program := "ytgdnhidnojjpiab", sum := "daef7e21339fae08f6b0149ba46788f2287132f74dc5d67155d49819bc698447", func := "loop.example/savingsclub/laws.FnExactValidClaims", spec := "fnExactValidClaims", apart := false }
def FnExactValidClaimsSaid : Prop := fnExactValidClaimsRow.holds Try.pinned (OpenSpec.ofChange fnExactValidClaimsSpec)

/-- ITS FALSE NEIGHBOUR: 'it returns false'. Refute it at one input. -/
def fnExactValidClaimsWrong : ChangeSpec := { name := "fnExactValidClaims", fn := fun _ => fun
  | [d] => { results := [.lit (.bool false)], args := [d] }
  | _ => none }
def FnExactValidClaimsWrongFalsely : Prop := fnExactValidClaimsRow.holds Try.pinned (OpenSpec.ofChange fnExactValidClaimsWrong)

/-- 'laws.FnExactValidPoints': WHATEVER THE INPUT: true; the input reads as it did. -/
def fnExactValidPointsSpec : ChangeSpec := { name := "fnExactValidPoints", fn := fun _ => fun
  | [d1, d2] => { results := [.lit (.bool true)], args := [d1, d2] }
  | _ => none }
def fnExactValidPointsRow : OpenClaim := { program := "ytgdnhidnojjpiab", sum := "daef7e21339fae08f6b0149ba46788f2287132f74dc5d67155d49819bc698447", func := "loop.example/savingsclub/laws.FnExactValidPoints", spec := "fnExactValidPoints", apart := false }
def FnExactValidPointsSaid : Prop := fnExactValidPointsRow.holds Try.pinned (OpenSpec.ofChange fnExactValidPointsSpec)

/-- ITS FALSE NEIGHBOUR: 'it returns false'. Refute it at one input. -/
def fnExactValidPointsWrong : ChangeSpec := { name := "fnExactValidPoints", fn := fun _ => fun
  | [d1, d2] => { results := [.lit (.bool false)], args := [d1, d2] }
  | _ => none }
def FnExactValidPointsWrongFalsely : Prop := fnExactValidPointsRow.holds Try.pinned (OpenSpec.ofChange fnExactValidPointsWrong)

/-- 'laws.FnValidRate': WHATEVER THE INPUT: true; the input reads as it did. -/
def fnValidRateSpec : ChangeSpec := { name := "fnValidRate", fn := fun _ => fun
  | [d] => { results := [.lit (.bool true)], args := [d] }
  | _ => none }
def fnValidRateRow : OpenClaim := { program := "ytgdnhidnojjpiab", sum := "daef7e21339fae08f6b0149ba46788f2287132f74dc5d67155d49819bc698447", func := "loop.example/savingsclub/laws.FnValidRate", spec := "fnValidRate", apart := false }
def FnValidRateSaid : Prop := fnValidRateRow.holds Try.pinned (OpenSpec.ofChange fnValidRateSpec)

/-- ITS FALSE NEIGHBOUR: 'it returns false'. Refute it at one input. -/
def fnValidRateWrong : ChangeSpec := { name := "fnValidRate", fn := fun _ => fun
  | [d] => { results := [.lit (.bool false)], args := [d] }
  | _ => none }
def FnValidRateWrongFalsely : Prop := fnValidRateRow.holds Try.pinned (OpenSpec.ofChange fnValidRateWrong)

/-- 'laws.FnExactCompound': WHATEVER THE INPUT: true; the input reads as it did. -/
def fnExactCompoundSpec : ChangeSpec := { name := "fnExactCompound", fn := fun _ => fun
  | [d1, d2, d3] => { results := [.lit (.bool true)], args := [d1, d2, d3] }
  | _ => none }
def fnExactCompoundRow : OpenClaim := { program := "ytgdnhidnojjpiab", sum := "daef7e21339fae08f6b0149ba46788f2287132f74dc5d67155d49819bc698447", func := "loop.example/savingsclub/laws.FnExactCompound", spec := "fnExactCompound", apart := false }
def FnExactCompoundSaid : Prop := fnExactCompoundRow.holds Try.pinned (OpenSpec.ofChange fnExactCompoundSpec)

/-- ITS FALSE NEIGHBOUR: 'it returns false'. Refute it at one input. -/
def fnExactCompoundWrong : ChangeSpec := { name := "fnExactCompound", fn := fun _ => fun
  | [d1, d2, d3] => { results := [.lit (.bool false)], args := [d1, d2, d3] }
  | _ => none }
def FnExactCompoundWrongFalsely : Prop := fnExactCompoundRow.holds Try.pinned (OpenSpec.ofChange fnExactCompoundWrong)

/-- 'laws.FnRoundDown': WHATEVER THE INPUT: true; the input reads as it did. -/
def fnRoundDownSpec : ChangeSpec := { name := "fnRoundDown", fn := fun _ => fun
  | [d] => { results := [.lit (.bool true)], args := [d] }
  | _ => none }
def fnRoundDownRow : OpenClaim := { program := "ytgdnhidnojjpiab", sum := "daef7e21339fae08f6b0149ba46788f2287132f74dc5d67155d49819bc698447", func := "loop.example/savingsclub/laws.FnRoundDown", spec := "fnRoundDown", apart := false }
def FnRoundDownSaid : Prop := fnRoundDownRow.holds Try.pinned (OpenSpec.ofChange fnRoundDownSpec)

/-- ITS FALSE NEIGHBOUR: 'it returns false'. Refute it at one input. -/
def fnRoundDownWrong : ChangeSpec := { name := "fnRoundDown", fn := fun _ => fun
  | [d] => { results := [.lit (.bool false)], args := [d] }
  | _ => none }
def FnRoundDownWrongFalsely : Prop := fnRoundDownRow.holds Try.pinned (OpenSpec.ofChange fnRoundDownWrong)

/-- 'laws.FnExactTurnOf': WHATEVER THE INPUT: true; the input reads as it did. -/
def fnExactTurnOfSpec : ChangeSpec := { name := "fnExactTurnOf", fn := fun _ => fun
  | [d1, d2] => { results := [.lit (.bool true)], args := [d1, d2] }
  | _ => none }
def fnExactTurnOfRow : OpenClaim := { program := "ytgdnhidnojjpiab", sum := "daef7e21339fae08f6b0149ba46788f2287132f74dc5d67155d49819bc698447", func := "loop.example/savingsclub/laws.FnExactTurnOf", spec := "fnExactTurnOf", apart := false }
def FnExactTurnOfSaid : Prop := fnExactTurnOfRow.holds Try.pinned (OpenSpec.ofChange fnExactTurnOfSpec)

/-- ITS FALSE NEIGHBOUR: 'it returns false'. Refute it at one input. -/
def fnExactTurnOfWrong : ChangeSpec := { name := "fnExactTurnOf", fn := fun _ => fun
  | [d1, d2] => { results := [.lit (.bool false)], args := [d1, d2] }
  | _ => none }
def FnExactTurnOfWrongFalsely : Prop := fnExactTurnOfRow.holds Try.pinned (OpenSpec.ofChange fnExactTurnOfWrong)

/-- 'laws.FnRoundNear': WHATEVER THE INPUT: true; the input reads as it did. -/
def fnRoundNearSpec : ChangeSpec := { name := "fnRoundNear", fn := fun _ => fun
  | [d] => { results := [.lit (.bool true)], args := [d] }
  | _ => none }
def fnRoundNearRow : OpenClaim := { program := "ytgdnhidnojjpiab", sum := "daef7e21339fae08f6b0149ba46788f2287132f74dc5d67155d49819bc698447", func := "loop.example/savingsclub/laws.FnRoundNear", spec := "fnRoundNear", apart := false }
def FnRoundNearSaid : Prop := fnRoundNearRow.holds Try.pinned (OpenSpec.ofChange fnRoundNearSpec)

/-- ITS FALSE NEIGHBOUR: 'it returns false'. Refute it at one input. -/
def fnRoundNearWrong : ChangeSpec := { name := "fnRoundNear", fn := fun _ => fun
  | [d] => { results := [.lit (.bool false)], args := [d] }
  | _ => none }
def FnRoundNearWrongFalsely : Prop := fnRoundNearRow.holds Try.pinned (OpenSpec.ofChange fnRoundNearWrong)

/-- 'laws.FnExactPolyAt': WHATEVER THE INPUT: true; the input reads as it did. -/
def fnExactPolyAtSpec : ChangeSpec := { name := "fnExactPolyAt", fn := fun _ => fun
  | [d1, d2] => { results := [.lit (.bool true)], args := [d1, d2] }
  | _ => none }
def fnExactPolyAtRow : OpenClaim := { program := "ytgdnhidnojjpiab", sum := "daef7e21339fae08f6b0149ba46788f2287132f74dc5d67155d49819bc698447", func := "loop.example/savingsclub/laws.FnExactPolyAt", spec := "fnExactPolyAt", unfollowed := true, recurses := true, apart := false }
def FnExactPolyAtSaid : Prop := fnExactPolyAtRow.holds Try.pinned (OpenSpec.ofChange fnExactPolyAtSpec)

/-- ITS FALSE NEIGHBOUR: 'it returns false'. Refute it at one input. -/
def fnExactPolyAtWrong : ChangeSpec := { name := "fnExactPolyAt", fn := fun _ => fun
  | [d1, d2] => { results := [.lit (.bool false)], args := [d1, d2] }
  | _ => none }
def FnExactPolyAtWrongFalsely : Prop := fnExactPolyAtRow.holds Try.pinned (OpenSpec.ofChange fnExactPolyAtWrong)

/-- 'laws.FnLateFine': WHATEVER THE INPUT: true; the input reads as it did. -/
def fnLateFineSpec : ChangeSpec := { name := "fnLateFine", fn := fun _ => fun
  | [d] => { results := [.lit (.bool true)], args := [d] }
  | _ => none }
def fnLateFineRow : OpenClaim := { program := "ytgdnhidnojjpiab", sum := "daef7e21339fae08f6b0149ba46788f2287132f74dc5d67155d49819bc698447", func := "loop.example/savingsclub/laws.FnLateFine", spec := "fnLateFine", apart := false }
def FnLateFineSaid : Prop := fnLateFineRow.holds Try.pinned (OpenSpec.ofChange fnLateFineSpec)

/-- ITS FALSE NEIGHBOUR: 'it returns false'. Refute it at one input. -/
def fnLateFineWrong : ChangeSpec := { name := "fnLateFine", fn := fun _ => fun
  | [d] => { results := [.lit (.bool false)], args := [d] }
  | _ => none }
def FnLateFineWrongFalsely : Prop := fnLateFineRow.holds Try.pinned (OpenSpec.ofChange fnLateFineWrong)

/-- 'laws.FnRoundUp': WHATEVER THE INPUT: true; the input reads as it did. -/
def fnRoundUpSpec : ChangeSpec := { name := "fnRoundUp", fn := fun _ => fun
  | [d] => { results := [.lit (.bool true)], args := [d] }
  | _ => none }
def fnRoundUpRow : OpenClaim := { program := "ytgdnhidnojjpiab", sum := "daef7e21339fae08f6b0149ba46788f2287132f74dc5d67155d49819bc698447", func := "loop.example/savingsclub/laws.FnRoundUp", spec := "fnRoundUp", apart := false }
def FnRoundUpSaid : Prop := fnRoundUpRow.holds Try.pinned (OpenSpec.ofChange fnRoundUpSpec)

/-- ITS FALSE NEIGHBOUR: 'it returns false'. Refute it at one input. -/
def fnRoundUpWrong : ChangeSpec := { name := "fnRoundUp", fn := fun _ => fun
  | [d] => { results := [.lit (.bool false)], args := [d] }
  | _ => none }
def FnRoundUpWrongFalsely : Prop := fnRoundUpRow.holds Try.pinned (OpenSpec.ofChange fnRoundUpWrong)

/- THE SECOND FORM. 'bulk': how many values and letters a reading holds, each counted each time it is reached (what is shared counts as often as it is met; a slice's spare places count too). A statement '..UptoSaid' is the law's where the arguments, and the package variables that the reading takes, are together of bulk at most 1048576: NARROWER than '..Said'. Prove '..Said' where nothing that the law and all that it calls make is longer than what came in: it says more and counts as full. Else prove '..UptoSaid'. A law counts once. -/
mutual
def uptoBulk {H : Type} : DataW H → Nat
  | .lit (.string bytes) => bytes.length + 1
  | .lit _ => 1
  | .nil => 1
  | .ptr d => uptoBulk d + 1
  | .slice elems spare => uptoBulkAll elems + uptoBulkAll spare + 1
  | .agg parts => uptoBulkAll parts + 1
  | .iface _ d => uptoBulk d + 1
  | .map entries => uptoBulkEntries entries + 1
  | .held _ => 1
def uptoBulkAll {H : Type} : List (DataW H) → Nat
  | [] => 0
  | d :: r => uptoBulk d + uptoBulkAll r
def uptoBulkEntries {H : Type} : List (Lit × DataW H) → Nat
  | [] => 0
  | x :: r => uptoBulkEntry x + uptoBulkEntries r
def uptoBulkEntry {H : Type} : Lit × DataW H → Nat
  | (.string bytes, d) => bytes.length + uptoBulk d + 1
  | (_, d) => uptoBulk d + 1
 end
def uptoSmall : (H : Type) → List (DataW H) → Bool := fun _ ds => decide (uptoBulkAll ds ≤ 1048576)
def OpenSpec.upto (s : _root_.Go.ChangeSpec) : _root_.Go.OpenSpec := { _root_.Go.OpenSpec.ofChange s with cond := some uptoSmall }

/-- 'laws.FnDigitSum', WHERE WHAT IT READS IS OF BULK AT MOST 1048576: true; the input reads as it did. -/
def fnDigitSumUptoRow : OpenClaim := { program := "ytgdnhidnojjpiab", sum := "daef7e21339fae08f6b0149ba46788f2287132f74dc5d67155d49819bc698447", func := "loop.example/savingsclub/laws.FnDigitSum", spec := "fnDigitSum", recurses := true, apart := false, narrowed := true }
def FnDigitSumUptoSaid : Prop := fnDigitSumUptoRow.holds Try.pinned (OpenSpec.upto fnDigitSumSpec)

/-- 'laws.FnAlternateSum', WHERE WHAT IT READS IS OF BULK AT MOST 1048576: true; the input reads as it did. -/
def fnAlternateSumUptoRow : OpenClaim := { program := "ytgdnhidnojjpiab", sum := "daef7e21339fae08f6b0149ba46788f2287132f74dc5d67155d49819bc698447", func := "loop.example/savingsclub/laws.FnAlternateSum", spec := "fnAlternateSum", recurses := true, apart := false, narrowed := true }
def FnAlternateSumUptoSaid : Prop := fnAlternateSumUptoRow.holds Try.pinned (OpenSpec.upto fnAlternateSumSpec)

/-- 'laws.FnExactValidClaims', WHERE WHAT IT READS IS OF BULK AT MOST 1048576: true; the input reads as it did. -/
def fnExactValidClaimsUptoRow : OpenClaim := { program := "ytgdnhidnojjpiab", sum := "daef7e21339fae08f6b0149ba46788f2287132f74dc5d67155d49819bc698447", func := "loop.example/savingsclub/laws.FnExactValidClaims", spec := "fnExactValidClaims", apart := false, narrowed := true }
def FnExactValidClaimsUptoSaid : Prop := fnExactValidClaimsUptoRow.holds Try.pinned (OpenSpec.upto fnExactValidClaimsSpec)

/-- 'laws.FnExactValidPoints', WHERE WHAT IT READS IS OF BULK AT MOST 1048576: true; the input reads as it did. -/
def fnExactValidPointsUptoRow : OpenClaim := { program := "ytgdnhidnojjpiab", sum := "daef7e21339fae08f6b0149ba46788f2287132f74dc5d67155d49819bc698447", func := "loop.example/savingsclub/laws.FnExactValidPoints", spec := "fnExactValidPoints", apart := false, narrowed := true }
def FnExactValidPointsUptoSaid : Prop := fnExactValidPointsUptoRow.holds Try.pinned (OpenSpec.upto fnExactValidPointsSpec)

/-- 'laws.FnValidRate', WHERE WHAT IT READS IS OF BULK AT MOST 1048576: true; the input reads as it did. -/
def fnValidRateUptoRow : OpenClaim := { program := "ytgdnhidnojjpiab", sum := "daef7e21339fae08f6b0149ba46788f2287132f74dc5d67155d49819bc698447", func := "loop.example/savingsclub/laws.FnValidRate", spec := "fnValidRate", apart := false, narrowed := true }
def FnValidRateUptoSaid : Prop := fnValidRateUptoRow.holds Try.pinned (OpenSpec.upto fnValidRateSpec)

/-- 'laws.FnExactCompound', WHERE WHAT IT READS IS OF BULK AT MOST 1048576: true; the input reads as it did. -/
def fnExactCompoundUptoRow : OpenClaim := { program := "ytgdnhidnojjpiab", sum := "daef7e21339fae08f6b0149ba46788f2287132f74dc5d67155d49819bc698447", func := "loop.example/savingsclub/laws.FnExactCompound", spec := "fnExactCompound", apart := false, narrowed := true }
def FnExactCompoundUptoSaid : Prop := fnExactCompoundUptoRow.holds Try.pinned (OpenSpec.upto fnExactCompoundSpec)

/-- 'laws.FnRoundDown', WHERE WHAT IT READS IS OF BULK AT MOST 1048576: true; the input reads as it did. -/
def fnRoundDownUptoRow : OpenClaim := { program := "ytgdnhidnojjpiab", sum := "daef7e21339fae08f6b0149ba46788f2287132f74dc5d67155d49819bc698447", func := "loop.example/savingsclub/laws.FnRoundDown", spec := "fnRoundDown", apart := false, narrowed := true }
def FnRoundDownUptoSaid : Prop := fnRoundDownUptoRow.holds Try.pinned (OpenSpec.upto fnRoundDownSpec)

/-- 'laws.FnExactTurnOf', WHERE WHAT IT READS IS OF BULK AT MOST 1048576: true; the input reads as it did. -/
def fnExactTurnOfUptoRow : OpenClaim := { program := "ytgdnhidnojjpiab", sum := "daef7e21339fae08f6b0149ba46788f2287132f74dc5d67155d49819bc698447", func := "loop.example/savingsclub/laws.FnExactTurnOf", spec := "fnExactTurnOf", apart := false, narrowed := true }
def FnExactTurnOfUptoSaid : Prop := fnExactTurnOfUptoRow.holds Try.pinned (OpenSpec.upto fnExactTurnOfSpec)

/-- 'laws.FnRoundNear', WHERE WHAT IT READS IS OF BULK AT MOST 1048576: true; the input reads as it did. -/
def fnRoundNearUptoRow : OpenClaim := { program := "ytgdnhidnojjpiab", sum := "daef7e21339fae08f6b0149ba46788f2287132f74dc5d67155d49819bc698447", func := "loop.example/savingsclub/laws.FnRoundNear", spec := "fnRoundNear", apart := false, narrowed := true }
def FnRoundNearUptoSaid : Prop := fnRoundNearUptoRow.holds Try.pinned (OpenSpec.upto fnRoundNearSpec)

/-- 'laws.FnExactPolyAt', WHERE WHAT IT READS IS OF BULK AT MOST 1048576: true; the input reads as it did. -/
def fnExactPolyAtUptoRow : OpenClaim := { program := "ytgdnhidnojjpiab", sum := "daef7e21339fae08f6b0149ba46788f2287132f74dc5d67155d49819bc698447", func := "loop.example/savingsclub/laws.FnExactPolyAt", spec := "fnExactPolyAt", unfollowed := true, recurses := true, apart := false, narrowed := true }
def FnExactPolyAtUptoSaid : Prop := fnExactPolyAtUptoRow.holds Try.pinned (OpenSpec.upto fnExactPolyAtSpec)

/-- 'laws.FnLateFine', WHERE WHAT IT READS IS OF BULK AT MOST 1048576: true; the input reads as it did. -/
def fnLateFineUptoRow : OpenClaim := { program := "ytgdnhidnojjpiab", sum := "daef7e21339fae08f6b0149ba46788f2287132f74dc5d67155d49819bc698447", func := "loop.example/savingsclub/laws.FnLateFine", spec := "fnLateFine", apart := false, narrowed := true }
def FnLateFineUptoSaid : Prop := fnLateFineUptoRow.holds Try.pinned (OpenSpec.upto fnLateFineSpec)

/-- 'laws.FnRoundUp', WHERE WHAT IT READS IS OF BULK AT MOST 1048576: true; the input reads as it did. -/
def fnRoundUpUptoRow : OpenClaim := { program := "ytgdnhidnojjpiab", sum := "daef7e21339fae08f6b0149ba46788f2287132f74dc5d67155d49819bc698447", func := "loop.example/savingsclub/laws.FnRoundUp", spec := "fnRoundUp", apart := false, narrowed := true }
def FnRoundUpUptoSaid : Prop := fnRoundUpUptoRow.holds Try.pinned (OpenSpec.upto fnRoundUpSpec)

end Rows
end Go.Proofs.Ytgdnhidnojjpiab
