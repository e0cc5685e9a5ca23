/-
  No cell of these rows narrows 'for every input' (looked for: loops, veiled, ifaces, maps, wideKeys, modest, calm, conditions, laid).
  DERIVED. THE GIVEN ROWS OF THIS SEAT. 12 by the template 'for every input the law returns true; each argument reads behind the call as it read before'; 0 by the template 'total and deterministic' (their statements: YtgdnhidnojjpiacTotals.lean).
  GIVEN WITH THE SEED: the statements are not yours to turn. If you find one false, say at which input.
  Laid BY PROGRAM, IN A SANDBOX (cutbox-rows.mjs): the forced cells as the released guide's own fill.sh prints them over the translation 5f71195d65565270… (all of the seat's roots in one cut). By AI agents, Wed Nov 11 2026. No macro, syntax, notation, axiom, sorry.
-/
import Derived.Test.YtgdnhidnojjpiacChecked
import GoSem.Claim
import GoSem.ClaimJoined
import GoSem.ClaimMapViews
import Derived.JoinedTies
import Derived.KernelRfl
namespace Go.Proofs.Ytgdnhidnojjpiac
/- THE CELL 'sum', in the pinned program and in every row, IS THE sha256 OF THE DUMP (.gsa) THAT YtgdnhidnojjpiacProg.lean LOADS. Nothing in Lean hashes anything: it is a label: what it is worth is what the hold of that sum in a sandbox is worth. -/
noncomputable def Try.pinned : Pinned := { name := "ytgdnhidnojjpiac", sum := "5f71195d655652703fe3e80d90f12567007e9b296c3ad0b9d3ead8d07a1a8fd2", checked := Try.checked }
namespace Rows
def none {H : Type} : Left H := { results := [], args := [] }

/-- 'laws.FnSplitEven': WHATEVER THE INPUT: true; the input reads as it did. -/
def fnSplitEvenSpec : ChangeSpec := { name := "fnSplitEven", fn := fun _ => fun
  | [d] => { results := [.lit (.bool true)], args := [d] }
  | _ => none }
def fnSplitEvenRow : OpenClaim := { program := "ytgdnhidnojjpiac", sum := "5f71195d655652703fe3e80d90f12567007e9b296c3ad0b9d3ead8d07a1a8fd2", func := "loop.example/savingsclub/laws.FnSplitEven", spec := "fnSplitEven", apart := false }
def FnSplitEvenSaid : Prop := fnSplitEvenRow.holds Try.pinned (OpenSpec.ofChange fnSplitEvenSpec)

/-- ITS FALSE NEIGHBOUR: 'it returns false'. Refute it at one input. -/
def fnSplitEvenWrong : ChangeSpec := { name := "fnSplitEven", fn := fun _ => fun
  | [d] => { results := [.lit (.bool false)], args := [d] }
  | _ => none }
def FnSplitEvenWrongFalsely : Prop := fnSplitEvenRow.holds Try.pinned (OpenSpec.ofChange fnSplitEvenWrong)

/-- 'laws.FnExactValidEntries': WHATEVER THE INPUT: true; the input reads as it did. -/
def fnExactValidEntriesSpec : ChangeSpec := { name := "fnExactValidEntries", fn := fun _ => fun
  | [d] => { results := [.lit (.bool true)], args := [d] }
  | _ => none }
def fnExactValidEntriesRow : OpenClaim := { program := "ytgdnhidnojjpiac", sum := "5f71195d655652703fe3e80d90f12567007e9b296c3ad0b9d3ead8d07a1a8fd2", func := "loop.example/savingsclub/laws.FnExactValidEntries", spec := "fnExactValidEntries", apart := false }
def FnExactValidEntriesSaid : Prop := fnExactValidEntriesRow.holds Try.pinned (OpenSpec.ofChange fnExactValidEntriesSpec)

/-- ITS FALSE NEIGHBOUR: 'it returns false'. Refute it at one input. -/
def fnExactValidEntriesWrong : ChangeSpec := { name := "fnExactValidEntries", fn := fun _ => fun
  | [d] => { results := [.lit (.bool false)], args := [d] }
  | _ => none }
def FnExactValidEntriesWrongFalsely : Prop := fnExactValidEntriesRow.holds Try.pinned (OpenSpec.ofChange fnExactValidEntriesWrong)

/-- 'laws.FnExactSwappedOf': WHATEVER THE INPUT: true; the input reads as it did. -/
def fnExactSwappedOfSpec : ChangeSpec := { name := "fnExactSwappedOf", fn := fun _ => fun
  | [d] => { results := [.lit (.bool true)], args := [d] }
  | _ => none }
def fnExactSwappedOfRow : OpenClaim := { program := "ytgdnhidnojjpiac", sum := "5f71195d655652703fe3e80d90f12567007e9b296c3ad0b9d3ead8d07a1a8fd2", func := "loop.example/savingsclub/laws.FnExactSwappedOf", spec := "fnExactSwappedOf", recurses := true, apart := false }
def FnExactSwappedOfSaid : Prop := fnExactSwappedOfRow.holds Try.pinned (OpenSpec.ofChange fnExactSwappedOfSpec)

/-- ITS FALSE NEIGHBOUR: 'it returns false'. Refute it at one input. -/
def fnExactSwappedOfWrong : ChangeSpec := { name := "fnExactSwappedOf", fn := fun _ => fun
  | [d] => { results := [.lit (.bool false)], args := [d] }
  | _ => none }
def FnExactSwappedOfWrongFalsely : Prop := fnExactSwappedOfRow.holds Try.pinned (OpenSpec.ofChange fnExactSwappedOfWrong)

/-- 'laws.FnValidEntries': WHATEVER THE INPUT: true; the input reads as it did. -/
def fnValidEntriesSpec : ChangeSpec := { name := "fnValidEntries", fn := fun _ => fun
  | [d] => { results := [.lit (.bool true)], args := [d] }
  | _ => none }
def fnValidEntriesRow : OpenClaim := { program := "ytgdnhidnojjpiac", sum := "5f71195d655652703fe3e80d90f12567007e9b296c3ad0b9d3ead8d07a1a8fd2", func := "loop.example/savingsclub/laws.FnValidEntries", spec := "fnValidEntries", apart := false }
def FnValidEntriesSaid : Prop := fnValidEntriesRow.holds Try.pinned (OpenSpec.ofChange fnValidEntriesSpec)

/-- ITS FALSE NEIGHBOUR: 'it returns false'. Refute it at one input. -/
def fnValidEntriesWrong : ChangeSpec := { name := "fnValidEntries", fn := fun _ => fun
  | [d] => { results := [.lit (.bool false)], args := [d] }
  | _ => none }
def FnValidEntriesWrongFalsely : Prop := fnValidEntriesRow.holds Try.pinned (OpenSpec.ofChange fnValidEntriesWrong)

/-- 'laws.FnExactValidBody': WHATEVER THE INPUT: true; the input reads as it did. -/
def fnExactValidBodySpec : ChangeSpec := { name := "fnExactValidBody", fn := fun _ => fun
  | [d] => { results := [.lit (.bool true)], args := [d] }
  | _ => none }
def fnExactValidBodyRow : OpenClaim := { program := "ytgdnhidnojjpiac", sum := "5f71195d655652703fe3e80d90f12567007e9b296c3ad0b9d3ead8d07a1a8fd2", func := "loop.example/savingsclub/laws.FnExactValidBody", spec := "fnExactValidBody", apart := false }
def FnExactValidBodySaid : Prop := fnExactValidBodyRow.holds Try.pinned (OpenSpec.ofChange fnExactValidBodySpec)

/-- ITS FALSE NEIGHBOUR: 'it returns false'. Refute it at one input. -/
def fnExactValidBodyWrong : ChangeSpec := { name := "fnExactValidBody", fn := fun _ => fun
  | [d] => { results := [.lit (.bool false)], args := [d] }
  | _ => none }
def FnExactValidBodyWrongFalsely : Prop := fnExactValidBodyRow.holds Try.pinned (OpenSpec.ofChange fnExactValidBodyWrong)

/-- 'laws.FnValidBody': WHATEVER THE INPUT: true; the input reads as it did. -/
def fnValidBodySpec : ChangeSpec := { name := "fnValidBody", fn := fun _ => fun
  | [d] => { results := [.lit (.bool true)], args := [d] }
  | _ => none }
def fnValidBodyRow : OpenClaim := { program := "ytgdnhidnojjpiac", sum := "5f71195d655652703fe3e80d90f12567007e9b296c3ad0b9d3ead8d07a1a8fd2", func := "loop.example/savingsclub/laws.FnValidBody", spec := "fnValidBody", apart := false }
def FnValidBodySaid : Prop := fnValidBodyRow.holds Try.pinned (OpenSpec.ofChange fnValidBodySpec)

/-- ITS FALSE NEIGHBOUR: 'it returns false'. Refute it at one input. -/
def fnValidBodyWrong : ChangeSpec := { name := "fnValidBody", fn := fun _ => fun
  | [d] => { results := [.lit (.bool false)], args := [d] }
  | _ => none }
def FnValidBodyWrongFalsely : Prop := fnValidBodyRow.holds Try.pinned (OpenSpec.ofChange fnValidBodyWrong)

/-- 'laws.FnRoundEven': WHATEVER THE INPUT: true; the input reads as it did. -/
def fnRoundEvenSpec : ChangeSpec := { name := "fnRoundEven", fn := fun _ => fun
  | [d] => { results := [.lit (.bool true)], args := [d] }
  | _ => none }
def fnRoundEvenRow : OpenClaim := { program := "ytgdnhidnojjpiac", sum := "5f71195d655652703fe3e80d90f12567007e9b296c3ad0b9d3ead8d07a1a8fd2", func := "loop.example/savingsclub/laws.FnRoundEven", spec := "fnRoundEven", apart := false }
def FnRoundEvenSaid : Prop := fnRoundEvenRow.holds Try.pinned (OpenSpec.ofChange fnRoundEvenSpec)

/-- ITS FALSE NEIGHBOUR: 'it returns false'. Refute it at one input. -/
def fnRoundEvenWrong : ChangeSpec := { name := "fnRoundEven", fn := fun _ => fun
  | [d] => { results := [.lit (.bool false)], args := [d] }
  | _ => none }
def FnRoundEvenWrongFalsely : Prop := fnRoundEvenRow.holds Try.pinned (OpenSpec.ofChange fnRoundEvenWrong)

/-- 'laws.FnExactLeastPay': WHATEVER THE INPUT: true; the input reads as it did. -/
def fnExactLeastPaySpec : ChangeSpec := { name := "fnExactLeastPay", fn := fun _ => fun
  | [d1, d2, d3] => { results := [.lit (.bool true)], args := [d1, d2, d3] }
  | _ => none }
def fnExactLeastPayRow : OpenClaim := { program := "ytgdnhidnojjpiac", sum := "5f71195d655652703fe3e80d90f12567007e9b296c3ad0b9d3ead8d07a1a8fd2", func := "loop.example/savingsclub/laws.FnExactLeastPay", spec := "fnExactLeastPay", apart := false }
def FnExactLeastPaySaid : Prop := fnExactLeastPayRow.holds Try.pinned (OpenSpec.ofChange fnExactLeastPaySpec)

/-- ITS FALSE NEIGHBOUR: 'it returns false'. Refute it at one input. -/
def fnExactLeastPayWrong : ChangeSpec := { name := "fnExactLeastPay", fn := fun _ => fun
  | [d1, d2, d3] => { results := [.lit (.bool false)], args := [d1, d2, d3] }
  | _ => none }
def FnExactLeastPayWrongFalsely : Prop := fnExactLeastPayRow.holds Try.pinned (OpenSpec.ofChange fnExactLeastPayWrong)

/-- 'laws.FnPolyAt': WHATEVER THE INPUT: true; the input reads as it did. -/
def fnPolyAtSpec : ChangeSpec := { name := "fnPolyAt", fn := fun _ => fun
  | [d] => { results := [.lit (.bool true)], args := [d] }
  | _ => none }
def fnPolyAtRow : OpenClaim := { program := "ytgdnhidnojjpiac", sum := "5f71195d655652703fe3e80d90f12567007e9b296c3ad0b9d3ead8d07a1a8fd2", func := "loop.example/savingsclub/laws.FnPolyAt", spec := "fnPolyAt", unfollowed := true, recurses := true, apart := false }
def FnPolyAtSaid : Prop := fnPolyAtRow.holds Try.pinned (OpenSpec.ofChange fnPolyAtSpec)

/-- ITS FALSE NEIGHBOUR: 'it returns false'. Refute it at one input. -/
def fnPolyAtWrong : ChangeSpec := { name := "fnPolyAt", fn := fun _ => fun
  | [d] => { results := [.lit (.bool false)], args := [d] }
  | _ => none }
def FnPolyAtWrongFalsely : Prop := fnPolyAtRow.holds Try.pinned (OpenSpec.ofChange fnPolyAtWrong)

/-- 'laws.FnExactOrderAt': WHATEVER THE INPUT: true; the input reads as it did. -/
def fnExactOrderAtSpec : ChangeSpec := { name := "fnExactOrderAt", fn := fun _ => fun
  | [d1, d2] => { results := [.lit (.bool true)], args := [d1, d2] }
  | _ => none }
def fnExactOrderAtRow : OpenClaim := { program := "ytgdnhidnojjpiac", sum := "5f71195d655652703fe3e80d90f12567007e9b296c3ad0b9d3ead8d07a1a8fd2", func := "loop.example/savingsclub/laws.FnExactOrderAt", spec := "fnExactOrderAt", apart := false }
def FnExactOrderAtSaid : Prop := fnExactOrderAtRow.holds Try.pinned (OpenSpec.ofChange fnExactOrderAtSpec)

/-- ITS FALSE NEIGHBOUR: 'it returns false'. Refute it at one input. -/
def fnExactOrderAtWrong : ChangeSpec := { name := "fnExactOrderAt", fn := fun _ => fun
  | [d1, d2] => { results := [.lit (.bool false)], args := [d1, d2] }
  | _ => none }
def FnExactOrderAtWrongFalsely : Prop := fnExactOrderAtRow.holds Try.pinned (OpenSpec.ofChange fnExactOrderAtWrong)

/-- 'laws.FnValidPoints': WHATEVER THE INPUT: true; the input reads as it did. -/
def fnValidPointsSpec : ChangeSpec := { name := "fnValidPoints", fn := fun _ => fun
  | [d] => { results := [.lit (.bool true)], args := [d] }
  | _ => none }
def fnValidPointsRow : OpenClaim := { program := "ytgdnhidnojjpiac", sum := "5f71195d655652703fe3e80d90f12567007e9b296c3ad0b9d3ead8d07a1a8fd2", func := "loop.example/savingsclub/laws.FnValidPoints", spec := "fnValidPoints", apart := false }
def FnValidPointsSaid : Prop := fnValidPointsRow.holds Try.pinned (OpenSpec.ofChange fnValidPointsSpec)

/-- ITS FALSE NEIGHBOUR: 'it returns false'. Refute it at one input. -/
def fnValidPointsWrong : ChangeSpec := { name := "fnValidPoints", fn := fun _ => fun
  | [d] => { results := [.lit (.bool false)], args := [d] }
  | _ => none }
def FnValidPointsWrongFalsely : Prop := fnValidPointsRow.holds Try.pinned (OpenSpec.ofChange fnValidPointsWrong)

/-- 'laws.FnExactRankOrder': WHATEVER THE INPUT: true; the input reads as it did. -/
def fnExactRankOrderSpec : ChangeSpec := { name := "fnExactRankOrder", fn := fun _ => fun
  | [d] => { results := [.lit (.bool true)], args := [d] }
  | _ => none }
def fnExactRankOrderRow : OpenClaim := { program := "ytgdnhidnojjpiac", sum := "5f71195d655652703fe3e80d90f12567007e9b296c3ad0b9d3ead8d07a1a8fd2", func := "loop.example/savingsclub/laws.FnExactRankOrder", spec := "fnExactRankOrder", apart := false }
def FnExactRankOrderSaid : Prop := fnExactRankOrderRow.holds Try.pinned (OpenSpec.ofChange fnExactRankOrderSpec)

/-- ITS FALSE NEIGHBOUR: 'it returns false'. Refute it at one input. -/
def fnExactRankOrderWrong : ChangeSpec := { name := "fnExactRankOrder", fn := fun _ => fun
  | [d] => { results := [.lit (.bool false)], args := [d] }
  | _ => none }
def FnExactRankOrderWrongFalsely : Prop := fnExactRankOrderRow.holds Try.pinned (OpenSpec.ofChange fnExactRankOrderWrong)

/- THE SECOND FORM. 'bulk': how many values and letters a reading holds, each counted each time it is reached (what is shared counts as often as it is met; a slice's spare places count too). A statement '..UptoSaid' is the law's where the arguments, and the package variables that the reading takes, are together of bulk at most 1048576: NARROWER than '..Said'. Prove '..Said' where nothing that the law and all that it calls make is longer than what came in: it says more and counts as full. Else prove '..UptoSaid'. A law counts once. -/
mutual
def uptoBulk {H : Type} : DataW H → Nat
  | .lit (.string bytes) => bytes.length + 1
  | .lit _ => 1
  | .nil => 1
  | .ptr d => uptoBulk d + 1
  | .slice elems spare => uptoBulkAll elems + uptoBulkAll spare + 1
  | .agg parts => uptoBulkAll parts + 1
  | .iface _ d => uptoBulk d + 1
  | .map entries => uptoBulkEntries entries + 1
  | .held _ => 1
def uptoBulkAll {H : Type} : List (DataW H) → Nat
  | [] => 0
  | d :: r => uptoBulk d + uptoBulkAll r
def uptoBulkEntries {H : Type} : List (Lit × DataW H) → Nat
  | [] => 0
  | x :: r => uptoBulkEntry x + uptoBulkEntries r
def uptoBulkEntry {H : Type} : Lit × DataW H → Nat
  | (.string bytes, d) => bytes.length + uptoBulk d + 1
  | (_, d) => uptoBulk d + 1
 end
def uptoSmall : (H : Type) → List (DataW H) → Bool := fun _ ds => decide (uptoBulkAll ds ≤ 1048576)
def OpenSpec.upto (s : _root_.Go.ChangeSpec) : _root_.Go.OpenSpec := { _root_.Go.OpenSpec.ofChange s with cond := some uptoSmall }

/-- 'laws.FnSplitEven', WHERE WHAT IT READS IS OF BULK AT MOST 1048576: true; the input reads as it did. -/
def fnSplitEvenUptoRow : OpenClaim := { program := "ytgdnhidnojjpiac", sum := "5f71195d655652703fe3e80d90f12567007e9b296c3ad0b9d3ead8d07a1a8fd2", func := "loop.example/savingsclub/laws.FnSplitEven", spec := "fnSplitEven", apart := false, narrowed := true }
def FnSplitEvenUptoSaid : Prop := fnSplitEvenUptoRow.holds Try.pinned (OpenSpec.upto fnSplitEvenSpec)

/-- 'laws.FnExactValidEntries', WHERE WHAT IT READS IS OF BULK AT MOST 1048576: true; the input reads as it did. -/
def fnExactValidEntriesUptoRow : OpenClaim := { program := "ytgdnhidnojjpiac", sum := "5f71195d655652703fe3e80d90f12567007e9b296c3ad0b9d3ead8d07a1a8fd2", func := "loop.example/savingsclub/laws.FnExactValidEntries", spec := "fnExactValidEntries", apart := false, narrowed := true }
def FnExactValidEntriesUptoSaid : Prop := fnExactValidEntriesUptoRow.holds Try.pinned (OpenSpec.upto fnExactValidEntriesSpec)

/-- 'laws.FnExactSwappedOf', WHERE WHAT IT READS IS OF BULK AT MOST 1048576: true; the input reads as it did. -/
def fnExactSwappedOfUptoRow : OpenClaim := { program := "ytgdnhidnojjpiac", sum := "5f71195d655652703fe3e80d90f12567007e9b296c3ad0b9d3ead8d07a1a8fd2", func := "loop.example/savingsclub/laws.FnExactSwappedOf", spec := "fnExactSwappedOf", recurses := true, apart := false, narrowed := true }
def FnExactSwappedOfUptoSaid : Prop := fnExactSwappedOfUptoRow.holds Try.pinned (OpenSpec.upto fnExactSwappedOfSpec)

/-- 'laws.FnValidEntries', WHERE WHAT IT READS IS OF BULK AT MOST 1048576: true; the input reads as it did. -/
def fnValidEntriesUptoRow : OpenClaim := { program := "ytgdnhidnojjpiac", sum := "5f71195d655652703fe3e80d90f12567007e9b296c3ad0b9d3ead8d07a1a8fd2", func := "loop.example/savingsclub/laws.FnValidEntries", spec := "fnValidEntries", apart := false, narrowed := true }
def FnValidEntriesUptoSaid : Prop := fnValidEntriesUptoRow.holds Try.pinned (OpenSpec.upto fnValidEntriesSpec)

/-- 'laws.FnExactValidBody', WHERE WHAT IT READS IS OF BULK AT MOST 1048576: true; the input reads as it did. -/
def fnExactValidBodyUptoRow : OpenClaim := { program := "ytgdnhidnojjpiac", sum := "5f71195d655652703fe3e80d90f12567007e9b296c3ad0b9d3ead8d07a1a8fd2", func := "loop.example/savingsclub/laws.FnExactValidBody", spec := "fnExactValidBody", apart := false, narrowed := true }
def FnExactValidBodyUptoSaid : Prop := fnExactValidBodyUptoRow.holds Try.pinned (OpenSpec.upto fnExactValidBodySpec)

/-- 'laws.FnValidBody', WHERE WHAT IT READS IS OF BULK AT MOST 1048576: true; the input reads as it did. -/
def fnValidBodyUptoRow : OpenClaim := { program := "ytgdnhidnojjpiac", sum := "5f71195d655652703fe3e80d90f12567007e9b296c3ad0b9d3ead8d07a1a8fd2", func := "loop.example/savingsclub/laws.FnValidBody", spec := "fnValidBody", apart := false, narrowed := true }
def FnValidBodyUptoSaid : Prop := fnValidBodyUptoRow.holds Try.pinned (OpenSpec.upto fnValidBodySpec)

/-- 'laws.FnRoundEven', WHERE WHAT IT READS IS OF BULK AT MOST 1048576: true; the input reads as it did. -/
def fnRoundEvenUptoRow : OpenClaim := { program := "ytgdnhidnojjpiac", sum := "5f71195d655652703fe3e80d90f12567007e9b296c3ad0b9d3ead8d07a1a8fd2", func := "loop.example/savingsclub/laws.FnRoundEven", spec := "fnRoundEven", apart := false, narrowed := true }
def FnRoundEvenUptoSaid : Prop := fnRoundEvenUptoRow.holds Try.pinned (OpenSpec.upto fnRoundEvenSpec)

/-- 'laws.FnExactLeastPay', WHERE WHAT IT READS IS OF BULK AT MOST 1048576: true; the input reads as it did. -/
def fnExactLeastPayUptoRow : OpenClaim := { program := "ytgdnhidnojjpiac", sum := "5f71195d655652703fe3e80d90f12567007e9b296c3ad0b9d3ead8d07a1a8fd2", func := "loop.example/savingsclub/laws.FnExactLeastPay", spec := "fnExactLeastPay", apart := false, narrowed := true }
def FnExactLeastPayUptoSaid : Prop := fnExactLeastPayUptoRow.holds Try.pinned (OpenSpec.upto fnExactLeastPaySpec)

/-- 'laws.FnPolyAt', WHERE WHAT IT READS IS OF BULK AT MOST 1048576: true; the input reads as it did. -/
def fnPolyAtUptoRow : OpenClaim := { program := "ytgdnhidnojjpiac", sum := "5f71195d655652703fe3e80d90f12567007e9b296c3ad0b9d3ead8d07a1a8fd2", func := "loop.example/savingsclub/laws.FnPolyAt", spec := "fnPolyAt", unfollowed := true, recurses := true, apart := false, narrowed := true }
def FnPolyAtUptoSaid : Prop := fnPolyAtUptoRow.holds Try.pinned (OpenSpec.upto fnPolyAtSpec)

/-- 'laws.FnExactOrderAt', WHERE WHAT IT READS IS OF BULK AT MOST 1048576: true; the input reads as it did. -/
def fnExactOrderAtUptoRow : OpenClaim := { program := "ytgdnhidnojjpiac", sum := "5f71195d655652703fe3e80d90f12567007e9b296c3ad0b9d3ead8d07a1a8fd2", func := "loop.example/savingsclub/laws.FnExactOrderAt", spec := "fnExactOrderAt", apart := false, narrowed := true }
def FnExactOrderAtUptoSaid : Prop := fnExactOrderAtUptoRow.holds Try.pinned (OpenSpec.upto fnExactOrderAtSpec)

/-- 'laws.FnValidPoints', WHERE WHAT IT READS IS OF BULK AT MOST 1048576: true; the input reads as it did. -/
def fnValidPointsUptoRow : OpenClaim := { program := "ytgdnhidnojjpiac", sum := "5f71195d655652703fe3e80d90f12567007e9b296c3ad0b9d3ead8d07a1a8fd2", func := "loop.example/savingsclub/laws.FnValidPoints", spec := "fnValidPoints", apart := false, narrowed := true }
def FnValidPointsUptoSaid : Prop := fnValidPointsUptoRow.holds Try.pinned (OpenSpec.upto fnValidPointsSpec)

/-- 'laws.FnExactRankOrder', WHERE WHAT IT READS IS OF BULK AT MOST 1048576: true; the input reads as it did. -/
def fnExactRankOrderUptoRow : OpenClaim := { program := "ytgdnhidnojjpiac", sum := "5f71195d655652703fe3e80d90f12567007e9b296c3ad0b9d3ead8d07a1a8fd2", func := "loop.example/savingsclub/laws.FnExactRankOrder", spec := "fnExactRankOrder", apart := false, narrowed := true }
def FnExactRankOrderUptoSaid : Prop := fnExactRankOrderUptoRow.holds Try.pinned (OpenSpec.upto fnExactRankOrderSpec)

end Rows
end Go.Proofs.Ytgdnhidnojjpiac
