/-
  No cell of these rows narrows 'for every input' (looked for: loops, veiled, ifaces, maps, wideKeys, modest, calm, conditions, laid).
  DERIVED. THE GIVEN ROWS OF THIS SEAT. 11 by the template 'for every input the law returns true; each argument reads behind the call as it read before'; 0 by the template 'total and deterministic' (their statements: YtabdkjciajjkiaaTotals.lean).
  GIVEN WITH THE SEED: the statements are not yours to turn. If you find one false, say at which input.
  Laid BY PROGRAM, IN A SANDBOX (cutbox-rows.mjs): the forced cells as the released guide's own fill.sh prints them over the translation d598a95d2527738e… (all of the seat's roots in one cut). By AI agents, Wed Nov 11 2026. No macro, syntax, notation, axiom, sorry.
-/
import Derived.Test.YtabdkjciajjkiaaChecked
import GoSem.Claim
import GoSem.ClaimJoined
import GoSem.ClaimMapViews
import Derived.JoinedTies
import Derived.KernelRfl
namespace Go.Proofs.Ytabdkjciajjkiaa
/- THE CELL 'sum', in the pinned program and in every row, IS THE sha256 OF THE DUMP (.gsa) THAT YtabdkjciajjkiaaProg.lean LOADS. Nothing in Lean hashes anything: it is a label: what it is worth is what the hold of that sum in a sandbox is worth. -/
noncomputable def Try.pinned : Pinned := { name := "ytabdkjciajjkiaa", sum := "d598a95d2527738e7ca94f44d289d700790a58bf6d9f7ae284c2c383c2f41579", checked := Try.checked }
namespace Rows
def none {H : Type} : Left H := { results := [], args := [] }

/-- 'laws.FnExactHasEnded': WHATEVER THE INPUT: true; the input reads as it did. -/
def fnExactHasEndedSpec : ChangeSpec := { name := "fnExactHasEnded", fn := fun _ => fun
  | [d1, d2] => { results := [.lit (.bool true)], args := [d1, d2] }
  | _ => none }
def fnExactHasEndedRow : OpenClaim := { program := "ytabdkjciajjkiaa", sum := "d598a95d2527738e7ca94f44d289d700790a58bf6d9f7ae284c2c383c2f41579", func := "loop.example/g01297/laws.FnExactHasEnded", spec := "fnExactHasEnded", apart := false }
def FnExactHasEndedSaid : Prop := fnExactHasEndedRow.holds Try.pinned (OpenSpec.ofChange fnExactHasEndedSpec)

/-- ITS FALSE NEIGHBOUR: 'it returns false'. Refute it at one input. -/
def fnExactHasEndedWrong : ChangeSpec := { name := "fnExactHasEnded", fn := fun _ => fun
  | [d1, d2] => { results := [.lit (.bool false)], args := [d1, d2] }
  | _ => none }
def FnExactHasEndedWrongFalsely : Prop := fnExactHasEndedRow.holds Try.pinned (OpenSpec.ofChange fnExactHasEndedWrong)

/-- 'laws.FnExactApplySquare': WHATEVER THE INPUT: true; the input reads as it did. -/
def fnExactApplySquareSpec : ChangeSpec := { name := "fnExactApplySquare", fn := fun _ => fun
  | [d1, d2] => { results := [.lit (.bool true)], args := [d1, d2] }
  | _ => none }
def fnExactApplySquareRow : OpenClaim := { program := "ytabdkjciajjkiaa", sum := "d598a95d2527738e7ca94f44d289d700790a58bf6d9f7ae284c2c383c2f41579", func := "loop.example/g01297/laws.FnExactApplySquare", spec := "fnExactApplySquare", unfollowed := true, recurses := true, apart := false }
def FnExactApplySquareSaid : Prop := fnExactApplySquareRow.holds Try.pinned (OpenSpec.ofChange fnExactApplySquareSpec)

/-- ITS FALSE NEIGHBOUR: 'it returns false'. Refute it at one input. -/
def fnExactApplySquareWrong : ChangeSpec := { name := "fnExactApplySquare", fn := fun _ => fun
  | [d1, d2] => { results := [.lit (.bool false)], args := [d1, d2] }
  | _ => none }
def FnExactApplySquareWrongFalsely : Prop := fnExactApplySquareRow.holds Try.pinned (OpenSpec.ofChange fnExactApplySquareWrong)

/-- 'laws.FnExactDigitsOf': WHATEVER THE INPUT: true; the input reads as it did. -/
def fnExactDigitsOfSpec : ChangeSpec := { name := "fnExactDigitsOf", fn := fun _ => fun
  | [d] => { results := [.lit (.bool true)], args := [d] }
  | _ => none }
def fnExactDigitsOfRow : OpenClaim := { program := "ytabdkjciajjkiaa", sum := "d598a95d2527738e7ca94f44d289d700790a58bf6d9f7ae284c2c383c2f41579", func := "loop.example/g01297/laws.FnExactDigitsOf", spec := "fnExactDigitsOf", apart := false }
def FnExactDigitsOfSaid : Prop := fnExactDigitsOfRow.holds Try.pinned (OpenSpec.ofChange fnExactDigitsOfSpec)

/-- ITS FALSE NEIGHBOUR: 'it returns false'. Refute it at one input. -/
def fnExactDigitsOfWrong : ChangeSpec := { name := "fnExactDigitsOf", fn := fun _ => fun
  | [d] => { results := [.lit (.bool false)], args := [d] }
  | _ => none }
def FnExactDigitsOfWrongFalsely : Prop := fnExactDigitsOfRow.holds Try.pinned (OpenSpec.ofChange fnExactDigitsOfWrong)

/-- 'laws.FnExactTripleOfDigits': WHATEVER THE INPUT: true; the input reads as it did. -/
def fnExactTripleOfDigitsSpec : ChangeSpec := { name := "fnExactTripleOfDigits", fn := fun _ => fun
  | [d1, d2] => { results := [.lit (.bool true)], args := [d1, d2] }
  | _ => none }
def fnExactTripleOfDigitsRow : OpenClaim := { program := "ytabdkjciajjkiaa", sum := "d598a95d2527738e7ca94f44d289d700790a58bf6d9f7ae284c2c383c2f41579", func := "loop.example/g01297/laws.FnExactTripleOfDigits", spec := "fnExactTripleOfDigits", unfollowed := true, recurses := true, apart := false }
def FnExactTripleOfDigitsSaid : Prop := fnExactTripleOfDigitsRow.holds Try.pinned (OpenSpec.ofChange fnExactTripleOfDigitsSpec)

/-- ITS FALSE NEIGHBOUR: 'it returns false'. Refute it at one input. -/
def fnExactTripleOfDigitsWrong : ChangeSpec := { name := "fnExactTripleOfDigits", fn := fun _ => fun
  | [d1, d2] => { results := [.lit (.bool false)], args := [d1, d2] }
  | _ => none }
def FnExactTripleOfDigitsWrongFalsely : Prop := fnExactTripleOfDigitsRow.holds Try.pinned (OpenSpec.ofChange fnExactTripleOfDigitsWrong)

/-- 'laws.FnExactSortTriple': WHATEVER THE INPUT: true; the input reads as it did. -/
def fnExactSortTripleSpec : ChangeSpec := { name := "fnExactSortTriple", fn := fun _ => fun
  | [d] => { results := [.lit (.bool true)], args := [d] }
  | _ => none }
def fnExactSortTripleRow : OpenClaim := { program := "ytabdkjciajjkiaa", sum := "d598a95d2527738e7ca94f44d289d700790a58bf6d9f7ae284c2c383c2f41579", func := "loop.example/g01297/laws.FnExactSortTriple", spec := "fnExactSortTriple", unfollowed := true, recurses := true, apart := false }
def FnExactSortTripleSaid : Prop := fnExactSortTripleRow.holds Try.pinned (OpenSpec.ofChange fnExactSortTripleSpec)

/-- ITS FALSE NEIGHBOUR: 'it returns false'. Refute it at one input. -/
def fnExactSortTripleWrong : ChangeSpec := { name := "fnExactSortTriple", fn := fun _ => fun
  | [d] => { results := [.lit (.bool false)], args := [d] }
  | _ => none }
def FnExactSortTripleWrongFalsely : Prop := fnExactSortTripleRow.holds Try.pinned (OpenSpec.ofChange fnExactSortTripleWrong)

/-- 'laws.FnExactStepTriple': WHATEVER THE INPUT: true; the input reads as it did. -/
def fnExactStepTripleSpec : ChangeSpec := { name := "fnExactStepTriple", fn := fun _ => fun
  | [d1, d2] => { results := [.lit (.bool true)], args := [d1, d2] }
  | _ => none }
def fnExactStepTripleRow : OpenClaim := { program := "ytabdkjciajjkiaa", sum := "d598a95d2527738e7ca94f44d289d700790a58bf6d9f7ae284c2c383c2f41579", func := "loop.example/g01297/laws.FnExactStepTriple", spec := "fnExactStepTriple", unfollowed := true, recurses := true, apart := false }
def FnExactStepTripleSaid : Prop := fnExactStepTripleRow.holds Try.pinned (OpenSpec.ofChange fnExactStepTripleSpec)

/-- ITS FALSE NEIGHBOUR: 'it returns false'. Refute it at one input. -/
def fnExactStepTripleWrong : ChangeSpec := { name := "fnExactStepTriple", fn := fun _ => fun
  | [d1, d2] => { results := [.lit (.bool false)], args := [d1, d2] }
  | _ => none }
def FnExactStepTripleWrongFalsely : Prop := fnExactStepTripleRow.holds Try.pinned (OpenSpec.ofChange fnExactStepTripleWrong)

/-- 'laws.FnExactLengthOfRun': WHATEVER THE INPUT: true; the input reads as it did. -/
def fnExactLengthOfRunSpec : ChangeSpec := { name := "fnExactLengthOfRun", fn := fun _ => fun
  | [d1, d2] => { results := [.lit (.bool true)], args := [d1, d2] }
  | _ => none }
def fnExactLengthOfRunRow : OpenClaim := { program := "ytabdkjciajjkiaa", sum := "d598a95d2527738e7ca94f44d289d700790a58bf6d9f7ae284c2c383c2f41579", func := "loop.example/g01297/laws.FnExactLengthOfRun", spec := "fnExactLengthOfRun", unfollowed := true, recurses := true, apart := false }
def FnExactLengthOfRunSaid : Prop := fnExactLengthOfRunRow.holds Try.pinned (OpenSpec.ofChange fnExactLengthOfRunSpec)

/-- ITS FALSE NEIGHBOUR: 'it returns false'. Refute it at one input. -/
def fnExactLengthOfRunWrong : ChangeSpec := { name := "fnExactLengthOfRun", fn := fun _ => fun
  | [d1, d2] => { results := [.lit (.bool false)], args := [d1, d2] }
  | _ => none }
def FnExactLengthOfRunWrongFalsely : Prop := fnExactLengthOfRunRow.holds Try.pinned (OpenSpec.ofChange fnExactLengthOfRunWrong)

/-- 'laws.FnExactEndOfRun': WHATEVER THE INPUT: true; the input reads as it did. -/
def fnExactEndOfRunSpec : ChangeSpec := { name := "fnExactEndOfRun", fn := fun _ => fun
  | [d1, d2] => { results := [.lit (.bool true)], args := [d1, d2] }
  | _ => none }
def fnExactEndOfRunRow : OpenClaim := { program := "ytabdkjciajjkiaa", sum := "d598a95d2527738e7ca94f44d289d700790a58bf6d9f7ae284c2c383c2f41579", func := "loop.example/g01297/laws.FnExactEndOfRun", spec := "fnExactEndOfRun", unfollowed := true, recurses := true, apart := false }
def FnExactEndOfRunSaid : Prop := fnExactEndOfRunRow.holds Try.pinned (OpenSpec.ofChange fnExactEndOfRunSpec)

/-- ITS FALSE NEIGHBOUR: 'it returns false'. Refute it at one input. -/
def fnExactEndOfRunWrong : ChangeSpec := { name := "fnExactEndOfRun", fn := fun _ => fun
  | [d1, d2] => { results := [.lit (.bool false)], args := [d1, d2] }
  | _ => none }
def FnExactEndOfRunWrongFalsely : Prop := fnExactEndOfRunRow.holds Try.pinned (OpenSpec.ofChange fnExactEndOfRunWrong)

/-- 'laws.FnExactShortestRule': WHATEVER THE INPUT: true; the input reads as it did. -/
def fnExactShortestRuleSpec : ChangeSpec := { name := "fnExactShortestRule", fn := fun _ => fun
  | [d] => { results := [.lit (.bool true)], args := [d] }
  | _ => none }
def fnExactShortestRuleRow : OpenClaim := { program := "ytabdkjciajjkiaa", sum := "d598a95d2527738e7ca94f44d289d700790a58bf6d9f7ae284c2c383c2f41579", func := "loop.example/g01297/laws.FnExactShortestRule", spec := "fnExactShortestRule", unfollowed := true, recurses := true, apart := false }
def FnExactShortestRuleSaid : Prop := fnExactShortestRuleRow.holds Try.pinned (OpenSpec.ofChange fnExactShortestRuleSpec)

/-- ITS FALSE NEIGHBOUR: 'it returns false'. Refute it at one input. -/
def fnExactShortestRuleWrong : ChangeSpec := { name := "fnExactShortestRule", fn := fun _ => fun
  | [d] => { results := [.lit (.bool false)], args := [d] }
  | _ => none }
def FnExactShortestRuleWrongFalsely : Prop := fnExactShortestRuleRow.holds Try.pinned (OpenSpec.ofChange fnExactShortestRuleWrong)

/-- 'laws.FnExactRunTriple': WHATEVER THE INPUT: true; the input reads as it did. -/
def fnExactRunTripleSpec : ChangeSpec := { name := "fnExactRunTriple", fn := fun _ => fun
  | [d1, d2, d3] => { results := [.lit (.bool true)], args := [d1, d2, d3] }
  | _ => none }
def fnExactRunTripleRow : OpenClaim := { program := "ytabdkjciajjkiaa", sum := "d598a95d2527738e7ca94f44d289d700790a58bf6d9f7ae284c2c383c2f41579", func := "loop.example/g01297/laws.FnExactRunTriple", spec := "fnExactRunTriple", unfollowed := true, recurses := true, apart := false }
def FnExactRunTripleSaid : Prop := fnExactRunTripleRow.holds Try.pinned (OpenSpec.ofChange fnExactRunTripleSpec)

/-- ITS FALSE NEIGHBOUR: 'it returns false'. Refute it at one input. -/
def fnExactRunTripleWrong : ChangeSpec := { name := "fnExactRunTriple", fn := fun _ => fun
  | [d1, d2, d3] => { results := [.lit (.bool false)], args := [d1, d2, d3] }
  | _ => none }
def FnExactRunTripleWrongFalsely : Prop := fnExactRunTripleRow.holds Try.pinned (OpenSpec.ofChange fnExactRunTripleWrong)

/-- 'laws.FnExactMatrixOfRun': WHATEVER THE INPUT: true; the input reads as it did. -/
def fnExactMatrixOfRunSpec : ChangeSpec := { name := "fnExactMatrixOfRun", fn := fun _ => fun
  | [d1, d2, d3] => { results := [.lit (.bool true)], args := [d1, d2, d3] }
  | _ => none }
def fnExactMatrixOfRunRow : OpenClaim := { program := "ytabdkjciajjkiaa", sum := "d598a95d2527738e7ca94f44d289d700790a58bf6d9f7ae284c2c383c2f41579", func := "loop.example/g01297/laws.FnExactMatrixOfRun", spec := "fnExactMatrixOfRun", unfollowed := true, recurses := true, apart := false }
def FnExactMatrixOfRunSaid : Prop := fnExactMatrixOfRunRow.holds Try.pinned (OpenSpec.ofChange fnExactMatrixOfRunSpec)

/-- ITS FALSE NEIGHBOUR: 'it returns false'. Refute it at one input. -/
def fnExactMatrixOfRunWrong : ChangeSpec := { name := "fnExactMatrixOfRun", fn := fun _ => fun
  | [d1, d2, d3] => { results := [.lit (.bool false)], args := [d1, d2, d3] }
  | _ => none }
def FnExactMatrixOfRunWrongFalsely : Prop := fnExactMatrixOfRunRow.holds Try.pinned (OpenSpec.ofChange fnExactMatrixOfRunWrong)

/- THE SECOND FORM. 'bulk': how many values and letters a reading holds, each counted each time it is reached (what is shared counts as often as it is met; a slice's spare places count too). A statement '..UptoSaid' is the law's where the arguments, and the package variables that the reading takes, are together of bulk at most 1048576: NARROWER than '..Said'. Prove '..Said' where nothing that the law and all that it calls make is longer than what came in: it says more and counts as full. Else prove '..UptoSaid'. A law counts once. -/
mutual
def uptoBulk {H : Type} : DataW H → Nat
  | .lit (.string bytes) => bytes.length + 1
  | .lit _ => 1
  | .nil => 1
  | .ptr d => uptoBulk d + 1
  | .slice elems spare => uptoBulkAll elems + uptoBulkAll spare + 1
  | .agg parts => uptoBulkAll parts + 1
  | .iface _ d => uptoBulk d + 1
  | .map entries => uptoBulkEntries entries + 1
  | .held _ => 1
def uptoBulkAll {H : Type} : List (DataW H) → Nat
  | [] => 0
  | d :: r => uptoBulk d + uptoBulkAll r
def uptoBulkEntries {H : Type} : List (Lit × DataW H) → Nat
  | [] => 0
  | x :: r => uptoBulkEntry x + uptoBulkEntries r
def uptoBulkEntry {H : Type} : Lit × DataW H → Nat
  | (.string bytes, d) => bytes.length + uptoBulk d + 1
  | (_, d) => uptoBulk d + 1
 end
def uptoSmall : (H : Type) → List (DataW H) → Bool := fun _ ds => decide (uptoBulkAll ds ≤ 1048576)
def OpenSpec.upto (s : _root_.Go.ChangeSpec) : _root_.Go.OpenSpec := { _root_.Go.OpenSpec.ofChange s with cond := some uptoSmall }

/-- 'laws.FnExactHasEnded', WHERE WHAT IT READS IS OF BULK AT MOST 1048576: true; the input reads as it did. -/
def fnExactHasEndedUptoRow : OpenClaim := { program := "ytabdkjciajjkiaa", sum := "d598a95d2527738e7ca94f44d289d700790a58bf6d9f7ae284c2c383c2f41579", func := "loop.example/g01297/laws.FnExactHasEnded", spec := "fnExactHasEnded", apart := false, narrowed := true }
def FnExactHasEndedUptoSaid : Prop := fnExactHasEndedUptoRow.holds Try.pinned (OpenSpec.upto fnExactHasEndedSpec)

/-- 'laws.FnExactApplySquare', WHERE WHAT IT READS IS OF BULK AT MOST 1048576: true; the input reads as it did. -/
def fnExactApplySquareUptoRow : OpenClaim := { program := "ytabdkjciajjkiaa", sum := "d598a95d2527738e7ca94f44d289d700790a58bf6d9f7ae284c2c383c2f41579", func := "loop.example/g01297/laws.FnExactApplySquare", spec := "fnExactApplySquare", unfollowed := true, recurses := true, apart := false, narrowed := true }
def FnExactApplySquareUptoSaid : Prop := fnExactApplySquareUptoRow.holds Try.pinned (OpenSpec.upto fnExactApplySquareSpec)

/-- 'laws.FnExactDigitsOf', WHERE WHAT IT READS IS OF BULK AT MOST 1048576: true; the input reads as it did. -/
def fnExactDigitsOfUptoRow : OpenClaim := { program := "ytabdkjciajjkiaa", sum := "d598a95d2527738e7ca94f44d289d700790a58bf6d9f7ae284c2c383c2f41579", func := "loop.example/g01297/laws.FnExactDigitsOf", spec := "fnExactDigitsOf", apart := false, narrowed := true }
def FnExactDigitsOfUptoSaid : Prop := fnExactDigitsOfUptoRow.holds Try.pinned (OpenSpec.upto fnExactDigitsOfSpec)

/-- 'laws.FnExactTripleOfDigits', WHERE WHAT IT READS IS OF BULK AT MOST 1048576: true; the input reads as it did. -/
def fnExactTripleOfDigitsUptoRow : OpenClaim := { program := "ytabdkjciajjkiaa", sum := "d598a95d2527738e7ca94f44d289d700790a58bf6d9f7ae284c2c383c2f41579", func := "loop.example/g01297/laws.FnExactTripleOfDigits", spec := "fnExactTripleOfDigits", unfollowed := true, recurses := true, apart := false, narrowed := true }
def FnExactTripleOfDigitsUptoSaid : Prop := fnExactTripleOfDigitsUptoRow.holds Try.pinned (OpenSpec.upto fnExactTripleOfDigitsSpec)

/-- 'laws.FnExactSortTriple', WHERE WHAT IT READS IS OF BULK AT MOST 1048576: true; the input reads as it did. -/
def fnExactSortTripleUptoRow : OpenClaim := { program := "ytabdkjciajjkiaa", sum := "d598a95d2527738e7ca94f44d289d700790a58bf6d9f7ae284c2c383c2f41579", func := "loop.example/g01297/laws.FnExactSortTriple", spec := "fnExactSortTriple", unfollowed := true, recurses := true, apart := false, narrowed := true }
def FnExactSortTripleUptoSaid : Prop := fnExactSortTripleUptoRow.holds Try.pinned (OpenSpec.upto fnExactSortTripleSpec)

/-- 'laws.FnExactStepTriple', WHERE WHAT IT READS IS OF BULK AT MOST 1048576: true; the input reads as it did. -/
def fnExactStepTripleUptoRow : OpenClaim := { program := "ytabdkjciajjkiaa", sum := "d598a95d2527738e7ca94f44d289d700790a58bf6d9f7ae284c2c383c2f41579", func := "loop.example/g01297/laws.FnExactStepTriple", spec := "fnExactStepTriple", unfollowed := true, recurses := true, apart := false, narrowed := true }
def FnExactStepTripleUptoSaid : Prop := fnExactStepTripleUptoRow.holds Try.pinned (OpenSpec.upto fnExactStepTripleSpec)

/-- 'laws.FnExactLengthOfRun', WHERE WHAT IT READS IS OF BULK AT MOST 1048576: true; the input reads as it did. -/
def fnExactLengthOfRunUptoRow : OpenClaim := { program := "ytabdkjciajjkiaa", sum := "d598a95d2527738e7ca94f44d289d700790a58bf6d9f7ae284c2c383c2f41579", func := "loop.example/g01297/laws.FnExactLengthOfRun", spec := "fnExactLengthOfRun", unfollowed := true, recurses := true, apart := false, narrowed := true }
def FnExactLengthOfRunUptoSaid : Prop := fnExactLengthOfRunUptoRow.holds Try.pinned (OpenSpec.upto fnExactLengthOfRunSpec)

/-- 'laws.FnExactEndOfRun', WHERE WHAT IT READS IS OF BULK AT MOST 1048576: true; the input reads as it did. -/
def fnExactEndOfRunUptoRow : OpenClaim := { program := "ytabdkjciajjkiaa", sum := "d598a95d2527738e7ca94f44d289d700790a58bf6d9f7ae284c2c383c2f41579", func := "loop.example/g01297/laws.FnExactEndOfRun", spec := "fnExactEndOfRun", unfollowed := true, recurses := true, apart := false, narrowed := true }
def FnExactEndOfRunUptoSaid : Prop := fnExactEndOfRunUptoRow.holds Try.pinned (OpenSpec.upto fnExactEndOfRunSpec)

/-- 'laws.FnExactShortestRule', WHERE WHAT IT READS IS OF BULK AT MOST 1048576: true; the input reads as it did. -/
def fnExactShortestRuleUptoRow : OpenClaim := { program := "ytabdkjciajjkiaa", sum := "d598a95d2527738e7ca94f44d289d700790a58bf6d9f7ae284c2c383c2f41579", func := "loop.example/g01297/laws.FnExactShortestRule", spec := "fnExactShortestRule", unfollowed := true, recurses := true, apart := false, narrowed := true }
def FnExactShortestRuleUptoSaid : Prop := fnExactShortestRuleUptoRow.holds Try.pinned (OpenSpec.upto fnExactShortestRuleSpec)

/-- 'laws.FnExactRunTriple', WHERE WHAT IT READS IS OF BULK AT MOST 1048576: true; the input reads as it did. -/
def fnExactRunTripleUptoRow : OpenClaim := { program := "ytabdkjciajjkiaa", sum := "d598a95d2527738e7ca94f44d289d700790a58bf6d9f7ae284c2c383c2f41579", func := "loop.example/g01297/laws.FnExactRunTriple", spec := "fnExactRunTriple", unfollowed := true, recurses := true, apart := false, narrowed := true }
def FnExactRunTripleUptoSaid : Prop := fnExactRunTripleUptoRow.holds Try.pinned (OpenSpec.upto fnExactRunTripleSpec)

/-- 'laws.FnExactMatrixOfRun', WHERE WHAT IT READS IS OF BULK AT MOST 1048576: true; the input reads as it did. -/
def fnExactMatrixOfRunUptoRow : OpenClaim := { program := "ytabdkjciajjkiaa", sum := "d598a95d2527738e7ca94f44d289d700790a58bf6d9f7ae284c2c383c2f41579", func := "loop.example/g01297/laws.FnExactMatrixOfRun", spec := "fnExactMatrixOfRun", unfollowed := true, recurses := true, apart := false, narrowed := true }
def FnExactMatrixOfRunUptoSaid : Prop := fnExactMatrixOfRunUptoRow.holds Try.pinned (OpenSpec.upto fnExactMatrixOfRunSpec)

end Rows
end Go.Proofs.Ytabdkjciajjkiaa
