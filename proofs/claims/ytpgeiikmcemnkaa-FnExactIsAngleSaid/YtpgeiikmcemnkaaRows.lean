/-
  No cell of these rows narrows 'for every input' (looked for: loops, veiled, ifaces, maps, wideKeys, modest, calm, conditions, laid).
  DERIVED. THE GIVEN ROWS OF THIS SEAT. 12 by the template 'for every input the law returns true; each argument reads behind the call as it read before'; 0 by the template 'total and deterministic' (their statements: YtpgeiikmcemnkaaTotals.lean).
  GIVEN WITH THE SEED: the statements are not yours to turn. If you find one false, say at which input.
  Laid BY PROGRAM, IN A SANDBOX (cutbox-rows.mjs): the forced cells as the released guide's own fill.sh prints them over the translation 7fdc37934e1b2ef1… (all of the seat's roots in one cut). By AI agents, Wed Nov 11 2026. No macro, syntax, notation, axiom, sorry.
-/
import Derived.Test.YtpgeiikmcemnkaaChecked
import GoSem.Claim
import GoSem.ClaimJoined
import GoSem.ClaimMapViews
import Derived.JoinedTies
import Derived.KernelRfl
namespace Go.Proofs.Ytpgeiikmcemnkaa
/- THE CELL 'sum', in the pinned program and in every row, IS THE sha256 OF THE DUMP (.gsa) THAT YtpgeiikmcemnkaaProg.lean LOADS. Nothing in Lean hashes anything: it is a label: what it is worth is what the hold of that sum in a sandbox is worth. -/
noncomputable def Try.pinned : Pinned := { name := "ytpgeiikmcemnkaa", sum := "7fdc37934e1b2ef1cb99540894fbe8b867e78baf020306614724367dbd11bc88", checked := Try.checked }
namespace Rows
def none {H : Type} : Left H := { results := [], args := [] }

/-- 'laws.FnExactConstants': WHATEVER THE INPUT: true; the input reads as it did. -/
def fnExactConstantsSpec : ChangeSpec := { name := "fnExactConstants", fn := fun _ => fun
  | [] => { results := [.lit (.bool true)], args := [] }
  | _ => none }
def fnExactConstantsRow : OpenClaim := { program := "ytpgeiikmcemnkaa", sum := "7fdc37934e1b2ef1cb99540894fbe8b867e78baf020306614724367dbd11bc88", func := "loop.example/g01297/laws.FnExactConstants", spec := "fnExactConstants", apart := false }
def FnExactConstantsSaid : Prop := fnExactConstantsRow.holds Try.pinned (OpenSpec.ofChange fnExactConstantsSpec)

/-- ITS FALSE NEIGHBOUR: 'it returns false'. Refute it at one input. -/
def fnExactConstantsWrong : ChangeSpec := { name := "fnExactConstants", fn := fun _ => fun
  | [] => { results := [.lit (.bool false)], args := [] }
  | _ => none }
def FnExactConstantsWrongFalsely : Prop := fnExactConstantsRow.holds Try.pinned (OpenSpec.ofChange fnExactConstantsWrong)

/-- 'laws.FnExactIsPoint': WHATEVER THE INPUT: true; the input reads as it did. -/
def fnExactIsPointSpec : ChangeSpec := { name := "fnExactIsPoint", fn := fun _ => fun
  | [d] => { results := [.lit (.bool true)], args := [d] }
  | _ => none }
def fnExactIsPointRow : OpenClaim := { program := "ytpgeiikmcemnkaa", sum := "7fdc37934e1b2ef1cb99540894fbe8b867e78baf020306614724367dbd11bc88", func := "loop.example/g01297/laws.FnExactIsPoint", spec := "fnExactIsPoint", apart := false }
def FnExactIsPointSaid : Prop := fnExactIsPointRow.holds Try.pinned (OpenSpec.ofChange fnExactIsPointSpec)

/-- ITS FALSE NEIGHBOUR: 'it returns false'. Refute it at one input. -/
def fnExactIsPointWrong : ChangeSpec := { name := "fnExactIsPoint", fn := fun _ => fun
  | [d] => { results := [.lit (.bool false)], args := [d] }
  | _ => none }
def FnExactIsPointWrongFalsely : Prop := fnExactIsPointRow.holds Try.pinned (OpenSpec.ofChange fnExactIsPointWrong)

/-- 'laws.FnExactIsTriple': WHATEVER THE INPUT: true; the input reads as it did. -/
def fnExactIsTripleSpec : ChangeSpec := { name := "fnExactIsTriple", fn := fun _ => fun
  | [d] => { results := [.lit (.bool true)], args := [d] }
  | _ => none }
def fnExactIsTripleRow : OpenClaim := { program := "ytpgeiikmcemnkaa", sum := "7fdc37934e1b2ef1cb99540894fbe8b867e78baf020306614724367dbd11bc88", func := "loop.example/g01297/laws.FnExactIsTriple", spec := "fnExactIsTriple", apart := false }
def FnExactIsTripleSaid : Prop := fnExactIsTripleRow.holds Try.pinned (OpenSpec.ofChange fnExactIsTripleSpec)

/-- ITS FALSE NEIGHBOUR: 'it returns false'. Refute it at one input. -/
def fnExactIsTripleWrong : ChangeSpec := { name := "fnExactIsTriple", fn := fun _ => fun
  | [d] => { results := [.lit (.bool false)], args := [d] }
  | _ => none }
def FnExactIsTripleWrongFalsely : Prop := fnExactIsTripleRow.holds Try.pinned (OpenSpec.ofChange fnExactIsTripleWrong)

/-- 'laws.FnExactIsSpot': WHATEVER THE INPUT: true; the input reads as it did. -/
def fnExactIsSpotSpec : ChangeSpec := { name := "fnExactIsSpot", fn := fun _ => fun
  | [d] => { results := [.lit (.bool true)], args := [d] }
  | _ => none }
def fnExactIsSpotRow : OpenClaim := { program := "ytpgeiikmcemnkaa", sum := "7fdc37934e1b2ef1cb99540894fbe8b867e78baf020306614724367dbd11bc88", func := "loop.example/g01297/laws.FnExactIsSpot", spec := "fnExactIsSpot", unfollowed := true, recurses := true, apart := false }
def FnExactIsSpotSaid : Prop := fnExactIsSpotRow.holds Try.pinned (OpenSpec.ofChange fnExactIsSpotSpec)

/-- ITS FALSE NEIGHBOUR: 'it returns false'. Refute it at one input. -/
def fnExactIsSpotWrong : ChangeSpec := { name := "fnExactIsSpot", fn := fun _ => fun
  | [d] => { results := [.lit (.bool false)], args := [d] }
  | _ => none }
def FnExactIsSpotWrongFalsely : Prop := fnExactIsSpotRow.holds Try.pinned (OpenSpec.ofChange fnExactIsSpotWrong)

/-- 'laws.FnExactIsFraction': WHATEVER THE INPUT: true; the input reads as it did. -/
def fnExactIsFractionSpec : ChangeSpec := { name := "fnExactIsFraction", fn := fun _ => fun
  | [d] => { results := [.lit (.bool true)], args := [d] }
  | _ => none }
def fnExactIsFractionRow : OpenClaim := { program := "ytpgeiikmcemnkaa", sum := "7fdc37934e1b2ef1cb99540894fbe8b867e78baf020306614724367dbd11bc88", func := "loop.example/g01297/laws.FnExactIsFraction", spec := "fnExactIsFraction", apart := false }
def FnExactIsFractionSaid : Prop := fnExactIsFractionRow.holds Try.pinned (OpenSpec.ofChange fnExactIsFractionSpec)

/-- ITS FALSE NEIGHBOUR: 'it returns false'. Refute it at one input. -/
def fnExactIsFractionWrong : ChangeSpec := { name := "fnExactIsFraction", fn := fun _ => fun
  | [d] => { results := [.lit (.bool false)], args := [d] }
  | _ => none }
def FnExactIsFractionWrongFalsely : Prop := fnExactIsFractionRow.holds Try.pinned (OpenSpec.ofChange fnExactIsFractionWrong)

/-- 'laws.FnExactIsMatrix': WHATEVER THE INPUT: true; the input reads as it did. -/
def fnExactIsMatrixSpec : ChangeSpec := { name := "fnExactIsMatrix", fn := fun _ => fun
  | [d] => { results := [.lit (.bool true)], args := [d] }
  | _ => none }
def fnExactIsMatrixRow : OpenClaim := { program := "ytpgeiikmcemnkaa", sum := "7fdc37934e1b2ef1cb99540894fbe8b867e78baf020306614724367dbd11bc88", func := "loop.example/g01297/laws.FnExactIsMatrix", spec := "fnExactIsMatrix", unfollowed := true, recurses := true, apart := false }
def FnExactIsMatrixSaid : Prop := fnExactIsMatrixRow.holds Try.pinned (OpenSpec.ofChange fnExactIsMatrixSpec)

/-- ITS FALSE NEIGHBOUR: 'it returns false'. Refute it at one input. -/
def fnExactIsMatrixWrong : ChangeSpec := { name := "fnExactIsMatrix", fn := fun _ => fun
  | [d] => { results := [.lit (.bool false)], args := [d] }
  | _ => none }
def FnExactIsMatrixWrongFalsely : Prop := fnExactIsMatrixRow.holds Try.pinned (OpenSpec.ofChange fnExactIsMatrixWrong)

/-- 'laws.FnExactTriangleOf': WHATEVER THE INPUT: true; the input reads as it did. -/
def fnExactTriangleOfSpec : ChangeSpec := { name := "fnExactTriangleOf", fn := fun _ => fun
  | [d] => { results := [.lit (.bool true)], args := [d] }
  | _ => none }
def fnExactTriangleOfRow : OpenClaim := { program := "ytpgeiikmcemnkaa", sum := "7fdc37934e1b2ef1cb99540894fbe8b867e78baf020306614724367dbd11bc88", func := "loop.example/g01297/laws.FnExactTriangleOf", spec := "fnExactTriangleOf", apart := false }
def FnExactTriangleOfSaid : Prop := fnExactTriangleOfRow.holds Try.pinned (OpenSpec.ofChange fnExactTriangleOfSpec)

/-- ITS FALSE NEIGHBOUR: 'it returns false'. Refute it at one input. -/
def fnExactTriangleOfWrong : ChangeSpec := { name := "fnExactTriangleOf", fn := fun _ => fun
  | [d] => { results := [.lit (.bool false)], args := [d] }
  | _ => none }
def FnExactTriangleOfWrongFalsely : Prop := fnExactTriangleOfRow.holds Try.pinned (OpenSpec.ofChange fnExactTriangleOfWrong)

/-- 'laws.FnExactGcdOfTriple': WHATEVER THE INPUT: true; the input reads as it did. -/
def fnExactGcdOfTripleSpec : ChangeSpec := { name := "fnExactGcdOfTriple", fn := fun _ => fun
  | [d] => { results := [.lit (.bool true)], args := [d] }
  | _ => none }
def fnExactGcdOfTripleRow : OpenClaim := { program := "ytpgeiikmcemnkaa", sum := "7fdc37934e1b2ef1cb99540894fbe8b867e78baf020306614724367dbd11bc88", func := "loop.example/g01297/laws.FnExactGcdOfTriple", spec := "fnExactGcdOfTriple", apart := false }
def FnExactGcdOfTripleSaid : Prop := fnExactGcdOfTripleRow.holds Try.pinned (OpenSpec.ofChange fnExactGcdOfTripleSpec)

/-- ITS FALSE NEIGHBOUR: 'it returns false'. Refute it at one input. -/
def fnExactGcdOfTripleWrong : ChangeSpec := { name := "fnExactGcdOfTriple", fn := fun _ => fun
  | [d] => { results := [.lit (.bool false)], args := [d] }
  | _ => none }
def FnExactGcdOfTripleWrongFalsely : Prop := fnExactGcdOfTripleRow.holds Try.pinned (OpenSpec.ofChange fnExactGcdOfTripleWrong)

/-- 'laws.FnExactDeterminantOf': WHATEVER THE INPUT: true; the input reads as it did. -/
def fnExactDeterminantOfSpec : ChangeSpec := { name := "fnExactDeterminantOf", fn := fun _ => fun
  | [d1, d2] => { results := [.lit (.bool true)], args := [d1, d2] }
  | _ => none }
def fnExactDeterminantOfRow : OpenClaim := { program := "ytpgeiikmcemnkaa", sum := "7fdc37934e1b2ef1cb99540894fbe8b867e78baf020306614724367dbd11bc88", func := "loop.example/g01297/laws.FnExactDeterminantOf", spec := "fnExactDeterminantOf", unfollowed := true, recurses := true, apart := false }
def FnExactDeterminantOfSaid : Prop := fnExactDeterminantOfRow.holds Try.pinned (OpenSpec.ofChange fnExactDeterminantOfSpec)

/-- ITS FALSE NEIGHBOUR: 'it returns false'. Refute it at one input. -/
def fnExactDeterminantOfWrong : ChangeSpec := { name := "fnExactDeterminantOf", fn := fun _ => fun
  | [d1, d2] => { results := [.lit (.bool false)], args := [d1, d2] }
  | _ => none }
def FnExactDeterminantOfWrongFalsely : Prop := fnExactDeterminantOfRow.holds Try.pinned (OpenSpec.ofChange fnExactDeterminantOfWrong)

/-- 'laws.FnExactCornerOfTangent': WHATEVER THE INPUT: true; the input reads as it did. -/
def fnExactCornerOfTangentSpec : ChangeSpec := { name := "fnExactCornerOfTangent", fn := fun _ => fun
  | [d1, d2] => { results := [.lit (.bool true)], args := [d1, d2] }
  | _ => none }
def fnExactCornerOfTangentRow : OpenClaim := { program := "ytpgeiikmcemnkaa", sum := "7fdc37934e1b2ef1cb99540894fbe8b867e78baf020306614724367dbd11bc88", func := "loop.example/g01297/laws.FnExactCornerOfTangent", spec := "fnExactCornerOfTangent", apart := false }
def FnExactCornerOfTangentSaid : Prop := fnExactCornerOfTangentRow.holds Try.pinned (OpenSpec.ofChange fnExactCornerOfTangentSpec)

/-- ITS FALSE NEIGHBOUR: 'it returns false'. Refute it at one input. -/
def fnExactCornerOfTangentWrong : ChangeSpec := { name := "fnExactCornerOfTangent", fn := fun _ => fun
  | [d1, d2] => { results := [.lit (.bool false)], args := [d1, d2] }
  | _ => none }
def FnExactCornerOfTangentWrongFalsely : Prop := fnExactCornerOfTangentRow.holds Try.pinned (OpenSpec.ofChange fnExactCornerOfTangentWrong)

/-- 'laws.FnExactDeterminantOfMatrix': WHATEVER THE INPUT: true; the input reads as it did. -/
def fnExactDeterminantOfMatrixSpec : ChangeSpec := { name := "fnExactDeterminantOfMatrix", fn := fun _ => fun
  | [d] => { results := [.lit (.bool true)], args := [d] }
  | _ => none }
def fnExactDeterminantOfMatrixRow : OpenClaim := { program := "ytpgeiikmcemnkaa", sum := "7fdc37934e1b2ef1cb99540894fbe8b867e78baf020306614724367dbd11bc88", func := "loop.example/g01297/laws.FnExactDeterminantOfMatrix", spec := "fnExactDeterminantOfMatrix", unfollowed := true, recurses := true, apart := false }
def FnExactDeterminantOfMatrixSaid : Prop := fnExactDeterminantOfMatrixRow.holds Try.pinned (OpenSpec.ofChange fnExactDeterminantOfMatrixSpec)

/-- ITS FALSE NEIGHBOUR: 'it returns false'. Refute it at one input. -/
def fnExactDeterminantOfMatrixWrong : ChangeSpec := { name := "fnExactDeterminantOfMatrix", fn := fun _ => fun
  | [d] => { results := [.lit (.bool false)], args := [d] }
  | _ => none }
def FnExactDeterminantOfMatrixWrongFalsely : Prop := fnExactDeterminantOfMatrixRow.holds Try.pinned (OpenSpec.ofChange fnExactDeterminantOfMatrixWrong)

/-- 'laws.FnExactIsAngle': WHATEVER THE INPUT: true; the input reads as it did. -/
def fnExactIsAngleSpec : ChangeSpec := { name := "fnExactIsAngle", fn := fun _ => fun
  | [d1, d2] => { results := [.lit (.bool true)], args := [d1, d2] }
  | _ => none }
def fnExactIsAngleRow : OpenClaim := { program := "ytpgeiikmcemnkaa", sum := "7fdc37934e1b2ef1cb99540894fbe8b867e78baf020306614724367dbd11bc88", func := "loop.example/g01297/laws.FnExactIsAngle", spec := "fnExactIsAngle", unfollowed := true, recurses := true, apart := false }
def FnExactIsAngleSaid : Prop := fnExactIsAngleRow.holds Try.pinned (OpenSpec.ofChange fnExactIsAngleSpec)

/-- ITS FALSE NEIGHBOUR: 'it returns false'. Refute it at one input. -/
def fnExactIsAngleWrong : ChangeSpec := { name := "fnExactIsAngle", fn := fun _ => fun
  | [d1, d2] => { results := [.lit (.bool false)], args := [d1, d2] }
  | _ => none }
def FnExactIsAngleWrongFalsely : Prop := fnExactIsAngleRow.holds Try.pinned (OpenSpec.ofChange fnExactIsAngleWrong)

/- THE SECOND FORM. 'bulk': how many values and letters a reading holds, each counted each time it is reached (what is shared counts as often as it is met; a slice's spare places count too). A statement '..UptoSaid' is the law's where the arguments, and the package variables that the reading takes, are together of bulk at most 1048576: NARROWER than '..Said'. Prove '..Said' where nothing that the law and all that it calls make is longer than what came in: it says more and counts as full. Else prove '..UptoSaid'. A law counts once. -/
mutual
def uptoBulk {H : Type} : DataW H → Nat
  | .lit (.string bytes) => bytes.length + 1
  | .lit _ => 1
  | .nil => 1
  | .ptr d => uptoBulk d + 1
  | .slice elems spare => uptoBulkAll elems + uptoBulkAll spare + 1
  | .agg parts => uptoBulkAll parts + 1
  | .iface _ d => uptoBulk d + 1
  | .map entries => uptoBulkEntries entries + 1
  | .held _ => 1
def uptoBulkAll {H : Type} : List (DataW H) → Nat
  | [] => 0
  | d :: r => uptoBulk d + uptoBulkAll r
def uptoBulkEntries {H : Type} : List (Lit × DataW H) → Nat
  | [] => 0
  | x :: r => uptoBulkEntry x + uptoBulkEntries r
def uptoBulkEntry {H : Type} : Lit × DataW H → Nat
  | (.string bytes, d) => bytes.length + uptoBulk d + 1
  | (_, d) => uptoBulk d + 1
 end
def uptoSmall : (H : Type) → List (DataW H) → Bool := fun _ ds => decide (uptoBulkAll ds ≤ 1048576)
def OpenSpec.upto (s : _root_.Go.ChangeSpec) : _root_.Go.OpenSpec := { _root_.Go.OpenSpec.ofChange s with cond := some uptoSmall }

/-- 'laws.FnExactConstants', WHERE WHAT IT READS IS OF BULK AT MOST 1048576: true; the input reads as it did. -/
def fnExactConstantsUptoRow : OpenClaim := { program := "ytpgeiikmcemnkaa", sum := "7fdc37934e1b2ef1cb99540894fbe8b867e78baf020306614724367dbd11bc88", func := "loop.example/g01297/laws.FnExactConstants", spec := "fnExactConstants", apart := false, narrowed := true }
def FnExactConstantsUptoSaid : Prop := fnExactConstantsUptoRow.holds Try.pinned (OpenSpec.upto fnExactConstantsSpec)

/-- 'laws.FnExactIsPoint', WHERE WHAT IT READS IS OF BULK AT MOST 1048576: true; the input reads as it did. -/
def fnExactIsPointUptoRow : OpenClaim := { program := "ytpgeiikmcemnkaa", sum := "7fdc37934e1b2ef1cb99540894fbe8b867e78baf020306614724367dbd11bc88", func := "loop.example/g01297/laws.FnExactIsPoint", spec := "fnExactIsPoint", apart := false, narrowed := true }
def FnExactIsPointUptoSaid : Prop := fnExactIsPointUptoRow.holds Try.pinned (OpenSpec.upto fnExactIsPointSpec)

/-- 'laws.FnExactIsTriple', WHERE WHAT IT READS IS OF BULK AT MOST 1048576: true; the input reads as it did. -/
def fnExactIsTripleUptoRow : OpenClaim := { program := "ytpgeiikmcemnkaa", sum := "7fdc37934e1b2ef1cb99540894fbe8b867e78baf020306614724367dbd11bc88", func := "loop.example/g01297/laws.FnExactIsTriple", spec := "fnExactIsTriple", apart := false, narrowed := true }
def FnExactIsTripleUptoSaid : Prop := fnExactIsTripleUptoRow.holds Try.pinned (OpenSpec.upto fnExactIsTripleSpec)

/-- 'laws.FnExactIsSpot', WHERE WHAT IT READS IS OF BULK AT MOST 1048576: true; the input reads as it did. -/
def fnExactIsSpotUptoRow : OpenClaim := { program := "ytpgeiikmcemnkaa", sum := "7fdc37934e1b2ef1cb99540894fbe8b867e78baf020306614724367dbd11bc88", func := "loop.example/g01297/laws.FnExactIsSpot", spec := "fnExactIsSpot", unfollowed := true, recurses := true, apart := false, narrowed := true }
def FnExactIsSpotUptoSaid : Prop := fnExactIsSpotUptoRow.holds Try.pinned (OpenSpec.upto fnExactIsSpotSpec)

/-- 'laws.FnExactIsFraction', WHERE WHAT IT READS IS OF BULK AT MOST 1048576: true; the input reads as it did. -/
def fnExactIsFractionUptoRow : OpenClaim := { program := "ytpgeiikmcemnkaa", sum := "7fdc37934e1b2ef1cb99540894fbe8b867e78baf020306614724367dbd11bc88", func := "loop.example/g01297/laws.FnExactIsFraction", spec := "fnExactIsFraction", apart := false, narrowed := true }
def FnExactIsFractionUptoSaid : Prop := fnExactIsFractionUptoRow.holds Try.pinned (OpenSpec.upto fnExactIsFractionSpec)

/-- 'laws.FnExactIsMatrix', WHERE WHAT IT READS IS OF BULK AT MOST 1048576: true; the input reads as it did. -/
def fnExactIsMatrixUptoRow : OpenClaim := { program := "ytpgeiikmcemnkaa", sum := "7fdc37934e1b2ef1cb99540894fbe8b867e78baf020306614724367dbd11bc88", func := "loop.example/g01297/laws.FnExactIsMatrix", spec := "fnExactIsMatrix", unfollowed := true, recurses := true, apart := false, narrowed := true }
def FnExactIsMatrixUptoSaid : Prop := fnExactIsMatrixUptoRow.holds Try.pinned (OpenSpec.upto fnExactIsMatrixSpec)

/-- 'laws.FnExactTriangleOf', WHERE WHAT IT READS IS OF BULK AT MOST 1048576: true; the input reads as it did. -/
def fnExactTriangleOfUptoRow : OpenClaim := { program := "ytpgeiikmcemnkaa", sum := "7fdc37934e1b2ef1cb99540894fbe8b867e78baf020306614724367dbd11bc88", func := "loop.example/g01297/laws.FnExactTriangleOf", spec := "fnExactTriangleOf", apart := false, narrowed := true }
def FnExactTriangleOfUptoSaid : Prop := fnExactTriangleOfUptoRow.holds Try.pinned (OpenSpec.upto fnExactTriangleOfSpec)

/-- 'laws.FnExactGcdOfTriple', WHERE WHAT IT READS IS OF BULK AT MOST 1048576: true; the input reads as it did. -/
def fnExactGcdOfTripleUptoRow : OpenClaim := { program := "ytpgeiikmcemnkaa", sum := "7fdc37934e1b2ef1cb99540894fbe8b867e78baf020306614724367dbd11bc88", func := "loop.example/g01297/laws.FnExactGcdOfTriple", spec := "fnExactGcdOfTriple", apart := false, narrowed := true }
def FnExactGcdOfTripleUptoSaid : Prop := fnExactGcdOfTripleUptoRow.holds Try.pinned (OpenSpec.upto fnExactGcdOfTripleSpec)

/-- 'laws.FnExactDeterminantOf', WHERE WHAT IT READS IS OF BULK AT MOST 1048576: true; the input reads as it did. -/
def fnExactDeterminantOfUptoRow : OpenClaim := { program := "ytpgeiikmcemnkaa", sum := "7fdc37934e1b2ef1cb99540894fbe8b867e78baf020306614724367dbd11bc88", func := "loop.example/g01297/laws.FnExactDeterminantOf", spec := "fnExactDeterminantOf", unfollowed := true, recurses := true, apart := false, narrowed := true }
def FnExactDeterminantOfUptoSaid : Prop := fnExactDeterminantOfUptoRow.holds Try.pinned (OpenSpec.upto fnExactDeterminantOfSpec)

/-- 'laws.FnExactCornerOfTangent', WHERE WHAT IT READS IS OF BULK AT MOST 1048576: true; the input reads as it did. -/
def fnExactCornerOfTangentUptoRow : OpenClaim := { program := "ytpgeiikmcemnkaa", sum := "7fdc37934e1b2ef1cb99540894fbe8b867e78baf020306614724367dbd11bc88", func := "loop.example/g01297/laws.FnExactCornerOfTangent", spec := "fnExactCornerOfTangent", apart := false, narrowed := true }
def FnExactCornerOfTangentUptoSaid : Prop := fnExactCornerOfTangentUptoRow.holds Try.pinned (OpenSpec.upto fnExactCornerOfTangentSpec)

/-- 'laws.FnExactDeterminantOfMatrix', WHERE WHAT IT READS IS OF BULK AT MOST 1048576: true; the input reads as it did. -/
def fnExactDeterminantOfMatrixUptoRow : OpenClaim := { program := "ytpgeiikmcemnkaa", sum := "7fdc37934e1b2ef1cb99540894fbe8b867e78baf020306614724367dbd11bc88", func := "loop.example/g01297/laws.FnExactDeterminantOfMatrix", spec := "fnExactDeterminantOfMatrix", unfollowed := true, recurses := true, apart := false, narrowed := true }
def FnExactDeterminantOfMatrixUptoSaid : Prop := fnExactDeterminantOfMatrixUptoRow.holds Try.pinned (OpenSpec.upto fnExactDeterminantOfMatrixSpec)

/-- 'laws.FnExactIsAngle', WHERE WHAT IT READS IS OF BULK AT MOST 1048576: true; the input reads as it did. -/
def fnExactIsAngleUptoRow : OpenClaim := { program := "ytpgeiikmcemnkaa", sum := "7fdc37934e1b2ef1cb99540894fbe8b867e78baf020306614724367dbd11bc88", func := "loop.example/g01297/laws.FnExactIsAngle", spec := "fnExactIsAngle", unfollowed := true, recurses := true, apart := false, narrowed := true }
def FnExactIsAngleUptoSaid : Prop := fnExactIsAngleUptoRow.holds Try.pinned (OpenSpec.upto fnExactIsAngleSpec)

end Rows
end Go.Proofs.Ytpgeiikmcemnkaa
