/-
  No cell of these rows narrows 'for every input' (looked for: loops, veiled, ifaces, maps, wideKeys, modest, calm, conditions, laid).
  DERIVED. THE GIVEN ROWS OF THIS SEAT. 12 by the template 'for every input the law returns true; each argument reads behind the call as it read before'; 0 by the template 'total and deterministic' (their statements: YtkibdpadampmcaaTotals.lean).
  GIVEN WITH THE SEED: the statements are not yours to turn. If you find one false, say at which input.
  Laid BY PROGRAM, IN A SANDBOX (cutbox-rows.mjs): the forced cells as the released guide's own fill.sh prints them over the translation 0f4734fc16913614… (all of the seat's roots in one cut). By AI agents, Wed Nov 11 2026. No macro, syntax, notation, axiom, sorry.
-/
import Derived.Test.YtkibdpadampmcaaChecked
import GoSem.Claim
import GoSem.ClaimJoined
import GoSem.ClaimMapViews
import Derived.JoinedTies
import Derived.KernelRfl
namespace Go.Proofs.Ytkibdpadampmcaa
/- THE CELL 'sum', in the pinned program and in every row, IS THE sha256 OF THE DUMP (.gsa) THAT YtkibdpadampmcaaProg.lean LOADS. Nothing in Lean hashes anything: it is a label: what it is worth is what the hold of that sum in a sandbox is worth. -/
noncomputable def Try.pinned : Pinned := { name := "ytkibdpadampmcaa", sum := "0f4734fc169136141805c31cd783552efa1741d023b15afff3513a33c6787fc5", checked := Try.checked }
namespace Rows
def none {H : Type} : Left H := { results := [], args := [] }

/-- 'laws.FnExactLengthOf': WHATEVER THE INPUT: true; the input reads as it did. -/
def fnExactLengthOfSpec : ChangeSpec := { name := "fnExactLengthOf", fn := fun _ => fun
  | [d1, d2] => { results := [.lit (.bool true)], args := [d1, d2] }
  | _ => none }
def fnExactLengthOfRow : OpenClaim := { program := "ytkibdpadampmcaa", sum := "0f4734fc169136141805c31cd783552efa1741d023b15afff3513a33c6787fc5", func := "loop.example/g01297/laws.FnExactLengthOf", spec := "fnExactLengthOf", unfollowed := true, recurses := true, apart := false }
def FnExactLengthOfSaid : Prop := fnExactLengthOfRow.holds Try.pinned (OpenSpec.ofChange fnExactLengthOfSpec)

/-- ITS FALSE NEIGHBOUR: 'it returns false'. Refute it at one input. -/
def fnExactLengthOfWrong : ChangeSpec := { name := "fnExactLengthOf", fn := fun _ => fun
  | [d1, d2] => { results := [.lit (.bool false)], args := [d1, d2] }
  | _ => none }
def FnExactLengthOfWrongFalsely : Prop := fnExactLengthOfRow.holds Try.pinned (OpenSpec.ofChange fnExactLengthOfWrong)

/-- 'laws.FnExactPrimitiveOf': WHATEVER THE INPUT: true; the input reads as it did. -/
def fnExactPrimitiveOfSpec : ChangeSpec := { name := "fnExactPrimitiveOf", fn := fun _ => fun
  | [d] => { results := [.lit (.bool true)], args := [d] }
  | _ => none }
def fnExactPrimitiveOfRow : OpenClaim := { program := "ytkibdpadampmcaa", sum := "0f4734fc169136141805c31cd783552efa1741d023b15afff3513a33c6787fc5", func := "loop.example/g01297/laws.FnExactPrimitiveOf", spec := "fnExactPrimitiveOf", apart := false }
def FnExactPrimitiveOfSaid : Prop := fnExactPrimitiveOfRow.holds Try.pinned (OpenSpec.ofChange fnExactPrimitiveOfSpec)

/-- ITS FALSE NEIGHBOUR: 'it returns false'. Refute it at one input. -/
def fnExactPrimitiveOfWrong : ChangeSpec := { name := "fnExactPrimitiveOf", fn := fun _ => fun
  | [d] => { results := [.lit (.bool false)], args := [d] }
  | _ => none }
def FnExactPrimitiveOfWrongFalsely : Prop := fnExactPrimitiveOfRow.holds Try.pinned (OpenSpec.ofChange fnExactPrimitiveOfWrong)

/-- 'laws.FnExactAddPoints': WHATEVER THE INPUT: true; the input reads as it did. -/
def fnExactAddPointsSpec : ChangeSpec := { name := "fnExactAddPoints", fn := fun _ => fun
  | [d1, d2, d3] => { results := [.lit (.bool true)], args := [d1, d2, d3] }
  | _ => none }
def fnExactAddPointsRow : OpenClaim := { program := "ytkibdpadampmcaa", sum := "0f4734fc169136141805c31cd783552efa1741d023b15afff3513a33c6787fc5", func := "loop.example/g01297/laws.FnExactAddPoints", spec := "fnExactAddPoints", unfollowed := true, recurses := true, apart := false }
def FnExactAddPointsSaid : Prop := fnExactAddPointsRow.holds Try.pinned (OpenSpec.ofChange fnExactAddPointsSpec)

/-- ITS FALSE NEIGHBOUR: 'it returns false'. Refute it at one input. -/
def fnExactAddPointsWrong : ChangeSpec := { name := "fnExactAddPoints", fn := fun _ => fun
  | [d1, d2, d3] => { results := [.lit (.bool false)], args := [d1, d2, d3] }
  | _ => none }
def FnExactAddPointsWrongFalsely : Prop := fnExactAddPointsRow.holds Try.pinned (OpenSpec.ofChange fnExactAddPointsWrong)

/-- 'laws.FnExactApplyMatrix': WHATEVER THE INPUT: true; the input reads as it did. -/
def fnExactApplyMatrixSpec : ChangeSpec := { name := "fnExactApplyMatrix", fn := fun _ => fun
  | [d1, d2] => { results := [.lit (.bool true)], args := [d1, d2] }
  | _ => none }
def fnExactApplyMatrixRow : OpenClaim := { program := "ytkibdpadampmcaa", sum := "0f4734fc169136141805c31cd783552efa1741d023b15afff3513a33c6787fc5", func := "loop.example/g01297/laws.FnExactApplyMatrix", spec := "fnExactApplyMatrix", unfollowed := true, recurses := true, apart := false }
def FnExactApplyMatrixSaid : Prop := fnExactApplyMatrixRow.holds Try.pinned (OpenSpec.ofChange fnExactApplyMatrixSpec)

/-- ITS FALSE NEIGHBOUR: 'it returns false'. Refute it at one input. -/
def fnExactApplyMatrixWrong : ChangeSpec := { name := "fnExactApplyMatrix", fn := fun _ => fun
  | [d1, d2] => { results := [.lit (.bool false)], args := [d1, d2] }
  | _ => none }
def FnExactApplyMatrixWrongFalsely : Prop := fnExactApplyMatrixRow.holds Try.pinned (OpenSpec.ofChange fnExactApplyMatrixWrong)

/-- 'laws.FnExactMultiplyMatrices': WHATEVER THE INPUT: true; the input reads as it did. -/
def fnExactMultiplyMatricesSpec : ChangeSpec := { name := "fnExactMultiplyMatrices", fn := fun _ => fun
  | [d1, d2] => { results := [.lit (.bool true)], args := [d1, d2] }
  | _ => none }
def fnExactMultiplyMatricesRow : OpenClaim := { program := "ytkibdpadampmcaa", sum := "0f4734fc169136141805c31cd783552efa1741d023b15afff3513a33c6787fc5", func := "loop.example/g01297/laws.FnExactMultiplyMatrices", spec := "fnExactMultiplyMatrices", unfollowed := true, recurses := true, apart := false }
def FnExactMultiplyMatricesSaid : Prop := fnExactMultiplyMatricesRow.holds Try.pinned (OpenSpec.ofChange fnExactMultiplyMatricesSpec)

/-- ITS FALSE NEIGHBOUR: 'it returns false'. Refute it at one input. -/
def fnExactMultiplyMatricesWrong : ChangeSpec := { name := "fnExactMultiplyMatrices", fn := fun _ => fun
  | [d1, d2] => { results := [.lit (.bool false)], args := [d1, d2] }
  | _ => none }
def FnExactMultiplyMatricesWrongFalsely : Prop := fnExactMultiplyMatricesRow.holds Try.pinned (OpenSpec.ofChange fnExactMultiplyMatricesWrong)

/-- 'laws.FnExactInverseMatrix': WHATEVER THE INPUT: true; the input reads as it did. -/
def fnExactInverseMatrixSpec : ChangeSpec := { name := "fnExactInverseMatrix", fn := fun _ => fun
  | [d] => { results := [.lit (.bool true)], args := [d] }
  | _ => none }
def fnExactInverseMatrixRow : OpenClaim := { program := "ytkibdpadampmcaa", sum := "0f4734fc169136141805c31cd783552efa1741d023b15afff3513a33c6787fc5", func := "loop.example/g01297/laws.FnExactInverseMatrix", spec := "fnExactInverseMatrix", unfollowed := true, recurses := true, apart := false }
def FnExactInverseMatrixSaid : Prop := fnExactInverseMatrixRow.holds Try.pinned (OpenSpec.ofChange fnExactInverseMatrixSpec)

/-- ITS FALSE NEIGHBOUR: 'it returns false'. Refute it at one input. -/
def fnExactInverseMatrixWrong : ChangeSpec := { name := "fnExactInverseMatrix", fn := fun _ => fun
  | [d] => { results := [.lit (.bool false)], args := [d] }
  | _ => none }
def FnExactInverseMatrixWrongFalsely : Prop := fnExactInverseMatrixRow.holds Try.pinned (OpenSpec.ofChange fnExactInverseMatrixWrong)

/-- 'laws.FnExactIsCorner': WHATEVER THE INPUT: true; the input reads as it did. -/
def fnExactIsCornerSpec : ChangeSpec := { name := "fnExactIsCorner", fn := fun _ => fun
  | [d] => { results := [.lit (.bool true)], args := [d] }
  | _ => none }
def fnExactIsCornerRow : OpenClaim := { program := "ytkibdpadampmcaa", sum := "0f4734fc169136141805c31cd783552efa1741d023b15afff3513a33c6787fc5", func := "loop.example/g01297/laws.FnExactIsCorner", spec := "fnExactIsCorner", unfollowed := true, recurses := true, apart := false }
def FnExactIsCornerSaid : Prop := fnExactIsCornerRow.holds Try.pinned (OpenSpec.ofChange fnExactIsCornerSpec)

/-- ITS FALSE NEIGHBOUR: 'it returns false'. Refute it at one input. -/
def fnExactIsCornerWrong : ChangeSpec := { name := "fnExactIsCorner", fn := fun _ => fun
  | [d] => { results := [.lit (.bool false)], args := [d] }
  | _ => none }
def FnExactIsCornerWrongFalsely : Prop := fnExactIsCornerRow.holds Try.pinned (OpenSpec.ofChange fnExactIsCornerWrong)

/-- 'laws.FnExactTransposeCorner': WHATEVER THE INPUT: true; the input reads as it did. -/
def fnExactTransposeCornerSpec : ChangeSpec := { name := "fnExactTransposeCorner", fn := fun _ => fun
  | [d] => { results := [.lit (.bool true)], args := [d] }
  | _ => none }
def fnExactTransposeCornerRow : OpenClaim := { program := "ytkibdpadampmcaa", sum := "0f4734fc169136141805c31cd783552efa1741d023b15afff3513a33c6787fc5", func := "loop.example/g01297/laws.FnExactTransposeCorner", spec := "fnExactTransposeCorner", unfollowed := true, recurses := true, apart := false }
def FnExactTransposeCornerSaid : Prop := fnExactTransposeCornerRow.holds Try.pinned (OpenSpec.ofChange fnExactTransposeCornerSpec)

/-- ITS FALSE NEIGHBOUR: 'it returns false'. Refute it at one input. -/
def fnExactTransposeCornerWrong : ChangeSpec := { name := "fnExactTransposeCorner", fn := fun _ => fun
  | [d] => { results := [.lit (.bool false)], args := [d] }
  | _ => none }
def FnExactTransposeCornerWrongFalsely : Prop := fnExactTransposeCornerRow.holds Try.pinned (OpenSpec.ofChange fnExactTransposeCornerWrong)

/-- 'laws.FnExactAdjacentCorner': WHATEVER THE INPUT: true; the input reads as it did. -/
def fnExactAdjacentCornerSpec : ChangeSpec := { name := "fnExactAdjacentCorner", fn := fun _ => fun
  | [d] => { results := [.lit (.bool true)], args := [d] }
  | _ => none }
def fnExactAdjacentCornerRow : OpenClaim := { program := "ytkibdpadampmcaa", sum := "0f4734fc169136141805c31cd783552efa1741d023b15afff3513a33c6787fc5", func := "loop.example/g01297/laws.FnExactAdjacentCorner", spec := "fnExactAdjacentCorner", unfollowed := true, recurses := true, apart := false }
def FnExactAdjacentCornerSaid : Prop := fnExactAdjacentCornerRow.holds Try.pinned (OpenSpec.ofChange fnExactAdjacentCornerSpec)

/-- ITS FALSE NEIGHBOUR: 'it returns false'. Refute it at one input. -/
def fnExactAdjacentCornerWrong : ChangeSpec := { name := "fnExactAdjacentCorner", fn := fun _ => fun
  | [d] => { results := [.lit (.bool false)], args := [d] }
  | _ => none }
def FnExactAdjacentCornerWrongFalsely : Prop := fnExactAdjacentCornerRow.holds Try.pinned (OpenSpec.ofChange fnExactAdjacentCornerWrong)

/-- 'laws.FnExactIsInAngle': WHATEVER THE INPUT: true; the input reads as it did. -/
def fnExactIsInAngleSpec : ChangeSpec := { name := "fnExactIsInAngle", fn := fun _ => fun
  | [d1, d2, d3] => { results := [.lit (.bool true)], args := [d1, d2, d3] }
  | _ => none }
def fnExactIsInAngleRow : OpenClaim := { program := "ytkibdpadampmcaa", sum := "0f4734fc169136141805c31cd783552efa1741d023b15afff3513a33c6787fc5", func := "loop.example/g01297/laws.FnExactIsInAngle", spec := "fnExactIsInAngle", unfollowed := true, recurses := true, apart := false }
def FnExactIsInAngleSaid : Prop := fnExactIsInAngleRow.holds Try.pinned (OpenSpec.ofChange fnExactIsInAngleSpec)

/-- ITS FALSE NEIGHBOUR: 'it returns false'. Refute it at one input. -/
def fnExactIsInAngleWrong : ChangeSpec := { name := "fnExactIsInAngle", fn := fun _ => fun
  | [d1, d2, d3] => { results := [.lit (.bool false)], args := [d1, d2, d3] }
  | _ => none }
def FnExactIsInAngleWrongFalsely : Prop := fnExactIsInAngleRow.holds Try.pinned (OpenSpec.ofChange fnExactIsInAngleWrong)

/-- 'laws.FnExactFractionOfPoint': WHATEVER THE INPUT: true; the input reads as it did. -/
def fnExactFractionOfPointSpec : ChangeSpec := { name := "fnExactFractionOfPoint", fn := fun _ => fun
  | [d] => { results := [.lit (.bool true)], args := [d] }
  | _ => none }
def fnExactFractionOfPointRow : OpenClaim := { program := "ytkibdpadampmcaa", sum := "0f4734fc169136141805c31cd783552efa1741d023b15afff3513a33c6787fc5", func := "loop.example/g01297/laws.FnExactFractionOfPoint", spec := "fnExactFractionOfPoint", apart := false }
def FnExactFractionOfPointSaid : Prop := fnExactFractionOfPointRow.holds Try.pinned (OpenSpec.ofChange fnExactFractionOfPointSpec)

/-- ITS FALSE NEIGHBOUR: 'it returns false'. Refute it at one input. -/
def fnExactFractionOfPointWrong : ChangeSpec := { name := "fnExactFractionOfPoint", fn := fun _ => fun
  | [d] => { results := [.lit (.bool false)], args := [d] }
  | _ => none }
def FnExactFractionOfPointWrongFalsely : Prop := fnExactFractionOfPointRow.holds Try.pinned (OpenSpec.ofChange fnExactFractionOfPointWrong)

/-- 'laws.FnExactTypeOfMatrix': WHATEVER THE INPUT: true; the input reads as it did. -/
def fnExactTypeOfMatrixSpec : ChangeSpec := { name := "fnExactTypeOfMatrix", fn := fun _ => fun
  | [d] => { results := [.lit (.bool true)], args := [d] }
  | _ => none }
def fnExactTypeOfMatrixRow : OpenClaim := { program := "ytkibdpadampmcaa", sum := "0f4734fc169136141805c31cd783552efa1741d023b15afff3513a33c6787fc5", func := "loop.example/g01297/laws.FnExactTypeOfMatrix", spec := "fnExactTypeOfMatrix", unfollowed := true, recurses := true, apart := false }
def FnExactTypeOfMatrixSaid : Prop := fnExactTypeOfMatrixRow.holds Try.pinned (OpenSpec.ofChange fnExactTypeOfMatrixSpec)

/-- ITS FALSE NEIGHBOUR: 'it returns false'. Refute it at one input. -/
def fnExactTypeOfMatrixWrong : ChangeSpec := { name := "fnExactTypeOfMatrix", fn := fun _ => fun
  | [d] => { results := [.lit (.bool false)], args := [d] }
  | _ => none }
def FnExactTypeOfMatrixWrongFalsely : Prop := fnExactTypeOfMatrixRow.holds Try.pinned (OpenSpec.ofChange fnExactTypeOfMatrixWrong)

/- THE SECOND FORM. 'bulk': how many values and letters a reading holds, each counted each time it is reached (what is shared counts as often as it is met; a slice's spare places count too). A statement '..UptoSaid' is the law's where the arguments, and the package variables that the reading takes, are together of bulk at most 1048576: NARROWER than '..Said'. Prove '..Said' where nothing that the law and all that it calls make is longer than what came in: it says more and counts as full. Else prove '..UptoSaid'. A law counts once. -/
mutual
def uptoBulk {H : Type} : DataW H → Nat
  | .lit (.string bytes) => bytes.length + 1
  | .lit _ => 1
  | .nil => 1
  | .ptr d => uptoBulk d + 1
  | .slice elems spare => uptoBulkAll elems + uptoBulkAll spare + 1
  | .agg parts => uptoBulkAll parts + 1
  | .iface _ d => uptoBulk d + 1
  | .map entries => uptoBulkEntries entries + 1
  | .held _ => 1
def uptoBulkAll {H : Type} : List (DataW H) → Nat
  | [] => 0
  | d :: r => uptoBulk d + uptoBulkAll r
def uptoBulkEntries {H : Type} : List (Lit × DataW H) → Nat
  | [] => 0
  | x :: r => uptoBulkEntry x + uptoBulkEntries r
def uptoBulkEntry {H : Type} : Lit × DataW H → Nat
  | (.string bytes, d) => bytes.length + uptoBulk d + 1
  | (_, d) => uptoBulk d + 1
 end
def uptoSmall : (H : Type) → List (DataW H) → Bool := fun _ ds => decide (uptoBulkAll ds ≤ 1048576)
def OpenSpec.upto (s : _root_.Go.ChangeSpec) : _root_.Go.OpenSpec := { _root_.Go.OpenSpec.ofChange s with cond := some uptoSmall }

/-- 'laws.FnExactLengthOf', WHERE WHAT IT READS IS OF BULK AT MOST 1048576: true; the input reads as it did. -/
def fnExactLengthOfUptoRow : OpenClaim := { program := "ytkibdpadampmcaa", sum := "0f4734fc169136141805c31cd783552efa1741d023b15afff3513a33c6787fc5", func := "loop.example/g01297/laws.FnExactLengthOf", spec := "fnExactLengthOf", unfollowed := true, recurses := true, apart := false, narrowed := true }
def FnExactLengthOfUptoSaid : Prop := fnExactLengthOfUptoRow.holds Try.pinned (OpenSpec.upto fnExactLengthOfSpec)

/-- 'laws.FnExactPrimitiveOf', WHERE WHAT IT READS IS OF BULK AT MOST 1048576: true; the input reads as it did. -/
def fnExactPrimitiveOfUptoRow : OpenClaim := { program := "ytkibdpadampmcaa", sum := "0f4734fc169136141805c31cd783552efa1741d023b15afff3513a33c6787fc5", func := "loop.example/g01297/laws.FnExactPrimitiveOf", spec := "fnExactPrimitiveOf", apart := false, narrowed := true }
def FnExactPrimitiveOfUptoSaid : Prop := fnExactPrimitiveOfUptoRow.holds Try.pinned (OpenSpec.upto fnExactPrimitiveOfSpec)

/-- 'laws.FnExactAddPoints', WHERE WHAT IT READS IS OF BULK AT MOST 1048576: true; the input reads as it did. -/
def fnExactAddPointsUptoRow : OpenClaim := { program := "ytkibdpadampmcaa", sum := "0f4734fc169136141805c31cd783552efa1741d023b15afff3513a33c6787fc5", func := "loop.example/g01297/laws.FnExactAddPoints", spec := "fnExactAddPoints", unfollowed := true, recurses := true, apart := false, narrowed := true }
def FnExactAddPointsUptoSaid : Prop := fnExactAddPointsUptoRow.holds Try.pinned (OpenSpec.upto fnExactAddPointsSpec)

/-- 'laws.FnExactApplyMatrix', WHERE WHAT IT READS IS OF BULK AT MOST 1048576: true; the input reads as it did. -/
def fnExactApplyMatrixUptoRow : OpenClaim := { program := "ytkibdpadampmcaa", sum := "0f4734fc169136141805c31cd783552efa1741d023b15afff3513a33c6787fc5", func := "loop.example/g01297/laws.FnExactApplyMatrix", spec := "fnExactApplyMatrix", unfollowed := true, recurses := true, apart := false, narrowed := true }
def FnExactApplyMatrixUptoSaid : Prop := fnExactApplyMatrixUptoRow.holds Try.pinned (OpenSpec.upto fnExactApplyMatrixSpec)

/-- 'laws.FnExactMultiplyMatrices', WHERE WHAT IT READS IS OF BULK AT MOST 1048576: true; the input reads as it did. -/
def fnExactMultiplyMatricesUptoRow : OpenClaim := { program := "ytkibdpadampmcaa", sum := "0f4734fc169136141805c31cd783552efa1741d023b15afff3513a33c6787fc5", func := "loop.example/g01297/laws.FnExactMultiplyMatrices", spec := "fnExactMultiplyMatrices", unfollowed := true, recurses := true, apart := false, narrowed := true }
def FnExactMultiplyMatricesUptoSaid : Prop := fnExactMultiplyMatricesUptoRow.holds Try.pinned (OpenSpec.upto fnExactMultiplyMatricesSpec)

/-- 'laws.FnExactInverseMatrix', WHERE WHAT IT READS IS OF BULK AT MOST 1048576: true; the input reads as it did. -/
def fnExactInverseMatrixUptoRow : OpenClaim := { program := "ytkibdpadampmcaa", sum := "0f4734fc169136141805c31cd783552efa1741d023b15afff3513a33c6787fc5", func := "loop.example/g01297/laws.FnExactInverseMatrix", spec := "fnExactInverseMatrix", unfollowed := true, recurses := true, apart := false, narrowed := true }
def FnExactInverseMatrixUptoSaid : Prop := fnExactInverseMatrixUptoRow.holds Try.pinned (OpenSpec.upto fnExactInverseMatrixSpec)

/-- 'laws.FnExactIsCorner', WHERE WHAT IT READS IS OF BULK AT MOST 1048576: true; the input reads as it did. -/
def fnExactIsCornerUptoRow : OpenClaim := { program := "ytkibdpadampmcaa", sum := "0f4734fc169136141805c31cd783552efa1741d023b15afff3513a33c6787fc5", func := "loop.example/g01297/laws.FnExactIsCorner", spec := "fnExactIsCorner", unfollowed := true, recurses := true, apart := false, narrowed := true }
def FnExactIsCornerUptoSaid : Prop := fnExactIsCornerUptoRow.holds Try.pinned (OpenSpec.upto fnExactIsCornerSpec)

/-- 'laws.FnExactTransposeCorner', WHERE WHAT IT READS IS OF BULK AT MOST 1048576: true; the input reads as it did. -/
def fnExactTransposeCornerUptoRow : OpenClaim := { program := "ytkibdpadampmcaa", sum := "0f4734fc169136141805c31cd783552efa1741d023b15afff3513a33c6787fc5", func := "loop.example/g01297/laws.FnExactTransposeCorner", spec := "fnExactTransposeCorner", unfollowed := true, recurses := true, apart := false, narrowed := true }
def FnExactTransposeCornerUptoSaid : Prop := fnExactTransposeCornerUptoRow.holds Try.pinned (OpenSpec.upto fnExactTransposeCornerSpec)

/-- 'laws.FnExactAdjacentCorner', WHERE WHAT IT READS IS OF BULK AT MOST 1048576: true; the input reads as it did. -/
def fnExactAdjacentCornerUptoRow : OpenClaim := { program := "ytkibdpadampmcaa", sum := "0f4734fc169136141805c31cd783552efa1741d023b15afff3513a33c6787fc5", func := "loop.example/g01297/laws.FnExactAdjacentCorner", spec := "fnExactAdjacentCorner", unfollowed := true, recurses := true, apart := false, narrowed := true }
def FnExactAdjacentCornerUptoSaid : Prop := fnExactAdjacentCornerUptoRow.holds Try.pinned (OpenSpec.upto fnExactAdjacentCornerSpec)

/-- 'laws.FnExactIsInAngle', WHERE WHAT IT READS IS OF BULK AT MOST 1048576: true; the input reads as it did. -/
def fnExactIsInAngleUptoRow : OpenClaim := { program := "ytkibdpadampmcaa", sum := "0f4734fc169136141805c31cd783552efa1741d023b15afff3513a33c6787fc5", func := "loop.example/g01297/laws.FnExactIsInAngle", spec := "fnExactIsInAngle", unfollowed := true, recurses := true, apart := false, narrowed := true }
def FnExactIsInAngleUptoSaid : Prop := fnExactIsInAngleUptoRow.holds Try.pinned (OpenSpec.upto fnExactIsInAngleSpec)

/-- 'laws.FnExactFractionOfPoint', WHERE WHAT IT READS IS OF BULK AT MOST 1048576: true; the input reads as it did. -/
def fnExactFractionOfPointUptoRow : OpenClaim := { program := "ytkibdpadampmcaa", sum := "0f4734fc169136141805c31cd783552efa1741d023b15afff3513a33c6787fc5", func := "loop.example/g01297/laws.FnExactFractionOfPoint", spec := "fnExactFractionOfPoint", apart := false, narrowed := true }
def FnExactFractionOfPointUptoSaid : Prop := fnExactFractionOfPointUptoRow.holds Try.pinned (OpenSpec.upto fnExactFractionOfPointSpec)

/-- 'laws.FnExactTypeOfMatrix', WHERE WHAT IT READS IS OF BULK AT MOST 1048576: true; the input reads as it did. -/
def fnExactTypeOfMatrixUptoRow : OpenClaim := { program := "ytkibdpadampmcaa", sum := "0f4734fc169136141805c31cd783552efa1741d023b15afff3513a33c6787fc5", func := "loop.example/g01297/laws.FnExactTypeOfMatrix", spec := "fnExactTypeOfMatrix", unfollowed := true, recurses := true, apart := false, narrowed := true }
def FnExactTypeOfMatrixUptoSaid : Prop := fnExactTypeOfMatrixUptoRow.holds Try.pinned (OpenSpec.upto fnExactTypeOfMatrixSpec)

end Rows
end Go.Proofs.Ytkibdpadampmcaa
