/-
  No cell of these rows narrows 'for every input' (looked for: loops, veiled, ifaces, maps, wideKeys, modest, calm, conditions, laid).
  DERIVED. THE GIVEN ROWS OF THIS SEAT. 12 by the template 'for every input the law returns true; each argument reads behind the call as it read before'; 0 by the template 'total and deterministic' (their statements: YtoldicmobenhaaaTotals.lean).
  GIVEN WITH THE SEED: the statements are not yours to turn. If you find one false, say at which input.
  Laid BY PROGRAM, IN A SANDBOX (cutbox-rows.mjs): the forced cells as the released guide's own fill.sh prints them over the translation 03476ef255b5f567… (all of the seat's roots in one cut). By AI agents, Wed Nov 11 2026. No macro, syntax, notation, axiom, sorry.
-/
import Derived.Test.YtoldicmobenhaaaChecked
import GoSem.Claim
import GoSem.ClaimJoined
import GoSem.ClaimMapViews
import Derived.JoinedTies
import Derived.KernelRfl
namespace Go.Proofs.Ytoldicmobenhaaa
/- THE CELL 'sum', in the pinned program and in every row, IS THE sha256 OF THE DUMP (.gsa) THAT YtoldicmobenhaaaProg.lean LOADS. Nothing in Lean hashes anything: it is a label: what it is worth is what the hold of that sum in a sandbox is worth. -/
noncomputable def Try.pinned : Pinned := { name := "ytoldicmobenhaaa", sum := "03476ef255b5f567c0b01f7b73894b419d8cddedf24df560e9201eaa0467607f", checked := Try.checked }
namespace Rows
def none {H : Type} : Left H := { results := [], args := [] }

/-- 'laws.FnExactLengthOfSpot': WHATEVER THE INPUT: true; the input reads as it did. -/
def fnExactLengthOfSpotSpec : ChangeSpec := { name := "fnExactLengthOfSpot", fn := fun _ => fun
  | [d] => { results := [.lit (.bool true)], args := [d] }
  | _ => none }
def fnExactLengthOfSpotRow : OpenClaim := { program := "ytoldicmobenhaaa", sum := "03476ef255b5f567c0b01f7b73894b419d8cddedf24df560e9201eaa0467607f", func := "loop.example/g01297/laws.FnExactLengthOfSpot", spec := "fnExactLengthOfSpot", unfollowed := true, recurses := true, apart := false }
def FnExactLengthOfSpotSaid : Prop := fnExactLengthOfSpotRow.holds Try.pinned (OpenSpec.ofChange fnExactLengthOfSpotSpec)

/-- ITS FALSE NEIGHBOUR: 'it returns false'. Refute it at one input. -/
def fnExactLengthOfSpotWrong : ChangeSpec := { name := "fnExactLengthOfSpot", fn := fun _ => fun
  | [d] => { results := [.lit (.bool false)], args := [d] }
  | _ => none }
def FnExactLengthOfSpotWrongFalsely : Prop := fnExactLengthOfSpotRow.holds Try.pinned (OpenSpec.ofChange fnExactLengthOfSpotWrong)

/-- 'laws.FnExactDeterminantOfSpots': WHATEVER THE INPUT: true; the input reads as it did. -/
def fnExactDeterminantOfSpotsSpec : ChangeSpec := { name := "fnExactDeterminantOfSpots", fn := fun _ => fun
  | [d1, d2, d3] => { results := [.lit (.bool true)], args := [d1, d2, d3] }
  | _ => none }
def fnExactDeterminantOfSpotsRow : OpenClaim := { program := "ytoldicmobenhaaa", sum := "03476ef255b5f567c0b01f7b73894b419d8cddedf24df560e9201eaa0467607f", func := "loop.example/g01297/laws.FnExactDeterminantOfSpots", spec := "fnExactDeterminantOfSpots", unfollowed := true, recurses := true, apart := false }
def FnExactDeterminantOfSpotsSaid : Prop := fnExactDeterminantOfSpotsRow.holds Try.pinned (OpenSpec.ofChange fnExactDeterminantOfSpotsSpec)

/-- ITS FALSE NEIGHBOUR: 'it returns false'. Refute it at one input. -/
def fnExactDeterminantOfSpotsWrong : ChangeSpec := { name := "fnExactDeterminantOfSpots", fn := fun _ => fun
  | [d1, d2, d3] => { results := [.lit (.bool false)], args := [d1, d2, d3] }
  | _ => none }
def FnExactDeterminantOfSpotsWrongFalsely : Prop := fnExactDeterminantOfSpotsRow.holds Try.pinned (OpenSpec.ofChange fnExactDeterminantOfSpotsWrong)

/-- 'laws.FnExactIsCone': WHATEVER THE INPUT: true; the input reads as it did. -/
def fnExactIsConeSpec : ChangeSpec := { name := "fnExactIsCone", fn := fun _ => fun
  | [d] => { results := [.lit (.bool true)], args := [d] }
  | _ => none }
def fnExactIsConeRow : OpenClaim := { program := "ytoldicmobenhaaa", sum := "03476ef255b5f567c0b01f7b73894b419d8cddedf24df560e9201eaa0467607f", func := "loop.example/g01297/laws.FnExactIsCone", spec := "fnExactIsCone", unfollowed := true, recurses := true, apart := false }
def FnExactIsConeSaid : Prop := fnExactIsConeRow.holds Try.pinned (OpenSpec.ofChange fnExactIsConeSpec)

/-- ITS FALSE NEIGHBOUR: 'it returns false'. Refute it at one input. -/
def fnExactIsConeWrong : ChangeSpec := { name := "fnExactIsCone", fn := fun _ => fun
  | [d] => { results := [.lit (.bool false)], args := [d] }
  | _ => none }
def FnExactIsConeWrongFalsely : Prop := fnExactIsConeRow.holds Try.pinned (OpenSpec.ofChange fnExactIsConeWrong)

/-- 'laws.FnExactIsTetra': WHATEVER THE INPUT: true; the input reads as it did. -/
def fnExactIsTetraSpec : ChangeSpec := { name := "fnExactIsTetra", fn := fun _ => fun
  | [d] => { results := [.lit (.bool true)], args := [d] }
  | _ => none }
def fnExactIsTetraRow : OpenClaim := { program := "ytoldicmobenhaaa", sum := "03476ef255b5f567c0b01f7b73894b419d8cddedf24df560e9201eaa0467607f", func := "loop.example/g01297/laws.FnExactIsTetra", spec := "fnExactIsTetra", unfollowed := true, recurses := true, apart := false }
def FnExactIsTetraSaid : Prop := fnExactIsTetraRow.holds Try.pinned (OpenSpec.ofChange fnExactIsTetraSpec)

/-- ITS FALSE NEIGHBOUR: 'it returns false'. Refute it at one input. -/
def fnExactIsTetraWrong : ChangeSpec := { name := "fnExactIsTetra", fn := fun _ => fun
  | [d] => { results := [.lit (.bool false)], args := [d] }
  | _ => none }
def FnExactIsTetraWrongFalsely : Prop := fnExactIsTetraRow.holds Try.pinned (OpenSpec.ofChange fnExactIsTetraWrong)

/-- 'laws.FnExactIsRegularCone': WHATEVER THE INPUT: true; the input reads as it did. -/
def fnExactIsRegularConeSpec : ChangeSpec := { name := "fnExactIsRegularCone", fn := fun _ => fun
  | [d] => { results := [.lit (.bool true)], args := [d] }
  | _ => none }
def fnExactIsRegularConeRow : OpenClaim := { program := "ytoldicmobenhaaa", sum := "03476ef255b5f567c0b01f7b73894b419d8cddedf24df560e9201eaa0467607f", func := "loop.example/g01297/laws.FnExactIsRegularCone", spec := "fnExactIsRegularCone", unfollowed := true, recurses := true, apart := false }
def FnExactIsRegularConeSaid : Prop := fnExactIsRegularConeRow.holds Try.pinned (OpenSpec.ofChange fnExactIsRegularConeSpec)

/-- ITS FALSE NEIGHBOUR: 'it returns false'. Refute it at one input. -/
def fnExactIsRegularConeWrong : ChangeSpec := { name := "fnExactIsRegularCone", fn := fun _ => fun
  | [d] => { results := [.lit (.bool false)], args := [d] }
  | _ => none }
def FnExactIsRegularConeWrongFalsely : Prop := fnExactIsRegularConeRow.holds Try.pinned (OpenSpec.ofChange fnExactIsRegularConeWrong)

/-- 'laws.FnExactCrossOf': WHATEVER THE INPUT: true; the input reads as it did. -/
def fnExactCrossOfSpec : ChangeSpec := { name := "fnExactCrossOf", fn := fun _ => fun
  | [d1, d2] => { results := [.lit (.bool true)], args := [d1, d2] }
  | _ => none }
def fnExactCrossOfRow : OpenClaim := { program := "ytoldicmobenhaaa", sum := "03476ef255b5f567c0b01f7b73894b419d8cddedf24df560e9201eaa0467607f", func := "loop.example/g01297/laws.FnExactCrossOf", spec := "fnExactCrossOf", unfollowed := true, recurses := true, apart := false }
def FnExactCrossOfSaid : Prop := fnExactCrossOfRow.holds Try.pinned (OpenSpec.ofChange fnExactCrossOfSpec)

/-- ITS FALSE NEIGHBOUR: 'it returns false'. Refute it at one input. -/
def fnExactCrossOfWrong : ChangeSpec := { name := "fnExactCrossOf", fn := fun _ => fun
  | [d1, d2] => { results := [.lit (.bool false)], args := [d1, d2] }
  | _ => none }
def FnExactCrossOfWrongFalsely : Prop := fnExactCrossOfRow.holds Try.pinned (OpenSpec.ofChange fnExactCrossOfWrong)

/-- 'laws.FnExactVolumeOf': WHATEVER THE INPUT: true; the input reads as it did. -/
def fnExactVolumeOfSpec : ChangeSpec := { name := "fnExactVolumeOf", fn := fun _ => fun
  | [d] => { results := [.lit (.bool true)], args := [d] }
  | _ => none }
def fnExactVolumeOfRow : OpenClaim := { program := "ytoldicmobenhaaa", sum := "03476ef255b5f567c0b01f7b73894b419d8cddedf24df560e9201eaa0467607f", func := "loop.example/g01297/laws.FnExactVolumeOf", spec := "fnExactVolumeOf", unfollowed := true, recurses := true, apart := false }
def FnExactVolumeOfSaid : Prop := fnExactVolumeOfRow.holds Try.pinned (OpenSpec.ofChange fnExactVolumeOfSpec)

/-- ITS FALSE NEIGHBOUR: 'it returns false'. Refute it at one input. -/
def fnExactVolumeOfWrong : ChangeSpec := { name := "fnExactVolumeOf", fn := fun _ => fun
  | [d] => { results := [.lit (.bool false)], args := [d] }
  | _ => none }
def FnExactVolumeOfWrongFalsely : Prop := fnExactVolumeOfRow.holds Try.pinned (OpenSpec.ofChange fnExactVolumeOfWrong)

/-- 'laws.FnExactDistanceOfSpot': WHATEVER THE INPUT: true; the input reads as it did. -/
def fnExactDistanceOfSpotSpec : ChangeSpec := { name := "fnExactDistanceOfSpot", fn := fun _ => fun
  | [d1, d2, d3, d4] => { results := [.lit (.bool true)], args := [d1, d2, d3, d4] }
  | _ => none }
def fnExactDistanceOfSpotRow : OpenClaim := { program := "ytoldicmobenhaaa", sum := "03476ef255b5f567c0b01f7b73894b419d8cddedf24df560e9201eaa0467607f", func := "loop.example/g01297/laws.FnExactDistanceOfSpot", spec := "fnExactDistanceOfSpot", unfollowed := true, recurses := true, apart := false }
def FnExactDistanceOfSpotSaid : Prop := fnExactDistanceOfSpotRow.holds Try.pinned (OpenSpec.ofChange fnExactDistanceOfSpotSpec)

/-- ITS FALSE NEIGHBOUR: 'it returns false'. Refute it at one input. -/
def fnExactDistanceOfSpotWrong : ChangeSpec := { name := "fnExactDistanceOfSpot", fn := fun _ => fun
  | [d1, d2, d3, d4] => { results := [.lit (.bool false)], args := [d1, d2, d3, d4] }
  | _ => none }
def FnExactDistanceOfSpotWrongFalsely : Prop := fnExactDistanceOfSpotRow.holds Try.pinned (OpenSpec.ofChange fnExactDistanceOfSpotWrong)

/-- 'laws.FnExactExpandFraction': WHATEVER THE INPUT: true; the input reads as it did. -/
def fnExactExpandFractionSpec : ChangeSpec := { name := "fnExactExpandFraction", fn := fun _ => fun
  | [d1, d2] => { results := [.lit (.bool true)], args := [d1, d2] }
  | _ => none }
def fnExactExpandFractionRow : OpenClaim := { program := "ytoldicmobenhaaa", sum := "03476ef255b5f567c0b01f7b73894b419d8cddedf24df560e9201eaa0467607f", func := "loop.example/g01297/laws.FnExactExpandFraction", spec := "fnExactExpandFraction", apart := false }
def FnExactExpandFractionSaid : Prop := fnExactExpandFractionRow.holds Try.pinned (OpenSpec.ofChange fnExactExpandFractionSpec)

/-- ITS FALSE NEIGHBOUR: 'it returns false'. Refute it at one input. -/
def fnExactExpandFractionWrong : ChangeSpec := { name := "fnExactExpandFraction", fn := fun _ => fun
  | [d1, d2] => { results := [.lit (.bool false)], args := [d1, d2] }
  | _ => none }
def FnExactExpandFractionWrongFalsely : Prop := fnExactExpandFractionRow.holds Try.pinned (OpenSpec.ofChange fnExactExpandFractionWrong)

/-- 'laws.FnExactFractionOf': WHATEVER THE INPUT: true; the input reads as it did. -/
def fnExactFractionOfSpec : ChangeSpec := { name := "fnExactFractionOf", fn := fun _ => fun
  | [d] => { results := [.lit (.bool true)], args := [d] }
  | _ => none }
def fnExactFractionOfRow : OpenClaim := { program := "ytoldicmobenhaaa", sum := "03476ef255b5f567c0b01f7b73894b419d8cddedf24df560e9201eaa0467607f", func := "loop.example/g01297/laws.FnExactFractionOf", spec := "fnExactFractionOf", unfollowed := true, recurses := true, apart := false }
def FnExactFractionOfSaid : Prop := fnExactFractionOfRow.holds Try.pinned (OpenSpec.ofChange fnExactFractionOfSpec)

/-- ITS FALSE NEIGHBOUR: 'it returns false'. Refute it at one input. -/
def fnExactFractionOfWrong : ChangeSpec := { name := "fnExactFractionOf", fn := fun _ => fun
  | [d] => { results := [.lit (.bool false)], args := [d] }
  | _ => none }
def FnExactFractionOfWrongFalsely : Prop := fnExactFractionOfRow.holds Try.pinned (OpenSpec.ofChange fnExactFractionOfWrong)

/-- 'laws.FnExactCornerOfExpansion': WHATEVER THE INPUT: true; the input reads as it did. -/
def fnExactCornerOfExpansionSpec : ChangeSpec := { name := "fnExactCornerOfExpansion", fn := fun _ => fun
  | [d] => { results := [.lit (.bool true)], args := [d] }
  | _ => none }
def fnExactCornerOfExpansionRow : OpenClaim := { program := "ytoldicmobenhaaa", sum := "03476ef255b5f567c0b01f7b73894b419d8cddedf24df560e9201eaa0467607f", func := "loop.example/g01297/laws.FnExactCornerOfExpansion", spec := "fnExactCornerOfExpansion", unfollowed := true, recurses := true, apart := false }
def FnExactCornerOfExpansionSaid : Prop := fnExactCornerOfExpansionRow.holds Try.pinned (OpenSpec.ofChange fnExactCornerOfExpansionSpec)

/-- ITS FALSE NEIGHBOUR: 'it returns false'. Refute it at one input. -/
def fnExactCornerOfExpansionWrong : ChangeSpec := { name := "fnExactCornerOfExpansion", fn := fun _ => fun
  | [d] => { results := [.lit (.bool false)], args := [d] }
  | _ => none }
def FnExactCornerOfExpansionWrongFalsely : Prop := fnExactCornerOfExpansionRow.holds Try.pinned (OpenSpec.ofChange fnExactCornerOfExpansionWrong)

/-- 'laws.FnExactReducedForms': WHATEVER THE INPUT: true; the input reads as it did. -/
def fnExactReducedFormsSpec : ChangeSpec := { name := "fnExactReducedForms", fn := fun _ => fun
  | [d] => { results := [.lit (.bool true)], args := [d] }
  | _ => none }
def fnExactReducedFormsRow : OpenClaim := { program := "ytoldicmobenhaaa", sum := "03476ef255b5f567c0b01f7b73894b419d8cddedf24df560e9201eaa0467607f", func := "loop.example/g01297/laws.FnExactReducedForms", spec := "fnExactReducedForms", apart := false }
def FnExactReducedFormsSaid : Prop := fnExactReducedFormsRow.holds Try.pinned (OpenSpec.ofChange fnExactReducedFormsSpec)

/-- ITS FALSE NEIGHBOUR: 'it returns false'. Refute it at one input. -/
def fnExactReducedFormsWrong : ChangeSpec := { name := "fnExactReducedForms", fn := fun _ => fun
  | [d] => { results := [.lit (.bool false)], args := [d] }
  | _ => none }
def FnExactReducedFormsWrongFalsely : Prop := fnExactReducedFormsRow.holds Try.pinned (OpenSpec.ofChange fnExactReducedFormsWrong)

/- THE SECOND FORM. 'bulk': how many values and letters a reading holds, each counted each time it is reached (what is shared counts as often as it is met; a slice's spare places count too). A statement '..UptoSaid' is the law's where the arguments, and the package variables that the reading takes, are together of bulk at most 1048576: NARROWER than '..Said'. Prove '..Said' where nothing that the law and all that it calls make is longer than what came in: it says more and counts as full. Else prove '..UptoSaid'. A law counts once. -/
mutual
def uptoBulk {H : Type} : DataW H → Nat
  | .lit (.string bytes) => bytes.length + 1
  | .lit _ => 1
  | .nil => 1
  | .ptr d => uptoBulk d + 1
  | .slice elems spare => uptoBulkAll elems + uptoBulkAll spare + 1
  | .agg parts => uptoBulkAll parts + 1
  | .iface _ d => uptoBulk d + 1
  | .map entries => uptoBulkEntries entries + 1
  | .held _ => 1
def uptoBulkAll {H : Type} : List (DataW H) → Nat
  | [] => 0
  | d :: r => uptoBulk d + uptoBulkAll r
def uptoBulkEntries {H : Type} : List (Lit × DataW H) → Nat
  | [] => 0
  | x :: r => uptoBulkEntry x + uptoBulkEntries r
def uptoBulkEntry {H : Type} : Lit × DataW H → Nat
  | (.string bytes, d) => bytes.length + uptoBulk d + 1
  | (_, d) => uptoBulk d + 1
 end
def uptoSmall : (H : Type) → List (DataW H) → Bool := fun _ ds => decide (uptoBulkAll ds ≤ 1048576)
def OpenSpec.upto (s : _root_.Go.ChangeSpec) : _root_.Go.OpenSpec := { _root_.Go.OpenSpec.ofChange s with cond := some uptoSmall }

/-- 'laws.FnExactLengthOfSpot', WHERE WHAT IT READS IS OF BULK AT MOST 1048576: true; the input reads as it did. -/
def fnExactLengthOfSpotUptoRow : OpenClaim := { program := "ytoldicmobenhaaa", sum := "03476ef255b5f567c0b01f7b73894b419d8cddedf24df560e9201eaa0467607f", func := "loop.example/g01297/laws.FnExactLengthOfSpot", spec := "fnExactLengthOfSpot", unfollowed := true, recurses := true, apart := false, narrowed := true }
def FnExactLengthOfSpotUptoSaid : Prop := fnExactLengthOfSpotUptoRow.holds Try.pinned (OpenSpec.upto fnExactLengthOfSpotSpec)

/-- 'laws.FnExactDeterminantOfSpots', WHERE WHAT IT READS IS OF BULK AT MOST 1048576: true; the input reads as it did. -/
def fnExactDeterminantOfSpotsUptoRow : OpenClaim := { program := "ytoldicmobenhaaa", sum := "03476ef255b5f567c0b01f7b73894b419d8cddedf24df560e9201eaa0467607f", func := "loop.example/g01297/laws.FnExactDeterminantOfSpots", spec := "fnExactDeterminantOfSpots", unfollowed := true, recurses := true, apart := false, narrowed := true }
def FnExactDeterminantOfSpotsUptoSaid : Prop := fnExactDeterminantOfSpotsUptoRow.holds Try.pinned (OpenSpec.upto fnExactDeterminantOfSpotsSpec)

/-- 'laws.FnExactIsCone', WHERE WHAT IT READS IS OF BULK AT MOST 1048576: true; the input reads as it did. -/
def fnExactIsConeUptoRow : OpenClaim := { program := "ytoldicmobenhaaa", sum := "03476ef255b5f567c0b01f7b73894b419d8cddedf24df560e9201eaa0467607f", func := "loop.example/g01297/laws.FnExactIsCone", spec := "fnExactIsCone", unfollowed := true, recurses := true, apart := false, narrowed := true }
def FnExactIsConeUptoSaid : Prop := fnExactIsConeUptoRow.holds Try.pinned (OpenSpec.upto fnExactIsConeSpec)

/-- 'laws.FnExactIsTetra', WHERE WHAT IT READS IS OF BULK AT MOST 1048576: true; the input reads as it did. -/
def fnExactIsTetraUptoRow : OpenClaim := { program := "ytoldicmobenhaaa", sum := "03476ef255b5f567c0b01f7b73894b419d8cddedf24df560e9201eaa0467607f", func := "loop.example/g01297/laws.FnExactIsTetra", spec := "fnExactIsTetra", unfollowed := true, recurses := true, apart := false, narrowed := true }
def FnExactIsTetraUptoSaid : Prop := fnExactIsTetraUptoRow.holds Try.pinned (OpenSpec.upto fnExactIsTetraSpec)

/-- 'laws.FnExactIsRegularCone', WHERE WHAT IT READS IS OF BULK AT MOST 1048576: true; the input reads as it did. -/
def fnExactIsRegularConeUptoRow : OpenClaim := { program := "ytoldicmobenhaaa", sum := "03476ef255b5f567c0b01f7b73894b419d8cddedf24df560e9201eaa0467607f", func := "loop.example/g01297/laws.FnExactIsRegularCone", spec := "fnExactIsRegularCone", unfollowed := true, recurses := true, apart := false, narrowed := true }
def FnExactIsRegularConeUptoSaid : Prop := fnExactIsRegularConeUptoRow.holds Try.pinned (OpenSpec.upto fnExactIsRegularConeSpec)

/-- 'laws.FnExactCrossOf', WHERE WHAT IT READS IS OF BULK AT MOST 1048576: true; the input reads as it did. -/
def fnExactCrossOfUptoRow : OpenClaim := { program := "ytoldicmobenhaaa", sum := "03476ef255b5f567c0b01f7b73894b419d8cddedf24df560e9201eaa0467607f", func := "loop.example/g01297/laws.FnExactCrossOf", spec := "fnExactCrossOf", unfollowed := true, recurses := true, apart := false, narrowed := true }
def FnExactCrossOfUptoSaid : Prop := fnExactCrossOfUptoRow.holds Try.pinned (OpenSpec.upto fnExactCrossOfSpec)

/-- 'laws.FnExactVolumeOf', WHERE WHAT IT READS IS OF BULK AT MOST 1048576: true; the input reads as it did. -/
def fnExactVolumeOfUptoRow : OpenClaim := { program := "ytoldicmobenhaaa", sum := "03476ef255b5f567c0b01f7b73894b419d8cddedf24df560e9201eaa0467607f", func := "loop.example/g01297/laws.FnExactVolumeOf", spec := "fnExactVolumeOf", unfollowed := true, recurses := true, apart := false, narrowed := true }
def FnExactVolumeOfUptoSaid : Prop := fnExactVolumeOfUptoRow.holds Try.pinned (OpenSpec.upto fnExactVolumeOfSpec)

/-- 'laws.FnExactDistanceOfSpot', WHERE WHAT IT READS IS OF BULK AT MOST 1048576: true; the input reads as it did. -/
def fnExactDistanceOfSpotUptoRow : OpenClaim := { program := "ytoldicmobenhaaa", sum := "03476ef255b5f567c0b01f7b73894b419d8cddedf24df560e9201eaa0467607f", func := "loop.example/g01297/laws.FnExactDistanceOfSpot", spec := "fnExactDistanceOfSpot", unfollowed := true, recurses := true, apart := false, narrowed := true }
def FnExactDistanceOfSpotUptoSaid : Prop := fnExactDistanceOfSpotUptoRow.holds Try.pinned (OpenSpec.upto fnExactDistanceOfSpotSpec)

/-- 'laws.FnExactExpandFraction', WHERE WHAT IT READS IS OF BULK AT MOST 1048576: true; the input reads as it did. -/
def fnExactExpandFractionUptoRow : OpenClaim := { program := "ytoldicmobenhaaa", sum := "03476ef255b5f567c0b01f7b73894b419d8cddedf24df560e9201eaa0467607f", func := "loop.example/g01297/laws.FnExactExpandFraction", spec := "fnExactExpandFraction", apart := false, narrowed := true }
def FnExactExpandFractionUptoSaid : Prop := fnExactExpandFractionUptoRow.holds Try.pinned (OpenSpec.upto fnExactExpandFractionSpec)

/-- 'laws.FnExactFractionOf', WHERE WHAT IT READS IS OF BULK AT MOST 1048576: true; the input reads as it did. -/
def fnExactFractionOfUptoRow : OpenClaim := { program := "ytoldicmobenhaaa", sum := "03476ef255b5f567c0b01f7b73894b419d8cddedf24df560e9201eaa0467607f", func := "loop.example/g01297/laws.FnExactFractionOf", spec := "fnExactFractionOf", unfollowed := true, recurses := true, apart := false, narrowed := true }
def FnExactFractionOfUptoSaid : Prop := fnExactFractionOfUptoRow.holds Try.pinned (OpenSpec.upto fnExactFractionOfSpec)

/-- 'laws.FnExactCornerOfExpansion', WHERE WHAT IT READS IS OF BULK AT MOST 1048576: true; the input reads as it did. -/
def fnExactCornerOfExpansionUptoRow : OpenClaim := { program := "ytoldicmobenhaaa", sum := "03476ef255b5f567c0b01f7b73894b419d8cddedf24df560e9201eaa0467607f", func := "loop.example/g01297/laws.FnExactCornerOfExpansion", spec := "fnExactCornerOfExpansion", unfollowed := true, recurses := true, apart := false, narrowed := true }
def FnExactCornerOfExpansionUptoSaid : Prop := fnExactCornerOfExpansionUptoRow.holds Try.pinned (OpenSpec.upto fnExactCornerOfExpansionSpec)

/-- 'laws.FnExactReducedForms', WHERE WHAT IT READS IS OF BULK AT MOST 1048576: true; the input reads as it did. -/
def fnExactReducedFormsUptoRow : OpenClaim := { program := "ytoldicmobenhaaa", sum := "03476ef255b5f567c0b01f7b73894b419d8cddedf24df560e9201eaa0467607f", func := "loop.example/g01297/laws.FnExactReducedForms", spec := "fnExactReducedForms", apart := false, narrowed := true }
def FnExactReducedFormsUptoSaid : Prop := fnExactReducedFormsUptoRow.holds Try.pinned (OpenSpec.upto fnExactReducedFormsSpec)

end Rows
end Go.Proofs.Ytoldicmobenhaaa
