/-
  No cell of these rows narrows 'for every input' (looked for: loops, veiled, ifaces, maps, wideKeys, modest, calm, conditions, laid).
  DERIVED. THE GIVEN ROWS OF THIS SEAT. 13 by the template 'for every input the law returns true; each argument reads behind the call as it read before'; 0 by the template 'total and deterministic' (their statements: YtbbbgegmkmmjkaaTotals.lean).
  GIVEN WITH THE SEED: the statements are not yours to turn. If you find one false, say at which input.
  Laid BY PROGRAM, IN A SANDBOX (cutbox-rows.mjs): the forced cells as the released guide's own fill.sh prints them over the translation edc67ccbc6ede45c… (all of the seat's roots in one cut). By AI agents, Wed Nov 11 2026. No macro, syntax, notation, axiom, sorry.
-/
import Derived.Test.YtbbbgegmkmmjkaaChecked
import GoSem.Claim
import GoSem.ClaimJoined
import GoSem.ClaimMapViews
import Derived.JoinedTies
import Derived.KernelRfl
namespace Go.Proofs.Ytbbbgegmkmmjkaa
/- THE CELL 'sum', in the pinned program and in every row, IS THE sha256 OF THE DUMP (.gsa) THAT YtbbbgegmkmmjkaaProg.lean LOADS. Nothing in Lean hashes anything: it is a label: what it is worth is what the hold of that sum in a sandbox is worth. -/
noncomputable def Try.pinned : Pinned := { name := "ytbbbgegmkmmjkaa", sum := "edc67ccbc6ede45c77f5f2d8e735ea378255417c5a4c0ef52cfae7479156ab23", checked := Try.checked }
namespace Rows
def none {H : Type} : Left H := { results := [], args := [] }

/-- 'laws.FnExactHistoryOk': WHATEVER THE INPUT: true; the input reads as it did. -/
def fnExactHistoryOkSpec : ChangeSpec := { name := "fnExactHistoryOk", fn := fun _ => fun
  | [d1, d2] => { results := [.lit (.bool true)], args := [d1, d2] }
  | _ => none }
def fnExactHistoryOkRow : OpenClaim := { program := "ytbbbgegmkmmjkaa", sum := "edc67ccbc6ede45c77f5f2d8e735ea378255417c5a4c0ef52cfae7479156ab23", func := "loop.example/g03303/laws.FnExactHistoryOk", spec := "fnExactHistoryOk", unfollowed := true, recurses := true, apart := false }
def FnExactHistoryOkSaid : Prop := fnExactHistoryOkRow.holds Try.pinned (OpenSpec.ofChange fnExactHistoryOkSpec)

/-- ITS FALSE NEIGHBOUR: 'it returns false'. Refute it at one input. -/
def fnExactHistoryOkWrong : ChangeSpec := { name := "fnExactHistoryOk", fn := fun _ => fun
  | [d1, d2] => { results := [.lit (.bool false)], args := [d1, d2] }
  | _ => none }
def FnExactHistoryOkWrongFalsely : Prop := fnExactHistoryOkRow.holds Try.pinned (OpenSpec.ofChange fnExactHistoryOkWrong)

/-- 'laws.FnExactLoadOn': WHATEVER THE INPUT: true; the input reads as it did. -/
def fnExactLoadOnSpec : ChangeSpec := { name := "fnExactLoadOn", fn := fun _ => fun
  | [d1, d2, d3] => { results := [.lit (.bool true)], args := [d1, d2, d3] }
  | _ => none }
def fnExactLoadOnRow : OpenClaim := { program := "ytbbbgegmkmmjkaa", sum := "edc67ccbc6ede45c77f5f2d8e735ea378255417c5a4c0ef52cfae7479156ab23", func := "loop.example/g03303/laws.FnExactLoadOn", spec := "fnExactLoadOn", unfollowed := true, recurses := true, apart := false }
def FnExactLoadOnSaid : Prop := fnExactLoadOnRow.holds Try.pinned (OpenSpec.ofChange fnExactLoadOnSpec)

/-- ITS FALSE NEIGHBOUR: 'it returns false'. Refute it at one input. -/
def fnExactLoadOnWrong : ChangeSpec := { name := "fnExactLoadOn", fn := fun _ => fun
  | [d1, d2, d3] => { results := [.lit (.bool false)], args := [d1, d2, d3] }
  | _ => none }
def FnExactLoadOnWrongFalsely : Prop := fnExactLoadOnRow.holds Try.pinned (OpenSpec.ofChange fnExactLoadOnWrong)

/-- 'laws.FnExactBearsLoad': WHATEVER THE INPUT: true; the input reads as it did. -/
def fnExactBearsLoadSpec : ChangeSpec := { name := "fnExactBearsLoad", fn := fun _ => fun
  | [d1, d2, d3, d4] => { results := [.lit (.bool true)], args := [d1, d2, d3, d4] }
  | _ => none }
def fnExactBearsLoadRow : OpenClaim := { program := "ytbbbgegmkmmjkaa", sum := "edc67ccbc6ede45c77f5f2d8e735ea378255417c5a4c0ef52cfae7479156ab23", func := "loop.example/g03303/laws.FnExactBearsLoad", spec := "fnExactBearsLoad", unfollowed := true, recurses := true, apart := false }
def FnExactBearsLoadSaid : Prop := fnExactBearsLoadRow.holds Try.pinned (OpenSpec.ofChange fnExactBearsLoadSpec)

/-- ITS FALSE NEIGHBOUR: 'it returns false'. Refute it at one input. -/
def fnExactBearsLoadWrong : ChangeSpec := { name := "fnExactBearsLoad", fn := fun _ => fun
  | [d1, d2, d3, d4] => { results := [.lit (.bool false)], args := [d1, d2, d3, d4] }
  | _ => none }
def FnExactBearsLoadWrongFalsely : Prop := fnExactBearsLoadRow.holds Try.pinned (OpenSpec.ofChange fnExactBearsLoadWrong)

/-- 'laws.FnExactSpotArea': WHATEVER THE INPUT: true; the input reads as it did. -/
def fnExactSpotAreaSpec : ChangeSpec := { name := "fnExactSpotArea", fn := fun _ => fun
  | [d1, d2, d3, d4] => { results := [.lit (.bool true)], args := [d1, d2, d3, d4] }
  | _ => none }
def fnExactSpotAreaRow : OpenClaim := { program := "ytbbbgegmkmmjkaa", sum := "edc67ccbc6ede45c77f5f2d8e735ea378255417c5a4c0ef52cfae7479156ab23", func := "loop.example/g03303/laws.FnExactSpotArea", spec := "fnExactSpotArea", unfollowed := true, recurses := true, apart := false }
def FnExactSpotAreaSaid : Prop := fnExactSpotAreaRow.holds Try.pinned (OpenSpec.ofChange fnExactSpotAreaSpec)

/-- ITS FALSE NEIGHBOUR: 'it returns false'. Refute it at one input. -/
def fnExactSpotAreaWrong : ChangeSpec := { name := "fnExactSpotArea", fn := fun _ => fun
  | [d1, d2, d3, d4] => { results := [.lit (.bool false)], args := [d1, d2, d3, d4] }
  | _ => none }
def FnExactSpotAreaWrongFalsely : Prop := fnExactSpotAreaRow.holds Try.pinned (OpenSpec.ofChange fnExactSpotAreaWrong)

/-- 'laws.FnExactGlassWeight': WHATEVER THE INPUT: true; the input reads as it did. -/
def fnExactGlassWeightSpec : ChangeSpec := { name := "fnExactGlassWeight", fn := fun _ => fun
  | [d1, d2] => { results := [.lit (.bool true)], args := [d1, d2] }
  | _ => none }
def fnExactGlassWeightRow : OpenClaim := { program := "ytbbbgegmkmmjkaa", sum := "edc67ccbc6ede45c77f5f2d8e735ea378255417c5a4c0ef52cfae7479156ab23", func := "loop.example/g03303/laws.FnExactGlassWeight", spec := "fnExactGlassWeight", unfollowed := true, recurses := true, apart := false }
def FnExactGlassWeightSaid : Prop := fnExactGlassWeightRow.holds Try.pinned (OpenSpec.ofChange fnExactGlassWeightSpec)

/-- ITS FALSE NEIGHBOUR: 'it returns false'. Refute it at one input. -/
def fnExactGlassWeightWrong : ChangeSpec := { name := "fnExactGlassWeight", fn := fun _ => fun
  | [d1, d2] => { results := [.lit (.bool false)], args := [d1, d2] }
  | _ => none }
def FnExactGlassWeightWrongFalsely : Prop := fnExactGlassWeightRow.holds Try.pinned (OpenSpec.ofChange fnExactGlassWeightWrong)

/-- 'laws.FnExactLeastThickness': WHATEVER THE INPUT: true; the input reads as it did. -/
def fnExactLeastThicknessSpec : ChangeSpec := { name := "fnExactLeastThickness", fn := fun _ => fun
  | [d1, d2, d3] => { results := [.lit (.bool true)], args := [d1, d2, d3] }
  | _ => none }
def fnExactLeastThicknessRow : OpenClaim := { program := "ytbbbgegmkmmjkaa", sum := "edc67ccbc6ede45c77f5f2d8e735ea378255417c5a4c0ef52cfae7479156ab23", func := "loop.example/g03303/laws.FnExactLeastThickness", spec := "fnExactLeastThickness", unfollowed := true, recurses := true, apart := false }
def FnExactLeastThicknessSaid : Prop := fnExactLeastThicknessRow.holds Try.pinned (OpenSpec.ofChange fnExactLeastThicknessSpec)

/-- ITS FALSE NEIGHBOUR: 'it returns false'. Refute it at one input. -/
def fnExactLeastThicknessWrong : ChangeSpec := { name := "fnExactLeastThickness", fn := fun _ => fun
  | [d1, d2, d3] => { results := [.lit (.bool false)], args := [d1, d2, d3] }
  | _ => none }
def FnExactLeastThicknessWrongFalsely : Prop := fnExactLeastThicknessRow.holds Try.pinned (OpenSpec.ofChange fnExactLeastThicknessWrong)

/-- 'laws.FnExactMiddleOf': WHATEVER THE INPUT: true; the input reads as it did. -/
def fnExactMiddleOfSpec : ChangeSpec := { name := "fnExactMiddleOf", fn := fun _ => fun
  | [d] => { results := [.lit (.bool true)], args := [d] }
  | _ => none }
def fnExactMiddleOfRow : OpenClaim := { program := "ytbbbgegmkmmjkaa", sum := "edc67ccbc6ede45c77f5f2d8e735ea378255417c5a4c0ef52cfae7479156ab23", func := "loop.example/g03303/laws.FnExactMiddleOf", spec := "fnExactMiddleOf", unfollowed := true, recurses := true, apart := false }
def FnExactMiddleOfSaid : Prop := fnExactMiddleOfRow.holds Try.pinned (OpenSpec.ofChange fnExactMiddleOfSpec)

/-- ITS FALSE NEIGHBOUR: 'it returns false'. Refute it at one input. -/
def fnExactMiddleOfWrong : ChangeSpec := { name := "fnExactMiddleOf", fn := fun _ => fun
  | [d] => { results := [.lit (.bool false)], args := [d] }
  | _ => none }
def FnExactMiddleOfWrongFalsely : Prop := fnExactMiddleOfRow.holds Try.pinned (OpenSpec.ofChange fnExactMiddleOfWrong)

/-- 'laws.FnExactHingeForce': WHATEVER THE INPUT: true; the input reads as it did. -/
def fnExactHingeForceSpec : ChangeSpec := { name := "fnExactHingeForce", fn := fun _ => fun
  | [d1, d2, d3, d4] => { results := [.lit (.bool true)], args := [d1, d2, d3, d4] }
  | _ => none }
def fnExactHingeForceRow : OpenClaim := { program := "ytbbbgegmkmmjkaa", sum := "edc67ccbc6ede45c77f5f2d8e735ea378255417c5a4c0ef52cfae7479156ab23", func := "loop.example/g03303/laws.FnExactHingeForce", spec := "fnExactHingeForce", unfollowed := true, recurses := true, apart := false }
def FnExactHingeForceSaid : Prop := fnExactHingeForceRow.holds Try.pinned (OpenSpec.ofChange fnExactHingeForceSpec)

/-- ITS FALSE NEIGHBOUR: 'it returns false'. Refute it at one input. -/
def fnExactHingeForceWrong : ChangeSpec := { name := "fnExactHingeForce", fn := fun _ => fun
  | [d1, d2, d3, d4] => { results := [.lit (.bool false)], args := [d1, d2, d3, d4] }
  | _ => none }
def FnExactHingeForceWrongFalsely : Prop := fnExactHingeForceRow.holds Try.pinned (OpenSpec.ofChange fnExactHingeForceWrong)

/-- 'laws.FnExactHingeHolds': WHATEVER THE INPUT: true; the input reads as it did. -/
def fnExactHingeHoldsSpec : ChangeSpec := { name := "fnExactHingeHolds", fn := fun _ => fun
  | [d1, d2, d3, d4, d5] => { results := [.lit (.bool true)], args := [d1, d2, d3, d4, d5] }
  | _ => none }
def fnExactHingeHoldsRow : OpenClaim := { program := "ytbbbgegmkmmjkaa", sum := "edc67ccbc6ede45c77f5f2d8e735ea378255417c5a4c0ef52cfae7479156ab23", func := "loop.example/g03303/laws.FnExactHingeHolds", spec := "fnExactHingeHolds", unfollowed := true, recurses := true, apart := false }
def FnExactHingeHoldsSaid : Prop := fnExactHingeHoldsRow.holds Try.pinned (OpenSpec.ofChange fnExactHingeHoldsSpec)

/-- ITS FALSE NEIGHBOUR: 'it returns false'. Refute it at one input. -/
def fnExactHingeHoldsWrong : ChangeSpec := { name := "fnExactHingeHolds", fn := fun _ => fun
  | [d1, d2, d3, d4, d5] => { results := [.lit (.bool false)], args := [d1, d2, d3, d4, d5] }
  | _ => none }
def FnExactHingeHoldsWrongFalsely : Prop := fnExactHingeHoldsRow.holds Try.pinned (OpenSpec.ofChange fnExactHingeHoldsWrong)

/-- 'laws.FnExactOldestFaces': WHATEVER THE INPUT: true; the input reads as it did. -/
def fnExactOldestFacesSpec : ChangeSpec := { name := "fnExactOldestFaces", fn := fun _ => fun
  | [d1, d2] => { results := [.lit (.bool true)], args := [d1, d2] }
  | _ => none }
def fnExactOldestFacesRow : OpenClaim := { program := "ytbbbgegmkmmjkaa", sum := "edc67ccbc6ede45c77f5f2d8e735ea378255417c5a4c0ef52cfae7479156ab23", func := "loop.example/g03303/laws.FnExactOldestFaces", spec := "fnExactOldestFaces", unfollowed := true, recurses := true, apart := false }
def FnExactOldestFacesSaid : Prop := fnExactOldestFacesRow.holds Try.pinned (OpenSpec.ofChange fnExactOldestFacesSpec)

/-- ITS FALSE NEIGHBOUR: 'it returns false'. Refute it at one input. -/
def fnExactOldestFacesWrong : ChangeSpec := { name := "fnExactOldestFaces", fn := fun _ => fun
  | [d1, d2] => { results := [.lit (.bool false)], args := [d1, d2] }
  | _ => none }
def FnExactOldestFacesWrongFalsely : Prop := fnExactOldestFacesRow.holds Try.pinned (OpenSpec.ofChange fnExactOldestFacesWrong)

/-- 'laws.FnExactNumberOf': WHATEVER THE INPUT: true; the input reads as it did. -/
def fnExactNumberOfSpec : ChangeSpec := { name := "fnExactNumberOf", fn := fun _ => fun
  | [d1, d2] => { results := [.lit (.bool true)], args := [d1, d2] }
  | _ => none }
def fnExactNumberOfRow : OpenClaim := { program := "ytbbbgegmkmmjkaa", sum := "edc67ccbc6ede45c77f5f2d8e735ea378255417c5a4c0ef52cfae7479156ab23", func := "loop.example/g03303/laws.FnExactNumberOf", spec := "fnExactNumberOf", unfollowed := true, recurses := true, apart := false }
def FnExactNumberOfSaid : Prop := fnExactNumberOfRow.holds Try.pinned (OpenSpec.ofChange fnExactNumberOfSpec)

/-- ITS FALSE NEIGHBOUR: 'it returns false'. Refute it at one input. -/
def fnExactNumberOfWrong : ChangeSpec := { name := "fnExactNumberOf", fn := fun _ => fun
  | [d1, d2] => { results := [.lit (.bool false)], args := [d1, d2] }
  | _ => none }
def FnExactNumberOfWrongFalsely : Prop := fnExactNumberOfRow.holds Try.pinned (OpenSpec.ofChange fnExactNumberOfWrong)

/-- 'laws.FnExactFaceWithNumber': WHATEVER THE INPUT: true; the input reads as it did. -/
def fnExactFaceWithNumberSpec : ChangeSpec := { name := "fnExactFaceWithNumber", fn := fun _ => fun
  | [d1, d2] => { results := [.lit (.bool true)], args := [d1, d2] }
  | _ => none }
def fnExactFaceWithNumberRow : OpenClaim := { program := "ytbbbgegmkmmjkaa", sum := "edc67ccbc6ede45c77f5f2d8e735ea378255417c5a4c0ef52cfae7479156ab23", func := "loop.example/g03303/laws.FnExactFaceWithNumber", spec := "fnExactFaceWithNumber", unfollowed := true, recurses := true, apart := false }
def FnExactFaceWithNumberSaid : Prop := fnExactFaceWithNumberRow.holds Try.pinned (OpenSpec.ofChange fnExactFaceWithNumberSpec)

/-- ITS FALSE NEIGHBOUR: 'it returns false'. Refute it at one input. -/
def fnExactFaceWithNumberWrong : ChangeSpec := { name := "fnExactFaceWithNumber", fn := fun _ => fun
  | [d1, d2] => { results := [.lit (.bool false)], args := [d1, d2] }
  | _ => none }
def FnExactFaceWithNumberWrongFalsely : Prop := fnExactFaceWithNumberRow.holds Try.pinned (OpenSpec.ofChange fnExactFaceWithNumberWrong)

/-- 'laws.FnExactReadingOrder': WHATEVER THE INPUT: true; the input reads as it did. -/
def fnExactReadingOrderSpec : ChangeSpec := { name := "fnExactReadingOrder", fn := fun _ => fun
  | [d] => { results := [.lit (.bool true)], args := [d] }
  | _ => none }
def fnExactReadingOrderRow : OpenClaim := { program := "ytbbbgegmkmmjkaa", sum := "edc67ccbc6ede45c77f5f2d8e735ea378255417c5a4c0ef52cfae7479156ab23", func := "loop.example/g03303/laws.FnExactReadingOrder", spec := "fnExactReadingOrder", unfollowed := true, recurses := true, apart := false }
def FnExactReadingOrderSaid : Prop := fnExactReadingOrderRow.holds Try.pinned (OpenSpec.ofChange fnExactReadingOrderSpec)

/-- ITS FALSE NEIGHBOUR: 'it returns false'. Refute it at one input. -/
def fnExactReadingOrderWrong : ChangeSpec := { name := "fnExactReadingOrder", fn := fun _ => fun
  | [d] => { results := [.lit (.bool false)], args := [d] }
  | _ => none }
def FnExactReadingOrderWrongFalsely : Prop := fnExactReadingOrderRow.holds Try.pinned (OpenSpec.ofChange fnExactReadingOrderWrong)

/- THE SECOND FORM. 'bulk': how many values and letters a reading holds, each counted each time it is reached (what is shared counts as often as it is met; a slice's spare places count too). A statement '..UptoSaid' is the law's where the arguments, and the package variables that the reading takes, are together of bulk at most 1048576: NARROWER than '..Said'. Prove '..Said' where nothing that the law and all that it calls make is longer than what came in: it says more and counts as full. Else prove '..UptoSaid'. A law counts once. -/
mutual
def uptoBulk {H : Type} : DataW H → Nat
  | .lit (.string bytes) => bytes.length + 1
  | .lit _ => 1
  | .nil => 1
  | .ptr d => uptoBulk d + 1
  | .slice elems spare => uptoBulkAll elems + uptoBulkAll spare + 1
  | .agg parts => uptoBulkAll parts + 1
  | .iface _ d => uptoBulk d + 1
  | .map entries => uptoBulkEntries entries + 1
  | .held _ => 1
def uptoBulkAll {H : Type} : List (DataW H) → Nat
  | [] => 0
  | d :: r => uptoBulk d + uptoBulkAll r
def uptoBulkEntries {H : Type} : List (Lit × DataW H) → Nat
  | [] => 0
  | x :: r => uptoBulkEntry x + uptoBulkEntries r
def uptoBulkEntry {H : Type} : Lit × DataW H → Nat
  | (.string bytes, d) => bytes.length + uptoBulk d + 1
  | (_, d) => uptoBulk d + 1
 end
def uptoSmall : (H : Type) → List (DataW H) → Bool := fun _ ds => decide (uptoBulkAll ds ≤ 1048576)
def OpenSpec.upto (s : _root_.Go.ChangeSpec) : _root_.Go.OpenSpec := { _root_.Go.OpenSpec.ofChange s with cond := some uptoSmall }

/-- 'laws.FnExactHistoryOk', WHERE WHAT IT READS IS OF BULK AT MOST 1048576: true; the input reads as it did. -/
def fnExactHistoryOkUptoRow : OpenClaim := { program := "ytbbbgegmkmmjkaa", sum := "edc67ccbc6ede45c77f5f2d8e735ea378255417c5a4c0ef52cfae7479156ab23", func := "loop.example/g03303/laws.FnExactHistoryOk", spec := "fnExactHistoryOk", unfollowed := true, recurses := true, apart := false, narrowed := true }
def FnExactHistoryOkUptoSaid : Prop := fnExactHistoryOkUptoRow.holds Try.pinned (OpenSpec.upto fnExactHistoryOkSpec)

/-- 'laws.FnExactLoadOn', WHERE WHAT IT READS IS OF BULK AT MOST 1048576: true; the input reads as it did. -/
def fnExactLoadOnUptoRow : OpenClaim := { program := "ytbbbgegmkmmjkaa", sum := "edc67ccbc6ede45c77f5f2d8e735ea378255417c5a4c0ef52cfae7479156ab23", func := "loop.example/g03303/laws.FnExactLoadOn", spec := "fnExactLoadOn", unfollowed := true, recurses := true, apart := false, narrowed := true }
def FnExactLoadOnUptoSaid : Prop := fnExactLoadOnUptoRow.holds Try.pinned (OpenSpec.upto fnExactLoadOnSpec)

/-- 'laws.FnExactBearsLoad', WHERE WHAT IT READS IS OF BULK AT MOST 1048576: true; the input reads as it did. -/
def fnExactBearsLoadUptoRow : OpenClaim := { program := "ytbbbgegmkmmjkaa", sum := "edc67ccbc6ede45c77f5f2d8e735ea378255417c5a4c0ef52cfae7479156ab23", func := "loop.example/g03303/laws.FnExactBearsLoad", spec := "fnExactBearsLoad", unfollowed := true, recurses := true, apart := false, narrowed := true }
def FnExactBearsLoadUptoSaid : Prop := fnExactBearsLoadUptoRow.holds Try.pinned (OpenSpec.upto fnExactBearsLoadSpec)

/-- 'laws.FnExactSpotArea', WHERE WHAT IT READS IS OF BULK AT MOST 1048576: true; the input reads as it did. -/
def fnExactSpotAreaUptoRow : OpenClaim := { program := "ytbbbgegmkmmjkaa", sum := "edc67ccbc6ede45c77f5f2d8e735ea378255417c5a4c0ef52cfae7479156ab23", func := "loop.example/g03303/laws.FnExactSpotArea", spec := "fnExactSpotArea", unfollowed := true, recurses := true, apart := false, narrowed := true }
def FnExactSpotAreaUptoSaid : Prop := fnExactSpotAreaUptoRow.holds Try.pinned (OpenSpec.upto fnExactSpotAreaSpec)

/-- 'laws.FnExactGlassWeight', WHERE WHAT IT READS IS OF BULK AT MOST 1048576: true; the input reads as it did. -/
def fnExactGlassWeightUptoRow : OpenClaim := { program := "ytbbbgegmkmmjkaa", sum := "edc67ccbc6ede45c77f5f2d8e735ea378255417c5a4c0ef52cfae7479156ab23", func := "loop.example/g03303/laws.FnExactGlassWeight", spec := "fnExactGlassWeight", unfollowed := true, recurses := true, apart := false, narrowed := true }
def FnExactGlassWeightUptoSaid : Prop := fnExactGlassWeightUptoRow.holds Try.pinned (OpenSpec.upto fnExactGlassWeightSpec)

/-- 'laws.FnExactLeastThickness', WHERE WHAT IT READS IS OF BULK AT MOST 1048576: true; the input reads as it did. -/
def fnExactLeastThicknessUptoRow : OpenClaim := { program := "ytbbbgegmkmmjkaa", sum := "edc67ccbc6ede45c77f5f2d8e735ea378255417c5a4c0ef52cfae7479156ab23", func := "loop.example/g03303/laws.FnExactLeastThickness", spec := "fnExactLeastThickness", unfollowed := true, recurses := true, apart := false, narrowed := true }
def FnExactLeastThicknessUptoSaid : Prop := fnExactLeastThicknessUptoRow.holds Try.pinned (OpenSpec.upto fnExactLeastThicknessSpec)

/-- 'laws.FnExactMiddleOf', WHERE WHAT IT READS IS OF BULK AT MOST 1048576: true; the input reads as it did. -/
def fnExactMiddleOfUptoRow : OpenClaim := { program := "ytbbbgegmkmmjkaa", sum := "edc67ccbc6ede45c77f5f2d8e735ea378255417c5a4c0ef52cfae7479156ab23", func := "loop.example/g03303/laws.FnExactMiddleOf", spec := "fnExactMiddleOf", unfollowed := true, recurses := true, apart := false, narrowed := true }
def FnExactMiddleOfUptoSaid : Prop := fnExactMiddleOfUptoRow.holds Try.pinned (OpenSpec.upto fnExactMiddleOfSpec)

/-- 'laws.FnExactHingeForce', WHERE WHAT IT READS IS OF BULK AT MOST 1048576: true; the input reads as it did. -/
def fnExactHingeForceUptoRow : OpenClaim := { program := "ytbbbgegmkmmjkaa", sum := "edc67ccbc6ede45c77f5f2d8e735ea378255417c5a4c0ef52cfae7479156ab23", func := "loop.example/g03303/laws.FnExactHingeForce", spec := "fnExactHingeForce", unfollowed := true, recurses := true, apart := false, narrowed := true }
def FnExactHingeForceUptoSaid : Prop := fnExactHingeForceUptoRow.holds Try.pinned (OpenSpec.upto fnExactHingeForceSpec)

/-- 'laws.FnExactHingeHolds', WHERE WHAT IT READS IS OF BULK AT MOST 1048576: true; the input reads as it did. -/
def fnExactHingeHoldsUptoRow : OpenClaim := { program := "ytbbbgegmkmmjkaa", sum := "edc67ccbc6ede45c77f5f2d8e735ea378255417c5a4c0ef52cfae7479156ab23", func := "loop.example/g03303/laws.FnExactHingeHolds", spec := "fnExactHingeHolds", unfollowed := true, recurses := true, apart := false, narrowed := true }
def FnExactHingeHoldsUptoSaid : Prop := fnExactHingeHoldsUptoRow.holds Try.pinned (OpenSpec.upto fnExactHingeHoldsSpec)

/-- 'laws.FnExactOldestFaces', WHERE WHAT IT READS IS OF BULK AT MOST 1048576: true; the input reads as it did. -/
def fnExactOldestFacesUptoRow : OpenClaim := { program := "ytbbbgegmkmmjkaa", sum := "edc67ccbc6ede45c77f5f2d8e735ea378255417c5a4c0ef52cfae7479156ab23", func := "loop.example/g03303/laws.FnExactOldestFaces", spec := "fnExactOldestFaces", unfollowed := true, recurses := true, apart := false, narrowed := true }
def FnExactOldestFacesUptoSaid : Prop := fnExactOldestFacesUptoRow.holds Try.pinned (OpenSpec.upto fnExactOldestFacesSpec)

/-- 'laws.FnExactNumberOf', WHERE WHAT IT READS IS OF BULK AT MOST 1048576: true; the input reads as it did. -/
def fnExactNumberOfUptoRow : OpenClaim := { program := "ytbbbgegmkmmjkaa", sum := "edc67ccbc6ede45c77f5f2d8e735ea378255417c5a4c0ef52cfae7479156ab23", func := "loop.example/g03303/laws.FnExactNumberOf", spec := "fnExactNumberOf", unfollowed := true, recurses := true, apart := false, narrowed := true }
def FnExactNumberOfUptoSaid : Prop := fnExactNumberOfUptoRow.holds Try.pinned (OpenSpec.upto fnExactNumberOfSpec)

/-- 'laws.FnExactFaceWithNumber', WHERE WHAT IT READS IS OF BULK AT MOST 1048576: true; the input reads as it did. -/
def fnExactFaceWithNumberUptoRow : OpenClaim := { program := "ytbbbgegmkmmjkaa", sum := "edc67ccbc6ede45c77f5f2d8e735ea378255417c5a4c0ef52cfae7479156ab23", func := "loop.example/g03303/laws.FnExactFaceWithNumber", spec := "fnExactFaceWithNumber", unfollowed := true, recurses := true, apart := false, narrowed := true }
def FnExactFaceWithNumberUptoSaid : Prop := fnExactFaceWithNumberUptoRow.holds Try.pinned (OpenSpec.upto fnExactFaceWithNumberSpec)

/-- 'laws.FnExactReadingOrder', WHERE WHAT IT READS IS OF BULK AT MOST 1048576: true; the input reads as it did. -/
def fnExactReadingOrderUptoRow : OpenClaim := { program := "ytbbbgegmkmmjkaa", sum := "edc67ccbc6ede45c77f5f2d8e735ea378255417c5a4c0ef52cfae7479156ab23", func := "loop.example/g03303/laws.FnExactReadingOrder", spec := "fnExactReadingOrder", unfollowed := true, recurses := true, apart := false, narrowed := true }
def FnExactReadingOrderUptoSaid : Prop := fnExactReadingOrderUptoRow.holds Try.pinned (OpenSpec.upto fnExactReadingOrderSpec)

end Rows
end Go.Proofs.Ytbbbgegmkmmjkaa
