/-
  No cell of these rows narrows 'for every input' (looked for: loops, veiled, ifaces, maps, wideKeys, modest, calm, conditions, laid).
  DERIVED. THE GIVEN ROWS OF THIS SEAT. 5 by the template 'for every input the law returns true; each argument reads behind the call as it read before'; 0 by the template 'total and deterministic' (their statements: YtdnddmeoncekiaaTotals.lean).
  GIVEN WITH THE SEED: the statements are not yours to turn. If you find one false, say at which input.
  Laid BY PROGRAM, IN A SANDBOX (cutbox-rows.mjs): the forced cells as the released guide's own fill.sh prints them over the translation 8294932ab88453f3… (all of the seat's roots in one cut). By AI agents, Wed Nov 11 2026. No macro, syntax, notation, axiom, sorry.
-/
import Derived.Test.YtdnddmeoncekiaaChecked
import GoSem.Claim
import GoSem.ClaimJoined
import GoSem.ClaimMapViews
import Derived.JoinedTies
import Derived.KernelRfl
namespace Go.Proofs.Ytdnddmeoncekiaa
/- THE CELL 'sum', in the pinned program and in every row, IS THE sha256 OF THE DUMP (.gsa) THAT YtdnddmeoncekiaaProg.lean LOADS. Nothing in Lean hashes anything: it is a label: what it is worth is what the hold of that sum in a sandbox is worth. -/
noncomputable def Try.pinned : Pinned := { name := "ytdnddmeoncekiaa", sum := "8294932ab88453f3cefa99cd32944de0c95072d2431fb9af440a74f408e27808", checked := Try.checked }
namespace Rows
def none {H : Type} : Left H := { results := [], args := [] }

/-- 'laws.FnExactGreatestWind': WHATEVER THE INPUT: true; the input reads as it did. -/
def fnExactGreatestWindSpec : ChangeSpec := { name := "fnExactGreatestWind", fn := fun _ => fun
  | [d1, d2] => { results := [.lit (.bool true)], args := [d1, d2] }
  | _ => none }
def fnExactGreatestWindRow : OpenClaim := { program := "ytdnddmeoncekiaa", sum := "8294932ab88453f3cefa99cd32944de0c95072d2431fb9af440a74f408e27808", func := "loop.example/g03303/laws.FnExactGreatestWind", spec := "fnExactGreatestWind", unfollowed := true, recurses := true, apart := false }
def FnExactGreatestWindSaid : Prop := fnExactGreatestWindRow.holds Try.pinned (OpenSpec.ofChange fnExactGreatestWindSpec)

/-- ITS FALSE NEIGHBOUR: 'it returns false'. Refute it at one input. -/
def fnExactGreatestWindWrong : ChangeSpec := { name := "fnExactGreatestWind", fn := fun _ => fun
  | [d1, d2] => { results := [.lit (.bool false)], args := [d1, d2] }
  | _ => none }
def FnExactGreatestWindWrongFalsely : Prop := fnExactGreatestWindRow.holds Try.pinned (OpenSpec.ofChange fnExactGreatestWindWrong)

/-- 'laws.FnExactOriginalArea': WHATEVER THE INPUT: true; the input reads as it did. -/
def fnExactOriginalAreaSpec : ChangeSpec := { name := "fnExactOriginalArea", fn := fun _ => fun
  | [d1, d2] => { results := [.lit (.bool true)], args := [d1, d2] }
  | _ => none }
def fnExactOriginalAreaRow : OpenClaim := { program := "ytdnddmeoncekiaa", sum := "8294932ab88453f3cefa99cd32944de0c95072d2431fb9af440a74f408e27808", func := "loop.example/g03303/laws.FnExactOriginalArea", spec := "fnExactOriginalArea", unfollowed := true, recurses := true, apart := false }
def FnExactOriginalAreaSaid : Prop := fnExactOriginalAreaRow.holds Try.pinned (OpenSpec.ofChange fnExactOriginalAreaSpec)

/-- ITS FALSE NEIGHBOUR: 'it returns false'. Refute it at one input. -/
def fnExactOriginalAreaWrong : ChangeSpec := { name := "fnExactOriginalArea", fn := fun _ => fun
  | [d1, d2] => { results := [.lit (.bool false)], args := [d1, d2] }
  | _ => none }
def FnExactOriginalAreaWrongFalsely : Prop := fnExactOriginalAreaRow.holds Try.pinned (OpenSpec.ofChange fnExactOriginalAreaWrong)

/-- 'laws.FnExactWeakFaces': WHATEVER THE INPUT: true; the input reads as it did. -/
def fnExactWeakFacesSpec : ChangeSpec := { name := "fnExactWeakFaces", fn := fun _ => fun
  | [d1, d2, d3] => { results := [.lit (.bool true)], args := [d1, d2, d3] }
  | _ => none }
def fnExactWeakFacesRow : OpenClaim := { program := "ytdnddmeoncekiaa", sum := "8294932ab88453f3cefa99cd32944de0c95072d2431fb9af440a74f408e27808", func := "loop.example/g03303/laws.FnExactWeakFaces", spec := "fnExactWeakFaces", unfollowed := true, recurses := true, apart := false }
def FnExactWeakFacesSaid : Prop := fnExactWeakFacesRow.holds Try.pinned (OpenSpec.ofChange fnExactWeakFacesSpec)

/-- ITS FALSE NEIGHBOUR: 'it returns false'. Refute it at one input. -/
def fnExactWeakFacesWrong : ChangeSpec := { name := "fnExactWeakFaces", fn := fun _ => fun
  | [d1, d2, d3] => { results := [.lit (.bool false)], args := [d1, d2, d3] }
  | _ => none }
def FnExactWeakFacesWrongFalsely : Prop := fnExactWeakFacesRow.holds Try.pinned (OpenSpec.ofChange fnExactWeakFacesWrong)

/-- 'laws.FnExactMayReplace': WHATEVER THE INPUT: true; the input reads as it did. -/
def fnExactMayReplaceSpec : ChangeSpec := { name := "fnExactMayReplace", fn := fun _ => fun
  | [d1, d2, d3, d4] => { results := [.lit (.bool true)], args := [d1, d2, d3, d4] }
  | _ => none }
def fnExactMayReplaceRow : OpenClaim := { program := "ytdnddmeoncekiaa", sum := "8294932ab88453f3cefa99cd32944de0c95072d2431fb9af440a74f408e27808", func := "loop.example/g03303/laws.FnExactMayReplace", spec := "fnExactMayReplace", unfollowed := true, recurses := true, apart := false }
def FnExactMayReplaceSaid : Prop := fnExactMayReplaceRow.holds Try.pinned (OpenSpec.ofChange fnExactMayReplaceSpec)

/-- ITS FALSE NEIGHBOUR: 'it returns false'. Refute it at one input. -/
def fnExactMayReplaceWrong : ChangeSpec := { name := "fnExactMayReplace", fn := fun _ => fun
  | [d1, d2, d3, d4] => { results := [.lit (.bool false)], args := [d1, d2, d3, d4] }
  | _ => none }
def FnExactMayReplaceWrongFalsely : Prop := fnExactMayReplaceRow.holds Try.pinned (OpenSpec.ofChange fnExactMayReplaceWrong)

/-- 'laws.FnExactReplaceFace': WHATEVER THE INPUT: true; the input reads as it did. -/
def fnExactReplaceFaceSpec : ChangeSpec := { name := "fnExactReplaceFace", fn := fun _ => fun
  | [d1, d2, d3, d4, d5] => { results := [.lit (.bool true)], args := [d1, d2, d3, d4, d5] }
  | _ => none }
def fnExactReplaceFaceRow : OpenClaim := { program := "ytdnddmeoncekiaa", sum := "8294932ab88453f3cefa99cd32944de0c95072d2431fb9af440a74f408e27808", func := "loop.example/g03303/laws.FnExactReplaceFace", spec := "fnExactReplaceFace", unfollowed := true, recurses := true, apart := false }
def FnExactReplaceFaceSaid : Prop := fnExactReplaceFaceRow.holds Try.pinned (OpenSpec.ofChange fnExactReplaceFaceSpec)

/-- ITS FALSE NEIGHBOUR: 'it returns false'. Refute it at one input. -/
def fnExactReplaceFaceWrong : ChangeSpec := { name := "fnExactReplaceFace", fn := fun _ => fun
  | [d1, d2, d3, d4, d5] => { results := [.lit (.bool false)], args := [d1, d2, d3, d4, d5] }
  | _ => none }
def FnExactReplaceFaceWrongFalsely : Prop := fnExactReplaceFaceRow.holds Try.pinned (OpenSpec.ofChange fnExactReplaceFaceWrong)

/- THE SECOND FORM. 'bulk': how many values and letters a reading holds, each counted each time it is reached (what is shared counts as often as it is met; a slice's spare places count too). A statement '..UptoSaid' is the law's where the arguments, and the package variables that the reading takes, are together of bulk at most 1048576: NARROWER than '..Said'. Prove '..Said' where nothing that the law and all that it calls make is longer than what came in: it says more and counts as full. Else prove '..UptoSaid'. A law counts once. -/
mutual
def uptoBulk {H : Type} : DataW H → Nat
  | .lit (.string bytes) => bytes.length + 1
  | .lit _ => 1
  | .nil => 1
  | .ptr d => uptoBulk d + 1
  | .slice elems spare => uptoBulkAll elems + uptoBulkAll spare + 1
  | .agg parts => uptoBulkAll parts + 1
  | .iface _ d => uptoBulk d + 1
  | .map entries => uptoBulkEntries entries + 1
  | .held _ => 1
def uptoBulkAll {H : Type} : List (DataW H) → Nat
  | [] => 0
  | d :: r => uptoBulk d + uptoBulkAll r
def uptoBulkEntries {H : Type} : List (Lit × DataW H) → Nat
  | [] => 0
  | x :: r => uptoBulkEntry x + uptoBulkEntries r
def uptoBulkEntry {H : Type} : Lit × DataW H → Nat
  | (.string bytes, d) => bytes.length + uptoBulk d + 1
  | (_, d) => uptoBulk d + 1
 end
def uptoSmall : (H : Type) → List (DataW H) → Bool := fun _ ds => decide (uptoBulkAll ds ≤ 1048576)
def OpenSpec.upto (s : _root_.Go.ChangeSpec) : _root_.Go.OpenSpec := { _root_.Go.OpenSpec.ofChange s with cond := some uptoSmall }

/-- 'laws.FnExactGreatestWind', WHERE WHAT IT READS IS OF BULK AT MOST 1048576: true; the input reads as it did. -/
def fnExactGreatestWindUptoRow : OpenClaim := { program := "ytdnddmeoncekiaa", sum := "8294932ab88453f3cefa99cd32944de0c95072d2431fb9af440a74f408e27808", func := "loop.example/g03303/laws.FnExactGreatestWind", spec := "fnExactGreatestWind", unfollowed := true, recurses := true, apart := false, narrowed := true }
def FnExactGreatestWindUptoSaid : Prop := fnExactGreatestWindUptoRow.holds Try.pinned (OpenSpec.upto fnExactGreatestWindSpec)

/-- 'laws.FnExactOriginalArea', WHERE WHAT IT READS IS OF BULK AT MOST 1048576: true; the input reads as it did. -/
def fnExactOriginalAreaUptoRow : OpenClaim := { program := "ytdnddmeoncekiaa", sum := "8294932ab88453f3cefa99cd32944de0c95072d2431fb9af440a74f408e27808", func := "loop.example/g03303/laws.FnExactOriginalArea", spec := "fnExactOriginalArea", unfollowed := true, recurses := true, apart := false, narrowed := true }
def FnExactOriginalAreaUptoSaid : Prop := fnExactOriginalAreaUptoRow.holds Try.pinned (OpenSpec.upto fnExactOriginalAreaSpec)

/-- 'laws.FnExactWeakFaces', WHERE WHAT IT READS IS OF BULK AT MOST 1048576: true; the input reads as it did. -/
def fnExactWeakFacesUptoRow : OpenClaim := { program := "ytdnddmeoncekiaa", sum := "8294932ab88453f3cefa99cd32944de0c95072d2431fb9af440a74f408e27808", func := "loop.example/g03303/laws.FnExactWeakFaces", spec := "fnExactWeakFaces", unfollowed := true, recurses := true, apart := false, narrowed := true }
def FnExactWeakFacesUptoSaid : Prop := fnExactWeakFacesUptoRow.holds Try.pinned (OpenSpec.upto fnExactWeakFacesSpec)

/-- 'laws.FnExactMayReplace', WHERE WHAT IT READS IS OF BULK AT MOST 1048576: true; the input reads as it did. -/
def fnExactMayReplaceUptoRow : OpenClaim := { program := "ytdnddmeoncekiaa", sum := "8294932ab88453f3cefa99cd32944de0c95072d2431fb9af440a74f408e27808", func := "loop.example/g03303/laws.FnExactMayReplace", spec := "fnExactMayReplace", unfollowed := true, recurses := true, apart := false, narrowed := true }
def FnExactMayReplaceUptoSaid : Prop := fnExactMayReplaceUptoRow.holds Try.pinned (OpenSpec.upto fnExactMayReplaceSpec)

/-- 'laws.FnExactReplaceFace', WHERE WHAT IT READS IS OF BULK AT MOST 1048576: true; the input reads as it did. -/
def fnExactReplaceFaceUptoRow : OpenClaim := { program := "ytdnddmeoncekiaa", sum := "8294932ab88453f3cefa99cd32944de0c95072d2431fb9af440a74f408e27808", func := "loop.example/g03303/laws.FnExactReplaceFace", spec := "fnExactReplaceFace", unfollowed := true, recurses := true, apart := false, narrowed := true }
def FnExactReplaceFaceUptoSaid : Prop := fnExactReplaceFaceUptoRow.holds Try.pinned (OpenSpec.upto fnExactReplaceFaceSpec)

end Rows
end Go.Proofs.Ytdnddmeoncekiaa
