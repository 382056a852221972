/-
  No cell of these rows narrows 'for every input' (looked for: loops, veiled, ifaces, maps, wideKeys, modest, calm, conditions, laid).
  DERIVED. THE GIVEN ROWS OF THIS SEAT. 5 by the template 'for every input the law returns true; each argument reads behind the call as it read before'; 0 by the template 'total and deterministic' (their statements: YtgmhmlhdiklaaaaTotals.lean).
  GIVEN WITH THE SEED: the statements are not yours to turn. If you find one false, say at which input.
  Laid BY PROGRAM, IN A SANDBOX (cutbox-rows.mjs): the forced cells as the released guide's own fill.sh prints them over the translation c7f789fa8333bbf2… (all of the seat's roots in one cut). By AI agents, Wed Nov 11 2026. No macro, syntax, notation, axiom, sorry.
-/
import Derived.Test.YtgmhmlhdiklaaaaChecked
import GoSem.Claim
import GoSem.ClaimJoined
import GoSem.ClaimMapViews
import Derived.JoinedTies
import Derived.KernelRfl
namespace Go.Proofs.Ytgmhmlhdiklaaaa
/- THE CELL 'sum', in the pinned program and in every row, IS THE sha256 OF THE DUMP (.gsa) THAT YtgmhmlhdiklaaaaProg.lean LOADS. Nothing in Lean hashes anything: it is a label: what it is worth is what the hold of that sum in a sandbox is worth. -/
noncomputable def Try.pinned : Pinned := { name := "ytgmhmlhdiklaaaa", sum := "c7f789fa8333bbf24b5765196bb9324f9de2acf7785d7f0d08ed0cffa6c9dd64", checked := Try.checked }
namespace Rows
def none {H : Type} : Left H := { results := [], args := [] }

/-- 'laws.FnBars': WHATEVER THE INPUT: true; the input reads as it did. -/
def fnBarsSpec : ChangeSpec := { name := "fnBars", fn := fun _ => fun
  | [d] => { results := [.lit (.bool true)], args := [d] }
  | _ => none }
def fnBarsRow : OpenClaim := { program := "ytgmhmlhdiklaaaa", sum := "c7f789fa8333bbf24b5765196bb9324f9de2acf7785d7f0d08ed0cffa6c9dd64", func := "loop.example/g03303/laws.FnBars", spec := "fnBars", apart := false }
def FnBarsSaid : Prop := fnBarsRow.holds Try.pinned (OpenSpec.ofChange fnBarsSpec)

/-- ITS FALSE NEIGHBOUR: 'it returns false'. Refute it at one input. -/
def fnBarsWrong : ChangeSpec := { name := "fnBars", fn := fun _ => fun
  | [d] => { results := [.lit (.bool false)], args := [d] }
  | _ => none }
def FnBarsWrongFalsely : Prop := fnBarsRow.holds Try.pinned (OpenSpec.ofChange fnBarsWrong)

/-- 'laws.FnSun': WHATEVER THE INPUT: true; the input reads as it did. -/
def fnSunSpec : ChangeSpec := { name := "fnSun", fn := fun _ => fun
  | [d] => { results := [.lit (.bool true)], args := [d] }
  | _ => none }
def fnSunRow : OpenClaim := { program := "ytgmhmlhdiklaaaa", sum := "c7f789fa8333bbf24b5765196bb9324f9de2acf7785d7f0d08ed0cffa6c9dd64", func := "loop.example/g03303/laws.FnSun", spec := "fnSun", unfollowed := true, recurses := true, apart := false }
def FnSunSaid : Prop := fnSunRow.holds Try.pinned (OpenSpec.ofChange fnSunSpec)

/-- ITS FALSE NEIGHBOUR: 'it returns false'. Refute it at one input. -/
def fnSunWrong : ChangeSpec := { name := "fnSun", fn := fun _ => fun
  | [d] => { results := [.lit (.bool false)], args := [d] }
  | _ => none }
def FnSunWrongFalsely : Prop := fnSunRow.holds Try.pinned (OpenSpec.ofChange fnSunWrong)

/-- 'laws.FnWinds': WHATEVER THE INPUT: true; the input reads as it did. -/
def fnWindsSpec : ChangeSpec := { name := "fnWinds", fn := fun _ => fun
  | [d] => { results := [.lit (.bool true)], args := [d] }
  | _ => none }
def fnWindsRow : OpenClaim := { program := "ytgmhmlhdiklaaaa", sum := "c7f789fa8333bbf24b5765196bb9324f9de2acf7785d7f0d08ed0cffa6c9dd64", func := "loop.example/g03303/laws.FnWinds", spec := "fnWinds", unfollowed := true, recurses := true, apart := false }
def FnWindsSaid : Prop := fnWindsRow.holds Try.pinned (OpenSpec.ofChange fnWindsSpec)

/-- ITS FALSE NEIGHBOUR: 'it returns false'. Refute it at one input. -/
def fnWindsWrong : ChangeSpec := { name := "fnWinds", fn := fun _ => fun
  | [d] => { results := [.lit (.bool false)], args := [d] }
  | _ => none }
def FnWindsWrongFalsely : Prop := fnWindsRow.holds Try.pinned (OpenSpec.ofChange fnWindsWrong)

/-- 'laws.FnFrames': WHATEVER THE INPUT: true; the input reads as it did. -/
def fnFramesSpec : ChangeSpec := { name := "fnFrames", fn := fun _ => fun
  | [d] => { results := [.lit (.bool true)], args := [d] }
  | _ => none }
def fnFramesRow : OpenClaim := { program := "ytgmhmlhdiklaaaa", sum := "c7f789fa8333bbf24b5765196bb9324f9de2acf7785d7f0d08ed0cffa6c9dd64", func := "loop.example/g03303/laws.FnFrames", spec := "fnFrames", unfollowed := true, recurses := true, apart := false }
def FnFramesSaid : Prop := fnFramesRow.holds Try.pinned (OpenSpec.ofChange fnFramesSpec)

/-- ITS FALSE NEIGHBOUR: 'it returns false'. Refute it at one input. -/
def fnFramesWrong : ChangeSpec := { name := "fnFrames", fn := fun _ => fun
  | [d] => { results := [.lit (.bool false)], args := [d] }
  | _ => none }
def FnFramesWrongFalsely : Prop := fnFramesRow.holds Try.pinned (OpenSpec.ofChange fnFramesWrong)

/-- 'laws.FnRestored': WHATEVER THE INPUT: true; the input reads as it did. -/
def fnRestoredSpec : ChangeSpec := { name := "fnRestored", fn := fun _ => fun
  | [d] => { results := [.lit (.bool true)], args := [d] }
  | _ => none }
def fnRestoredRow : OpenClaim := { program := "ytgmhmlhdiklaaaa", sum := "c7f789fa8333bbf24b5765196bb9324f9de2acf7785d7f0d08ed0cffa6c9dd64", func := "loop.example/g03303/laws.FnRestored", spec := "fnRestored", unfollowed := true, recurses := true, apart := false }
def FnRestoredSaid : Prop := fnRestoredRow.holds Try.pinned (OpenSpec.ofChange fnRestoredSpec)

/-- ITS FALSE NEIGHBOUR: 'it returns false'. Refute it at one input. -/
def fnRestoredWrong : ChangeSpec := { name := "fnRestored", fn := fun _ => fun
  | [d] => { results := [.lit (.bool false)], args := [d] }
  | _ => none }
def FnRestoredWrongFalsely : Prop := fnRestoredRow.holds Try.pinned (OpenSpec.ofChange fnRestoredWrong)

/- THE SECOND FORM. 'bulk': how many values and letters a reading holds, each counted each time it is reached (what is shared counts as often as it is met; a slice's spare places count too). A statement '..UptoSaid' is the law's where the arguments, and the package variables that the reading takes, are together of bulk at most 1048576: NARROWER than '..Said'. Prove '..Said' where nothing that the law and all that it calls make is longer than what came in: it says more and counts as full. Else prove '..UptoSaid'. A law counts once. -/
mutual
def uptoBulk {H : Type} : DataW H → Nat
  | .lit (.string bytes) => bytes.length + 1
  | .lit _ => 1
  | .nil => 1
  | .ptr d => uptoBulk d + 1
  | .slice elems spare => uptoBulkAll elems + uptoBulkAll spare + 1
  | .agg parts => uptoBulkAll parts + 1
  | .iface _ d => uptoBulk d + 1
  | .map entries => uptoBulkEntries entries + 1
  | .held _ => 1
def uptoBulkAll {H : Type} : List (DataW H) → Nat
  | [] => 0
  | d :: r => uptoBulk d + uptoBulkAll r
def uptoBulkEntries {H : Type} : List (Lit × DataW H) → Nat
  | [] => 0
  | x :: r => uptoBulkEntry x + uptoBulkEntries r
def uptoBulkEntry {H : Type} : Lit × DataW H → Nat
  | (.string bytes, d) => bytes.length + uptoBulk d + 1
  | (_, d) => uptoBulk d + 1
 end
def uptoSmall : (H : Type) → List (DataW H) → Bool := fun _ ds => decide (uptoBulkAll ds ≤ 1048576)
def OpenSpec.upto (s : _root_.Go.ChangeSpec) : _root_.Go.OpenSpec := { _root_.Go.OpenSpec.ofChange s with cond := some uptoSmall }

/-- 'laws.FnBars', WHERE WHAT IT READS IS OF BULK AT MOST 1048576: true; the input reads as it did. -/
def fnBarsUptoRow : OpenClaim := { program := "ytgmhmlhdiklaaaa", sum := "c7f789fa8333bbf24b5765196bb9324f9de2acf7785d7f0d08ed0cffa6c9dd64", func := "loop.example/g03303/laws.FnBars", spec := "fnBars", apart := false, narrowed := true }
def FnBarsUptoSaid : Prop := fnBarsUptoRow.holds Try.pinned (OpenSpec.upto fnBarsSpec)

/-- 'laws.FnSun', WHERE WHAT IT READS IS OF BULK AT MOST 1048576: true; the input reads as it did. -/
def fnSunUptoRow : OpenClaim := { program := "ytgmhmlhdiklaaaa", sum := "c7f789fa8333bbf24b5765196bb9324f9de2acf7785d7f0d08ed0cffa6c9dd64", func := "loop.example/g03303/laws.FnSun", spec := "fnSun", unfollowed := true, recurses := true, apart := false, narrowed := true }
def FnSunUptoSaid : Prop := fnSunUptoRow.holds Try.pinned (OpenSpec.upto fnSunSpec)

/-- 'laws.FnWinds', WHERE WHAT IT READS IS OF BULK AT MOST 1048576: true; the input reads as it did. -/
def fnWindsUptoRow : OpenClaim := { program := "ytgmhmlhdiklaaaa", sum := "c7f789fa8333bbf24b5765196bb9324f9de2acf7785d7f0d08ed0cffa6c9dd64", func := "loop.example/g03303/laws.FnWinds", spec := "fnWinds", unfollowed := true, recurses := true, apart := false, narrowed := true }
def FnWindsUptoSaid : Prop := fnWindsUptoRow.holds Try.pinned (OpenSpec.upto fnWindsSpec)

/-- 'laws.FnFrames', WHERE WHAT IT READS IS OF BULK AT MOST 1048576: true; the input reads as it did. -/
def fnFramesUptoRow : OpenClaim := { program := "ytgmhmlhdiklaaaa", sum := "c7f789fa8333bbf24b5765196bb9324f9de2acf7785d7f0d08ed0cffa6c9dd64", func := "loop.example/g03303/laws.FnFrames", spec := "fnFrames", unfollowed := true, recurses := true, apart := false, narrowed := true }
def FnFramesUptoSaid : Prop := fnFramesUptoRow.holds Try.pinned (OpenSpec.upto fnFramesSpec)

/-- 'laws.FnRestored', WHERE WHAT IT READS IS OF BULK AT MOST 1048576: true; the input reads as it did. -/
def fnRestoredUptoRow : OpenClaim := { program := "ytgmhmlhdiklaaaa", sum := "c7f789fa8333bbf24b5765196bb9324f9de2acf7785d7f0d08ed0cffa6c9dd64", func := "loop.example/g03303/laws.FnRestored", spec := "fnRestored", unfollowed := true, recurses := true, apart := false, narrowed := true }
def FnRestoredUptoSaid : Prop := fnRestoredUptoRow.holds Try.pinned (OpenSpec.upto fnRestoredSpec)

end Rows
end Go.Proofs.Ytgmhmlhdiklaaaa
