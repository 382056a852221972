/-
  No cell of these rows narrows 'for every input' (looked for: loops, veiled, ifaces, maps, wideKeys, modest, calm, conditions, laid).
  DERIVED. THE GIVEN ROWS OF THIS SEAT. 6 by the template 'for every input the law returns true; each argument reads behind the call as it read before'; 0 by the template 'total and deterministic' (their statements: YtehhciodikicbaaTotals.lean).
  GIVEN WITH THE SEED: the statements are not yours to turn. If you find one false, say at which input.
  Laid BY PROGRAM, IN A SANDBOX (cutbox-rows.mjs): the forced cells as the released guide's own fill.sh prints them over the translation ca3132718b376d69… (all of the seat's roots in one cut). By AI agents, Wed Nov 11 2026. No macro, syntax, notation, axiom, sorry.
-/
import Derived.Test.YtehhciodikicbaaChecked
import GoSem.Claim
import GoSem.ClaimJoined
import GoSem.ClaimMapViews
import Derived.JoinedTies
import Derived.KernelRfl
namespace Go.Proofs.Ytehhciodikicbaa
/- THE CELL 'sum', in the pinned program and in every row, IS THE sha256 OF THE DUMP (.gsa) THAT YtehhciodikicbaaProg.lean LOADS. Nothing in Lean hashes anything: it is a label: what it is worth is what the hold of that sum in a sandbox is worth. -/
noncomputable def Try.pinned : Pinned := { name := "ytehhciodikicbaa", sum := "ca3132718b376d691d4895d569ebde55747ef3f0c15b7e09814eb1759b760770", checked := Try.checked }
namespace Rows
def none {H : Type} : Left H := { results := [], args := [] }

/-- 'laws.FnExactDayLength': WHATEVER THE INPUT: true; the input reads as it did. -/
def fnExactDayLengthSpec : ChangeSpec := { name := "fnExactDayLength", fn := fun _ => fun
  | [d] => { results := [.lit (.bool true)], args := [d] }
  | _ => none }
def fnExactDayLengthRow : OpenClaim := { program := "ytehhciodikicbaa", sum := "ca3132718b376d691d4895d569ebde55747ef3f0c15b7e09814eb1759b760770", func := "loop.example/g03303/laws.FnExactDayLength", spec := "fnExactDayLength", apart := false }
def FnExactDayLengthSaid : Prop := fnExactDayLengthRow.holds Try.pinned (OpenSpec.ofChange fnExactDayLengthSpec)

/-- ITS FALSE NEIGHBOUR: 'it returns false'. Refute it at one input. -/
def fnExactDayLengthWrong : ChangeSpec := { name := "fnExactDayLength", fn := fun _ => fun
  | [d] => { results := [.lit (.bool false)], args := [d] }
  | _ => none }
def FnExactDayLengthWrongFalsely : Prop := fnExactDayLengthRow.holds Try.pinned (OpenSpec.ofChange fnExactDayLengthWrong)

/-- 'laws.FnExactCloudShare': WHATEVER THE INPUT: true; the input reads as it did. -/
def fnExactCloudShareSpec : ChangeSpec := { name := "fnExactCloudShare", fn := fun _ => fun
  | [d1, d2] => { results := [.lit (.bool true)], args := [d1, d2] }
  | _ => none }
def fnExactCloudShareRow : OpenClaim := { program := "ytehhciodikicbaa", sum := "ca3132718b376d691d4895d569ebde55747ef3f0c15b7e09814eb1759b760770", func := "loop.example/g03303/laws.FnExactCloudShare", spec := "fnExactCloudShare", apart := false }
def FnExactCloudShareSaid : Prop := fnExactCloudShareRow.holds Try.pinned (OpenSpec.ofChange fnExactCloudShareSpec)

/-- ITS FALSE NEIGHBOUR: 'it returns false'. Refute it at one input. -/
def fnExactCloudShareWrong : ChangeSpec := { name := "fnExactCloudShare", fn := fun _ => fun
  | [d1, d2] => { results := [.lit (.bool false)], args := [d1, d2] }
  | _ => none }
def FnExactCloudShareWrongFalsely : Prop := fnExactCloudShareRow.holds Try.pinned (OpenSpec.ofChange fnExactCloudShareWrong)

/-- 'laws.FnExactBarsOk': WHATEVER THE INPUT: true; the input reads as it did. -/
def fnExactBarsOkSpec : ChangeSpec := { name := "fnExactBarsOk", fn := fun _ => fun
  | [d] => { results := [.lit (.bool true)], args := [d] }
  | _ => none }
def fnExactBarsOkRow : OpenClaim := { program := "ytehhciodikicbaa", sum := "ca3132718b376d691d4895d569ebde55747ef3f0c15b7e09814eb1759b760770", func := "loop.example/g03303/laws.FnExactBarsOk", spec := "fnExactBarsOk", apart := false }
def FnExactBarsOkSaid : Prop := fnExactBarsOkRow.holds Try.pinned (OpenSpec.ofChange fnExactBarsOkSpec)

/-- ITS FALSE NEIGHBOUR: 'it returns false'. Refute it at one input. -/
def fnExactBarsOkWrong : ChangeSpec := { name := "fnExactBarsOk", fn := fun _ => fun
  | [d] => { results := [.lit (.bool false)], args := [d] }
  | _ => none }
def FnExactBarsOkWrongFalsely : Prop := fnExactBarsOkRow.holds Try.pinned (OpenSpec.ofChange fnExactBarsOkWrong)

/-- 'laws.FnExactIsInRoom': WHATEVER THE INPUT: true; the input reads as it did. -/
def fnExactIsInRoomSpec : ChangeSpec := { name := "fnExactIsInRoom", fn := fun _ => fun
  | [d1, d2, d3, d4] => { results := [.lit (.bool true)], args := [d1, d2, d3, d4] }
  | _ => none }
def fnExactIsInRoomRow : OpenClaim := { program := "ytehhciodikicbaa", sum := "ca3132718b376d691d4895d569ebde55747ef3f0c15b7e09814eb1759b760770", func := "loop.example/g03303/laws.FnExactIsInRoom", spec := "fnExactIsInRoom", apart := false }
def FnExactIsInRoomSaid : Prop := fnExactIsInRoomRow.holds Try.pinned (OpenSpec.ofChange fnExactIsInRoomSpec)

/-- ITS FALSE NEIGHBOUR: 'it returns false'. Refute it at one input. -/
def fnExactIsInRoomWrong : ChangeSpec := { name := "fnExactIsInRoom", fn := fun _ => fun
  | [d1, d2, d3, d4] => { results := [.lit (.bool false)], args := [d1, d2, d3, d4] }
  | _ => none }
def FnExactIsInRoomWrongFalsely : Prop := fnExactIsInRoomRow.holds Try.pinned (OpenSpec.ofChange fnExactIsInRoomWrong)

/-- 'laws.FnExactClearMinutes': WHATEVER THE INPUT: true; the input reads as it did. -/
def fnExactClearMinutesSpec : ChangeSpec := { name := "fnExactClearMinutes", fn := fun _ => fun
  | [d1, d2] => { results := [.lit (.bool true)], args := [d1, d2] }
  | _ => none }
def fnExactClearMinutesRow : OpenClaim := { program := "ytehhciodikicbaa", sum := "ca3132718b376d691d4895d569ebde55747ef3f0c15b7e09814eb1759b760770", func := "loop.example/g03303/laws.FnExactClearMinutes", spec := "fnExactClearMinutes", apart := false }
def FnExactClearMinutesSaid : Prop := fnExactClearMinutesRow.holds Try.pinned (OpenSpec.ofChange fnExactClearMinutesSpec)

/-- ITS FALSE NEIGHBOUR: 'it returns false'. Refute it at one input. -/
def fnExactClearMinutesWrong : ChangeSpec := { name := "fnExactClearMinutes", fn := fun _ => fun
  | [d1, d2] => { results := [.lit (.bool false)], args := [d1, d2] }
  | _ => none }
def FnExactClearMinutesWrongFalsely : Prop := fnExactClearMinutesRow.holds Try.pinned (OpenSpec.ofChange fnExactClearMinutesWrong)

/-- 'laws.FnExactReplacedAfter': WHATEVER THE INPUT: true; the input reads as it did. -/
def fnExactReplacedAfterSpec : ChangeSpec := { name := "fnExactReplacedAfter", fn := fun _ => fun
  | [d1, d2] => { results := [.lit (.bool true)], args := [d1, d2] }
  | _ => none }
def fnExactReplacedAfterRow : OpenClaim := { program := "ytehhciodikicbaa", sum := "ca3132718b376d691d4895d569ebde55747ef3f0c15b7e09814eb1759b760770", func := "loop.example/g03303/laws.FnExactReplacedAfter", spec := "fnExactReplacedAfter", apart := false }
def FnExactReplacedAfterSaid : Prop := fnExactReplacedAfterRow.holds Try.pinned (OpenSpec.ofChange fnExactReplacedAfterSpec)

/-- ITS FALSE NEIGHBOUR: 'it returns false'. Refute it at one input. -/
def fnExactReplacedAfterWrong : ChangeSpec := { name := "fnExactReplacedAfter", fn := fun _ => fun
  | [d1, d2] => { results := [.lit (.bool false)], args := [d1, d2] }
  | _ => none }
def FnExactReplacedAfterWrongFalsely : Prop := fnExactReplacedAfterRow.holds Try.pinned (OpenSpec.ofChange fnExactReplacedAfterWrong)

/- THE SECOND FORM. 'bulk': how many values and letters a reading holds, each counted each time it is reached (what is shared counts as often as it is met; a slice's spare places count too). A statement '..UptoSaid' is the law's where the arguments, and the package variables that the reading takes, are together of bulk at most 1048576: NARROWER than '..Said'. Prove '..Said' where nothing that the law and all that it calls make is longer than what came in: it says more and counts as full. Else prove '..UptoSaid'. A law counts once. -/
mutual
def uptoBulk {H : Type} : DataW H → Nat
  | .lit (.string bytes) => bytes.length + 1
  | .lit _ => 1
  | .nil => 1
  | .ptr d => uptoBulk d + 1
  | .slice elems spare => uptoBulkAll elems + uptoBulkAll spare + 1
  | .agg parts => uptoBulkAll parts + 1
  | .iface _ d => uptoBulk d + 1
  | .map entries => uptoBulkEntries entries + 1
  | .held _ => 1
def uptoBulkAll {H : Type} : List (DataW H) → Nat
  | [] => 0
  | d :: r => uptoBulk d + uptoBulkAll r
def uptoBulkEntries {H : Type} : List (Lit × DataW H) → Nat
  | [] => 0
  | x :: r => uptoBulkEntry x + uptoBulkEntries r
def uptoBulkEntry {H : Type} : Lit × DataW H → Nat
  | (.string bytes, d) => bytes.length + uptoBulk d + 1
  | (_, d) => uptoBulk d + 1
 end
def uptoSmall : (H : Type) → List (DataW H) → Bool := fun _ ds => decide (uptoBulkAll ds ≤ 1048576)
def OpenSpec.upto (s : _root_.Go.ChangeSpec) : _root_.Go.OpenSpec := { _root_.Go.OpenSpec.ofChange s with cond := some uptoSmall }

/-- 'laws.FnExactDayLength', WHERE WHAT IT READS IS OF BULK AT MOST 1048576: true; the input reads as it did. -/
def fnExactDayLengthUptoRow : OpenClaim := { program := "ytehhciodikicbaa", sum := "ca3132718b376d691d4895d569ebde55747ef3f0c15b7e09814eb1759b760770", func := "loop.example/g03303/laws.FnExactDayLength", spec := "fnExactDayLength", apart := false, narrowed := true }
def FnExactDayLengthUptoSaid : Prop := fnExactDayLengthUptoRow.holds Try.pinned (OpenSpec.upto fnExactDayLengthSpec)

/-- 'laws.FnExactCloudShare', WHERE WHAT IT READS IS OF BULK AT MOST 1048576: true; the input reads as it did. -/
def fnExactCloudShareUptoRow : OpenClaim := { program := "ytehhciodikicbaa", sum := "ca3132718b376d691d4895d569ebde55747ef3f0c15b7e09814eb1759b760770", func := "loop.example/g03303/laws.FnExactCloudShare", spec := "fnExactCloudShare", apart := false, narrowed := true }
def FnExactCloudShareUptoSaid : Prop := fnExactCloudShareUptoRow.holds Try.pinned (OpenSpec.upto fnExactCloudShareSpec)

/-- 'laws.FnExactBarsOk', WHERE WHAT IT READS IS OF BULK AT MOST 1048576: true; the input reads as it did. -/
def fnExactBarsOkUptoRow : OpenClaim := { program := "ytehhciodikicbaa", sum := "ca3132718b376d691d4895d569ebde55747ef3f0c15b7e09814eb1759b760770", func := "loop.example/g03303/laws.FnExactBarsOk", spec := "fnExactBarsOk", apart := false, narrowed := true }
def FnExactBarsOkUptoSaid : Prop := fnExactBarsOkUptoRow.holds Try.pinned (OpenSpec.upto fnExactBarsOkSpec)

/-- 'laws.FnExactIsInRoom', WHERE WHAT IT READS IS OF BULK AT MOST 1048576: true; the input reads as it did. -/
def fnExactIsInRoomUptoRow : OpenClaim := { program := "ytehhciodikicbaa", sum := "ca3132718b376d691d4895d569ebde55747ef3f0c15b7e09814eb1759b760770", func := "loop.example/g03303/laws.FnExactIsInRoom", spec := "fnExactIsInRoom", apart := false, narrowed := true }
def FnExactIsInRoomUptoSaid : Prop := fnExactIsInRoomUptoRow.holds Try.pinned (OpenSpec.upto fnExactIsInRoomSpec)

/-- 'laws.FnExactClearMinutes', WHERE WHAT IT READS IS OF BULK AT MOST 1048576: true; the input reads as it did. -/
def fnExactClearMinutesUptoRow : OpenClaim := { program := "ytehhciodikicbaa", sum := "ca3132718b376d691d4895d569ebde55747ef3f0c15b7e09814eb1759b760770", func := "loop.example/g03303/laws.FnExactClearMinutes", spec := "fnExactClearMinutes", apart := false, narrowed := true }
def FnExactClearMinutesUptoSaid : Prop := fnExactClearMinutesUptoRow.holds Try.pinned (OpenSpec.upto fnExactClearMinutesSpec)

/-- 'laws.FnExactReplacedAfter', WHERE WHAT IT READS IS OF BULK AT MOST 1048576: true; the input reads as it did. -/
def fnExactReplacedAfterUptoRow : OpenClaim := { program := "ytehhciodikicbaa", sum := "ca3132718b376d691d4895d569ebde55747ef3f0c15b7e09814eb1759b760770", func := "loop.example/g03303/laws.FnExactReplacedAfter", spec := "fnExactReplacedAfter", apart := false, narrowed := true }
def FnExactReplacedAfterUptoSaid : Prop := fnExactReplacedAfterUptoRow.holds Try.pinned (OpenSpec.upto fnExactReplacedAfterSpec)

end Rows
end Go.Proofs.Ytehhciodikicbaa
