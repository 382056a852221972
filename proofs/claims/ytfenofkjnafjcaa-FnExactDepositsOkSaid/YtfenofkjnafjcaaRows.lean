/-
  No cell of these rows narrows 'for every input' (looked for: loops, veiled, ifaces, maps, wideKeys, modest, calm, conditions, laid).
  DERIVED. THE GIVEN ROWS OF THIS SEAT. 17 by the template 'for every input the law returns true; each argument reads behind the call as it read before'; 0 by the template 'total and deterministic' (their statements: YtfenofkjnafjcaaTotals.lean).
  GIVEN WITH THE SEED: the statements are not yours to turn. If you find one false, say at which input.
  Laid BY PROGRAM, IN A SANDBOX (cutbox-rows.mjs): the forced cells as the released guide's own fill.sh prints them over the translation b94febebffb9aaea… (all of the seat's roots in one cut). By AI agents, Wed Nov 11 2026. No macro, syntax, notation, axiom, sorry.
-/
import Derived.Test.YtfenofkjnafjcaaChecked
import GoSem.Claim
import GoSem.ClaimJoined
import GoSem.ClaimMapViews
import Derived.JoinedTies
import Derived.KernelRfl
namespace Go.Proofs.Ytfenofkjnafjcaa
/- THE CELL 'sum', in the pinned program and in every row, IS THE sha256 OF THE DUMP (.gsa) THAT YtfenofkjnafjcaaProg.lean LOADS. Nothing in Lean hashes anything: it is a label: what it is worth is what the hold of that sum in a sandbox is worth. -/
noncomputable def Try.pinned : Pinned := { name := "ytfenofkjnafjcaa", sum := "b94febebffb9aaea59a9611af9d52365b42dddd894319a6604361a31a134d6b8", checked := Try.checked }
namespace Rows
def none {H : Type} : Left H := { results := [], args := [] }

/-- 'laws.FnExactCrateBound': WHATEVER THE INPUT: true; the input reads as it did. -/
def fnExactCrateBoundSpec : ChangeSpec := { name := "fnExactCrateBound", fn := fun _ => fun
  | [d1, d2] => { results := [.lit (.bool true)], args := [d1, d2] }
  | _ => none }
def fnExactCrateBoundRow : OpenClaim := { program := "ytfenofkjnafjcaa", sum := "b94febebffb9aaea59a9611af9d52365b42dddd894319a6604361a31a134d6b8", func := "loop.example/g03303/laws.FnExactCrateBound", spec := "fnExactCrateBound", apart := false }
def FnExactCrateBoundSaid : Prop := fnExactCrateBoundRow.holds Try.pinned (OpenSpec.ofChange fnExactCrateBoundSpec)

/-- ITS FALSE NEIGHBOUR: 'it returns false'. Refute it at one input. -/
def fnExactCrateBoundWrong : ChangeSpec := { name := "fnExactCrateBound", fn := fun _ => fun
  | [d1, d2] => { results := [.lit (.bool false)], args := [d1, d2] }
  | _ => none }
def FnExactCrateBoundWrongFalsely : Prop := fnExactCrateBoundRow.holds Try.pinned (OpenSpec.ofChange fnExactCrateBoundWrong)

/-- 'laws.FnExactYearMinutes': WHATEVER THE INPUT: true; the input reads as it did. -/
def fnExactYearMinutesSpec : ChangeSpec := { name := "fnExactYearMinutes", fn := fun _ => fun
  | [d] => { results := [.lit (.bool true)], args := [d] }
  | _ => none }
def fnExactYearMinutesRow : OpenClaim := { program := "ytfenofkjnafjcaa", sum := "b94febebffb9aaea59a9611af9d52365b42dddd894319a6604361a31a134d6b8", func := "loop.example/g03303/laws.FnExactYearMinutes", spec := "fnExactYearMinutes", apart := false }
def FnExactYearMinutesSaid : Prop := fnExactYearMinutesRow.holds Try.pinned (OpenSpec.ofChange fnExactYearMinutesSpec)

/-- ITS FALSE NEIGHBOUR: 'it returns false'. Refute it at one input. -/
def fnExactYearMinutesWrong : ChangeSpec := { name := "fnExactYearMinutes", fn := fun _ => fun
  | [d] => { results := [.lit (.bool false)], args := [d] }
  | _ => none }
def FnExactYearMinutesWrongFalsely : Prop := fnExactYearMinutesRow.holds Try.pinned (OpenSpec.ofChange fnExactYearMinutesWrong)

/-- 'laws.FnExactBestMonth': WHATEVER THE INPUT: true; the input reads as it did. -/
def fnExactBestMonthSpec : ChangeSpec := { name := "fnExactBestMonth", fn := fun _ => fun
  | [d] => { results := [.lit (.bool true)], args := [d] }
  | _ => none }
def fnExactBestMonthRow : OpenClaim := { program := "ytfenofkjnafjcaa", sum := "b94febebffb9aaea59a9611af9d52365b42dddd894319a6604361a31a134d6b8", func := "loop.example/g03303/laws.FnExactBestMonth", spec := "fnExactBestMonth", apart := false }
def FnExactBestMonthSaid : Prop := fnExactBestMonthRow.holds Try.pinned (OpenSpec.ofChange fnExactBestMonthSpec)

/-- ITS FALSE NEIGHBOUR: 'it returns false'. Refute it at one input. -/
def fnExactBestMonthWrong : ChangeSpec := { name := "fnExactBestMonth", fn := fun _ => fun
  | [d] => { results := [.lit (.bool false)], args := [d] }
  | _ => none }
def FnExactBestMonthWrongFalsely : Prop := fnExactBestMonthRow.holds Try.pinned (OpenSpec.ofChange fnExactBestMonthWrong)

/-- 'laws.FnYear': WHATEVER THE INPUT: true; the input reads as it did. -/
def fnYearSpec : ChangeSpec := { name := "fnYear", fn := fun _ => fun
  | [d] => { results := [.lit (.bool true)], args := [d] }
  | _ => none }
def fnYearRow : OpenClaim := { program := "ytfenofkjnafjcaa", sum := "b94febebffb9aaea59a9611af9d52365b42dddd894319a6604361a31a134d6b8", func := "loop.example/g03303/laws.FnYear", spec := "fnYear", apart := false }
def FnYearSaid : Prop := fnYearRow.holds Try.pinned (OpenSpec.ofChange fnYearSpec)

/-- ITS FALSE NEIGHBOUR: 'it returns false'. Refute it at one input. -/
def fnYearWrong : ChangeSpec := { name := "fnYear", fn := fun _ => fun
  | [d] => { results := [.lit (.bool false)], args := [d] }
  | _ => none }
def FnYearWrongFalsely : Prop := fnYearRow.holds Try.pinned (OpenSpec.ofChange fnYearWrong)

/-- 'laws.FnExactDepositsOk': WHATEVER THE INPUT: true; the input reads as it did. -/
def fnExactDepositsOkSpec : ChangeSpec := { name := "fnExactDepositsOk", fn := fun _ => fun
  | [d] => { results := [.lit (.bool true)], args := [d] }
  | _ => none }
def fnExactDepositsOkRow : OpenClaim := { program := "ytfenofkjnafjcaa", sum := "b94febebffb9aaea59a9611af9d52365b42dddd894319a6604361a31a134d6b8", func := "loop.example/g03303/laws.FnExactDepositsOk", spec := "fnExactDepositsOk", unfollowed := true, recurses := true, apart := false }
def FnExactDepositsOkSaid : Prop := fnExactDepositsOkRow.holds Try.pinned (OpenSpec.ofChange fnExactDepositsOkSpec)

/-- ITS FALSE NEIGHBOUR: 'it returns false'. Refute it at one input. -/
def fnExactDepositsOkWrong : ChangeSpec := { name := "fnExactDepositsOk", fn := fun _ => fun
  | [d] => { results := [.lit (.bool false)], args := [d] }
  | _ => none }
def FnExactDepositsOkWrongFalsely : Prop := fnExactDepositsOkRow.holds Try.pinned (OpenSpec.ofChange fnExactDepositsOkWrong)

/-- 'laws.FnExactMonthsAbove': WHATEVER THE INPUT: true; the input reads as it did. -/
def fnExactMonthsAboveSpec : ChangeSpec := { name := "fnExactMonthsAbove", fn := fun _ => fun
  | [d1, d2] => { results := [.lit (.bool true)], args := [d1, d2] }
  | _ => none }
def fnExactMonthsAboveRow : OpenClaim := { program := "ytfenofkjnafjcaa", sum := "b94febebffb9aaea59a9611af9d52365b42dddd894319a6604361a31a134d6b8", func := "loop.example/g03303/laws.FnExactMonthsAbove", spec := "fnExactMonthsAbove", apart := false }
def FnExactMonthsAboveSaid : Prop := fnExactMonthsAboveRow.holds Try.pinned (OpenSpec.ofChange fnExactMonthsAboveSpec)

/-- ITS FALSE NEIGHBOUR: 'it returns false'. Refute it at one input. -/
def fnExactMonthsAboveWrong : ChangeSpec := { name := "fnExactMonthsAbove", fn := fun _ => fun
  | [d1, d2] => { results := [.lit (.bool false)], args := [d1, d2] }
  | _ => none }
def FnExactMonthsAboveWrongFalsely : Prop := fnExactMonthsAboveRow.holds Try.pinned (OpenSpec.ofChange fnExactMonthsAboveWrong)

/-- 'laws.FnExactCrateWeight': WHATEVER THE INPUT: true; the input reads as it did. -/
def fnExactCrateWeightSpec : ChangeSpec := { name := "fnExactCrateWeight", fn := fun _ => fun
  | [d1, d2] => { results := [.lit (.bool true)], args := [d1, d2] }
  | _ => none }
def fnExactCrateWeightRow : OpenClaim := { program := "ytfenofkjnafjcaa", sum := "b94febebffb9aaea59a9611af9d52365b42dddd894319a6604361a31a134d6b8", func := "loop.example/g03303/laws.FnExactCrateWeight", spec := "fnExactCrateWeight", apart := false }
def FnExactCrateWeightSaid : Prop := fnExactCrateWeightRow.holds Try.pinned (OpenSpec.ofChange fnExactCrateWeightSpec)

/-- ITS FALSE NEIGHBOUR: 'it returns false'. Refute it at one input. -/
def fnExactCrateWeightWrong : ChangeSpec := { name := "fnExactCrateWeight", fn := fun _ => fun
  | [d1, d2] => { results := [.lit (.bool false)], args := [d1, d2] }
  | _ => none }
def FnExactCrateWeightWrongFalsely : Prop := fnExactCrateWeightRow.holds Try.pinned (OpenSpec.ofChange fnExactCrateWeightWrong)

/-- 'laws.FnExactCrateOk': WHATEVER THE INPUT: true; the input reads as it did. -/
def fnExactCrateOkSpec : ChangeSpec := { name := "fnExactCrateOk", fn := fun _ => fun
  | [d1, d2] => { results := [.lit (.bool true)], args := [d1, d2] }
  | _ => none }
def fnExactCrateOkRow : OpenClaim := { program := "ytfenofkjnafjcaa", sum := "b94febebffb9aaea59a9611af9d52365b42dddd894319a6604361a31a134d6b8", func := "loop.example/g03303/laws.FnExactCrateOk", spec := "fnExactCrateOk", apart := false }
def FnExactCrateOkSaid : Prop := fnExactCrateOkRow.holds Try.pinned (OpenSpec.ofChange fnExactCrateOkSpec)

/-- ITS FALSE NEIGHBOUR: 'it returns false'. Refute it at one input. -/
def fnExactCrateOkWrong : ChangeSpec := { name := "fnExactCrateOk", fn := fun _ => fun
  | [d1, d2] => { results := [.lit (.bool false)], args := [d1, d2] }
  | _ => none }
def FnExactCrateOkWrongFalsely : Prop := fnExactCrateOkRow.holds Try.pinned (OpenSpec.ofChange fnExactCrateOkWrong)

/-- 'laws.FnExactAddDeposit': WHATEVER THE INPUT: true; the input reads as it did. -/
def fnExactAddDepositSpec : ChangeSpec := { name := "fnExactAddDeposit", fn := fun _ => fun
  | [d1, d2] => { results := [.lit (.bool true)], args := [d1, d2] }
  | _ => none }
def fnExactAddDepositRow : OpenClaim := { program := "ytfenofkjnafjcaa", sum := "b94febebffb9aaea59a9611af9d52365b42dddd894319a6604361a31a134d6b8", func := "loop.example/g03303/laws.FnExactAddDeposit", spec := "fnExactAddDeposit", unfollowed := true, recurses := true, apart := false }
def FnExactAddDepositSaid : Prop := fnExactAddDepositRow.holds Try.pinned (OpenSpec.ofChange fnExactAddDepositSpec)

/-- ITS FALSE NEIGHBOUR: 'it returns false'. Refute it at one input. -/
def fnExactAddDepositWrong : ChangeSpec := { name := "fnExactAddDeposit", fn := fun _ => fun
  | [d1, d2] => { results := [.lit (.bool false)], args := [d1, d2] }
  | _ => none }
def FnExactAddDepositWrongFalsely : Prop := fnExactAddDepositRow.holds Try.pinned (OpenSpec.ofChange fnExactAddDepositWrong)

/-- 'laws.FnExactTakeBack': WHATEVER THE INPUT: true; the input reads as it did. -/
def fnExactTakeBackSpec : ChangeSpec := { name := "fnExactTakeBack", fn := fun _ => fun
  | [d1, d2] => { results := [.lit (.bool true)], args := [d1, d2] }
  | _ => none }
def fnExactTakeBackRow : OpenClaim := { program := "ytfenofkjnafjcaa", sum := "b94febebffb9aaea59a9611af9d52365b42dddd894319a6604361a31a134d6b8", func := "loop.example/g03303/laws.FnExactTakeBack", spec := "fnExactTakeBack", unfollowed := true, recurses := true, apart := false }
def FnExactTakeBackSaid : Prop := fnExactTakeBackRow.holds Try.pinned (OpenSpec.ofChange fnExactTakeBackSpec)

/-- ITS FALSE NEIGHBOUR: 'it returns false'. Refute it at one input. -/
def fnExactTakeBackWrong : ChangeSpec := { name := "fnExactTakeBack", fn := fun _ => fun
  | [d1, d2] => { results := [.lit (.bool false)], args := [d1, d2] }
  | _ => none }
def FnExactTakeBackWrongFalsely : Prop := fnExactTakeBackRow.holds Try.pinned (OpenSpec.ofChange fnExactTakeBackWrong)

/-- 'laws.FnExactArePacked': WHATEVER THE INPUT: true; the input reads as it did. -/
def fnExactArePackedSpec : ChangeSpec := { name := "fnExactArePacked", fn := fun _ => fun
  | [d1, d2] => { results := [.lit (.bool true)], args := [d1, d2] }
  | _ => none }
def fnExactArePackedRow : OpenClaim := { program := "ytfenofkjnafjcaa", sum := "b94febebffb9aaea59a9611af9d52365b42dddd894319a6604361a31a134d6b8", func := "loop.example/g03303/laws.FnExactArePacked", spec := "fnExactArePacked", apart := false }
def FnExactArePackedSaid : Prop := fnExactArePackedRow.holds Try.pinned (OpenSpec.ofChange fnExactArePackedSpec)

/-- ITS FALSE NEIGHBOUR: 'it returns false'. Refute it at one input. -/
def fnExactArePackedWrong : ChangeSpec := { name := "fnExactArePacked", fn := fun _ => fun
  | [d1, d2] => { results := [.lit (.bool false)], args := [d1, d2] }
  | _ => none }
def FnExactArePackedWrongFalsely : Prop := fnExactArePackedRow.holds Try.pinned (OpenSpec.ofChange fnExactArePackedWrong)

/-- 'laws.FnExactInCrate': WHATEVER THE INPUT: true; the input reads as it did. -/
def fnExactInCrateSpec : ChangeSpec := { name := "fnExactInCrate", fn := fun _ => fun
  | [d1, d2] => { results := [.lit (.bool true)], args := [d1, d2] }
  | _ => none }
def fnExactInCrateRow : OpenClaim := { program := "ytfenofkjnafjcaa", sum := "b94febebffb9aaea59a9611af9d52365b42dddd894319a6604361a31a134d6b8", func := "loop.example/g03303/laws.FnExactInCrate", spec := "fnExactInCrate", unfollowed := true, recurses := true, apart := false }
def FnExactInCrateSaid : Prop := fnExactInCrateRow.holds Try.pinned (OpenSpec.ofChange fnExactInCrateSpec)

/-- ITS FALSE NEIGHBOUR: 'it returns false'. Refute it at one input. -/
def fnExactInCrateWrong : ChangeSpec := { name := "fnExactInCrate", fn := fun _ => fun
  | [d1, d2] => { results := [.lit (.bool false)], args := [d1, d2] }
  | _ => none }
def FnExactInCrateWrongFalsely : Prop := fnExactInCrateRow.holds Try.pinned (OpenSpec.ofChange fnExactInCrateWrong)

/-- 'laws.FnDeposits': WHATEVER THE INPUT: true; the input reads as it did. -/
def fnDepositsSpec : ChangeSpec := { name := "fnDeposits", fn := fun _ => fun
  | [d] => { results := [.lit (.bool true)], args := [d] }
  | _ => none }
def fnDepositsRow : OpenClaim := { program := "ytfenofkjnafjcaa", sum := "b94febebffb9aaea59a9611af9d52365b42dddd894319a6604361a31a134d6b8", func := "loop.example/g03303/laws.FnDeposits", spec := "fnDeposits", unfollowed := true, recurses := true, apart := false }
def FnDepositsSaid : Prop := fnDepositsRow.holds Try.pinned (OpenSpec.ofChange fnDepositsSpec)

/-- ITS FALSE NEIGHBOUR: 'it returns false'. Refute it at one input. -/
def fnDepositsWrong : ChangeSpec := { name := "fnDeposits", fn := fun _ => fun
  | [d] => { results := [.lit (.bool false)], args := [d] }
  | _ => none }
def FnDepositsWrongFalsely : Prop := fnDepositsRow.holds Try.pinned (OpenSpec.ofChange fnDepositsWrong)

/-- 'laws.FnExactCratesUsed': WHATEVER THE INPUT: true; the input reads as it did. -/
def fnExactCratesUsedSpec : ChangeSpec := { name := "fnExactCratesUsed", fn := fun _ => fun
  | [d] => { results := [.lit (.bool true)], args := [d] }
  | _ => none }
def fnExactCratesUsedRow : OpenClaim := { program := "ytfenofkjnafjcaa", sum := "b94febebffb9aaea59a9611af9d52365b42dddd894319a6604361a31a134d6b8", func := "loop.example/g03303/laws.FnExactCratesUsed", spec := "fnExactCratesUsed", unfollowed := true, recurses := true, apart := false }
def FnExactCratesUsedSaid : Prop := fnExactCratesUsedRow.holds Try.pinned (OpenSpec.ofChange fnExactCratesUsedSpec)

/-- ITS FALSE NEIGHBOUR: 'it returns false'. Refute it at one input. -/
def fnExactCratesUsedWrong : ChangeSpec := { name := "fnExactCratesUsed", fn := fun _ => fun
  | [d] => { results := [.lit (.bool false)], args := [d] }
  | _ => none }
def FnExactCratesUsedWrongFalsely : Prop := fnExactCratesUsedRow.holds Try.pinned (OpenSpec.ofChange fnExactCratesUsedWrong)

/-- 'laws.FnExactReturnOrder': WHATEVER THE INPUT: true; the input reads as it did. -/
def fnExactReturnOrderSpec : ChangeSpec := { name := "fnExactReturnOrder", fn := fun _ => fun
  | [d] => { results := [.lit (.bool true)], args := [d] }
  | _ => none }
def fnExactReturnOrderRow : OpenClaim := { program := "ytfenofkjnafjcaa", sum := "b94febebffb9aaea59a9611af9d52365b42dddd894319a6604361a31a134d6b8", func := "loop.example/g03303/laws.FnExactReturnOrder", spec := "fnExactReturnOrder", unfollowed := true, recurses := true, apart := false }
def FnExactReturnOrderSaid : Prop := fnExactReturnOrderRow.holds Try.pinned (OpenSpec.ofChange fnExactReturnOrderSpec)

/-- ITS FALSE NEIGHBOUR: 'it returns false'. Refute it at one input. -/
def fnExactReturnOrderWrong : ChangeSpec := { name := "fnExactReturnOrder", fn := fun _ => fun
  | [d] => { results := [.lit (.bool false)], args := [d] }
  | _ => none }
def FnExactReturnOrderWrongFalsely : Prop := fnExactReturnOrderRow.holds Try.pinned (OpenSpec.ofChange fnExactReturnOrderWrong)

/-- 'laws.FnCrates': WHATEVER THE INPUT: true; the input reads as it did. -/
def fnCratesSpec : ChangeSpec := { name := "fnCrates", fn := fun _ => fun
  | [d] => { results := [.lit (.bool true)], args := [d] }
  | _ => none }
def fnCratesRow : OpenClaim := { program := "ytfenofkjnafjcaa", sum := "b94febebffb9aaea59a9611af9d52365b42dddd894319a6604361a31a134d6b8", func := "loop.example/g03303/laws.FnCrates", spec := "fnCrates", unfollowed := true, recurses := true, apart := false }
def FnCratesSaid : Prop := fnCratesRow.holds Try.pinned (OpenSpec.ofChange fnCratesSpec)

/-- ITS FALSE NEIGHBOUR: 'it returns false'. Refute it at one input. -/
def fnCratesWrong : ChangeSpec := { name := "fnCrates", fn := fun _ => fun
  | [d] => { results := [.lit (.bool false)], args := [d] }
  | _ => none }
def FnCratesWrongFalsely : Prop := fnCratesRow.holds Try.pinned (OpenSpec.ofChange fnCratesWrong)

/-- 'laws.FnExactPackCrates': WHATEVER THE INPUT: true; the input reads as it did. -/
def fnExactPackCratesSpec : ChangeSpec := { name := "fnExactPackCrates", fn := fun _ => fun
  | [d1, d2] => { results := [.lit (.bool true)], args := [d1, d2] }
  | _ => none }
def fnExactPackCratesRow : OpenClaim := { program := "ytfenofkjnafjcaa", sum := "b94febebffb9aaea59a9611af9d52365b42dddd894319a6604361a31a134d6b8", func := "loop.example/g03303/laws.FnExactPackCrates", spec := "fnExactPackCrates", unfollowed := true, recurses := true, apart := false }
def FnExactPackCratesSaid : Prop := fnExactPackCratesRow.holds Try.pinned (OpenSpec.ofChange fnExactPackCratesSpec)

/-- ITS FALSE NEIGHBOUR: 'it returns false'. Refute it at one input. -/
def fnExactPackCratesWrong : ChangeSpec := { name := "fnExactPackCrates", fn := fun _ => fun
  | [d1, d2] => { results := [.lit (.bool false)], args := [d1, d2] }
  | _ => none }
def FnExactPackCratesWrongFalsely : Prop := fnExactPackCratesRow.holds Try.pinned (OpenSpec.ofChange fnExactPackCratesWrong)

/- THE SECOND FORM. 'bulk': how many values and letters a reading holds, each counted each time it is reached (what is shared counts as often as it is met; a slice's spare places count too). A statement '..UptoSaid' is the law's where the arguments, and the package variables that the reading takes, are together of bulk at most 1048576: NARROWER than '..Said'. Prove '..Said' where nothing that the law and all that it calls make is longer than what came in: it says more and counts as full. Else prove '..UptoSaid'. A law counts once. -/
mutual
def uptoBulk {H : Type} : DataW H → Nat
  | .lit (.string bytes) => bytes.length + 1
  | .lit _ => 1
  | .nil => 1
  | .ptr d => uptoBulk d + 1
  | .slice elems spare => uptoBulkAll elems + uptoBulkAll spare + 1
  | .agg parts => uptoBulkAll parts + 1
  | .iface _ d => uptoBulk d + 1
  | .map entries => uptoBulkEntries entries + 1
  | .held _ => 1
def uptoBulkAll {H : Type} : List (DataW H) → Nat
  | [] => 0
  | d :: r => uptoBulk d + uptoBulkAll r
def uptoBulkEntries {H : Type} : List (Lit × DataW H) → Nat
  | [] => 0
  | x :: r => uptoBulkEntry x + uptoBulkEntries r
def uptoBulkEntry {H : Type} : Lit × DataW H → Nat
  | (.string bytes, d) => bytes.length + uptoBulk d + 1
  | (_, d) => uptoBulk d + 1
 end
def uptoSmall : (H : Type) → List (DataW H) → Bool := fun _ ds => decide (uptoBulkAll ds ≤ 1048576)
def OpenSpec.upto (s : _root_.Go.ChangeSpec) : _root_.Go.OpenSpec := { _root_.Go.OpenSpec.ofChange s with cond := some uptoSmall }

/-- 'laws.FnExactCrateBound', WHERE WHAT IT READS IS OF BULK AT MOST 1048576: true; the input reads as it did. -/
def fnExactCrateBoundUptoRow : OpenClaim := { program := "ytfenofkjnafjcaa", sum := "b94febebffb9aaea59a9611af9d52365b42dddd894319a6604361a31a134d6b8", func := "loop.example/g03303/laws.FnExactCrateBound", spec := "fnExactCrateBound", apart := false, narrowed := true }
def FnExactCrateBoundUptoSaid : Prop := fnExactCrateBoundUptoRow.holds Try.pinned (OpenSpec.upto fnExactCrateBoundSpec)

/-- 'laws.FnExactYearMinutes', WHERE WHAT IT READS IS OF BULK AT MOST 1048576: true; the input reads as it did. -/
def fnExactYearMinutesUptoRow : OpenClaim := { program := "ytfenofkjnafjcaa", sum := "b94febebffb9aaea59a9611af9d52365b42dddd894319a6604361a31a134d6b8", func := "loop.example/g03303/laws.FnExactYearMinutes", spec := "fnExactYearMinutes", apart := false, narrowed := true }
def FnExactYearMinutesUptoSaid : Prop := fnExactYearMinutesUptoRow.holds Try.pinned (OpenSpec.upto fnExactYearMinutesSpec)

/-- 'laws.FnExactBestMonth', WHERE WHAT IT READS IS OF BULK AT MOST 1048576: true; the input reads as it did. -/
def fnExactBestMonthUptoRow : OpenClaim := { program := "ytfenofkjnafjcaa", sum := "b94febebffb9aaea59a9611af9d52365b42dddd894319a6604361a31a134d6b8", func := "loop.example/g03303/laws.FnExactBestMonth", spec := "fnExactBestMonth", apart := false, narrowed := true }
def FnExactBestMonthUptoSaid : Prop := fnExactBestMonthUptoRow.holds Try.pinned (OpenSpec.upto fnExactBestMonthSpec)

/-- 'laws.FnYear', WHERE WHAT IT READS IS OF BULK AT MOST 1048576: true; the input reads as it did. -/
def fnYearUptoRow : OpenClaim := { program := "ytfenofkjnafjcaa", sum := "b94febebffb9aaea59a9611af9d52365b42dddd894319a6604361a31a134d6b8", func := "loop.example/g03303/laws.FnYear", spec := "fnYear", apart := false, narrowed := true }
def FnYearUptoSaid : Prop := fnYearUptoRow.holds Try.pinned (OpenSpec.upto fnYearSpec)

/-- 'laws.FnExactDepositsOk', WHERE WHAT IT READS IS OF BULK AT MOST 1048576: true; the input reads as it did. -/
def fnExactDepositsOkUptoRow : OpenClaim := { program := "ytfenofkjnafjcaa", sum := "b94febebffb9aaea59a9611af9d52365b42dddd894319a6604361a31a134d6b8", func := "loop.example/g03303/laws.FnExactDepositsOk", spec := "fnExactDepositsOk", unfollowed := true, recurses := true, apart := false, narrowed := true }
def FnExactDepositsOkUptoSaid : Prop := fnExactDepositsOkUptoRow.holds Try.pinned (OpenSpec.upto fnExactDepositsOkSpec)

/-- 'laws.FnExactMonthsAbove', WHERE WHAT IT READS IS OF BULK AT MOST 1048576: true; the input reads as it did. -/
def fnExactMonthsAboveUptoRow : OpenClaim := { program := "ytfenofkjnafjcaa", sum := "b94febebffb9aaea59a9611af9d52365b42dddd894319a6604361a31a134d6b8", func := "loop.example/g03303/laws.FnExactMonthsAbove", spec := "fnExactMonthsAbove", apart := false, narrowed := true }
def FnExactMonthsAboveUptoSaid : Prop := fnExactMonthsAboveUptoRow.holds Try.pinned (OpenSpec.upto fnExactMonthsAboveSpec)

/-- 'laws.FnExactCrateWeight', WHERE WHAT IT READS IS OF BULK AT MOST 1048576: true; the input reads as it did. -/
def fnExactCrateWeightUptoRow : OpenClaim := { program := "ytfenofkjnafjcaa", sum := "b94febebffb9aaea59a9611af9d52365b42dddd894319a6604361a31a134d6b8", func := "loop.example/g03303/laws.FnExactCrateWeight", spec := "fnExactCrateWeight", apart := false, narrowed := true }
def FnExactCrateWeightUptoSaid : Prop := fnExactCrateWeightUptoRow.holds Try.pinned (OpenSpec.upto fnExactCrateWeightSpec)

/-- 'laws.FnExactCrateOk', WHERE WHAT IT READS IS OF BULK AT MOST 1048576: true; the input reads as it did. -/
def fnExactCrateOkUptoRow : OpenClaim := { program := "ytfenofkjnafjcaa", sum := "b94febebffb9aaea59a9611af9d52365b42dddd894319a6604361a31a134d6b8", func := "loop.example/g03303/laws.FnExactCrateOk", spec := "fnExactCrateOk", apart := false, narrowed := true }
def FnExactCrateOkUptoSaid : Prop := fnExactCrateOkUptoRow.holds Try.pinned (OpenSpec.upto fnExactCrateOkSpec)

/-- 'laws.FnExactAddDeposit', WHERE WHAT IT READS IS OF BULK AT MOST 1048576: true; the input reads as it did. -/
def fnExactAddDepositUptoRow : OpenClaim := { program := "ytfenofkjnafjcaa", sum := "b94febebffb9aaea59a9611af9d52365b42dddd894319a6604361a31a134d6b8", func := "loop.example/g03303/laws.FnExactAddDeposit", spec := "fnExactAddDeposit", unfollowed := true, recurses := true, apart := false, narrowed := true }
def FnExactAddDepositUptoSaid : Prop := fnExactAddDepositUptoRow.holds Try.pinned (OpenSpec.upto fnExactAddDepositSpec)

/-- 'laws.FnExactTakeBack', WHERE WHAT IT READS IS OF BULK AT MOST 1048576: true; the input reads as it did. -/
def fnExactTakeBackUptoRow : OpenClaim := { program := "ytfenofkjnafjcaa", sum := "b94febebffb9aaea59a9611af9d52365b42dddd894319a6604361a31a134d6b8", func := "loop.example/g03303/laws.FnExactTakeBack", spec := "fnExactTakeBack", unfollowed := true, recurses := true, apart := false, narrowed := true }
def FnExactTakeBackUptoSaid : Prop := fnExactTakeBackUptoRow.holds Try.pinned (OpenSpec.upto fnExactTakeBackSpec)

/-- 'laws.FnExactArePacked', WHERE WHAT IT READS IS OF BULK AT MOST 1048576: true; the input reads as it did. -/
def fnExactArePackedUptoRow : OpenClaim := { program := "ytfenofkjnafjcaa", sum := "b94febebffb9aaea59a9611af9d52365b42dddd894319a6604361a31a134d6b8", func := "loop.example/g03303/laws.FnExactArePacked", spec := "fnExactArePacked", apart := false, narrowed := true }
def FnExactArePackedUptoSaid : Prop := fnExactArePackedUptoRow.holds Try.pinned (OpenSpec.upto fnExactArePackedSpec)

/-- 'laws.FnExactInCrate', WHERE WHAT IT READS IS OF BULK AT MOST 1048576: true; the input reads as it did. -/
def fnExactInCrateUptoRow : OpenClaim := { program := "ytfenofkjnafjcaa", sum := "b94febebffb9aaea59a9611af9d52365b42dddd894319a6604361a31a134d6b8", func := "loop.example/g03303/laws.FnExactInCrate", spec := "fnExactInCrate", unfollowed := true, recurses := true, apart := false, narrowed := true }
def FnExactInCrateUptoSaid : Prop := fnExactInCrateUptoRow.holds Try.pinned (OpenSpec.upto fnExactInCrateSpec)

/-- 'laws.FnDeposits', WHERE WHAT IT READS IS OF BULK AT MOST 1048576: true; the input reads as it did. -/
def fnDepositsUptoRow : OpenClaim := { program := "ytfenofkjnafjcaa", sum := "b94febebffb9aaea59a9611af9d52365b42dddd894319a6604361a31a134d6b8", func := "loop.example/g03303/laws.FnDeposits", spec := "fnDeposits", unfollowed := true, recurses := true, apart := false, narrowed := true }
def FnDepositsUptoSaid : Prop := fnDepositsUptoRow.holds Try.pinned (OpenSpec.upto fnDepositsSpec)

/-- 'laws.FnExactCratesUsed', WHERE WHAT IT READS IS OF BULK AT MOST 1048576: true; the input reads as it did. -/
def fnExactCratesUsedUptoRow : OpenClaim := { program := "ytfenofkjnafjcaa", sum := "b94febebffb9aaea59a9611af9d52365b42dddd894319a6604361a31a134d6b8", func := "loop.example/g03303/laws.FnExactCratesUsed", spec := "fnExactCratesUsed", unfollowed := true, recurses := true, apart := false, narrowed := true }
def FnExactCratesUsedUptoSaid : Prop := fnExactCratesUsedUptoRow.holds Try.pinned (OpenSpec.upto fnExactCratesUsedSpec)

/-- 'laws.FnExactReturnOrder', WHERE WHAT IT READS IS OF BULK AT MOST 1048576: true; the input reads as it did. -/
def fnExactReturnOrderUptoRow : OpenClaim := { program := "ytfenofkjnafjcaa", sum := "b94febebffb9aaea59a9611af9d52365b42dddd894319a6604361a31a134d6b8", func := "loop.example/g03303/laws.FnExactReturnOrder", spec := "fnExactReturnOrder", unfollowed := true, recurses := true, apart := false, narrowed := true }
def FnExactReturnOrderUptoSaid : Prop := fnExactReturnOrderUptoRow.holds Try.pinned (OpenSpec.upto fnExactReturnOrderSpec)

/-- 'laws.FnCrates', WHERE WHAT IT READS IS OF BULK AT MOST 1048576: true; the input reads as it did. -/
def fnCratesUptoRow : OpenClaim := { program := "ytfenofkjnafjcaa", sum := "b94febebffb9aaea59a9611af9d52365b42dddd894319a6604361a31a134d6b8", func := "loop.example/g03303/laws.FnCrates", spec := "fnCrates", unfollowed := true, recurses := true, apart := false, narrowed := true }
def FnCratesUptoSaid : Prop := fnCratesUptoRow.holds Try.pinned (OpenSpec.upto fnCratesSpec)

/-- 'laws.FnExactPackCrates', WHERE WHAT IT READS IS OF BULK AT MOST 1048576: true; the input reads as it did. -/
def fnExactPackCratesUptoRow : OpenClaim := { program := "ytfenofkjnafjcaa", sum := "b94febebffb9aaea59a9611af9d52365b42dddd894319a6604361a31a134d6b8", func := "loop.example/g03303/laws.FnExactPackCrates", spec := "fnExactPackCrates", unfollowed := true, recurses := true, apart := false, narrowed := true }
def FnExactPackCratesUptoSaid : Prop := fnExactPackCratesUptoRow.holds Try.pinned (OpenSpec.upto fnExactPackCratesSpec)

end Rows
end Go.Proofs.Ytfenofkjnafjcaa
