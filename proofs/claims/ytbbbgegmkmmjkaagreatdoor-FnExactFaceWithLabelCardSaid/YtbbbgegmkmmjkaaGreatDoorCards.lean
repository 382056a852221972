/-
  DERIVED. GIVEN WITH THE SEED: THE CARDS: each row of YtbbbgegmkmmjkaaGreatDoorRows.lean that lists a variable, with what it lists TIED to the program's text (the seventh form; the later family's looks); each row that meets fmt, with fmt's text TOLD by the authors' own Lean function (tested against real Go, not proved from fmt's source: count such statements apart). THE CARD IS WHAT COUNTS. Prove the row's statement (the work); the ties are given (YtbbbgegmkmmjkaaGreatDoorTie.lean); close each card by the builder's one call (the guide's Derived/Test/ToyasCard.lean, 'card_holds'). Laid BY PROGRAM, IN A SANDBOX (cutbox-door.mjs). By AI agents, Wed Nov 11 2026. No macro, syntax, notation, axiom, sorry.
-/
import Derived.Test.YtbbbgegmkmmjkaaGreatDoorRows
import GoSem.ClaimSeven
namespace Go.Proofs.YtbbbgegmkmmjkaaGreatDoor
namespace Rows

/-- THE TIED CARD OF 'laws.FnExactFaceWithLabel'. -/
def fnExactFaceWithLabelCard : Claim7 := { stood := { row := fnExactFaceWithLabelRow, standIns := [], harness := (true, "b63eaaa185db7636998f30c76430f5fb80887c9ef634e044408e6b28c009e001"), looks := false }, kinds := [], alts := [], laidByText := true, laidKinds := [.data, .data, .data], laidTests := true, laidLooks := .later }
def FnExactFaceWithLabelCardSaid : Prop := Claim7.holds Tryz.pinned (.plain (OpenSpec.ofChange fnExactFaceWithLabelSpec)) fnExactFaceWithLabelCard

/-- THE TIED CARD OF 'laws.FnExactLabelOf'. -/
def fnExactLabelOfCard : Claim7 := { stood := { row := fnExactLabelOfRow, standIns := [], harness := (true, "b63eaaa185db7636998f30c76430f5fb80887c9ef634e044408e6b28c009e001"), looks := false }, kinds := [], alts := [], laidByText := true, laidKinds := [.data, .data, .data], laidTests := true, laidLooks := .later }
def FnExactLabelOfCardSaid : Prop := Claim7.holds Tryz.pinned (.plain (OpenSpec.ofChange fnExactLabelOfSpec)) fnExactLabelOfCard

/-- THE SECOND FORM's CARD OF 'laws.FnExactFaceWithLabel'. -/
def fnExactFaceWithLabelUptoCard : Claim7 := { stood := { row := fnExactFaceWithLabelUptoRow, standIns := [], harness := (true, "b63eaaa185db7636998f30c76430f5fb80887c9ef634e044408e6b28c009e001"), looks := false }, kinds := [], alts := [], laidByText := true, laidKinds := [.data, .data, .data], laidTests := true, laidLooks := .later }
def FnExactFaceWithLabelUptoCardSaid : Prop := Claim7.holds Tryz.pinned (.plain (OpenSpec.upto fnExactFaceWithLabelSpec)) fnExactFaceWithLabelUptoCard

/-- THE SECOND FORM's CARD OF 'laws.FnExactLabelOf'. -/
def fnExactLabelOfUptoCard : Claim7 := { stood := { row := fnExactLabelOfUptoRow, standIns := [], harness := (true, "b63eaaa185db7636998f30c76430f5fb80887c9ef634e044408e6b28c009e001"), looks := false }, kinds := [], alts := [], laidByText := true, laidKinds := [.data, .data, .data], laidTests := true, laidLooks := .later }
def FnExactLabelOfUptoCardSaid : Prop := Claim7.holds Tryz.pinned (.plain (OpenSpec.upto fnExactLabelOfSpec)) fnExactLabelOfUptoCard
end Rows
end Go.Proofs.YtbbbgegmkmmjkaaGreatDoor
