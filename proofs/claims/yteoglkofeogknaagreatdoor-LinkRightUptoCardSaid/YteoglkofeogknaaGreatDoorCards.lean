/-
  DERIVED. GIVEN WITH THE SEED: THE CARDS: each row of YteoglkofeogknaaGreatDoorRows.lean that lists a variable, with what it lists TIED to the program's text (the seventh form; the later family's looks); each row that meets fmt, with fmt's text TOLD by the authors' own Lean function (tested against real Go, not proved from fmt's source: count such statements apart). THE CARD IS WHAT COUNTS. Prove the row's statement (the work); the ties are given (YteoglkofeogknaaGreatDoorTie.lean); close each card by the builder's one call (the guide's Derived/Test/ToyasCard.lean, 'card_holds'). Laid BY PROGRAM, IN A SANDBOX (cutbox-door.mjs). By AI agents, Wed Nov 11 2026. No macro, syntax, notation, axiom, sorry.
-/
import Derived.Test.YteoglkofeogknaaGreatDoorRows
import GoSem.ClaimSeven
namespace Go.Proofs.YteoglkofeogknaaGreatDoor
namespace Rows

/-- THE TIED CARD OF 'catapultlaw06.LinkNears'. -/
def linkNearsCard : Claim7 := { stood := { row := linkNearsRow, standIns := [], harness := (true, "6ce5c0235b9fc6a18eb689815cde5dc5faff3d25d4b11ef7d1c0599e1e8871b5"), looks := false }, kinds := [], alts := [], laidByText := true, laidKinds := [.data, .widerDeep, .pinned], laidTests := true, laidLooks := .later }
def LinkNearsCardSaid : Prop := Claim7.holds Tryz.pinned (.plain (OpenSpec.ofChange linkNearsSpec)) linkNearsCard

/-- THE TIED CARD OF 'catapultlaw06.LinkRight'. -/
def linkRightCard : Claim7 := { stood := { row := linkRightRow, standIns := [], harness := (true, "6ce5c0235b9fc6a18eb689815cde5dc5faff3d25d4b11ef7d1c0599e1e8871b5"), looks := false }, kinds := [], alts := [], laidByText := true, laidKinds := [.data, .widerDeep, .pinned], laidTests := true, laidLooks := .later }
def LinkRightCardSaid : Prop := Claim7.holds Tryz.pinned (.plain (OpenSpec.ofChange linkRightSpec)) linkRightCard

/-- THE SECOND FORM's CARD OF 'catapultlaw06.LinkNears'. -/
def linkNearsUptoCard : Claim7 := { stood := { row := linkNearsUptoRow, standIns := [], harness := (true, "6ce5c0235b9fc6a18eb689815cde5dc5faff3d25d4b11ef7d1c0599e1e8871b5"), looks := false }, kinds := [], alts := [], laidByText := true, laidKinds := [.data, .widerDeep, .pinned], laidTests := true, laidLooks := .later }
def LinkNearsUptoCardSaid : Prop := Claim7.holds Tryz.pinned (.plain (OpenSpec.upto linkNearsSpec)) linkNearsUptoCard

/-- THE SECOND FORM's CARD OF 'catapultlaw06.LinkRight'. -/
def linkRightUptoCard : Claim7 := { stood := { row := linkRightUptoRow, standIns := [], harness := (true, "6ce5c0235b9fc6a18eb689815cde5dc5faff3d25d4b11ef7d1c0599e1e8871b5"), looks := false }, kinds := [], alts := [], laidByText := true, laidKinds := [.data, .widerDeep, .pinned], laidTests := true, laidLooks := .later }
def LinkRightUptoCardSaid : Prop := Claim7.holds Tryz.pinned (.plain (OpenSpec.upto linkRightSpec)) linkRightUptoCard
end Rows
end Go.Proofs.YteoglkofeogknaaGreatDoor
