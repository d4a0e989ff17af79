/-
  DERIVED. GIVEN WITH THE SEED: THE CARDS: each row of YtggmkofbikafhaaGreatDoorRows.lean that lists a variable, with what it lists TIED to the program's text (the seventh form; the later family's looks); each row that meets fmt, with fmt's text TOLD by the authors' own Lean function (tested against real Go, not proved from fmt's source: count such statements apart). THE CARD IS WHAT COUNTS. Prove the row's statement (the work); the ties are given (YtggmkofbikafhaaGreatDoorTie.lean); close each card by the builder's one call (the guide's Derived/Test/ToyasCard.lean, 'card_holds'). Laid BY PROGRAM, IN A SANDBOX (cutbox-door.mjs). By AI agents, Wed Nov 11 2026. No macro, syntax, notation, axiom, sorry.
-/
import Derived.Test.YtggmkofbikafhaaGreatDoorRows
import GoSem.ClaimSeven
namespace Go.Proofs.YtggmkofbikafhaaGreatDoor
namespace Rows

/-- THE TIED CARD OF 'catapultlaw25.FramePrologue'. -/
def framePrologueCard : Claim7 := { stood := { row := framePrologueRow, standIns := [], harness := (true, "a4857aad3bbfe38c18e10dffcc4b3d6a975c7af219a27938bccaa3aef01734f5"), looks := false }, kinds := [], alts := [], laidByText := true, laidKinds := [.data, .data, .data, .widerDeep], laidTests := true, laidLooks := .later }
def FramePrologueCardSaid : Prop := Claim7.holds Tryz.pinned (.plain (OpenSpec.ofChange framePrologueSpec)) framePrologueCard

/-- THE SECOND FORM's CARD OF 'catapultlaw25.FramePrologue'. -/
def framePrologueUptoCard : Claim7 := { stood := { row := framePrologueUptoRow, standIns := [], harness := (true, "a4857aad3bbfe38c18e10dffcc4b3d6a975c7af219a27938bccaa3aef01734f5"), looks := false }, kinds := [], alts := [], laidByText := true, laidKinds := [.data, .data, .data, .widerDeep], laidTests := true, laidLooks := .later }
def FramePrologueUptoCardSaid : Prop := Claim7.holds Tryz.pinned (.plain (OpenSpec.upto framePrologueSpec)) framePrologueUptoCard
end Rows
end Go.Proofs.YtggmkofbikafhaaGreatDoor
