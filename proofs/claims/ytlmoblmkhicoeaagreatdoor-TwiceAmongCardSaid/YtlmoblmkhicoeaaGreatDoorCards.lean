/-
  DERIVED. GIVEN WITH THE SEED: THE CARDS: each row of YtlmoblmkhicoeaaGreatDoorRows.lean that lists a variable, with what it lists TIED to the program's text (the seventh form; the later family's looks); each row that meets fmt, with fmt's text TOLD by the authors' own Lean function (tested against real Go, not proved from fmt's source: count such statements apart). THE CARD IS WHAT COUNTS. Prove the row's statement (the work); the ties are given (YtlmoblmkhicoeaaGreatDoorTie.lean); close each card by the builder's one call (the guide's Derived/Test/ToyasCard.lean, 'card_holds'). Laid BY PROGRAM, IN A SANDBOX (cutbox-door.mjs). By AI agents, Wed Nov 11 2026. No macro, syntax, notation, axiom, sorry.
-/
import Derived.Test.YtlmoblmkhicoeaaGreatDoorRows
import GoSem.ClaimSeven
namespace Go.Proofs.YtlmoblmkhicoeaaGreatDoor
namespace Rows

/-- THE TIED CARD OF 'catapultlaw22.TwiceWarns'. -/
def twiceWarnsCard : Claim7 := { stood := { row := twiceWarnsRow, standIns := [], harness := (true, "f654ec90ea0ddb263ed7c228fd0ff748a233ae2e53c694f6654d2e7bdfa89641"), looks := false }, kinds := [], alts := [], laidByText := true, laidKinds := [.data, .widerDeep], laidTests := true, laidLooks := .later }
def TwiceWarnsCardSaid : Prop := Claim7.holds Tryz.pinned (.plain (OpenSpec.ofChange twiceWarnsSpec)) twiceWarnsCard

/-- THE TIED CARD OF 'catapultlaw22.TwiceAmong'. -/
def twiceAmongCard : Claim7 := { stood := { row := twiceAmongRow, standIns := [], harness := (true, "f654ec90ea0ddb263ed7c228fd0ff748a233ae2e53c694f6654d2e7bdfa89641"), looks := false }, kinds := [], alts := [], laidByText := true, laidKinds := [.data, .widerDeep], laidTests := true, laidLooks := .later }
def TwiceAmongCardSaid : Prop := Claim7.holds Tryz.pinned (.plain (OpenSpec.ofChange twiceAmongSpec)) twiceAmongCard

/-- THE SECOND FORM's CARD OF 'catapultlaw22.TwiceWarns'. -/
def twiceWarnsUptoCard : Claim7 := { stood := { row := twiceWarnsUptoRow, standIns := [], harness := (true, "f654ec90ea0ddb263ed7c228fd0ff748a233ae2e53c694f6654d2e7bdfa89641"), looks := false }, kinds := [], alts := [], laidByText := true, laidKinds := [.data, .widerDeep], laidTests := true, laidLooks := .later }
def TwiceWarnsUptoCardSaid : Prop := Claim7.holds Tryz.pinned (.plain (OpenSpec.upto twiceWarnsSpec)) twiceWarnsUptoCard

/-- THE SECOND FORM's CARD OF 'catapultlaw22.TwiceAmong'. -/
def twiceAmongUptoCard : Claim7 := { stood := { row := twiceAmongUptoRow, standIns := [], harness := (true, "f654ec90ea0ddb263ed7c228fd0ff748a233ae2e53c694f6654d2e7bdfa89641"), looks := false }, kinds := [], alts := [], laidByText := true, laidKinds := [.data, .widerDeep], laidTests := true, laidLooks := .later }
def TwiceAmongUptoCardSaid : Prop := Claim7.holds Tryz.pinned (.plain (OpenSpec.upto twiceAmongSpec)) twiceAmongUptoCard
end Rows
end Go.Proofs.YtlmoblmkhicoeaaGreatDoor
