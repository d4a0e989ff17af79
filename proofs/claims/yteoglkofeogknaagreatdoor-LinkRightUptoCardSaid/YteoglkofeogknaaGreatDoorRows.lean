/-
  NARROWER THAN 'FOR EVERY INPUT', by the rows' own cells (each row's printed sentence says how): LinkNears: laid · LinkRight: laid.
  DERIVED. THE GIVEN ROWS OF THIS SEAT. 2 by the template 'for every input the law returns true; each argument reads behind the call as it read before'; 0 by the template 'total and deterministic' (their statements: YteoglkofeogknaaGreatDoorTotals.lean).
  GIVEN WITH THE SEED: the statements are not yours to turn. If you find one false, say at which input.
  Laid BY PROGRAM, IN A SANDBOX (cutbox-rows.mjs): the forced cells as the released guide's own fill.sh prints them over the translation d0502c9cca453ac7… (all of the seat's roots in one cut). By AI agents, Wed Nov 11 2026. No macro, syntax, notation, axiom, sorry.
-/
import Derived.Test.YteoglkofeogknaaGreatDoorChecked
import GoSem.PinnedTables
import GoSem.Claim
import GoSem.ClaimJoined
import GoSem.ClaimMapViews
import Derived.JoinedTies
import Derived.KernelRfl
namespace Go.Proofs.YteoglkofeogknaaGreatDoor
/- THE CELL 'sum', in the pinned program and in every row, IS THE sha256 OF THE DUMP (.gsa) THAT YteoglkofeogknaaGreatDoorProg.lean LOADS. Nothing in Lean hashes anything: it is a label: what it is worth is what the hold of that sum in a sandbox is worth. -/
noncomputable def Tryz.pinned : Pinned := { name := "yteoglkofeogknaagreatdoor", sum := "d0502c9cca453ac7f09757cece1b2206644116637a4374286eb93b83c66531ec", checked := Tryz.checked }
namespace Rows
def none {H : Type} : Left H := { results := [], args := [] }

/- WHAT THE LISTED PACKAGE-LEVEL VARIABLES READ AS WHEN THE CALL BEGINS. Each datum BY PROGRAM (the guide's laid-datum.mjs) off the statement by which the dump's own 'gosem.cut.vars' lays the variable. In a bare row this is a premise. The card (YteoglkofeogknaaGreatDoorCards.lean) ties it to the program's text. -/
def laid_unicode_utf8_acceptRanges {H : Type} : DataW H := .agg [.agg [.lit (.int .u8 128), .lit (.int .u8 191)], .agg [.lit (.int .u8 160), .lit (.int .u8 191)], .agg [.lit (.int .u8 128), .lit (.int .u8 159)], .agg [.lit (.int .u8 144), .lit (.int .u8 191)], .agg [.lit (.int .u8 128), .lit (.int .u8 143)], .agg [.lit (.int .u8 0), .lit (.int .u8 0)], .agg [.lit (.int .u8 0), .lit (.int .u8 0)], .agg [.lit (.int .u8 0), .lit (.int .u8 0)], .agg [.lit (.int .u8 0), .lit (.int .u8 0)], .agg [.lit (.int .u8 0), .lit (.int .u8 0)], .agg [.lit (.int .u8 0), .lit (.int .u8 0)], .agg [.lit (.int .u8 0), .lit (.int .u8 0)], .agg [.lit (.int .u8 0), .lit (.int .u8 0)], .agg [.lit (.int .u8 0), .lit (.int .u8 0)], .agg [.lit (.int .u8 0), .lit (.int .u8 0)], .agg [.lit (.int .u8 0), .lit (.int .u8 0)]]
def laid_catapult_asm_operations {H : Type} : DataW H := .agg [.lit (.string [97, 100, 100]), .lit (.string [115, 117, 98]), .lit (.string [109, 117, 108]), .lit (.string [100, 105, 118]), .lit (.string [100, 105, 118, 117]), .lit (.string [114, 101, 109]), .lit (.string [114, 101, 109, 117]), .lit (.string [97, 110, 100]), .lit (.string [111, 114]), .lit (.string [120, 111, 114]), .lit (.string [115, 104, 108]), .lit (.string [115, 104, 114]), .lit (.string [115, 104, 114, 117]), .lit (.string [108, 116]), .lit (.string [108, 116, 117]), .lit (.string [101, 113]), .lit (.string [110, 101]), .lit (.string [97, 100, 100, 105]), .lit (.string [97, 110, 100, 105]), .lit (.string [111, 114, 105]), .lit (.string [120, 111, 114, 105]), .lit (.string [115, 104, 108, 105]), .lit (.string [115, 104, 114, 105]), .lit (.string [115, 104, 114, 117, 105]), .lit (.string [108, 105]), .lit (.string [108, 117, 105]), .lit (.string [101, 120, 116]), .lit (.string [108, 119]), .lit (.string [108, 104]), .lit (.string [108, 98]), .lit (.string [115, 119]), .lit (.string [115, 104]), .lit (.string [115, 98]), .lit (.string [98, 122]), .lit (.string [98, 110, 122]), .lit (.string [98, 108, 117]), .lit (.string [106, 117, 109, 112]), .lit (.string [99, 97, 108, 108]), .lit (.string [114, 101, 103]), .lit (.string [99, 97, 108, 108, 114]), .lit (.string [115, 121, 115]), .lit (.string [116, 114, 97, 112])]
/-- One of Go's own tables, pinned by name: the form's constant. -/
def laid_unicode_utf8_first : DataW Unit := Go.Pinned.utf8First

/-- 'catapultlaw06.LinkNears': WHATEVER THE INPUT: true; the input reads as it did. -/
def linkNearsSpec : ChangeSpec := { name := "linkNears", fn := fun _ => fun
  | [d1, d2] => { results := [.lit (.bool true)], args := [d1, d2] }
  | _ => none }
def linkNearsRow : OpenClaim := { program := "yteoglkofeogknaagreatdoor", sum := "d0502c9cca453ac7f09757cece1b2206644116637a4374286eb93b83c66531ec", func := "catapult/catapultlaw06.LinkNears", spec := "linkNears", inPlace := ["internal/bytealg.IndexByteString", "internal/bytealg.IndexString"], unfollowed := true, recurses := true, named := ["unicode/utf8.first", "unicode/utf8.acceptRanges", "catapult/asm.operations", "internal/bytealg.MaxLen"], apart := false, laid := [("unicode/utf8.acceptRanges", laid_unicode_utf8_acceptRanges), ("catapult/asm.operations", laid_catapult_asm_operations), ("unicode/utf8.first", laid_unicode_utf8_first)] }
def LinkNearsSaid : Prop := linkNearsRow.holds Tryz.pinned (OpenSpec.ofChange linkNearsSpec)

/-- ITS FALSE NEIGHBOUR: 'it returns false'. Refute it at one input. -/
def linkNearsWrong : ChangeSpec := { name := "linkNears", fn := fun _ => fun
  | [d1, d2] => { results := [.lit (.bool false)], args := [d1, d2] }
  | _ => none }
def LinkNearsWrongFalsely : Prop := linkNearsRow.holds Tryz.pinned (OpenSpec.ofChange linkNearsWrong)

/-- 'catapultlaw06.LinkRight': WHATEVER THE INPUT: true; the input reads as it did. -/
def linkRightSpec : ChangeSpec := { name := "linkRight", fn := fun _ => fun
  | [d1, d2, d3] => { results := [.lit (.bool true)], args := [d1, d2, d3] }
  | _ => none }
def linkRightRow : OpenClaim := { program := "yteoglkofeogknaagreatdoor", sum := "d0502c9cca453ac7f09757cece1b2206644116637a4374286eb93b83c66531ec", func := "catapult/catapultlaw06.LinkRight", spec := "linkRight", inPlace := ["internal/bytealg.IndexByteString", "internal/bytealg.IndexString"], unfollowed := true, recurses := true, named := ["unicode/utf8.first", "unicode/utf8.acceptRanges", "catapult/asm.operations", "internal/bytealg.MaxLen"], apart := false, laid := [("unicode/utf8.acceptRanges", laid_unicode_utf8_acceptRanges), ("catapult/asm.operations", laid_catapult_asm_operations), ("unicode/utf8.first", laid_unicode_utf8_first)] }
def LinkRightSaid : Prop := linkRightRow.holds Tryz.pinned (OpenSpec.ofChange linkRightSpec)

/-- ITS FALSE NEIGHBOUR: 'it returns false'. Refute it at one input. -/
def linkRightWrong : ChangeSpec := { name := "linkRight", fn := fun _ => fun
  | [d1, d2, d3] => { results := [.lit (.bool false)], args := [d1, d2, d3] }
  | _ => none }
def LinkRightWrongFalsely : Prop := linkRightRow.holds Tryz.pinned (OpenSpec.ofChange linkRightWrong)

/- THE SECOND FORM. 'bulk': how many values and letters a reading holds, each counted each time it is reached (what is shared counts as often as it is met; a slice's spare places count too). A statement '..UptoSaid' is the law's where the arguments, and the package variables that the reading takes, are together of bulk at most 1048576: NARROWER than '..Said'. Prove '..Said' where nothing that the law and all that it calls make is longer than what came in: it says more and counts as full. Else prove '..UptoSaid'. A law counts once. -/
mutual
def uptoBulk {H : Type} : DataW H → Nat
  | .lit (.string bytes) => bytes.length + 1
  | .lit _ => 1
  | .nil => 1
  | .ptr d => uptoBulk d + 1
  | .slice elems spare => uptoBulkAll elems + uptoBulkAll spare + 1
  | .agg parts => uptoBulkAll parts + 1
  | .iface _ d => uptoBulk d + 1
  | .map entries => uptoBulkEntries entries + 1
  | .held _ => 1
def uptoBulkAll {H : Type} : List (DataW H) → Nat
  | [] => 0
  | d :: r => uptoBulk d + uptoBulkAll r
def uptoBulkEntries {H : Type} : List (Lit × DataW H) → Nat
  | [] => 0
  | x :: r => uptoBulkEntry x + uptoBulkEntries r
def uptoBulkEntry {H : Type} : Lit × DataW H → Nat
  | (.string bytes, d) => bytes.length + uptoBulk d + 1
  | (_, d) => uptoBulk d + 1
 end
def uptoSmall : (H : Type) → List (DataW H) → Bool := fun _ ds => decide (uptoBulkAll ds ≤ 1048576)
def OpenSpec.upto (s : _root_.Go.ChangeSpec) : _root_.Go.OpenSpec := { _root_.Go.OpenSpec.ofChange s with cond := some uptoSmall }

/-- 'catapultlaw06.LinkNears', WHERE WHAT IT READS IS OF BULK AT MOST 1048576: true; the input reads as it did. -/
def linkNearsUptoRow : OpenClaim := { program := "yteoglkofeogknaagreatdoor", sum := "d0502c9cca453ac7f09757cece1b2206644116637a4374286eb93b83c66531ec", func := "catapult/catapultlaw06.LinkNears", spec := "linkNears", inPlace := ["internal/bytealg.IndexByteString", "internal/bytealg.IndexString"], unfollowed := true, recurses := true, named := ["unicode/utf8.first", "unicode/utf8.acceptRanges", "catapult/asm.operations", "internal/bytealg.MaxLen"], apart := false, laid := [("unicode/utf8.acceptRanges", laid_unicode_utf8_acceptRanges), ("catapult/asm.operations", laid_catapult_asm_operations), ("unicode/utf8.first", laid_unicode_utf8_first)], narrowed := true }
def LinkNearsUptoSaid : Prop := linkNearsUptoRow.holds Tryz.pinned (OpenSpec.upto linkNearsSpec)

/-- 'catapultlaw06.LinkRight', WHERE WHAT IT READS IS OF BULK AT MOST 1048576: true; the input reads as it did. -/
def linkRightUptoRow : OpenClaim := { program := "yteoglkofeogknaagreatdoor", sum := "d0502c9cca453ac7f09757cece1b2206644116637a4374286eb93b83c66531ec", func := "catapult/catapultlaw06.LinkRight", spec := "linkRight", inPlace := ["internal/bytealg.IndexByteString", "internal/bytealg.IndexString"], unfollowed := true, recurses := true, named := ["unicode/utf8.first", "unicode/utf8.acceptRanges", "catapult/asm.operations", "internal/bytealg.MaxLen"], apart := false, laid := [("unicode/utf8.acceptRanges", laid_unicode_utf8_acceptRanges), ("catapult/asm.operations", laid_catapult_asm_operations), ("unicode/utf8.first", laid_unicode_utf8_first)], narrowed := true }
def LinkRightUptoSaid : Prop := linkRightUptoRow.holds Tryz.pinned (OpenSpec.upto linkRightSpec)

end Rows
end Go.Proofs.YteoglkofeogknaaGreatDoor
