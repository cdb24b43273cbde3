/-
  DERIVED. GIVEN WITH THE SEED: THE CARDS: each row of YtihllmhdjbomjaaGreatDoorRows.lean that lists a variable, with what it lists TIED to the program's text (the seventh form; the later family's looks); each row that meets fmt, with fmt's text TOLD by the authors' own Lean function (tested against real Go, not proved from fmt's source: count such statements apart). THE CARD IS WHAT COUNTS. Prove the row's statement (the work); the ties are given (YtihllmhdjbomjaaGreatDoorTie.lean); close each card by the builder's one call (the guide's Derived/Test/ToyasCard.lean, 'card_holds'). Laid BY PROGRAM, IN A SANDBOX (cutbox-door.mjs). By AI agents, Wed Nov 11 2026. No macro, syntax, notation, axiom, sorry.
-/
import Derived.Test.YtihllmhdjbomjaaGreatDoorRows
import GoSem.ClaimSeven
namespace Go.Proofs.YtihllmhdjbomjaaGreatDoor
namespace Rows

/-- THE TIED CARD OF 'frisketlaw23.BracketsJoin'. -/
def bracketsJoinCard : Claim7 := { stood := { row := bracketsJoinRow, standIns := [], harness := (true, "4a004f14b04697853955b1ab4d3e53c5802f3cbf093281ce989ca87997ec12bc"), looks := true }, kinds := [], alts := [], laidByText := true, laidKinds := [.data, .data, .data, .data, .pinned], laidTests := true, laidLooks := .later }
def BracketsJoinCardSaid : Prop := Claim7.holds Tryz.pinned (.plain (OpenSpec.ofChange bracketsJoinSpec)) bracketsJoinCard

/-- THE TIED CARD OF 'frisketlaw20.TreeNone'. -/
def treeNoneCard : Claim7 := { stood := { row := treeNoneRow, standIns := [], harness := (true, "4a004f14b04697853955b1ab4d3e53c5802f3cbf093281ce989ca87997ec12bc"), looks := true }, kinds := [], alts := [], laidByText := true, laidKinds := [.data, .data, .data, .data, .pinned], laidTests := true, laidLooks := .later }
def TreeNoneCardSaid : Prop := Claim7.holds Tryz.pinned (.plain (OpenSpec.ofChange treeNoneSpec)) treeNoneCard

/-- THE TIED CARD OF 'frisketlaw22.ShapeNone'. -/
def shapeNoneCard : Claim7 := { stood := { row := shapeNoneRow, standIns := [], harness := (true, "4a004f14b04697853955b1ab4d3e53c5802f3cbf093281ce989ca87997ec12bc"), looks := true }, kinds := [], alts := [], laidByText := true, laidKinds := [.data, .data, .data, .data, .pinned], laidTests := true, laidLooks := .later }
def ShapeNoneCardSaid : Prop := Claim7.holds Tryz.pinned (.plain (OpenSpec.ofChange shapeNoneSpec)) shapeNoneCard

/-- THE SECOND FORM's CARD OF 'frisketlaw23.BracketsJoin'. -/
def bracketsJoinUptoCard : Claim7 := { stood := { row := bracketsJoinUptoRow, standIns := [], harness := (true, "4a004f14b04697853955b1ab4d3e53c5802f3cbf093281ce989ca87997ec12bc"), looks := true }, kinds := [], alts := [], laidByText := true, laidKinds := [.data, .data, .data, .data, .pinned], laidTests := true, laidLooks := .later }
def BracketsJoinUptoCardSaid : Prop := Claim7.holds Tryz.pinned (.plain (OpenSpec.upto bracketsJoinSpec)) bracketsJoinUptoCard

/-- THE SECOND FORM's CARD OF 'frisketlaw20.TreeNone'. -/
def treeNoneUptoCard : Claim7 := { stood := { row := treeNoneUptoRow, standIns := [], harness := (true, "4a004f14b04697853955b1ab4d3e53c5802f3cbf093281ce989ca87997ec12bc"), looks := true }, kinds := [], alts := [], laidByText := true, laidKinds := [.data, .data, .data, .data, .pinned], laidTests := true, laidLooks := .later }
def TreeNoneUptoCardSaid : Prop := Claim7.holds Tryz.pinned (.plain (OpenSpec.upto treeNoneSpec)) treeNoneUptoCard

/-- THE SECOND FORM's CARD OF 'frisketlaw22.ShapeNone'. -/
def shapeNoneUptoCard : Claim7 := { stood := { row := shapeNoneUptoRow, standIns := [], harness := (true, "4a004f14b04697853955b1ab4d3e53c5802f3cbf093281ce989ca87997ec12bc"), looks := true }, kinds := [], alts := [], laidByText := true, laidKinds := [.data, .data, .data, .data, .pinned], laidTests := true, laidLooks := .later }
def ShapeNoneUptoCardSaid : Prop := Claim7.holds Tryz.pinned (.plain (OpenSpec.upto shapeNoneSpec)) shapeNoneUptoCard
end Rows
end Go.Proofs.YtihllmhdjbomjaaGreatDoor
