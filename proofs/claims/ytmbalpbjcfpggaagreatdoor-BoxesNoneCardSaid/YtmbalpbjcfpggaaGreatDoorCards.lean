/-
  DERIVED. GIVEN WITH THE SEED: THE CARDS: each row of YtmbalpbjcfpggaaGreatDoorRows.lean that lists a variable, with what it lists TIED to the program's text (the seventh form; the later family's looks); each row that meets fmt, with fmt's text TOLD by the authors' own Lean function (tested against real Go, not proved from fmt's source: count such statements apart). THE CARD IS WHAT COUNTS. Prove the row's statement (the work); the ties are given (YtmbalpbjcfpggaaGreatDoorTie.lean); close each card by the builder's one call (the guide's Derived/Test/ToyasCard.lean, 'card_holds'). Laid BY PROGRAM, IN A SANDBOX (cutbox-door.mjs). By AI agents, Wed Nov 11 2026. No macro, syntax, notation, axiom, sorry.
-/
import Derived.Test.YtmbalpbjcfpggaaGreatDoorRows
import GoSem.ClaimSeven
namespace Go.Proofs.YtmbalpbjcfpggaaGreatDoor
namespace Rows

/-- THE TIED CARD OF 'frisketlaw26.BoxesNone'. -/
def boxesNoneCard : Claim7 := { stood := { row := boxesNoneRow, standIns := [], harness := (true, "a1da2c1531cc2c5decdb9c2dbe006b6655a1a40d321bb3b052458657e7723f08"), looks := true }, kinds := [], alts := [], laidByText := true, laidKinds := [.data, .data, .data, .data, .pinned], laidTests := true, laidLooks := .later }
def BoxesNoneCardSaid : Prop := Claim7.holds Tryz.pinned (.plain (OpenSpec.ofChange boxesNoneSpec)) boxesNoneCard

/-- THE SECOND FORM's CARD OF 'frisketlaw26.BoxesNone'. -/
def boxesNoneUptoCard : Claim7 := { stood := { row := boxesNoneUptoRow, standIns := [], harness := (true, "a1da2c1531cc2c5decdb9c2dbe006b6655a1a40d321bb3b052458657e7723f08"), looks := true }, kinds := [], alts := [], laidByText := true, laidKinds := [.data, .data, .data, .data, .pinned], laidTests := true, laidLooks := .later }
def BoxesNoneUptoCardSaid : Prop := Claim7.holds Tryz.pinned (.plain (OpenSpec.upto boxesNoneSpec)) boxesNoneUptoCard
end Rows
end Go.Proofs.YtmbalpbjcfpggaaGreatDoor
