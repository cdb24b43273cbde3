/-
  DERIVED. GIVEN WITH THE SEED: THE CARDS: each row of YtjcelcnlndahpaaGreatDoorRows.lean that lists a variable, with what it lists TIED to the program's text (the seventh form; the later family's looks); each row that meets fmt, with fmt's text TOLD by the authors' own Lean function (tested against real Go, not proved from fmt's source: count such statements apart). THE CARD IS WHAT COUNTS. Prove the row's statement (the work); the ties are given (YtjcelcnlndahpaaGreatDoorTie.lean); close each card by the builder's one call (the guide's Derived/Test/ToyasCard.lean, 'card_holds'). Laid BY PROGRAM, IN A SANDBOX (cutbox-door.mjs). By AI agents, Wed Nov 11 2026. No macro, syntax, notation, axiom, sorry.
-/
import Derived.Test.YtjcelcnlndahpaaGreatDoorRows
import GoSem.ClaimSeven
namespace Go.Proofs.YtjcelcnlndahpaaGreatDoor
namespace Rows

/-- THE TIED CARD OF 'frisketlaw28.TriviaFinds'. -/
def triviaFindsCard : Claim7 := { stood := { row := triviaFindsRow, standIns := [], harness := (true, "87982dcd480e58d9868d4be2ccd03e8a9284f837cef139f0986ec50f9114c978"), looks := true }, kinds := [], alts := [], laidByText := true, laidKinds := [.data, .pinned], laidTests := true, laidLooks := .later }
def TriviaFindsCardSaid : Prop := Claim7.holds Tryz.pinned (.plain (OpenSpec.ofChange triviaFindsSpec)) triviaFindsCard

/-- THE TIED CARD OF 'frisketlaw28.TriviaNone'. -/
def triviaNoneCard : Claim7 := { stood := { row := triviaNoneRow, standIns := [], harness := (true, "87982dcd480e58d9868d4be2ccd03e8a9284f837cef139f0986ec50f9114c978"), looks := true }, kinds := [], alts := [], laidByText := true, laidKinds := [.data, .pinned], laidTests := true, laidLooks := .later }
def TriviaNoneCardSaid : Prop := Claim7.holds Tryz.pinned (.plain (OpenSpec.ofChange triviaNoneSpec)) triviaNoneCard

/-- THE TIED CARD OF 'frisketlaw28.TriviaSame'. -/
def triviaSameCard : Claim7 := { stood := { row := triviaSameRow, standIns := [], harness := (true, "87982dcd480e58d9868d4be2ccd03e8a9284f837cef139f0986ec50f9114c978"), looks := true }, kinds := [], alts := [], laidByText := true, laidKinds := [.data, .pinned], laidTests := true, laidLooks := .later }
def TriviaSameCardSaid : Prop := Claim7.holds Tryz.pinned (.plain (OpenSpec.ofChange triviaSameSpec)) triviaSameCard

/-- THE TIED CARD OF 'frisketlaw28.TriviaCovers'. -/
def triviaCoversCard : Claim7 := { stood := { row := triviaCoversRow, standIns := [], harness := (true, "87982dcd480e58d9868d4be2ccd03e8a9284f837cef139f0986ec50f9114c978"), looks := true }, kinds := [], alts := [], laidByText := true, laidKinds := [.data, .pinned], laidTests := true, laidLooks := .later }
def TriviaCoversCardSaid : Prop := Claim7.holds Tryz.pinned (.plain (OpenSpec.ofChange triviaCoversSpec)) triviaCoversCard

/-- THE SECOND FORM's CARD OF 'frisketlaw28.TriviaFinds'. -/
def triviaFindsUptoCard : Claim7 := { stood := { row := triviaFindsUptoRow, standIns := [], harness := (true, "87982dcd480e58d9868d4be2ccd03e8a9284f837cef139f0986ec50f9114c978"), looks := true }, kinds := [], alts := [], laidByText := true, laidKinds := [.data, .pinned], laidTests := true, laidLooks := .later }
def TriviaFindsUptoCardSaid : Prop := Claim7.holds Tryz.pinned (.plain (OpenSpec.upto triviaFindsSpec)) triviaFindsUptoCard

/-- THE SECOND FORM's CARD OF 'frisketlaw28.TriviaNone'. -/
def triviaNoneUptoCard : Claim7 := { stood := { row := triviaNoneUptoRow, standIns := [], harness := (true, "87982dcd480e58d9868d4be2ccd03e8a9284f837cef139f0986ec50f9114c978"), looks := true }, kinds := [], alts := [], laidByText := true, laidKinds := [.data, .pinned], laidTests := true, laidLooks := .later }
def TriviaNoneUptoCardSaid : Prop := Claim7.holds Tryz.pinned (.plain (OpenSpec.upto triviaNoneSpec)) triviaNoneUptoCard

/-- THE SECOND FORM's CARD OF 'frisketlaw28.TriviaSame'. -/
def triviaSameUptoCard : Claim7 := { stood := { row := triviaSameUptoRow, standIns := [], harness := (true, "87982dcd480e58d9868d4be2ccd03e8a9284f837cef139f0986ec50f9114c978"), looks := true }, kinds := [], alts := [], laidByText := true, laidKinds := [.data, .pinned], laidTests := true, laidLooks := .later }
def TriviaSameUptoCardSaid : Prop := Claim7.holds Tryz.pinned (.plain (OpenSpec.upto triviaSameSpec)) triviaSameUptoCard

/-- THE SECOND FORM's CARD OF 'frisketlaw28.TriviaCovers'. -/
def triviaCoversUptoCard : Claim7 := { stood := { row := triviaCoversUptoRow, standIns := [], harness := (true, "87982dcd480e58d9868d4be2ccd03e8a9284f837cef139f0986ec50f9114c978"), looks := true }, kinds := [], alts := [], laidByText := true, laidKinds := [.data, .pinned], laidTests := true, laidLooks := .later }
def TriviaCoversUptoCardSaid : Prop := Claim7.holds Tryz.pinned (.plain (OpenSpec.upto triviaCoversSpec)) triviaCoversUptoCard
end Rows
end Go.Proofs.YtjcelcnlndahpaaGreatDoor
