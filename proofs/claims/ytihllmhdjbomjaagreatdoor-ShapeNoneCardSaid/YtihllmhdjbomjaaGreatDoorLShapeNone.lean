/-
  ShapeNone (layer 22): of no tree nothing comes: true for every input, and what was there before the call is as it was. The tables of the library that the row lists are tied to the text of a pruned copy of the project.
  By an AI agent.
-/
import Derived.Test.YtihllmhdjbomjaaGreatDoorU35
import Derived.Test.YtihllmhdjbomjaaGreatDoorCards
import Derived.Test.YtihllmhdjbomjaaGreatDoorTie
import Derived.Deep.DeepHandedRow
import Derived.Lib.LaidTab
import Derived.Stop.LaidErr
set_option linter.all false
set_option linter.unusedVariables false
namespace Go.Proofs.YtihllmhdjbomjaaGreatDoor
open Go Go.ChangeShapes Go.WideShapes Go.ChangeAt Go.RowKit Go.Fk
theorem ShapeNone_holds : Rows.ShapeNoneCardSaid :=
  Claim7.holds_tied_plain_at .later [] _ _ _ _ said (fun _ h => by cases h) (by kernel_rfl) (fun _ h => by cases h) shapeNone_row_tie rfl ⟨rfl, rfl⟩ (by kernel_rfl) rfl plain (by kernel_rfl)
#print axioms ShapeNone_holds
end Go.Proofs.YtihllmhdjbomjaaGreatDoor
