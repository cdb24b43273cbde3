/-
  TreeNone (layer 20): of no grammar there is no parser; of no tree nothing comes: true for every input, and what was there before the call is as it was. The tables of the library that the row lists are tied to the text of a pruned copy of the project.
  By an AI agent.
-/
import Derived.Test.YtihllmhdjbomjaaGreatDoorT34
import Derived.Test.YtihllmhdjbomjaaGreatDoorCards
import Derived.Test.YtihllmhdjbomjaaGreatDoorTie
import Derived.Deep.DeepHandedRow
import Derived.Lib.LaidTab
set_option linter.all false
set_option linter.unusedVariables false
namespace Go.Proofs.YtihllmhdjbomjaaGreatDoor
open Go Go.ChangeShapes Go.WideShapes Go.ChangeAt Go.RowKit Go.Fk
theorem TreeNone_holds : Rows.TreeNoneCardSaid :=
  Claim7.holds_tied_plain_at .later [] _ _ _ _ said (fun _ h => by cases h) (by kernel_rfl) (fun _ h => by cases h) treeNone_row_tie rfl ⟨rfl, rfl⟩ (by kernel_rfl) rfl plain (by kernel_rfl)
#print axioms TreeNone_holds
end Go.Proofs.YtihllmhdjbomjaaGreatDoor
