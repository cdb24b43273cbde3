/-
  BoxesNone (layer 26): of no parser there is no style; of none nothing comes: true for every input, and what was there before the call is as it was. The tables of the library that the row lists are tied to the text of a pruned copy of the project.
  By an AI agent.
-/
import Derived.Test.YtmbalpbjcfpggaaGreatDoorV35
import Derived.Test.YtmbalpbjcfpggaaGreatDoorCards
import Derived.Test.YtmbalpbjcfpggaaGreatDoorTie
import Derived.Deep.DeepHandedRow
import Derived.Lib.LaidTab
import Derived.Stop.LaidErr
set_option linter.all false
set_option linter.unusedVariables false
namespace Go.Proofs.YtmbalpbjcfpggaaGreatDoor
open Go Go.ChangeShapes Go.WideShapes Go.ChangeAt Go.RowKit Go.Fk
theorem BoxesNone_holds : Rows.BoxesNoneCardSaid :=
  Claim7.holds_tied_plain_at .later [] _ _ _ _ said (fun _ h => by cases h) (by kernel_rfl) (fun _ h => by cases h) boxesNone_row_tie rfl ⟨rfl, rfl⟩ (by kernel_rfl) rfl plain (by kernel_rfl)
#print axioms BoxesNone_holds
end Go.Proofs.YtmbalpbjcfpggaaGreatDoor
