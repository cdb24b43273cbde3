/-
  A part of the proof: what the functions of the program come to, read off the model: no premise of its own, no axiom. Blank space is spared. By an AI agent.
-/
import Derived.Test.YtmbalpbjcfpggaaGreatDoorV1
import Derived.Test.YtmbalpbjcfpggaaGreatDoorCards
import Derived.Test.YtmbalpbjcfpggaaGreatDoorTie
import Derived.Deep.DeepHandedRow
import Derived.Lib.LaidTab
import Derived.Stop.LaidErr
set_option linter.all false
set_option maxRecDepth 100000
noncomputable section
section
namespace Go.Proofs.YtmbalpbjcfpggaaGreatDoor
open Go Go.ChangeShapes Go.WideShapes Go.ChangeAt Go.RowKit Go.Fk
theorem own:ownKnob Tryz.prog.godebug=none:=by kernel_rfl
theorem laid:laidOutB Tryz.prog=true:=by kernel_rfl
theorem cl1:(Rows.boxesNoneRow.inPlace==Tryz.pinned.checked.prog.inPlace 3)=true:=by kernel_rfl
theorem cl2:(Rows.boxesNoneRow.unfollowed==Tryz.pinned.checked.prog.unfollowed 3)=true:=by kernel_rfl
theorem cl3:(Rows.boxesNoneRow.recurses==Tryz.pinned.checked.prog.recurses 3)=true:=by kernel_rfl
theorem cl4:(Rows.boxesNoneRow.named==Tryz.pinned.checked.prog.varsNamed 3)=true:=by kernel_rfl
theorem cl5:laidOutB Tryz.pinned.checked.prog=true:=laid
theorem cl6:mapsRowed Tryz.pinned.checked.prog=true:=by kernel_rfl
theorem and2 {a b:Bool} (ha:a=true) (hb:b=true):(a&&b)=true:=by rw [ha,hb];rfl
theorem closed:joinedFacts Tryz.pinned.checked.prog 3 Tryz.f3 (OpenSpec.ofChange Rows.boxesNoneSpec).bare Rows.boxesNoneRow=true:=by
  unfold joinedFacts
  repeat' (with_reducible refine and2 ?_ ?_)
  all_goals first | with_reducible exact cl1 | with_reducible exact cl2 | with_reducible exact cl3 | with_reducible exact cl4 | with_reducible exact cl5 | with_reducible exact cl6 | kernel_rfl
end Go.Proofs.YtmbalpbjcfpggaaGreatDoor
end
end
