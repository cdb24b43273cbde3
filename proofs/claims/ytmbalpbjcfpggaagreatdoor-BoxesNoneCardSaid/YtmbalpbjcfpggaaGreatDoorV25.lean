/-
  A part of the proof: what the functions of the program come to, read off the model: no premise of its own, no axiom. Blank space is spared. By an AI agent.
-/
import Derived.Test.YtmbalpbjcfpggaaGreatDoorV17
import Derived.Test.YtmbalpbjcfpggaaGreatDoorV18
import Derived.Test.YtmbalpbjcfpggaaGreatDoorV19
import Derived.Test.YtmbalpbjcfpggaaGreatDoorV20
import Derived.Test.YtmbalpbjcfpggaaGreatDoorV21
import Derived.Test.YtmbalpbjcfpggaaGreatDoorV22
import Derived.Test.YtmbalpbjcfpggaaGreatDoorV23
import Derived.Test.YtmbalpbjcfpggaaGreatDoorV24
set_option linter.all false
set_option maxRecDepth 100000
noncomputable section
section
namespace Go.Ev
open Go Go.Fk
def ms0:List Memo:=[memo0,memo1,memo3,memo4,memo5,memo6,memo7]
theorem ms0_ok {m:Int} {B:Base} (hB:G m B):FxOK P HdU B 113 (λ_ _ _=>(hkMemos ms0 (λ_ _ _=>.no 404):Hk Unit)) :=
 stage_ok (λB hB=>tab0_ok hB) (by kernel_rfl) (List.forall_mem_cons.2 ⟨⟨memo0_cl,memo0_run⟩,List.forall_mem_cons.2 ⟨⟨memo1_cl,memo1_run⟩,List.forall_mem_cons.2 ⟨⟨memo3_cl,memo3_run⟩,List.forall_mem_cons.2 ⟨⟨memo4_cl,memo4_run⟩,List.forall_mem_cons.2 ⟨⟨memo5_cl,memo5_run⟩,List.forall_mem_cons.2 ⟨⟨memo6_cl,memo6_run⟩,List.forall_mem_cons.2 ⟨⟨memo7_cl,memo7_run⟩,λ_ h=>by cases h⟩⟩⟩⟩⟩⟩⟩) hB
def TT1:T4 (Fx Unit):=tabL ([(113,λ_ _ _=>hkMemos ms0 (λ_ _ _=>.no 404)),(114,f114),(11,f11),(12,f12)]++ents)
theorem tab1_ok {m:Int} {B:Base} (hB:G m B):ClOK P HdU B (evF TT1 5000 60 true):=evF_tab (good_app (cH (ms0_ok hB) memos_det <| cF f114_eq <| cF f11_eq <| cF f12_eq <| λ_ h=>by cases h) (ents_ok hB)) 60
end Go.Ev
end
end
