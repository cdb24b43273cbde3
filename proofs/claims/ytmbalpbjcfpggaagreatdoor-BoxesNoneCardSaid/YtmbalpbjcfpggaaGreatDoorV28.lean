/-
  A part of the proof: what the functions of the program come to, read off the model: no premise of its own, no axiom. Blank space is spared. By an AI agent.
-/
import Derived.Test.YtmbalpbjcfpggaaGreatDoorV25
import Derived.Test.YtmbalpbjcfpggaaGreatDoorV26
import Derived.Test.YtmbalpbjcfpggaaGreatDoorV27
set_option linter.all false
set_option maxRecDepth 100000
noncomputable section
section
namespace Go.Ev
open Go Go.Fk
def ms1:List Memo:=[memo2,memo8]
theorem ms1_ok {m:Int} {B:Base} (hB:G m B):FxOK P HdU B 114 (λ_ _ _=>(hkMemos ms1 (λ_ _ _=>.no 404):Hk Unit)) :=
 stage_ok (λB hB=>tab1_ok hB) (by kernel_rfl) (List.forall_mem_cons.2 ⟨⟨memo2_cl,memo2_run⟩,List.forall_mem_cons.2 ⟨⟨memo8_cl,memo8_run⟩,λ_ h=>by cases h⟩⟩) hB
def TT2:T4 (Fx Unit):=tabL ([(113,λ_ _ _=>hkMemos ms0 (λ_ _ _=>.no 404)),(114,λ_ _ _=>hkMemos ms1 (λ_ _ _=>.no 404)),(11,f11),(12,f12)]++ents)
theorem tab2_ok {m:Int} {B:Base} (hB:G m B):ClOK P HdU B (evF TT2 5000 60 true):=evF_tab (good_app (cH (ms0_ok hB) memos_det <| cH (ms1_ok hB) memos_det <| cF f11_eq <| cF f12_eq <| λ_ h=>by cases h) (ents_ok hB)) 60
end Go.Ev
end
end
