/-
  A part of the proof: what the functions of the program come to, read off the model: no premise of its own, no axiom. Blank space is spared. By an AI agent.
-/
import Derived.Test.YtmbalpbjcfpggaaGreatDoorV28
import Derived.Test.YtmbalpbjcfpggaaGreatDoorV29
set_option linter.all false
set_option maxRecDepth 100000
noncomputable section
section
namespace Go.Ev
open Go Go.Fk
def ms2:List Memo:=[memo9]
theorem ms2_ok {m:Int} {B:Base} (hB:G m B):FxOK P HdU B 11 (λ_ _ _=>(hkMemos ms2 (λ_ _ _=>.no 404):Hk Unit)) :=
 stage_ok (λB hB=>tab2_ok hB) (by kernel_rfl) (List.forall_mem_cons.2 ⟨⟨memo9_cl,memo9_run⟩,λ_ h=>by cases h⟩) hB
def TT3:T4 (Fx Unit):=tabL ([(113,λ_ _ _=>hkMemos ms0 (λ_ _ _=>.no 404)),(114,λ_ _ _=>hkMemos ms1 (λ_ _ _=>.no 404)),(11,λ_ _ _=>hkMemos ms2 (λ_ _ _=>.no 404)),(12,f12)]++ents)
theorem tab3_ok {m:Int} {B:Base} (hB:G m B):ClOK P HdU B (evF TT3 5000 60 true):=evF_tab (good_app (cH (ms0_ok hB) memos_det <| cH (ms1_ok hB) memos_det <| cH (ms2_ok hB) memos_det <| cF f12_eq <| λ_ h=>by cases h) (ents_ok hB)) 60
end Go.Ev
end
end
