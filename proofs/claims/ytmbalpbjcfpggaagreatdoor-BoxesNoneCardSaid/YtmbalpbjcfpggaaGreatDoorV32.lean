/-
  A part of the proof: what the functions of the program come to, read off the model: no premise of its own, no axiom. Blank space is spared. By an AI agent.
-/
import Derived.Test.YtmbalpbjcfpggaaGreatDoorV30
import Derived.Test.YtmbalpbjcfpggaaGreatDoorV31
set_option linter.all false
set_option maxRecDepth 100000
noncomputable section
section
namespace Go.Ev
open Go Go.Fk
def ms3:List Memo:=[memo10]
theorem ms3_ok {m:Int} {B:Base} (hB:G m B):FxOK P HdU B 12 (λ_ _ _=>(hkMemos ms3 (λ_ _ _=>.no 404):Hk Unit)) :=
 stage_ok (λB hB=>tab3_ok hB) (by kernel_rfl) (List.forall_mem_cons.2 ⟨⟨memo10_cl,memo10_run⟩,λ_ h=>by cases h⟩) hB
def TT4:T4 (Fx Unit):=tabL ([(113,λ_ _ _=>hkMemos ms0 (λ_ _ _=>.no 404)),(114,λ_ _ _=>hkMemos ms1 (λ_ _ _=>.no 404)),(11,λ_ _ _=>hkMemos ms2 (λ_ _ _=>.no 404)),(12,λ_ _ _=>hkMemos ms3 (λ_ _ _=>.no 404))]++ents)
theorem tab4_ok {m:Int} {B:Base} (hB:G m B):ClOK P HdU B (evF TT4 5000 60 true):=evF_tab (good_app (cH (ms0_ok hB) memos_det <| cH (ms1_ok hB) memos_det <| cH (ms2_ok hB) memos_det <| cH (ms3_ok hB) memos_det <| λ_ h=>by cases h) (ents_ok hB)) 60
theorem C_run:evF TT4 5000 60 true 4 [] H0 (λv _=>isTrue v)=.ok:=by kernel_rfl
theorem C_C {w:World} {m:Int} (hm:w.cell? ⟨0,0,none⟩=some (.int .i64 m)) (ht:TabX w) {K:Bool→World→Prop} (hK:∀ w2,Keeps No w w2→K true w2):CallF P 4 #[] (.one .bool) w K:=awake_ok (λB hB=>tab4_ok hB) hm ht C_run hK
end Go.Ev
end
end
