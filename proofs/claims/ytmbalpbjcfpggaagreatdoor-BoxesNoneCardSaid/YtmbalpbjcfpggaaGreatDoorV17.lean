/-
  A part of the proof: what the functions of the program come to, read off the model: no premise of its own, no axiom. Blank space is spared. By an AI agent.
-/
import Derived.Test.YtmbalpbjcfpggaaGreatDoorV16
set_option linter.all false
set_option maxRecDepth 100000
noncomputable section
section
namespace Go.Ev
open Go Go.Fk
def TT0:T4 (Fx Unit):=tabL ([(113,f113),(114,f114),(11,f11),(12,f12)]++ents)
theorem tab0_ok {m:Int} {B:Base} (hB:G m B):ClOK P HdU B (evF TT0 5000 60 true):=evF_tab (good_app (cF f113_eq <| cF f114_eq <| cF f11_eq <| cF f12_eq <| λ_ h=>by cases h) (ents_ok hB)) 60
end Go.Ev
end
end
