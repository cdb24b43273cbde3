/-
  A part of the proof: what the functions of the program come to, read off the model: no premise of its own, no axiom. Blank space is spared. By an AI agent.
-/
import Derived.Test.YtihllmhdjbomjaaGreatDoorU16
set_option linter.all false
set_option maxRecDepth 100000
noncomputable section
section
namespace Go.Ev
open Go Go.Fk
def TT0:T4 (Fx Unit):=tabL ([(147,f147),(148,f148),(29,f29),(14,f14)]++ents)
theorem tab0_ok {m:Int} {B:Base} (hB:G m B):ClOK P HdU B (evF TT0 5000 60 true):=evF_tab (good_app (cF f147_eq <| cF f148_eq <| cF f29_eq <| cF f14_eq <| λ_ h=>by cases h) (ents_ok hB)) 60
end Go.Ev
end
end
