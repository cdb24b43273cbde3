/-
  A part of the proof: what the functions of the program come to, read off the model: no premise of its own, no axiom. Blank space is spared. By an AI agent.
-/
import Derived.Test.YtmbalpbjcfpggaaGreatDoorV17
set_option linter.all false
set_option maxRecDepth 100000
noncomputable section
section
namespace Go.Ev
open Go Go.Fk
def memo4:Memo:=⟨[.p 757 0],768,[(757,.cells true 2 [.sl 762 0 1 (.re 0),.sl 758 0 1 (.re 0)] 315 1,.cells true 2 [.sl 762 0 1 (.re 0),.sl 758 0 1 (.re 0)] 315 1),(758,.cells false 3 [.m 767,.m 766,.b false] 319 3,.cells false 3 [.m 767,.m 766,.b false] 319 3),(762,.cells false 6 [.i .u64 (.ofNat 17592186044416),.i .u64 (.ofNat 0),.i .u64 (.ofNat 0),.i .u64 (.ofNat 0),ii 0,.m 764] 396 6,.cells false 6 [.i .u64 (.ofNat 17592186044416),.i .u64 (.ofNat 0),.i .u64 (.ofNat 0),.i .u64 (.ofNat 0),ii 0,.m 764] 396 6),(764,.map 3 (.p (.int .i64)) [] 0,.map 3 (.p (.int .i64)) [] 1),(766,.map 3 (.p (.int .i64)) [(ii 0,.b true)] 1,.map 3 (.p (.int .i64)) [(ii 0,.b true)] 2),(767,.map 3 (.p (.int .i64)) [(ii 0,.b true)] 1,.map 3 (.p (.int .i64)) [(ii 0,.b true)] 2)],[(768,.cells true 259 ([.p 757 0,.sl 870 0 2 (.re 0)]++List.replicate 44 (ii 0)++[ii 1]++List.replicate 211 (ii 0)++[ii 2]) 326 1),(865,.cells false 1 [ii 0] 3 1),(870,.cells false 516 ([.ns]++List.replicate 44 (.i .i64 (.negSucc 0))++[ii 1]++List.replicate 212 (.i .i64 (.negSucc 0))++[.sl 865 0 1 (.re 0)]++List.replicate 256 (.i .i64 (.negSucc 0))++[ii 0]) 323 258)],.t [.p 768 0,ii 0],871⟩
theorem memo4_cl:memo4.closed=true:=by kernel_rfl
theorem memo4_run:memo4.run TT0 5000 60 113=.ok:=by kernel_rfl
end Go.Ev
end
end
