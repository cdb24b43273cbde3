/-
  A part of the proof: what the functions of the program come to, read off the model: no premise of its own, no axiom. Blank space is spared. By an AI agent.
-/
import Derived.Test.YtmbalpbjcfpggaaGreatDoorV17
set_option linter.all false
set_option maxRecDepth 100000
noncomputable section
section
namespace Go.Ev
open Go Go.Fk
def memo6:Memo:=⟨[.p 1010 0],1021,[(1010,.cells true 2 [.sl 1015 0 1 (.re 0),.sl 1011 0 1 (.re 0)] 315 1,.cells true 2 [.sl 1015 0 1 (.re 0),.sl 1011 0 1 (.re 0)] 315 1),(1011,.cells false 3 [.m 1020,.m 1019,.b false] 319 3,.cells false 3 [.m 1020,.m 1019,.b false] 319 3),(1015,.cells false 6 [.i .u64 (.ofNat 0),.i .u64 (.ofNat 576460743713488896),.i .u64 (.ofNat 0),.i .u64 (.ofNat 0),ii 0,.m 1017] 396 6,.cells false 6 [.i .u64 (.ofNat 0),.i .u64 (.ofNat 576460743713488896),.i .u64 (.ofNat 0),.i .u64 (.ofNat 0),ii 0,.m 1017] 396 6),(1017,.map 3 (.p (.int .i64)) [] 0,.map 3 (.p (.int .i64)) [] 1),(1019,.map 3 (.p (.int .i64)) [(ii 0,.b true)] 1,.map 3 (.p (.int .i64)) [(ii 0,.b true)] 2),(1020,.map 3 (.p (.int .i64)) [(ii 0,.b true)] 1,.map 3 (.p (.int .i64)) [(ii 0,.b true)] 2)],[(1021,.cells true 259 ([.p 1010 0,.sl 1229 0 2 (.re 0)]++List.replicate 97 (ii 0)++List.replicate 26 (ii 1)++List.replicate 133 (ii 0)++[ii 2]) 326 1),(1224,.cells false 1 [ii 0] 3 1),(1229,.cells false 516 ([.ns]++List.replicate 97 (.i .i64 (.negSucc 0))++List.replicate 26 (ii 1)++List.replicate 134 (.i .i64 (.negSucc 0))++[.sl 1224 0 1 (.re 0)]++List.replicate 256 (.i .i64 (.negSucc 0))++[ii 0]) 323 258)],.t [.p 1021 0,ii 0],1230⟩
theorem memo6_cl:memo6.closed=true:=by kernel_rfl
theorem memo6_run:memo6.run TT0 5000 60 113=.ok:=by kernel_rfl
end Go.Ev
end
end
