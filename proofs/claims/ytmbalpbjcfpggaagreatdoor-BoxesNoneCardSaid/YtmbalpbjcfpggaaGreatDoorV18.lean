/-
  A part of the proof: what the functions of the program come to, read off the model: no premise of its own, no axiom. Blank space is spared. By an AI agent.
-/
import Derived.Test.YtmbalpbjcfpggaaGreatDoorV17
set_option linter.all false
set_option maxRecDepth 100000
noncomputable section
section
namespace Go.Ev
open Go Go.Fk
def memo0:Memo:=⟨[.p 24 0],35,[(24,.cells true 2 [.sl 29 0 1 (.re 0),.sl 25 0 1 (.re 0)] 315 1,.cells true 2 [.sl 29 0 1 (.re 0),.sl 25 0 1 (.re 0)] 315 1),(25,.cells false 3 [.m 34,.m 33,.b false] 319 3,.cells false 3 [.m 34,.m 33,.b false] 319 3),(29,.cells false 6 [.i .u64 (.ofNat 0),.i .u64 (.ofNat 576460743713488896),.i .u64 (.ofNat 0),.i .u64 (.ofNat 0),ii 0,.m 31] 396 6,.cells false 6 [.i .u64 (.ofNat 0),.i .u64 (.ofNat 576460743713488896),.i .u64 (.ofNat 0),.i .u64 (.ofNat 0),ii 0,.m 31] 396 6),(31,.map 3 (.p (.int .i64)) [] 0,.map 3 (.p (.int .i64)) [] 1),(33,.map 3 (.p (.int .i64)) [(ii 0,.b true)] 1,.map 3 (.p (.int .i64)) [(ii 0,.b true)] 2),(34,.map 3 (.p (.int .i64)) [(ii 0,.b true)] 1,.map 3 (.p (.int .i64)) [(ii 0,.b true)] 2)],[(35,.cells true 259 ([.p 24 0,.sl 243 0 2 (.re 0)]++List.replicate 97 (ii 0)++List.replicate 26 (ii 1)++List.replicate 133 (ii 0)++[ii 2]) 326 1),(238,.cells false 1 [ii 0] 3 1),(243,.cells false 516 ([.ns]++List.replicate 97 (.i .i64 (.negSucc 0))++List.replicate 26 (ii 1)++List.replicate 134 (.i .i64 (.negSucc 0))++[.sl 238 0 1 (.re 0)]++List.replicate 256 (.i .i64 (.negSucc 0))++[ii 0]) 323 258)],.t [.p 35 0,ii 0],244⟩
theorem memo0_cl:memo0.closed=true:=by kernel_rfl
theorem memo0_run:memo0.run TT0 5000 60 113=.ok:=by kernel_rfl
end Go.Ev
end
end
