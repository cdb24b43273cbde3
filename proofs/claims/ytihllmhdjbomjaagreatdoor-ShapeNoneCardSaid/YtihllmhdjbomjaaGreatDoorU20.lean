/-
  A part of the proof: what the functions of the program come to, read off the model: no premise of its own, no axiom. Blank space is spared. By an AI agent.
-/
import Derived.Test.YtihllmhdjbomjaaGreatDoorU17
set_option linter.all false
set_option maxRecDepth 100000
noncomputable section
section
namespace Go.Ev
open Go Go.Fk
def memo3:Memo:=⟨[.p 1653 0],1664,[(1653,.cells true 2 [.sl 1658 0 1 (.re 0),.sl 1654 0 1 (.re 0)] 367 1,.cells true 2 [.sl 1658 0 1 (.re 0),.sl 1654 0 1 (.re 0)] 367 1),(1654,.cells false 3 [.m 1663,.m 1662,.b false] 371 3,.cells false 3 [.m 1663,.m 1662,.b false] 371 3),(1658,.cells false 6 [.i .u64 (.ofNat 8796093022208),.i .u64 (.ofNat 0),.i .u64 (.ofNat 0),.i .u64 (.ofNat 0),ii 0,.m 1660] 431 6,.cells false 6 [.i .u64 (.ofNat 8796093022208),.i .u64 (.ofNat 0),.i .u64 (.ofNat 0),.i .u64 (.ofNat 0),ii 0,.m 1660] 431 6),(1660,.map 3 (.p (.int .i64)) [] 0,.map 3 (.p (.int .i64)) [] 1),(1662,.map 3 (.p (.int .i64)) [(ii 0,.b true)] 1,.map 3 (.p (.int .i64)) [(ii 0,.b true)] 2),(1663,.map 3 (.p (.int .i64)) [(ii 0,.b true)] 1,.map 3 (.p (.int .i64)) [(ii 0,.b true)] 2)],[(1664,.cells true 259 ([.p 1653 0,.sl 1764 0 2 (.re 0)]++List.replicate 43 (ii 0)++[ii 1]++List.replicate 212 (ii 0)++[ii 2]) 378 1),(1759,.cells false 1 [ii 0] 3 1),(1764,.cells false 516 ([.ns]++List.replicate 43 (.i .i64 (.negSucc 0))++[ii 1]++List.replicate 213 (.i .i64 (.negSucc 0))++[.sl 1759 0 1 (.re 0)]++List.replicate 256 (.i .i64 (.negSucc 0))++[ii 0]) 375 258)],.t [.p 1664 0,ii 0],1765⟩
theorem memo3_cl:memo3.closed=true:=by kernel_rfl
theorem memo3_run:memo3.run TT0 5000 60 147=.ok:=by kernel_rfl
end Go.Ev
end
end
