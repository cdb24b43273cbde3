/-
  A part of the proof: what the functions of the program come to, read off the model: no premise of its own, no axiom. Blank space is spared. By an AI agent.
-/
import Derived.Test.YtmbalpbjcfpggaaGreatDoorV17
set_option linter.all false
set_option maxRecDepth 100000
noncomputable section
section
namespace Go.Ev
open Go Go.Fk
def memo5:Memo:=⟨[.p 887 0],898,[(887,.cells true 2 [.sl 892 0 1 (.re 0),.sl 888 0 1 (.re 0)] 315 1,.cells true 2 [.sl 892 0 1 (.re 0),.sl 888 0 1 (.re 0)] 315 1),(888,.cells false 3 [.m 897,.m 896,.b false] 319 3,.cells false 3 [.m 897,.m 896,.b false] 319 3),(892,.cells false 6 [.i .u64 (.ofNat 2199023255552),.i .u64 (.ofNat 0),.i .u64 (.ofNat 0),.i .u64 (.ofNat 0),ii 0,.m 894] 396 6,.cells false 6 [.i .u64 (.ofNat 2199023255552),.i .u64 (.ofNat 0),.i .u64 (.ofNat 0),.i .u64 (.ofNat 0),ii 0,.m 894] 396 6),(894,.map 3 (.p (.int .i64)) [] 0,.map 3 (.p (.int .i64)) [] 1),(896,.map 3 (.p (.int .i64)) [(ii 0,.b true)] 1,.map 3 (.p (.int .i64)) [(ii 0,.b true)] 2),(897,.map 3 (.p (.int .i64)) [(ii 0,.b true)] 1,.map 3 (.p (.int .i64)) [(ii 0,.b true)] 2)],[(898,.cells true 259 ([.p 887 0,.sl 994 0 2 (.re 0)]++List.replicate 41 (ii 0)++[ii 1]++List.replicate 214 (ii 0)++[ii 2]) 326 1),(989,.cells false 1 [ii 0] 3 1),(994,.cells false 516 ([.ns]++List.replicate 41 (.i .i64 (.negSucc 0))++[ii 1]++List.replicate 215 (.i .i64 (.negSucc 0))++[.sl 989 0 1 (.re 0)]++List.replicate 256 (.i .i64 (.negSucc 0))++[ii 0]) 323 258)],.t [.p 898 0,ii 0],995⟩
theorem memo5_cl:memo5.closed=true:=by kernel_rfl
theorem memo5_run:memo5.run TT0 5000 60 113=.ok:=by kernel_rfl
end Go.Ev
end
end
