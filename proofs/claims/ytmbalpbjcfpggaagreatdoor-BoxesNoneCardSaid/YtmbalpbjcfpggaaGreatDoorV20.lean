/-
  A part of the proof: what the functions of the program come to, read off the model: no premise of its own, no axiom. Blank space is spared. By an AI agent.
-/
import Derived.Test.YtmbalpbjcfpggaaGreatDoorV17
set_option linter.all false
set_option maxRecDepth 100000
noncomputable section
section
namespace Go.Ev
open Go Go.Fk
def memo3:Memo:=⟨[.p 635 0],646,[(635,.cells true 2 [.sl 640 0 1 (.re 0),.sl 636 0 1 (.re 0)] 315 1,.cells true 2 [.sl 640 0 1 (.re 0),.sl 636 0 1 (.re 0)] 315 1),(636,.cells false 3 [.m 645,.m 644,.b false] 319 3,.cells false 3 [.m 645,.m 644,.b false] 319 3),(640,.cells false 6 [.i .u64 (.ofNat 1099511627776),.i .u64 (.ofNat 0),.i .u64 (.ofNat 0),.i .u64 (.ofNat 0),ii 0,.m 642] 396 6,.cells false 6 [.i .u64 (.ofNat 1099511627776),.i .u64 (.ofNat 0),.i .u64 (.ofNat 0),.i .u64 (.ofNat 0),ii 0,.m 642] 396 6),(642,.map 3 (.p (.int .i64)) [] 0,.map 3 (.p (.int .i64)) [] 1),(644,.map 3 (.p (.int .i64)) [(ii 0,.b true)] 1,.map 3 (.p (.int .i64)) [(ii 0,.b true)] 2),(645,.map 3 (.p (.int .i64)) [(ii 0,.b true)] 1,.map 3 (.p (.int .i64)) [(ii 0,.b true)] 2)],[(646,.cells true 259 ([.p 635 0,.sl 740 0 2 (.re 0)]++List.replicate 40 (ii 0)++[ii 1]++List.replicate 215 (ii 0)++[ii 2]) 326 1),(735,.cells false 1 [ii 0] 3 1),(740,.cells false 516 ([.ns]++List.replicate 40 (.i .i64 (.negSucc 0))++[ii 1]++List.replicate 216 (.i .i64 (.negSucc 0))++[.sl 735 0 1 (.re 0)]++List.replicate 256 (.i .i64 (.negSucc 0))++[ii 0]) 323 258)],.t [.p 646 0,ii 0],741⟩
theorem memo3_cl:memo3.closed=true:=by kernel_rfl
theorem memo3_run:memo3.run TT0 5000 60 113=.ok:=by kernel_rfl
end Go.Ev
end
end
