/-
  A part of the proof: what the functions of the program come to, read off the model: no premise of its own, no axiom. Blank space is spared. By an AI agent.
-/
import Derived.Test.YtihllmhdjbomjaaGreatDoorU17
set_option linter.all false
set_option maxRecDepth 100000
noncomputable section
section
namespace Go.Ev
open Go Go.Fk
def memo6:Memo:=⟨[.p 2034 0],2068,[(2034,.cells true 2 [.sl 2052 0 2 (.re 0),.sl 2035 0 1 (.re 0)] 367 1,.cells true 2 [.sl 2052 0 2 (.re 0),.sl 2035 0 1 (.re 0)] 367 1),(2035,.cells false 3 [.m 2046,.m 2066,.b false] 371 3,.cells false 3 [.m 2046,.m 2066,.b false] 371 3),(2043,.map 3 (.p (.int .i64)) [(ii 1,.b true)] 1,.map 3 (.p (.int .i64)) [(ii 1,.b true)] 2),(2046,.map 3 (.p (.int .i64)) [(ii 0,.b true)] 1,.map 3 (.p (.int .i64)) [(ii 0,.b true)] 2),(2052,.cells false 12 [.i .u64 (.ofNat 287948901175001088),.i .u64 (.ofNat 0),.i .u64 (.ofNat 0),.i .u64 (.ofNat 0),ii 0,.m 2043,.i .u64 (.ofNat 287948901175001088),.i .u64 (.ofNat 0),.i .u64 (.ofNat 0),.i .u64 (.ofNat 0),ii 0,.m 2054] 431 6,.cells false 12 [.i .u64 (.ofNat 287948901175001088),.i .u64 (.ofNat 0),.i .u64 (.ofNat 0),.i .u64 (.ofNat 0),ii 0,.m 2043,.i .u64 (.ofNat 287948901175001088),.i .u64 (.ofNat 0),.i .u64 (.ofNat 0),.i .u64 (.ofNat 0),ii 0,.m 2054] 431 6),(2054,.map 3 (.p (.int .i64)) [(ii 1,.b true)] 1,.map 3 (.p (.int .i64)) [(ii 1,.b true)] 2),(2066,.map 3 (.p (.int .i64)) [(ii 1,.b true),(ii 0,.b true)] 1,.map 3 (.p (.int .i64)) [(ii 1,.b true),(ii 0,.b true)] 2)],[(2068,.cells true 259 ([.p 2034 0,.sl 2750 0 3 (.re 0)]++List.replicate 48 (ii 0)++List.replicate 10 (ii 1)++List.replicate 198 (ii 0)++[ii 2]) 378 1),(2173,.cells false 1 [ii 0] 3 1),(2745,.cells false 1 [ii 1] 3 1),(2750,.cells false 774 ([.ns]++List.replicate 48 (.i .i64 (.negSucc 0))++List.replicate 10 (ii 1)++List.replicate 199 (.i .i64 (.negSucc 0))++[.sl 2173 0 1 (.re 0)]++List.replicate 48 (.i .i64 (.negSucc 0))++List.replicate 10 (ii 2)++List.replicate 198 (.i .i64 (.negSucc 0))++[ii 0,.sl 2745 0 1 (.re 0)]++List.replicate 48 (.i .i64 (.negSucc 0))++List.replicate 10 (ii 2)++List.replicate 198 (.i .i64 (.negSucc 0))++[ii 0]) 375 258)],.t [.p 2068 0,ii 0],2751⟩
theorem memo6_cl:memo6.closed=true:=by kernel_rfl
theorem memo6_run:memo6.run TT0 5000 60 147=.ok:=by kernel_rfl
end Go.Ev
end
end
