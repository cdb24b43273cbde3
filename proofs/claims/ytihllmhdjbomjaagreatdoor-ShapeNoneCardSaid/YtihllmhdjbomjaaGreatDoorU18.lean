/-
  A part of the proof: what the functions of the program come to, read off the model: no premise of its own, no axiom. Blank space is spared. By an AI agent.
-/
import Derived.Test.YtihllmhdjbomjaaGreatDoorU17
set_option linter.all false
set_option maxRecDepth 100000
noncomputable section
section
namespace Go.Ev
open Go Go.Fk
def memo0:Memo:=⟨[.p 32 0],66,[(32,.cells true 2 [.sl 50 0 2 (.re 0),.sl 33 0 1 (.re 0)] 367 1,.cells true 2 [.sl 50 0 2 (.re 0),.sl 33 0 1 (.re 0)] 367 1),(33,.cells false 3 [.m 44,.m 64,.b false] 371 3,.cells false 3 [.m 44,.m 64,.b false] 371 3),(41,.map 3 (.p (.int .i64)) [(ii 1,.b true)] 1,.map 3 (.p (.int .i64)) [(ii 1,.b true)] 2),(44,.map 3 (.p (.int .i64)) [(ii 0,.b true)] 1,.map 3 (.p (.int .i64)) [(ii 0,.b true)] 2),(50,.cells false 12 [.i .u64 (.ofNat 287948901175001088),.i .u64 (.ofNat 0),.i .u64 (.ofNat 0),.i .u64 (.ofNat 0),ii 0,.m 41,.i .u64 (.ofNat 287948901175001088),.i .u64 (.ofNat 0),.i .u64 (.ofNat 0),.i .u64 (.ofNat 0),ii 0,.m 52] 431 6,.cells false 12 [.i .u64 (.ofNat 287948901175001088),.i .u64 (.ofNat 0),.i .u64 (.ofNat 0),.i .u64 (.ofNat 0),ii 0,.m 41,.i .u64 (.ofNat 287948901175001088),.i .u64 (.ofNat 0),.i .u64 (.ofNat 0),.i .u64 (.ofNat 0),ii 0,.m 52] 431 6),(52,.map 3 (.p (.int .i64)) [(ii 1,.b true)] 1,.map 3 (.p (.int .i64)) [(ii 1,.b true)] 2),(64,.map 3 (.p (.int .i64)) [(ii 1,.b true),(ii 0,.b true)] 1,.map 3 (.p (.int .i64)) [(ii 1,.b true),(ii 0,.b true)] 2)],[(66,.cells true 259 ([.p 32 0,.sl 748 0 3 (.re 0)]++List.replicate 48 (ii 0)++List.replicate 10 (ii 1)++List.replicate 198 (ii 0)++[ii 2]) 378 1),(171,.cells false 1 [ii 0] 3 1),(743,.cells false 1 [ii 1] 3 1),(748,.cells false 774 ([.ns]++List.replicate 48 (.i .i64 (.negSucc 0))++List.replicate 10 (ii 1)++List.replicate 199 (.i .i64 (.negSucc 0))++[.sl 171 0 1 (.re 0)]++List.replicate 48 (.i .i64 (.negSucc 0))++List.replicate 10 (ii 2)++List.replicate 198 (.i .i64 (.negSucc 0))++[ii 0,.sl 743 0 1 (.re 0)]++List.replicate 48 (.i .i64 (.negSucc 0))++List.replicate 10 (ii 2)++List.replicate 198 (.i .i64 (.negSucc 0))++[ii 0]) 375 258)],.t [.p 66 0,ii 0],749⟩
theorem memo0_cl:memo0.closed=true:=by kernel_rfl
theorem memo0_run:memo0.run TT0 5000 60 147=.ok:=by kernel_rfl
end Go.Ev
end
end
