/-
  A part of the proof: what the functions of the program come to, read off the model: no premise of its own, no axiom. Blank space is spared. By an AI agent.
-/
import Derived.Test.YtihllmhdjbomjaaGreatDoorU17
set_option linter.all false
set_option maxRecDepth 100000
noncomputable section
section
namespace Go.Ev
open Go Go.Fk
def memo1:Memo:=⟨[.p 753 0],787,[(753,.cells true 2 [.sl 771 0 2 (.re 0),.sl 754 0 1 (.re 0)] 367 1,.cells true 2 [.sl 771 0 2 (.re 0),.sl 754 0 1 (.re 0)] 367 1),(754,.cells false 3 [.m 765,.m 785,.b false] 371 3,.cells false 3 [.m 765,.m 785,.b false] 371 3),(762,.map 3 (.p (.int .i64)) [(ii 1,.b true)] 1,.map 3 (.p (.int .i64)) [(ii 1,.b true)] 2),(765,.map 3 (.p (.int .i64)) [(ii 0,.b true)] 1,.map 3 (.p (.int .i64)) [(ii 0,.b true)] 2),(771,.cells false 12 [.i .u64 (.ofNat 287948901175001088),.i .u64 (.ofNat 0),.i .u64 (.ofNat 0),.i .u64 (.ofNat 0),ii 0,.m 762,.i .u64 (.ofNat 287948901175001088),.i .u64 (.ofNat 0),.i .u64 (.ofNat 0),.i .u64 (.ofNat 0),ii 0,.m 773] 431 6,.cells false 12 [.i .u64 (.ofNat 287948901175001088),.i .u64 (.ofNat 0),.i .u64 (.ofNat 0),.i .u64 (.ofNat 0),ii 0,.m 762,.i .u64 (.ofNat 287948901175001088),.i .u64 (.ofNat 0),.i .u64 (.ofNat 0),.i .u64 (.ofNat 0),ii 0,.m 773] 431 6),(773,.map 3 (.p (.int .i64)) [(ii 1,.b true)] 1,.map 3 (.p (.int .i64)) [(ii 1,.b true)] 2),(785,.map 3 (.p (.int .i64)) [(ii 1,.b true),(ii 0,.b true)] 1,.map 3 (.p (.int .i64)) [(ii 1,.b true),(ii 0,.b true)] 2)],[(787,.cells true 259 ([.p 753 0,.sl 1469 0 3 (.re 0)]++List.replicate 48 (ii 0)++List.replicate 10 (ii 1)++List.replicate 198 (ii 0)++[ii 2]) 378 1),(892,.cells false 1 [ii 0] 3 1),(1464,.cells false 1 [ii 1] 3 1),(1469,.cells false 774 ([.ns]++List.replicate 48 (.i .i64 (.negSucc 0))++List.replicate 10 (ii 1)++List.replicate 199 (.i .i64 (.negSucc 0))++[.sl 892 0 1 (.re 0)]++List.replicate 48 (.i .i64 (.negSucc 0))++List.replicate 10 (ii 2)++List.replicate 198 (.i .i64 (.negSucc 0))++[ii 0,.sl 1464 0 1 (.re 0)]++List.replicate 48 (.i .i64 (.negSucc 0))++List.replicate 10 (ii 2)++List.replicate 198 (.i .i64 (.negSucc 0))++[ii 0]) 375 258)],.t [.p 787 0,ii 0],1470⟩
theorem memo1_cl:memo1.closed=true:=by kernel_rfl
theorem memo1_run:memo1.run TT0 5000 60 147=.ok:=by kernel_rfl
end Go.Ev
end
end
