/-
  A part of the proof: what the functions of the program come to, read off the model: no premise of its own, no axiom. Blank space is spared. By an AI agent.
-/
import Derived.Test.YtmbalpbjcfpggaaGreatDoorV25
set_option linter.all false
set_option maxRecDepth 100000
noncomputable section
section
namespace Go.Ev
open Go Go.Fk
def memo2:Memo:=⟨[.p 257 0],466,[(246,.cells true 2 [.sl 251 0 1 (.re 0),.sl 247 0 1 (.re 0)] 315 1,.cells true 2 [.sl 251 0 1 (.re 0),.sl 247 0 1 (.re 0)] 315 1),(247,.cells false 3 [.m 256,.m 255,.b false] 319 3,.cells false 3 [.m 256,.m 255,.b false] 319 3),(251,.cells false 6 [.i .u64 (.ofNat 0),.i .u64 (.ofNat 576460743713488896),.i .u64 (.ofNat 0),.i .u64 (.ofNat 0),ii 0,.m 253] 396 6,.cells false 6 [.i .u64 (.ofNat 0),.i .u64 (.ofNat 576460743713488896),.i .u64 (.ofNat 0),.i .u64 (.ofNat 0),ii 0,.m 253] 396 6),(253,.map 3 (.p (.int .i64)) [] 1,.map 3 (.p (.int .i64)) [] 2),(255,.map 3 (.p (.int .i64)) [(ii 0,.b true)] 2,.map 3 (.p (.int .i64)) [(ii 0,.b true)] 3),(256,.map 3 (.p (.int .i64)) [(ii 0,.b true)] 2,.map 3 (.p (.int .i64)) [(ii 0,.b true)] 3),(257,.cells true 259 ([.p 246 0,.sl 465 0 2 (.re 0)]++List.replicate 97 (ii 0)++List.replicate 26 (ii 1)++List.replicate 133 (ii 0)++[ii 2]) 326 1,.cells true 259 ([.p 246 0,.sl 465 0 2 (.re 0)]++List.replicate 97 (ii 0)++List.replicate 26 (ii 1)++List.replicate 133 (ii 0)++[ii 2]) 326 1),(460,.cells false 1 [ii 0] 3 1,.cells false 1 [ii 0] 3 1),(465,.cells false 516 ([.ns]++List.replicate 97 (.i .i64 (.negSucc 0))++List.replicate 26 (ii 1)++List.replicate 134 (.i .i64 (.negSucc 0))++[.sl 460 0 1 (.re 0)]++List.replicate 256 (.i .i64 (.negSucc 0))++[ii 0]) 323 258,.cells false 516 ([.ns]++List.replicate 97 (.i .i64 (.negSucc 0))++List.replicate 26 (ii 1)++List.replicate 134 (.i .i64 (.negSucc 0))++[.sl 460 0 1 (.re 0)]++List.replicate 256 (.i .i64 (.negSucc 0))++[ii 0]) 323 258)],[(478,.cells true 2 [.sl 488 0 2 (.re 0),.sl 479 0 2 (.ex 2)] 334 1),(479,.cells true 2 [ii 0,ii 1] 3 1),(488,.cells false 514 (List.replicate 97 (.i .i64 (.negSucc 0))++List.replicate 26 (ii 1)++List.replicate 390 (.i .i64 (.negSucc 0))++[ii 0]) 336 257)],.t [.p 478 0,ii 0],489⟩
theorem memo2_cl:memo2.closed=true:=by kernel_rfl
theorem memo2_run:memo2.run TT1 5000 60 114=.ok:=by kernel_rfl
end Go.Ev
end
end
