/-
  A part of the proof: what the functions of the program come to, read off the model: no premise of its own, no axiom. Blank space is spared. By an AI agent.
-/
import Derived.Test.YtihllmhdjbomjaaGreatDoorU17
set_option linter.all false
set_option maxRecDepth 100000
noncomputable section
section
namespace Go.Ev
open Go Go.Fk
def memo4:Memo:=⟨[.p 1781 0],1792,[(1781,.cells true 2 [.sl 1786 0 1 (.re 0),.sl 1782 0 1 (.re 0)] 367 1,.cells true 2 [.sl 1786 0 1 (.re 0),.sl 1782 0 1 (.re 0)] 367 1),(1782,.cells false 3 [.m 1791,.m 1790,.b false] 371 3,.cells false 3 [.m 1791,.m 1790,.b false] 371 3),(1786,.cells false 6 [.i .u64 (.ofNat 1099511627776),.i .u64 (.ofNat 0),.i .u64 (.ofNat 0),.i .u64 (.ofNat 0),ii 0,.m 1788] 431 6,.cells false 6 [.i .u64 (.ofNat 1099511627776),.i .u64 (.ofNat 0),.i .u64 (.ofNat 0),.i .u64 (.ofNat 0),ii 0,.m 1788] 431 6),(1788,.map 3 (.p (.int .i64)) [] 0,.map 3 (.p (.int .i64)) [] 1),(1790,.map 3 (.p (.int .i64)) [(ii 0,.b true)] 1,.map 3 (.p (.int .i64)) [(ii 0,.b true)] 2),(1791,.map 3 (.p (.int .i64)) [(ii 0,.b true)] 1,.map 3 (.p (.int .i64)) [(ii 0,.b true)] 2)],[(1792,.cells true 259 ([.p 1781 0,.sl 1886 0 2 (.re 0)]++List.replicate 40 (ii 0)++[ii 1]++List.replicate 215 (ii 0)++[ii 2]) 378 1),(1881,.cells false 1 [ii 0] 3 1),(1886,.cells false 516 ([.ns]++List.replicate 40 (.i .i64 (.negSucc 0))++[ii 1]++List.replicate 216 (.i .i64 (.negSucc 0))++[.sl 1881 0 1 (.re 0)]++List.replicate 256 (.i .i64 (.negSucc 0))++[ii 0]) 375 258)],.t [.p 1792 0,ii 0],1887⟩
theorem memo4_cl:memo4.closed=true:=by kernel_rfl
theorem memo4_run:memo4.run TT0 5000 60 147=.ok:=by kernel_rfl
end Go.Ev
end
end
