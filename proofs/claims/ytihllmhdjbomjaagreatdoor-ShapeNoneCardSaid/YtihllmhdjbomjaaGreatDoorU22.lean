/-
  A part of the proof: what the functions of the program come to, read off the model: no premise of its own, no axiom. Blank space is spared. By an AI agent.
-/
import Derived.Test.YtihllmhdjbomjaaGreatDoorU17
set_option linter.all false
set_option maxRecDepth 100000
noncomputable section
section
namespace Go.Ev
open Go Go.Fk
def memo5:Memo:=⟨[.p 1903 0],1914,[(1903,.cells true 2 [.sl 1908 0 1 (.re 0),.sl 1904 0 1 (.re 0)] 367 1,.cells true 2 [.sl 1908 0 1 (.re 0),.sl 1904 0 1 (.re 0)] 367 1),(1904,.cells false 3 [.m 1913,.m 1912,.b false] 371 3,.cells false 3 [.m 1913,.m 1912,.b false] 371 3),(1908,.cells false 6 [.i .u64 (.ofNat 2199023255552),.i .u64 (.ofNat 0),.i .u64 (.ofNat 0),.i .u64 (.ofNat 0),ii 0,.m 1910] 431 6,.cells false 6 [.i .u64 (.ofNat 2199023255552),.i .u64 (.ofNat 0),.i .u64 (.ofNat 0),.i .u64 (.ofNat 0),ii 0,.m 1910] 431 6),(1910,.map 3 (.p (.int .i64)) [] 0,.map 3 (.p (.int .i64)) [] 1),(1912,.map 3 (.p (.int .i64)) [(ii 0,.b true)] 1,.map 3 (.p (.int .i64)) [(ii 0,.b true)] 2),(1913,.map 3 (.p (.int .i64)) [(ii 0,.b true)] 1,.map 3 (.p (.int .i64)) [(ii 0,.b true)] 2)],[(1914,.cells true 259 ([.p 1903 0,.sl 2010 0 2 (.re 0)]++List.replicate 41 (ii 0)++[ii 1]++List.replicate 214 (ii 0)++[ii 2]) 378 1),(2005,.cells false 1 [ii 0] 3 1),(2010,.cells false 516 ([.ns]++List.replicate 41 (.i .i64 (.negSucc 0))++[ii 1]++List.replicate 215 (.i .i64 (.negSucc 0))++[.sl 2005 0 1 (.re 0)]++List.replicate 256 (.i .i64 (.negSucc 0))++[ii 0]) 375 258)],.t [.p 1914 0,ii 0],2011⟩
theorem memo5_cl:memo5.closed=true:=by kernel_rfl
theorem memo5_run:memo5.run TT0 5000 60 147=.ok:=by kernel_rfl
end Go.Ev
end
end
