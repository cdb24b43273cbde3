/-
  A part of the proof: what the functions of the program come to, read off the model: no premise of its own, no axiom. Blank space is spared. By an AI agent.
-/
import Derived.Test.YtmbalpbjcfpggaaGreatDoorV28
set_option linter.all false
set_option maxRecDepth 100000
noncomputable section
section
namespace Go.Ev
open Go Go.Fk
def memo9:Memo:=⟨[.s [116,111,107,101,110,32,105,100,32,91,97,45,122,93,10,115,111,114,116,32,115,10,114,117,108,101,32,115,32,48,32,70,32,61,32,105,100,32,39,40,32,105,100,32,39,44,32,105,100,32,39,41,10]],0,[],[(0,.cells true 10 [.sl 534 0 3 (.re 0),.sl 489 0 1 (.re 0),.sl 492 0 1 (.re 0),.sl 583 0 1 (.re 0),.m 538,.p 617 0,.m 3,.m 2,.m 1,.sl 536 0 1 (.re 0)] 91 1),(1,.map 9 (.p (.str)) [] 0),(2,.map 9 (.p (.str)) [(.s [70],.b true)] 1),(3,.map 9 (.p (.str)) [(.s [105,100],.b true),(.s [115],.b true)] 2),(489,.cells false 3 [.s [105,100],.s [91,97,45,122,93],.b false] 192 3),(492,.cells false 1 [.s [115]] 9 1),(521,.cells false 24 [.s [],.s [105,100],ii 0,.b false,.s [40],.s [],ii 0,.b false,.s [],.s [105,100],ii 0,.b false,.s [44],.s [],ii 0,.b false,.s [],.s [105,100],ii 0,.b false,.s [41],.s [],ii 0,.b false] 238 4),(534,.cells false 3 [.s [40],.s [44],.s [41]] 9 1),(536,.cells false 6 [ii 3,.s [115],.s [70],ii 0,.sl 521 0 6 (.re 0),.b false] 236 6),(538,.map 3 (.p (.int .i64)) [] 0),(581,.cells false 24 [ii 3,.i .i64 (.negSucc 0),ii 0,.b false,ii 0,.i .i64 (.negSucc 0),ii 0,.b true,ii 3,.i .i64 (.negSucc 0),ii 0,.b false,ii 1,.i .i64 (.negSucc 0),ii 0,.b true,ii 3,.i .i64 (.negSucc 0),ii 0,.b false,ii 2,.i .i64 (.negSucc 0),ii 0,.b true] 133 4),(583,.cells false 4 [ii 0,.s [70],ii 0,.sl 581 0 6 (.re 0)] 130 4),(617,.cells true 3 [.p 2133 0,.sl 619 0 4 (.re 0),.m 618] 226 1),(618,.map 9 (.p (.str)) [(.s [108,105,116,48],ii 0),(.s [108,105,116,49],ii 1),(.s [108,105,116,50],ii 2),(.s [105,100],ii 3)] 4),(619,.cells false 12 [.s [108,105,116,48],.s [92,40],.b false,.s [108,105,116,49],.s [44],.b false,.s [108,105,116,50],.s [92,41],.b false,.s [105,100],.s [91,97,45,122,93],.b false] 192 3),(2133,.cells true 2 [.sl 2158 0 5 (.re 0),.sl 2134 0 5 (.ex 5)] 334 1),(2134,.cells true 5 [ii 0,ii 1,ii 2,ii 3,ii 4] 3 1),(2158,.cells false 1285 (List.replicate 40 (.i .i64 (.negSucc 0))++[ii 1,ii 2,.i .i64 (.negSucc 0),.i .i64 (.negSucc 0),ii 3]++List.replicate 52 (.i .i64 (.negSucc 0))++List.replicate 26 (ii 4)++List.replicate 390 (.i .i64 (.negSucc 0))++[ii 0]++List.replicate 256 (.i .i64 (.negSucc 0))++[ii 2]++List.replicate 256 (.i .i64 (.negSucc 0))++[ii 1]++List.replicate 256 (.i .i64 (.negSucc 0))++[ii 3]) 336 257)],.t [.p 0 0,ii 0,ii 0],2159⟩
theorem memo9_cl:memo9.closed=true:=by kernel_rfl
theorem memo9_run:memo9.run TT2 5000 60 11=.ok:=by kernel_rfl
end Go.Ev
end
end
