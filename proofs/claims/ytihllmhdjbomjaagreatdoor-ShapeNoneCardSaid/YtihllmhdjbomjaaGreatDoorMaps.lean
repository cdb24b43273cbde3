/-
  DERIVED: THE SHELF's CONTRACTS AT THIS DUMP, IN PLAIN WORDS (tools/lay-plain.mjs out of 'TryzMapsRaw.lean', which tools/lay-shelf.mjs wrote): THE SAME DECLARATIONS UNDER THE SAME NAMES: 'import', 'namespace', 'open', 'def', 'theorem' AND NOTHING ELSE: no command of the shelf's: FOR A HAND-IN. Each laying: the table of numbers ('.._ren') and one theorem, a field a fact of the dump's own or the kernel's comparison; each contract: ONE APPLICATION.
-/
import Derived.Shelf.SlIterI.Nil
import Derived.Shelf.SortM.Plain
import Derived.Shelf.SortM.SortNone
import Derived.Shelf.SlMaps.Clone
import Derived.Ground.GgzProg
import Derived.Ground.SlgmProg
import Derived.Ground.SlmcProg
import Derived.Shelf.SlSortCmp.NoneTotal
import Derived.Ground.SlsfProg
import Derived.Test.YtihllmhdjbomjaaGreatDoorProg
namespace Go.Proofs
open Go.Shelf
def Tryz.cloneL_ren : Go.Shelf.Ren := ⟨fun | 5 => 283 | 7 => 320 | n => n, fun | 23 => 369 | 25 => 3 | 3 => 4 | 4 => 4 | 20 => 20 | n => n, fun | n => n⟩
theorem Tryz.cloneL : Go.Proofs.SlLaysW.n5 Tryz.prog Tryz.cloneL_ren := {
  mixed := by kernel_rfl
  f5 := ⟨Tryz.f283.name, by decide, Tryz.func283.trans (congrArg some (by kernel_rfl))⟩
  f7 := Tryz.func320.trans (congrArg some (by kernel_rfl))
  t4 := Tryz.underlying4
  a4 := Tryz.isAgg4
  z4 := Tryz.sizeOf4
  v4 := Tryz.zeroValue4
  t20 := Tryz.underlying20
  a20 := Tryz.isAgg20
  z20 := Tryz.sizeOf20
  v20 := Tryz.zeroValue20
  t23 := Tryz.underlying369
  a23 := Tryz.isAgg369
  z23 := Tryz.sizeOf369
  v23 := Tryz.zeroValue369 }
def Tryz.keysL_ren : Go.Shelf.Ren := ⟨fun | 7 => 341 | 10 => 365 | n => n, fun | 23 => 369 | 26 => 3 | 3 => 4 | 28 => 513 | 0 => 0 | 27 => 512 | 33 => 402 | 4 => 4 | n => n, fun | n => n⟩
theorem Tryz.keysL : Go.Proofs.SlLaysZI.n7 Tryz.prog Tryz.keysL_ren := {
  mixed := by kernel_rfl
  f7 := ⟨Tryz.f341.name, by decide, Tryz.func341.trans (congrArg some (by kernel_rfl))⟩
  f10 := ⟨Tryz.f365.name, by decide, Tryz.func365.trans (congrArg some (by kernel_rfl))⟩
  t0 := Tryz.underlying0
  a0 := Tryz.isAgg0
  z0 := Tryz.sizeOf0
  v0 := Tryz.zeroValue0
  t4 := Tryz.underlying4
  a4 := Tryz.isAgg4
  z4 := Tryz.sizeOf4
  v4 := Tryz.zeroValue4
  t23 := Tryz.underlying369
  a23 := Tryz.isAgg369
  z23 := Tryz.sizeOf369
  v23 := Tryz.zeroValue369
  t26 := Tryz.underlying3
  a26 := Tryz.isAgg3
  z26 := Tryz.sizeOf3
  v26 := Tryz.zeroValue3
  t27 := Tryz.underlying512
  a27 := Tryz.isAgg512
  z27 := Tryz.sizeOf512
  v27 := Tryz.zeroValue512
  t28 := Tryz.underlying513
  a28 := Tryz.isAgg513
  z28 := Tryz.sizeOf513
  v28 := Tryz.zeroValue513
  t33 := Tryz.underlying402
  a33 := Tryz.isAgg402
  z33 := Tryz.sizeOf402
  v33 := Tryz.zeroValue402 }
def Tryz.sortedL_ren : Go.Shelf.Ren := ⟨fun | 6 => 340 | 8 => 364 | 9 => 288 | 11 => 374 | 13 => 225 | 12 => 323 | 23 => 272 | 24 => 273 | 14 => 342 | 15 => 343 | 16 => 344 | 17 => 345 | 18 => 346 | 19 => 347 | 20 => 348 | 21 => 349 | 22 => 350 | 25 => 366 | 26 => 307 | 27 => 308 | 28 => 367 | 29 => 368 | 30 => 219 | 31 => 375 | n => n, fun | 26 => 3 | 28 => 513 | 24 => 24 | 0 => 0 | 3 => 3 | 37 => 355 | 48 => 410 | 50 => 243 | 4 => 4 | 40 => 451 | 39 => 450 | 45 => 32 | 5 => 5 | 9 => 9 | 51 => 481 | 55 => 485 | 57 => 507 | 58 => 508 | 33 => 402 | n => n, fun | n => n⟩
theorem Tryz.sortedL : Go.Proofs.SlLaysZI.n6 Tryz.prog Tryz.sortedL_ren := {
  mixed := by kernel_rfl
  f6 := ⟨Tryz.f340.name, by decide, Tryz.func340.trans (congrArg some (by kernel_rfl))⟩
  f8 := ⟨Tryz.f364.name, by decide, Tryz.func364.trans (congrArg some (by kernel_rfl))⟩
  f11 := ⟨Tryz.f374.name, by decide, Tryz.func374.trans (congrArg some (by kernel_rfl))⟩
  t0 := Tryz.underlying0
  a0 := Tryz.isAgg0
  z0 := Tryz.sizeOf0
  v0 := Tryz.zeroValue0
  t24 := Tryz.underlying24
  a24 := Tryz.isAgg24
  z24 := Tryz.sizeOf24
  v24 := Tryz.zeroValue24
  t26 := Tryz.underlying3
  a26 := Tryz.isAgg3
  z26 := Tryz.sizeOf3
  v26 := Tryz.zeroValue3
  t28 := Tryz.underlying513
  a28 := Tryz.isAgg513
  z28 := Tryz.sizeOf513
  v28 := Tryz.zeroValue513
  i26 := by kernel_rfl }
def Tryz.sortL_ren : Go.Shelf.Ren := ⟨fun | 5 => 288 | 8 => 225 | 7 => 323 | 19 => 272 | 20 => 273 | 10 => 342 | 11 => 343 | 12 => 344 | 13 => 345 | 14 => 346 | 15 => 347 | 16 => 348 | 17 => 349 | 18 => 350 | 30 => 366 | 31 => 307 | 32 => 308 | 33 => 367 | 34 => 368 | 35 => 219 | 40 => 375 | n => n, fun | 23 => 24 | 25 => 3 | 3 => 3 | 32 => 355 | 22 => 24 | 0 => 0 | 44 => 410 | 46 => 243 | 4 => 4 | 36 => 451 | 35 => 450 | 41 => 32 | 5 => 5 | 9 => 9 | 53 => 481 | 57 => 485 | 63 => 507 | 64 => 508 | n => n, fun | n => n⟩
theorem Tryz.sortL : Go.Proofs.SlLaysM.n5 Tryz.prog Tryz.sortL_ren := {
  mixed := by kernel_rfl
  f5 := ⟨Tryz.f288.name, by decide, Tryz.func288.trans (congrArg some (by kernel_rfl))⟩
  f7 := ⟨Tryz.f323.name, by decide, Tryz.func323.trans (congrArg some (by kernel_rfl))⟩
  f8 := Tryz.func225.trans (congrArg some (by kernel_rfl))
  f10 := ⟨Tryz.f342.name, by decide, Tryz.func342.trans (congrArg some (by kernel_rfl))⟩
  f11 := ⟨Tryz.f343.name, by decide, Tryz.func343.trans (congrArg some (by kernel_rfl))⟩
  f12 := ⟨Tryz.f344.name, by decide, Tryz.func344.trans (congrArg some (by kernel_rfl))⟩
  f13 := ⟨Tryz.f345.name, by decide, Tryz.func345.trans (congrArg some (by kernel_rfl))⟩
  f14 := ⟨Tryz.f346.name, by decide, Tryz.func346.trans (congrArg some (by kernel_rfl))⟩
  f15 := ⟨Tryz.f347.name, by decide, Tryz.func347.trans (congrArg some (by kernel_rfl))⟩
  f16 := ⟨Tryz.f348.name, by decide, Tryz.func348.trans (congrArg some (by kernel_rfl))⟩
  f17 := ⟨Tryz.f349.name, by decide, Tryz.func349.trans (congrArg some (by kernel_rfl))⟩
  f18 := ⟨Tryz.f350.name, by decide, Tryz.func350.trans (congrArg some (by kernel_rfl))⟩
  f19 := Tryz.func272.trans (congrArg some (by kernel_rfl))
  f20 := Tryz.func273.trans (congrArg some (by kernel_rfl))
  f30 := ⟨Tryz.f366.name, by decide, Tryz.func366.trans (congrArg some (by kernel_rfl))⟩
  f31 := Tryz.func307.trans (congrArg some (by kernel_rfl))
  f32 := Tryz.func308.trans (congrArg some (by kernel_rfl))
  f33 := ⟨Tryz.f367.name, by decide, Tryz.func367.trans (congrArg some (by kernel_rfl))⟩
  f34 := ⟨Tryz.f368.name, by decide, Tryz.func368.trans (congrArg some (by kernel_rfl))⟩
  f35 := ⟨Tryz.f219.name, by decide, Tryz.func219.trans (congrArg some (by kernel_rfl))⟩
  f40 := ⟨Tryz.f375.name, by decide, Tryz.func375.trans (congrArg some (by kernel_rfl))⟩
  t0 := Tryz.underlying0
  a0 := Tryz.isAgg0
  z0 := Tryz.sizeOf0
  v0 := Tryz.zeroValue0
  t3 := Tryz.underlying3
  a3 := Tryz.isAgg3
  z3 := Tryz.sizeOf3
  v3 := Tryz.zeroValue3
  t4 := Tryz.underlying4
  a4 := Tryz.isAgg4
  z4 := Tryz.sizeOf4
  v4 := Tryz.zeroValue4
  t5 := Tryz.underlying5
  a5 := Tryz.isAgg5
  z5 := Tryz.sizeOf5
  v5 := Tryz.zeroValue5
  t9 := Tryz.underlying9
  a9 := Tryz.isAgg9
  z9 := Tryz.sizeOf9
  v9 := Tryz.zeroValue9
  t22 := Tryz.underlying24
  a22 := Tryz.isAgg24
  z22 := Tryz.sizeOf24
  v22 := Tryz.zeroValue24
  t23 := Tryz.underlying24
  a23 := Tryz.isAgg24
  z23 := Tryz.sizeOf24
  v23 := Tryz.zeroValue24
  t25 := Tryz.underlying3
  a25 := Tryz.isAgg3
  z25 := Tryz.sizeOf3
  v25 := Tryz.zeroValue3
  t32 := Tryz.underlying355
  a32 := Tryz.isAgg355
  z32 := Tryz.sizeOf355
  v32 := Tryz.zeroValue355
  t35 := Tryz.underlying450
  a35 := Tryz.isAgg450
  z35 := Tryz.sizeOf450
  v35 := Tryz.zeroValue450
  t36 := Tryz.underlying451
  a36 := Tryz.isAgg451
  z36 := Tryz.sizeOf451
  v36 := Tryz.zeroValue451
  t41 := Tryz.underlying32
  a41 := Tryz.isAgg32
  z41 := Tryz.sizeOf32
  v41 := Tryz.zeroValue32
  t44 := Tryz.underlying410
  a44 := Tryz.isAgg410
  z44 := Tryz.sizeOf410
  v44 := Tryz.zeroValue410
  t46 := Tryz.underlying243
  a46 := Tryz.isAgg243
  z46 := Tryz.sizeOf243
  v46 := Tryz.zeroValue243
  t53 := Tryz.underlying481
  a53 := Tryz.isAgg481
  z53 := Tryz.sizeOf481
  v53 := Tryz.zeroValue481
  t57 := Tryz.underlying485
  a57 := Tryz.isAgg485
  z57 := Tryz.sizeOf485
  v57 := Tryz.zeroValue485
  t63 := Tryz.underlying507
  a63 := Tryz.isAgg507
  z63 := Tryz.sizeOf507
  v63 := Tryz.zeroValue507
  t64 := Tryz.underlying508
  a64 := Tryz.isAgg508
  z64 := Tryz.sizeOf508
  v64 := Tryz.zeroValue508 }
def Tryz.sortSymL_ren : Go.Shelf.Ren := ⟨fun | 6 => 217 | 15 => 225 | 14 => 263 | 28 => 272 | 29 => 273 | 20 => 298 | 21 => 299 | 22 => 300 | 23 => 301 | 24 => 302 | 25 => 303 | 26 => 304 | 27 => 305 | 46 => 330 | 47 => 307 | 48 => 308 | 49 => 331 | 50 => 332 | 57 => 360 | n => n, fun | 22 => 171 | 24 => 181 | 25 => 336 | 3 => 3 | 39 => 355 | 0 => 0 | 53 => 410 | 55 => 243 | 4 => 4 | 46 => 451 | 45 => 450 | 50 => 32 | 5 => 5 | 9 => 9 | 66 => 481 | 70 => 485 | 76 => 507 | 77 => 508 | n => n, fun | n => n⟩
theorem Tryz.sortSymL : Go.Proofs.SlLaysF0.n6 Tryz.prog Tryz.sortSymL_ren := {
  mixed := by kernel_rfl
  f6 := ⟨Tryz.f217.name, by decide, Tryz.func217.trans (congrArg some (by kernel_rfl))⟩
  f14 := ⟨Tryz.f263.name, by decide, Tryz.func263.trans (congrArg some (by kernel_rfl))⟩
  f15 := Tryz.func225.trans (congrArg some (by kernel_rfl))
  f20 := ⟨Tryz.f298.name, by decide, Tryz.func298.trans (congrArg some (by kernel_rfl))⟩
  f21 := ⟨Tryz.f299.name, by decide, Tryz.func299.trans (congrArg some (by kernel_rfl))⟩
  f22 := ⟨Tryz.f300.name, by decide, Tryz.func300.trans (congrArg some (by kernel_rfl))⟩
  f23 := ⟨Tryz.f301.name, by decide, Tryz.func301.trans (congrArg some (by kernel_rfl))⟩
  f24 := ⟨Tryz.f302.name, by decide, Tryz.func302.trans (congrArg some (by kernel_rfl))⟩
  f25 := ⟨Tryz.f303.name, by decide, Tryz.func303.trans (congrArg some (by kernel_rfl))⟩
  f26 := ⟨Tryz.f304.name, by decide, Tryz.func304.trans (congrArg some (by kernel_rfl))⟩
  f27 := ⟨Tryz.f305.name, by decide, Tryz.func305.trans (congrArg some (by kernel_rfl))⟩
  f28 := Tryz.func272.trans (congrArg some (by kernel_rfl))
  f29 := Tryz.func273.trans (congrArg some (by kernel_rfl))
  f46 := ⟨Tryz.f330.name, by decide, Tryz.func330.trans (congrArg some (by kernel_rfl))⟩
  f47 := Tryz.func307.trans (congrArg some (by kernel_rfl))
  f48 := Tryz.func308.trans (congrArg some (by kernel_rfl))
  f49 := ⟨Tryz.f331.name, by decide, Tryz.func331.trans (congrArg some (by kernel_rfl))⟩
  f50 := ⟨Tryz.f332.name, by decide, Tryz.func332.trans (congrArg some (by kernel_rfl))⟩
  f57 := ⟨Tryz.f360.name, by decide, Tryz.func360.trans (congrArg some (by kernel_rfl))⟩
  t0 := Tryz.underlying0
  a0 := Tryz.isAgg0
  z0 := Tryz.sizeOf0
  v0 := Tryz.zeroValue0
  t3 := Tryz.underlying3
  a3 := Tryz.isAgg3
  z3 := Tryz.sizeOf3
  v3 := Tryz.zeroValue3
  t4 := Tryz.underlying4
  a4 := Tryz.isAgg4
  z4 := Tryz.sizeOf4
  v4 := Tryz.zeroValue4
  t5 := Tryz.underlying5
  a5 := Tryz.isAgg5
  z5 := Tryz.sizeOf5
  v5 := Tryz.zeroValue5
  t9 := Tryz.underlying9
  a9 := Tryz.isAgg9
  z9 := Tryz.sizeOf9
  v9 := Tryz.zeroValue9
  t22 := Tryz.underlying171
  a22 := Tryz.isAgg171
  z22 := Tryz.sizeOf171
  v22 := Tryz.zeroValue171
  t25 := Tryz.underlying336
  a25 := Tryz.isAgg336
  z25 := Tryz.sizeOf336
  v25 := Tryz.zeroValue336
  t39 := Tryz.underlying355
  a39 := Tryz.isAgg355
  z39 := Tryz.sizeOf355
  v39 := Tryz.zeroValue355
  t45 := Tryz.underlying450
  a45 := Tryz.isAgg450
  z45 := Tryz.sizeOf450
  v45 := Tryz.zeroValue450
  t46 := Tryz.underlying451
  a46 := Tryz.isAgg451
  z46 := Tryz.sizeOf451
  v46 := Tryz.zeroValue451
  t50 := Tryz.underlying32
  a50 := Tryz.isAgg32
  z50 := Tryz.sizeOf32
  v50 := Tryz.zeroValue32
  t53 := Tryz.underlying410
  a53 := Tryz.isAgg410
  z53 := Tryz.sizeOf410
  v53 := Tryz.zeroValue410
  t55 := Tryz.underlying243
  a55 := Tryz.isAgg243
  z55 := Tryz.sizeOf243
  v55 := Tryz.zeroValue243
  t66 := Tryz.underlying481
  a66 := Tryz.isAgg481
  z66 := Tryz.sizeOf481
  v66 := Tryz.zeroValue481
  t70 := Tryz.underlying485
  a70 := Tryz.isAgg485
  z70 := Tryz.sizeOf485
  v70 := Tryz.zeroValue485
  t76 := Tryz.underlying507
  a76 := Tryz.isAgg507
  z76 := Tryz.sizeOf507
  v76 := Tryz.zeroValue507
  t77 := Tryz.underlying508
  a77 := Tryz.isAgg508
  z77 := Tryz.sizeOf508
  v77 := Tryz.zeroValue508 }
def Tryz.sortItemL_ren : Go.Shelf.Ren := ⟨fun | 6 => 296 | 15 => 225 | 14 => 329 | 28 => 272 | 29 => 273 | 20 => 352 | 21 => 353 | 22 => 354 | 23 => 355 | 24 => 356 | 25 => 357 | 26 => 358 | 27 => 359 | 46 => 369 | 47 => 307 | 48 => 308 | 49 => 370 | 50 => 371 | 57 => 376 | n => n, fun | 22 => 252 | 24 => 325 | 25 => 396 | 3 => 3 | 39 => 355 | 0 => 0 | 53 => 410 | 55 => 243 | 4 => 4 | 46 => 451 | 45 => 450 | 50 => 32 | 5 => 5 | 9 => 9 | 66 => 481 | 70 => 485 | 76 => 507 | 77 => 508 | n => n, fun | n => n⟩
theorem Tryz.sortItemL : Go.Proofs.SlLaysF0.n6 Tryz.prog Tryz.sortItemL_ren := {
  mixed := by kernel_rfl
  f6 := ⟨Tryz.f296.name, by decide, Tryz.func296.trans (congrArg some (by kernel_rfl))⟩
  f14 := ⟨Tryz.f329.name, by decide, Tryz.func329.trans (congrArg some (by kernel_rfl))⟩
  f15 := Tryz.func225.trans (congrArg some (by kernel_rfl))
  f20 := ⟨Tryz.f352.name, by decide, Tryz.func352.trans (congrArg some (by kernel_rfl))⟩
  f21 := ⟨Tryz.f353.name, by decide, Tryz.func353.trans (congrArg some (by kernel_rfl))⟩
  f22 := ⟨Tryz.f354.name, by decide, Tryz.func354.trans (congrArg some (by kernel_rfl))⟩
  f23 := ⟨Tryz.f355.name, by decide, Tryz.func355.trans (congrArg some (by kernel_rfl))⟩
  f24 := ⟨Tryz.f356.name, by decide, Tryz.func356.trans (congrArg some (by kernel_rfl))⟩
  f25 := ⟨Tryz.f357.name, by decide, Tryz.func357.trans (congrArg some (by kernel_rfl))⟩
  f26 := ⟨Tryz.f358.name, by decide, Tryz.func358.trans (congrArg some (by kernel_rfl))⟩
  f27 := ⟨Tryz.f359.name, by decide, Tryz.func359.trans (congrArg some (by kernel_rfl))⟩
  f28 := Tryz.func272.trans (congrArg some (by kernel_rfl))
  f29 := Tryz.func273.trans (congrArg some (by kernel_rfl))
  f46 := ⟨Tryz.f369.name, by decide, Tryz.func369.trans (congrArg some (by kernel_rfl))⟩
  f47 := Tryz.func307.trans (congrArg some (by kernel_rfl))
  f48 := Tryz.func308.trans (congrArg some (by kernel_rfl))
  f49 := ⟨Tryz.f370.name, by decide, Tryz.func370.trans (congrArg some (by kernel_rfl))⟩
  f50 := ⟨Tryz.f371.name, by decide, Tryz.func371.trans (congrArg some (by kernel_rfl))⟩
  f57 := ⟨Tryz.f376.name, by decide, Tryz.func376.trans (congrArg some (by kernel_rfl))⟩
  t0 := Tryz.underlying0
  a0 := Tryz.isAgg0
  z0 := Tryz.sizeOf0
  v0 := Tryz.zeroValue0
  t3 := Tryz.underlying3
  a3 := Tryz.isAgg3
  z3 := Tryz.sizeOf3
  v3 := Tryz.zeroValue3
  t4 := Tryz.underlying4
  a4 := Tryz.isAgg4
  z4 := Tryz.sizeOf4
  v4 := Tryz.zeroValue4
  t5 := Tryz.underlying5
  a5 := Tryz.isAgg5
  z5 := Tryz.sizeOf5
  v5 := Tryz.zeroValue5
  t9 := Tryz.underlying9
  a9 := Tryz.isAgg9
  z9 := Tryz.sizeOf9
  v9 := Tryz.zeroValue9
  t22 := Tryz.underlying252
  a22 := Tryz.isAgg252
  z22 := Tryz.sizeOf252
  v22 := Tryz.zeroValue252
  t25 := Tryz.underlying396
  a25 := Tryz.isAgg396
  z25 := Tryz.sizeOf396
  v25 := Tryz.zeroValue396
  t39 := Tryz.underlying355
  a39 := Tryz.isAgg355
  z39 := Tryz.sizeOf355
  v39 := Tryz.zeroValue355
  t45 := Tryz.underlying450
  a45 := Tryz.isAgg450
  z45 := Tryz.sizeOf450
  v45 := Tryz.zeroValue450
  t46 := Tryz.underlying451
  a46 := Tryz.isAgg451
  z46 := Tryz.sizeOf451
  v46 := Tryz.zeroValue451
  t50 := Tryz.underlying32
  a50 := Tryz.isAgg32
  z50 := Tryz.sizeOf32
  v50 := Tryz.zeroValue32
  t53 := Tryz.underlying410
  a53 := Tryz.isAgg410
  z53 := Tryz.sizeOf410
  v53 := Tryz.zeroValue410
  t55 := Tryz.underlying243
  a55 := Tryz.isAgg243
  z55 := Tryz.sizeOf243
  v55 := Tryz.zeroValue243
  t66 := Tryz.underlying481
  a66 := Tryz.isAgg481
  z66 := Tryz.sizeOf481
  v66 := Tryz.zeroValue481
  t70 := Tryz.underlying485
  a70 := Tryz.isAgg485
  z70 := Tryz.sizeOf485
  v70 := Tryz.zeroValue485
  t76 := Tryz.underlying507
  a76 := Tryz.isAgg507
  z76 := Tryz.sizeOf507
  v76 := Tryz.zeroValue507
  t77 := Tryz.underlying508
  a77 := Tryz.isAgg508
  z77 := Tryz.sizeOf508
  v77 := Tryz.zeroValue508 }
theorem Tryz.maps_Clone (b : Nat) (es : Array MapEntry) (clock : Nat) (w : World) (hb : w.heap[b]? = some (.map es clock)) :
    Calls Tryz.prog 283 #[.map (some b)] w fun e w' => e = .returned (.map (some w.heap.size)) ∧ w' = w.alloc (.map es clock) := AnyW.maps_Clone Tryz.cloneL b es clock w hb
theorem Tryz.maps_Clone_nil (w : World) : Calls Tryz.prog 283 #[.map none] w fun e w' => e = .returned (.map none) ∧ w' = w := AnyW.maps_Clone_nil Tryz.cloneL w
open Go.RowKit Go.Maps Go.Sort in
theorem Tryz.sortsL (m : Nat) : AnyZI.SortsIn Tryz.prog Tryz.sortedL_ren Fence.wide m :=
  ⟨fun blk off cap ss W hH hblk hsz => callsIn_wide.2 (AnyM.slices_Sort_int Tryz.sortL blk off cap ss W hH hblk hsz),
   fun p cap W => callsIn_wide.2 (AnyM.slices_Sort_int_none Tryz.sortL p cap W)⟩
open Go.RowKit Go.Maps Go.Sort in
theorem Tryz.maps_Keys (mb : Option Nat) (w : World) : Calls Tryz.prog 341 #[.map mb] w fun e w' => e = .returned (.func (.func 365) #[] #[.pointer (some ⟨w.heap.size, 0, none⟩)]) ∧ w' = w.alloc (.cells #[.map mb] 369) :=
  callsIn_wide.1 (show CallsIn Fence.wide 5 Tryz.prog 341 #[.map mb] w fun e w' => e = .returned (.func (.func 365) #[] #[.pointer (some ⟨w.heap.size, 0, none⟩)]) ∧ w' = w.alloc (.cells #[.map mb] 369) from AnyZI.keys_in Tryz.keysL Fence.wide 5 trivial rfl mb w)
open Go.RowKit Go.Maps Go.Sort in
theorem Tryz.slices_Sorted {H : Type} (b nn : Nat) (D0 : DataW H) (R : Value → Option (DataW H × List MemPlace)) (w : World) (hown : w.ownsMap Tryz.prog 3 R b nn D0) (hmax : Maps.size D0 ≤ maxLen) (hbytes : Maps.size D0 * 8 ≤ 140737488355328) :
    Calls Tryz.prog 340 #[.func (.func 365) #[] #[.pointer (some ⟨w.heap.size, 0, none⟩)]] (w.alloc (.cells #[.map (some b)] 369)) fun e w' => ∃ (v : Value) (ss : List Int), e = .returned v ∧ ss.Perm (intKeys D0) ∧
      w'.ownsRow (w.heap.size + 1) 3 1 v ss.length ((ss.mergeSort (fun x y => decide (x ≤ y))).map encZ) ∧ (v = .slice none 0 0 ↔ ss = []) ∧ Below (w.heap.size + 1) (w.alloc (.cells #[.map (some b)] 369)) w' := by
  have hbl := hown.lt
  have hseq : SeqGives Fence.wide 2 Tryz.prog 365 #[.pointer (some ⟨w.heap.size, 0, none⟩)] encZ (fun ss => ss.Perm (intKeys D0)) (Maps.size D0) (w.alloc (.cells #[.map (some b)] 369)) :=
    AnyZI.keys_gives (ρ := Tryz.keysL_ren) { Tryz.keysL with } Fence.wide _ trivial rfl (by omega) w.heap.size b nn D0 _ (by simp) (by simp) (by
      obtain ⟨es, clock, hb, Ft, hs, hD⟩ := hown
      exact ⟨es, clock, (Below.heap_alloc _ _ b hbl).trans hb, Ft, hs, hD⟩)
  have cS := AnyZI.sorted_in Tryz.sortedL Fence.wide 5 trivial trivial trivial trivial rfl (by omega) (Tryz.sortsL _) (enters_of Tryz.func288 (by kernel_rfl) rfl) 365 #[.pointer (some ⟨w.heap.size, 0, none⟩)] trivial (enters_of Tryz.func365 (by kernel_rfl) rfl) _ _ hmax hbytes _ hseq
  change CallsIn _ _ Tryz.prog 340 _ _ _ at cS
  refine Calls.mono (callsIn_wide.1 cS) ?_
  rintro e w' ⟨v, ss, rfl, hS, hrow, hnil, hb⟩
  have hsz : (w.alloc (.cells #[.map (some b)] 369)).heap.size = w.heap.size + 1 := by simp
  rw [hsz] at hrow hb
  exact ⟨v, ss, rfl, hS, hrow, hnil, hb⟩
open Go.RowKit Go.Maps Go.Sort in
theorem Tryz.slices_Sorted_nil (w : World) :
    Calls Tryz.prog 340 #[.func (.func 365) #[] #[.pointer (some ⟨w.heap.size, 0, none⟩)]] (w.alloc (.cells #[.map none] 369)) fun e w' => e = .returned (.slice none 0 0) ∧ Below (w.heap.size + 1) (w.alloc (.cells #[.map none] 369)) w' := by
  have hseq : SeqGives Fence.wide 2 Tryz.prog 365 #[.pointer (some ⟨w.heap.size, 0, none⟩)] encZ (fun ss : List Int => ss = []) 0 (w.alloc (.cells #[.map none] 369)) :=
    AnyZI.keys_gives_nil (ρ := Tryz.keysL_ren) { Tryz.keysL with } Fence.wide _ trivial rfl w.heap.size _ (by simp) (by simp)
  have cS := AnyZI.sorted_in Tryz.sortedL Fence.wide 5 trivial trivial trivial trivial rfl (by omega) (Tryz.sortsL _) (enters_of Tryz.func288 (by kernel_rfl) rfl) 365 #[.pointer (some ⟨w.heap.size, 0, none⟩)] trivial (enters_of Tryz.func365 (by kernel_rfl) rfl) _ 0 (Nat.zero_le _) (by omega) _ hseq
  change CallsIn _ _ Tryz.prog 340 _ _ _ at cS
  refine Calls.mono (callsIn_wide.1 cS) ?_
  rintro e w' ⟨v, ss, rfl, rfl, hrow, hnil, hb⟩
  have hsz : (w.alloc (.cells #[.map none] 369)).heap.size = w.heap.size + 1 := by simp
  rw [hsz] at hb
  obtain rfl : v = .slice none 0 0 := hnil.2 rfl
  exact ⟨rfl, hb⟩
end Go.Proofs
