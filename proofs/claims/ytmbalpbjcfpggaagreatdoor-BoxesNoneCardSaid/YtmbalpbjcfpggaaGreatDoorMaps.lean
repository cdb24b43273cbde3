/-
  DERIVED: THE SHELF's CONTRACTS AT THIS DUMP, IN PLAIN WORDS (tools/lay-plain.mjs out of 'TryzMapsRaw.lean', which tools/lay-shelf.mjs wrote): THE SAME DECLARATIONS UNDER THE SAME NAMES: 'import', 'namespace', 'open', 'def', 'theorem' AND NOTHING ELSE: no command of the shelf's: FOR A HAND-IN. Each laying: the table of numbers ('.._ren') and one theorem, a field a fact of the dump's own or the kernel's comparison; each contract: ONE APPLICATION.
-/
import Derived.Shelf.SlIterI.Nil
import Derived.Shelf.SortM.Plain
import Derived.Shelf.SortM.SortNone
import Derived.Shelf.SlMaps.Clone
import Derived.Ground.GgzProg
import Derived.Ground.SlgmProg
import Derived.Ground.SlmcProg
import Derived.Shelf.SlSortCmp.NoneTotal
import Derived.Ground.SlsfProg
import Derived.Test.YtmbalpbjcfpggaaGreatDoorProg
namespace Go.Proofs
open Go.Shelf
def Tryz.cloneL_ren : Go.Shelf.Ren := ⟨fun | 5 => 267 | 7 => 305 | n => n, fun | 23 => 317 | 25 => 3 | 3 => 4 | 4 => 4 | 20 => 20 | n => n, fun | n => n⟩
theorem Tryz.cloneL : Go.Proofs.SlLaysW.n5 Tryz.prog Tryz.cloneL_ren := {
  mixed := by kernel_rfl
  f5 := ⟨Tryz.f267.name, by decide, Tryz.func267.trans (congrArg some (by kernel_rfl))⟩
  f7 := Tryz.func305.trans (congrArg some (by kernel_rfl))
  t4 := Tryz.underlying4
  a4 := Tryz.isAgg4
  z4 := Tryz.sizeOf4
  v4 := Tryz.zeroValue4
  t20 := Tryz.underlying20
  a20 := Tryz.isAgg20
  z20 := Tryz.sizeOf20
  v20 := Tryz.zeroValue20
  t23 := Tryz.underlying317
  a23 := Tryz.isAgg317
  z23 := Tryz.sizeOf317
  v23 := Tryz.zeroValue317 }
def Tryz.keysL_ren : Go.Shelf.Ren := ⟨fun | 7 => 338 | 10 => 359 | n => n, fun | 23 => 317 | 26 => 3 | 3 => 4 | 28 => 507 | 0 => 0 | 27 => 506 | 33 => 376 | 4 => 4 | n => n, fun | n => n⟩
theorem Tryz.keysL : Go.Proofs.SlLaysZI.n7 Tryz.prog Tryz.keysL_ren := {
  mixed := by kernel_rfl
  f7 := ⟨Tryz.f338.name, by decide, Tryz.func338.trans (congrArg some (by kernel_rfl))⟩
  f10 := ⟨Tryz.f359.name, by decide, Tryz.func359.trans (congrArg some (by kernel_rfl))⟩
  t0 := Tryz.underlying0
  a0 := Tryz.isAgg0
  z0 := Tryz.sizeOf0
  v0 := Tryz.zeroValue0
  t4 := Tryz.underlying4
  a4 := Tryz.isAgg4
  z4 := Tryz.sizeOf4
  v4 := Tryz.zeroValue4
  t23 := Tryz.underlying317
  a23 := Tryz.isAgg317
  z23 := Tryz.sizeOf317
  v23 := Tryz.zeroValue317
  t26 := Tryz.underlying3
  a26 := Tryz.isAgg3
  z26 := Tryz.sizeOf3
  v26 := Tryz.zeroValue3
  t27 := Tryz.underlying506
  a27 := Tryz.isAgg506
  z27 := Tryz.sizeOf506
  v27 := Tryz.zeroValue506
  t28 := Tryz.underlying507
  a28 := Tryz.isAgg507
  z28 := Tryz.sizeOf507
  v28 := Tryz.zeroValue507
  t33 := Tryz.underlying376
  a33 := Tryz.isAgg376
  z33 := Tryz.sizeOf376
  v33 := Tryz.zeroValue376 }
def Tryz.sortedL_ren : Go.Shelf.Ren := ⟨fun | 6 => 337 | 8 => 358 | 9 => 272 | 11 => 374 | 13 => 253 | 12 => 308 | 23 => 292 | 24 => 293 | 14 => 339 | 15 => 340 | 16 => 341 | 17 => 342 | 18 => 343 | 19 => 344 | 20 => 345 | 21 => 346 | 22 => 347 | 25 => 360 | 26 => 327 | 27 => 328 | 28 => 361 | 29 => 362 | 30 => 246 | 31 => 375 | n => n, fun | 26 => 3 | 28 => 507 | 24 => 59 | 0 => 0 | 3 => 3 | 37 => 303 | 48 => 378 | 50 => 343 | 4 => 4 | 40 => 470 | 39 => 469 | 45 => 227 | 5 => 5 | 9 => 9 | 51 => 498 | 55 => 502 | 57 => 520 | 58 => 521 | 33 => 376 | n => n, fun | n => n⟩
theorem Tryz.sortedL : Go.Proofs.SlLaysZI.n6 Tryz.prog Tryz.sortedL_ren := {
  mixed := by kernel_rfl
  f6 := ⟨Tryz.f337.name, by decide, Tryz.func337.trans (congrArg some (by kernel_rfl))⟩
  f8 := ⟨Tryz.f358.name, by decide, Tryz.func358.trans (congrArg some (by kernel_rfl))⟩
  f11 := ⟨Tryz.f374.name, by decide, Tryz.func374.trans (congrArg some (by kernel_rfl))⟩
  t0 := Tryz.underlying0
  a0 := Tryz.isAgg0
  z0 := Tryz.sizeOf0
  v0 := Tryz.zeroValue0
  t24 := Tryz.underlying59
  a24 := Tryz.isAgg59
  z24 := Tryz.sizeOf59
  v24 := Tryz.zeroValue59
  t26 := Tryz.underlying3
  a26 := Tryz.isAgg3
  z26 := Tryz.sizeOf3
  v26 := Tryz.zeroValue3
  t28 := Tryz.underlying507
  a28 := Tryz.isAgg507
  z28 := Tryz.sizeOf507
  v28 := Tryz.zeroValue507
  i26 := by kernel_rfl }
def Tryz.sortL_ren : Go.Shelf.Ren := ⟨fun | 5 => 272 | 8 => 253 | 7 => 308 | 19 => 292 | 20 => 293 | 10 => 339 | 11 => 340 | 12 => 341 | 13 => 342 | 14 => 343 | 15 => 344 | 16 => 345 | 17 => 346 | 18 => 347 | 30 => 360 | 31 => 327 | 32 => 328 | 33 => 361 | 34 => 362 | 35 => 246 | 40 => 375 | n => n, fun | 23 => 59 | 25 => 3 | 3 => 3 | 32 => 303 | 22 => 59 | 0 => 0 | 44 => 378 | 46 => 343 | 4 => 4 | 36 => 470 | 35 => 469 | 41 => 227 | 5 => 5 | 9 => 9 | 53 => 498 | 57 => 502 | 63 => 520 | 64 => 521 | n => n, fun | n => n⟩
theorem Tryz.sortL : Go.Proofs.SlLaysM.n5 Tryz.prog Tryz.sortL_ren := {
  mixed := by kernel_rfl
  f5 := ⟨Tryz.f272.name, by decide, Tryz.func272.trans (congrArg some (by kernel_rfl))⟩
  f7 := ⟨Tryz.f308.name, by decide, Tryz.func308.trans (congrArg some (by kernel_rfl))⟩
  f8 := Tryz.func253.trans (congrArg some (by kernel_rfl))
  f10 := ⟨Tryz.f339.name, by decide, Tryz.func339.trans (congrArg some (by kernel_rfl))⟩
  f11 := ⟨Tryz.f340.name, by decide, Tryz.func340.trans (congrArg some (by kernel_rfl))⟩
  f12 := ⟨Tryz.f341.name, by decide, Tryz.func341.trans (congrArg some (by kernel_rfl))⟩
  f13 := ⟨Tryz.f342.name, by decide, Tryz.func342.trans (congrArg some (by kernel_rfl))⟩
  f14 := ⟨Tryz.f343.name, by decide, Tryz.func343.trans (congrArg some (by kernel_rfl))⟩
  f15 := ⟨Tryz.f344.name, by decide, Tryz.func344.trans (congrArg some (by kernel_rfl))⟩
  f16 := ⟨Tryz.f345.name, by decide, Tryz.func345.trans (congrArg some (by kernel_rfl))⟩
  f17 := ⟨Tryz.f346.name, by decide, Tryz.func346.trans (congrArg some (by kernel_rfl))⟩
  f18 := ⟨Tryz.f347.name, by decide, Tryz.func347.trans (congrArg some (by kernel_rfl))⟩
  f19 := Tryz.func292.trans (congrArg some (by kernel_rfl))
  f20 := Tryz.func293.trans (congrArg some (by kernel_rfl))
  f30 := ⟨Tryz.f360.name, by decide, Tryz.func360.trans (congrArg some (by kernel_rfl))⟩
  f31 := Tryz.func327.trans (congrArg some (by kernel_rfl))
  f32 := Tryz.func328.trans (congrArg some (by kernel_rfl))
  f33 := ⟨Tryz.f361.name, by decide, Tryz.func361.trans (congrArg some (by kernel_rfl))⟩
  f34 := ⟨Tryz.f362.name, by decide, Tryz.func362.trans (congrArg some (by kernel_rfl))⟩
  f35 := ⟨Tryz.f246.name, by decide, Tryz.func246.trans (congrArg some (by kernel_rfl))⟩
  f40 := ⟨Tryz.f375.name, by decide, Tryz.func375.trans (congrArg some (by kernel_rfl))⟩
  t0 := Tryz.underlying0
  a0 := Tryz.isAgg0
  z0 := Tryz.sizeOf0
  v0 := Tryz.zeroValue0
  t3 := Tryz.underlying3
  a3 := Tryz.isAgg3
  z3 := Tryz.sizeOf3
  v3 := Tryz.zeroValue3
  t4 := Tryz.underlying4
  a4 := Tryz.isAgg4
  z4 := Tryz.sizeOf4
  v4 := Tryz.zeroValue4
  t5 := Tryz.underlying5
  a5 := Tryz.isAgg5
  z5 := Tryz.sizeOf5
  v5 := Tryz.zeroValue5
  t9 := Tryz.underlying9
  a9 := Tryz.isAgg9
  z9 := Tryz.sizeOf9
  v9 := Tryz.zeroValue9
  t22 := Tryz.underlying59
  a22 := Tryz.isAgg59
  z22 := Tryz.sizeOf59
  v22 := Tryz.zeroValue59
  t23 := Tryz.underlying59
  a23 := Tryz.isAgg59
  z23 := Tryz.sizeOf59
  v23 := Tryz.zeroValue59
  t25 := Tryz.underlying3
  a25 := Tryz.isAgg3
  z25 := Tryz.sizeOf3
  v25 := Tryz.zeroValue3
  t32 := Tryz.underlying303
  a32 := Tryz.isAgg303
  z32 := Tryz.sizeOf303
  v32 := Tryz.zeroValue303
  t35 := Tryz.underlying469
  a35 := Tryz.isAgg469
  z35 := Tryz.sizeOf469
  v35 := Tryz.zeroValue469
  t36 := Tryz.underlying470
  a36 := Tryz.isAgg470
  z36 := Tryz.sizeOf470
  v36 := Tryz.zeroValue470
  t41 := Tryz.underlying227
  a41 := Tryz.isAgg227
  z41 := Tryz.sizeOf227
  v41 := Tryz.zeroValue227
  t44 := Tryz.underlying378
  a44 := Tryz.isAgg378
  z44 := Tryz.sizeOf378
  v44 := Tryz.zeroValue378
  t46 := Tryz.underlying343
  a46 := Tryz.isAgg343
  z46 := Tryz.sizeOf343
  v46 := Tryz.zeroValue343
  t53 := Tryz.underlying498
  a53 := Tryz.isAgg498
  z53 := Tryz.sizeOf498
  v53 := Tryz.zeroValue498
  t57 := Tryz.underlying502
  a57 := Tryz.isAgg502
  z57 := Tryz.sizeOf502
  v57 := Tryz.zeroValue502
  t63 := Tryz.underlying520
  a63 := Tryz.isAgg520
  z63 := Tryz.sizeOf520
  v63 := Tryz.zeroValue520
  t64 := Tryz.underlying521
  a64 := Tryz.isAgg521
  z64 := Tryz.sizeOf521
  v64 := Tryz.zeroValue521 }
def Tryz.sortSymL_ren : Go.Shelf.Ren := ⟨fun | 6 => 244 | 15 => 253 | 14 => 283 | 28 => 292 | 29 => 293 | 20 => 318 | 21 => 319 | 22 => 320 | 23 => 321 | 24 => 322 | 25 => 323 | 26 => 324 | 27 => 325 | 46 => 351 | 47 => 327 | 48 => 328 | 49 => 352 | 50 => 353 | 57 => 371 | n => n, fun | 22 => 177 | 24 => 189 | 25 => 359 | 3 => 3 | 39 => 303 | 0 => 0 | 53 => 378 | 55 => 343 | 4 => 4 | 46 => 470 | 45 => 469 | 50 => 227 | 5 => 5 | 9 => 9 | 66 => 498 | 70 => 502 | 76 => 520 | 77 => 521 | n => n, fun | n => n⟩
theorem Tryz.sortSymL : Go.Proofs.SlLaysF0.n6 Tryz.prog Tryz.sortSymL_ren := {
  mixed := by kernel_rfl
  f6 := ⟨Tryz.f244.name, by decide, Tryz.func244.trans (congrArg some (by kernel_rfl))⟩
  f14 := ⟨Tryz.f283.name, by decide, Tryz.func283.trans (congrArg some (by kernel_rfl))⟩
  f15 := Tryz.func253.trans (congrArg some (by kernel_rfl))
  f20 := ⟨Tryz.f318.name, by decide, Tryz.func318.trans (congrArg some (by kernel_rfl))⟩
  f21 := ⟨Tryz.f319.name, by decide, Tryz.func319.trans (congrArg some (by kernel_rfl))⟩
  f22 := ⟨Tryz.f320.name, by decide, Tryz.func320.trans (congrArg some (by kernel_rfl))⟩
  f23 := ⟨Tryz.f321.name, by decide, Tryz.func321.trans (congrArg some (by kernel_rfl))⟩
  f24 := ⟨Tryz.f322.name, by decide, Tryz.func322.trans (congrArg some (by kernel_rfl))⟩
  f25 := ⟨Tryz.f323.name, by decide, Tryz.func323.trans (congrArg some (by kernel_rfl))⟩
  f26 := ⟨Tryz.f324.name, by decide, Tryz.func324.trans (congrArg some (by kernel_rfl))⟩
  f27 := ⟨Tryz.f325.name, by decide, Tryz.func325.trans (congrArg some (by kernel_rfl))⟩
  f28 := Tryz.func292.trans (congrArg some (by kernel_rfl))
  f29 := Tryz.func293.trans (congrArg some (by kernel_rfl))
  f46 := ⟨Tryz.f351.name, by decide, Tryz.func351.trans (congrArg some (by kernel_rfl))⟩
  f47 := Tryz.func327.trans (congrArg some (by kernel_rfl))
  f48 := Tryz.func328.trans (congrArg some (by kernel_rfl))
  f49 := ⟨Tryz.f352.name, by decide, Tryz.func352.trans (congrArg some (by kernel_rfl))⟩
  f50 := ⟨Tryz.f353.name, by decide, Tryz.func353.trans (congrArg some (by kernel_rfl))⟩
  f57 := ⟨Tryz.f371.name, by decide, Tryz.func371.trans (congrArg some (by kernel_rfl))⟩
  t0 := Tryz.underlying0
  a0 := Tryz.isAgg0
  z0 := Tryz.sizeOf0
  v0 := Tryz.zeroValue0
  t3 := Tryz.underlying3
  a3 := Tryz.isAgg3
  z3 := Tryz.sizeOf3
  v3 := Tryz.zeroValue3
  t4 := Tryz.underlying4
  a4 := Tryz.isAgg4
  z4 := Tryz.sizeOf4
  v4 := Tryz.zeroValue4
  t5 := Tryz.underlying5
  a5 := Tryz.isAgg5
  z5 := Tryz.sizeOf5
  v5 := Tryz.zeroValue5
  t9 := Tryz.underlying9
  a9 := Tryz.isAgg9
  z9 := Tryz.sizeOf9
  v9 := Tryz.zeroValue9
  t22 := Tryz.underlying177
  a22 := Tryz.isAgg177
  z22 := Tryz.sizeOf177
  v22 := Tryz.zeroValue177
  t25 := Tryz.underlying359
  a25 := Tryz.isAgg359
  z25 := Tryz.sizeOf359
  v25 := Tryz.zeroValue359
  t39 := Tryz.underlying303
  a39 := Tryz.isAgg303
  z39 := Tryz.sizeOf303
  v39 := Tryz.zeroValue303
  t45 := Tryz.underlying469
  a45 := Tryz.isAgg469
  z45 := Tryz.sizeOf469
  v45 := Tryz.zeroValue469
  t46 := Tryz.underlying470
  a46 := Tryz.isAgg470
  z46 := Tryz.sizeOf470
  v46 := Tryz.zeroValue470
  t50 := Tryz.underlying227
  a50 := Tryz.isAgg227
  z50 := Tryz.sizeOf227
  v50 := Tryz.zeroValue227
  t53 := Tryz.underlying378
  a53 := Tryz.isAgg378
  z53 := Tryz.sizeOf378
  v53 := Tryz.zeroValue378
  t55 := Tryz.underlying343
  a55 := Tryz.isAgg343
  z55 := Tryz.sizeOf343
  v55 := Tryz.zeroValue343
  t66 := Tryz.underlying498
  a66 := Tryz.isAgg498
  z66 := Tryz.sizeOf498
  v66 := Tryz.zeroValue498
  t70 := Tryz.underlying502
  a70 := Tryz.isAgg502
  z70 := Tryz.sizeOf502
  v70 := Tryz.zeroValue502
  t76 := Tryz.underlying520
  a76 := Tryz.isAgg520
  z76 := Tryz.sizeOf520
  v76 := Tryz.zeroValue520
  t77 := Tryz.underlying521
  a77 := Tryz.isAgg521
  z77 := Tryz.sizeOf521
  v77 := Tryz.zeroValue521 }
def Tryz.sortItemL_ren : Go.Shelf.Ren := ⟨fun | 6 => 316 | 15 => 253 | 14 => 350 | 28 => 292 | 29 => 293 | 20 => 363 | 21 => 364 | 22 => 365 | 23 => 366 | 24 => 367 | 25 => 368 | 26 => 369 | 27 => 370 | 46 => 376 | 47 => 327 | 48 => 328 | 49 => 377 | 50 => 378 | 57 => 380 | n => n, fun | 22 => 263 | 24 => 349 | 25 => 421 | 3 => 3 | 39 => 303 | 0 => 0 | 53 => 378 | 55 => 343 | 4 => 4 | 46 => 470 | 45 => 469 | 50 => 227 | 5 => 5 | 9 => 9 | 66 => 498 | 70 => 502 | 76 => 520 | 77 => 521 | n => n, fun | n => n⟩
theorem Tryz.sortItemL : Go.Proofs.SlLaysF0.n6 Tryz.prog Tryz.sortItemL_ren := {
  mixed := by kernel_rfl
  f6 := ⟨Tryz.f316.name, by decide, Tryz.func316.trans (congrArg some (by kernel_rfl))⟩
  f14 := ⟨Tryz.f350.name, by decide, Tryz.func350.trans (congrArg some (by kernel_rfl))⟩
  f15 := Tryz.func253.trans (congrArg some (by kernel_rfl))
  f20 := ⟨Tryz.f363.name, by decide, Tryz.func363.trans (congrArg some (by kernel_rfl))⟩
  f21 := ⟨Tryz.f364.name, by decide, Tryz.func364.trans (congrArg some (by kernel_rfl))⟩
  f22 := ⟨Tryz.f365.name, by decide, Tryz.func365.trans (congrArg some (by kernel_rfl))⟩
  f23 := ⟨Tryz.f366.name, by decide, Tryz.func366.trans (congrArg some (by kernel_rfl))⟩
  f24 := ⟨Tryz.f367.name, by decide, Tryz.func367.trans (congrArg some (by kernel_rfl))⟩
  f25 := ⟨Tryz.f368.name, by decide, Tryz.func368.trans (congrArg some (by kernel_rfl))⟩
  f26 := ⟨Tryz.f369.name, by decide, Tryz.func369.trans (congrArg some (by kernel_rfl))⟩
  f27 := ⟨Tryz.f370.name, by decide, Tryz.func370.trans (congrArg some (by kernel_rfl))⟩
  f28 := Tryz.func292.trans (congrArg some (by kernel_rfl))
  f29 := Tryz.func293.trans (congrArg some (by kernel_rfl))
  f46 := ⟨Tryz.f376.name, by decide, Tryz.func376.trans (congrArg some (by kernel_rfl))⟩
  f47 := Tryz.func327.trans (congrArg some (by kernel_rfl))
  f48 := Tryz.func328.trans (congrArg some (by kernel_rfl))
  f49 := ⟨Tryz.f377.name, by decide, Tryz.func377.trans (congrArg some (by kernel_rfl))⟩
  f50 := ⟨Tryz.f378.name, by decide, Tryz.func378.trans (congrArg some (by kernel_rfl))⟩
  f57 := ⟨Tryz.f380.name, by decide, Tryz.func380.trans (congrArg some (by kernel_rfl))⟩
  t0 := Tryz.underlying0
  a0 := Tryz.isAgg0
  z0 := Tryz.sizeOf0
  v0 := Tryz.zeroValue0
  t3 := Tryz.underlying3
  a3 := Tryz.isAgg3
  z3 := Tryz.sizeOf3
  v3 := Tryz.zeroValue3
  t4 := Tryz.underlying4
  a4 := Tryz.isAgg4
  z4 := Tryz.sizeOf4
  v4 := Tryz.zeroValue4
  t5 := Tryz.underlying5
  a5 := Tryz.isAgg5
  z5 := Tryz.sizeOf5
  v5 := Tryz.zeroValue5
  t9 := Tryz.underlying9
  a9 := Tryz.isAgg9
  z9 := Tryz.sizeOf9
  v9 := Tryz.zeroValue9
  t22 := Tryz.underlying263
  a22 := Tryz.isAgg263
  z22 := Tryz.sizeOf263
  v22 := Tryz.zeroValue263
  t25 := Tryz.underlying421
  a25 := Tryz.isAgg421
  z25 := Tryz.sizeOf421
  v25 := Tryz.zeroValue421
  t39 := Tryz.underlying303
  a39 := Tryz.isAgg303
  z39 := Tryz.sizeOf303
  v39 := Tryz.zeroValue303
  t45 := Tryz.underlying469
  a45 := Tryz.isAgg469
  z45 := Tryz.sizeOf469
  v45 := Tryz.zeroValue469
  t46 := Tryz.underlying470
  a46 := Tryz.isAgg470
  z46 := Tryz.sizeOf470
  v46 := Tryz.zeroValue470
  t50 := Tryz.underlying227
  a50 := Tryz.isAgg227
  z50 := Tryz.sizeOf227
  v50 := Tryz.zeroValue227
  t53 := Tryz.underlying378
  a53 := Tryz.isAgg378
  z53 := Tryz.sizeOf378
  v53 := Tryz.zeroValue378
  t55 := Tryz.underlying343
  a55 := Tryz.isAgg343
  z55 := Tryz.sizeOf343
  v55 := Tryz.zeroValue343
  t66 := Tryz.underlying498
  a66 := Tryz.isAgg498
  z66 := Tryz.sizeOf498
  v66 := Tryz.zeroValue498
  t70 := Tryz.underlying502
  a70 := Tryz.isAgg502
  z70 := Tryz.sizeOf502
  v70 := Tryz.zeroValue502
  t76 := Tryz.underlying520
  a76 := Tryz.isAgg520
  z76 := Tryz.sizeOf520
  v76 := Tryz.zeroValue520
  t77 := Tryz.underlying521
  a77 := Tryz.isAgg521
  z77 := Tryz.sizeOf521
  v77 := Tryz.zeroValue521 }
theorem Tryz.maps_Clone (b : Nat) (es : Array MapEntry) (clock : Nat) (w : World) (hb : w.heap[b]? = some (.map es clock)) :
    Calls Tryz.prog 267 #[.map (some b)] w fun e w' => e = .returned (.map (some w.heap.size)) ∧ w' = w.alloc (.map es clock) := AnyW.maps_Clone Tryz.cloneL b es clock w hb
theorem Tryz.maps_Clone_nil (w : World) : Calls Tryz.prog 267 #[.map none] w fun e w' => e = .returned (.map none) ∧ w' = w := AnyW.maps_Clone_nil Tryz.cloneL w
open Go.RowKit Go.Maps Go.Sort in
theorem Tryz.sortsL (m : Nat) : AnyZI.SortsIn Tryz.prog Tryz.sortedL_ren Fence.wide m :=
  ⟨fun blk off cap ss W hH hblk hsz => callsIn_wide.2 (AnyM.slices_Sort_int Tryz.sortL blk off cap ss W hH hblk hsz),
   fun p cap W => callsIn_wide.2 (AnyM.slices_Sort_int_none Tryz.sortL p cap W)⟩
open Go.RowKit Go.Maps Go.Sort in
theorem Tryz.maps_Keys (mb : Option Nat) (w : World) : Calls Tryz.prog 338 #[.map mb] w fun e w' => e = .returned (.func (.func 359) #[] #[.pointer (some ⟨w.heap.size, 0, none⟩)]) ∧ w' = w.alloc (.cells #[.map mb] 317) :=
  callsIn_wide.1 (show CallsIn Fence.wide 5 Tryz.prog 338 #[.map mb] w fun e w' => e = .returned (.func (.func 359) #[] #[.pointer (some ⟨w.heap.size, 0, none⟩)]) ∧ w' = w.alloc (.cells #[.map mb] 317) from AnyZI.keys_in Tryz.keysL Fence.wide 5 trivial rfl mb w)
open Go.RowKit Go.Maps Go.Sort in
theorem Tryz.slices_Sorted {H : Type} (b nn : Nat) (D0 : DataW H) (R : Value → Option (DataW H × List MemPlace)) (w : World) (hown : w.ownsMap Tryz.prog 3 R b nn D0) (hmax : Maps.size D0 ≤ maxLen) (hbytes : Maps.size D0 * 8 ≤ 140737488355328) :
    Calls Tryz.prog 337 #[.func (.func 359) #[] #[.pointer (some ⟨w.heap.size, 0, none⟩)]] (w.alloc (.cells #[.map (some b)] 317)) fun e w' => ∃ (v : Value) (ss : List Int), e = .returned v ∧ ss.Perm (intKeys D0) ∧
      w'.ownsRow (w.heap.size + 1) 3 1 v ss.length ((ss.mergeSort (fun x y => decide (x ≤ y))).map encZ) ∧ (v = .slice none 0 0 ↔ ss = []) ∧ Below (w.heap.size + 1) (w.alloc (.cells #[.map (some b)] 317)) w' := by
  have hbl := hown.lt
  have hseq : SeqGives Fence.wide 2 Tryz.prog 359 #[.pointer (some ⟨w.heap.size, 0, none⟩)] encZ (fun ss => ss.Perm (intKeys D0)) (Maps.size D0) (w.alloc (.cells #[.map (some b)] 317)) :=
    AnyZI.keys_gives (ρ := Tryz.keysL_ren) { Tryz.keysL with } Fence.wide _ trivial rfl (by omega) w.heap.size b nn D0 _ (by simp) (by simp) (by
      obtain ⟨es, clock, hb, Ft, hs, hD⟩ := hown
      exact ⟨es, clock, (Below.heap_alloc _ _ b hbl).trans hb, Ft, hs, hD⟩)
  have cS := AnyZI.sorted_in Tryz.sortedL Fence.wide 5 trivial trivial trivial trivial rfl (by omega) (Tryz.sortsL _) (enters_of Tryz.func272 (by kernel_rfl) rfl) 359 #[.pointer (some ⟨w.heap.size, 0, none⟩)] trivial (enters_of Tryz.func359 (by kernel_rfl) rfl) _ _ hmax hbytes _ hseq
  change CallsIn _ _ Tryz.prog 337 _ _ _ at cS
  refine Calls.mono (callsIn_wide.1 cS) ?_
  rintro e w' ⟨v, ss, rfl, hS, hrow, hnil, hb⟩
  have hsz : (w.alloc (.cells #[.map (some b)] 317)).heap.size = w.heap.size + 1 := by simp
  rw [hsz] at hrow hb
  exact ⟨v, ss, rfl, hS, hrow, hnil, hb⟩
open Go.RowKit Go.Maps Go.Sort in
theorem Tryz.slices_Sorted_nil (w : World) :
    Calls Tryz.prog 337 #[.func (.func 359) #[] #[.pointer (some ⟨w.heap.size, 0, none⟩)]] (w.alloc (.cells #[.map none] 317)) fun e w' => e = .returned (.slice none 0 0) ∧ Below (w.heap.size + 1) (w.alloc (.cells #[.map none] 317)) w' := by
  have hseq : SeqGives Fence.wide 2 Tryz.prog 359 #[.pointer (some ⟨w.heap.size, 0, none⟩)] encZ (fun ss : List Int => ss = []) 0 (w.alloc (.cells #[.map none] 317)) :=
    AnyZI.keys_gives_nil (ρ := Tryz.keysL_ren) { Tryz.keysL with } Fence.wide _ trivial rfl w.heap.size _ (by simp) (by simp)
  have cS := AnyZI.sorted_in Tryz.sortedL Fence.wide 5 trivial trivial trivial trivial rfl (by omega) (Tryz.sortsL _) (enters_of Tryz.func272 (by kernel_rfl) rfl) 359 #[.pointer (some ⟨w.heap.size, 0, none⟩)] trivial (enters_of Tryz.func359 (by kernel_rfl) rfl) _ 0 (Nat.zero_le _) (by omega) _ hseq
  change CallsIn _ _ Tryz.prog 337 _ _ _ at cS
  refine Calls.mono (callsIn_wide.1 cS) ?_
  rintro e w' ⟨v, ss, rfl, rfl, hrow, hnil, hb⟩
  have hsz : (w.alloc (.cells #[.map none] 317)).heap.size = w.heap.size + 1 := by simp
  rw [hsz] at hb
  obtain rfl : v = .slice none 0 0 := hnil.2 rfl
  exact ⟨rfl, hb⟩
end Go.Proofs
