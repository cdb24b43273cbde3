/-
  A part of the proof: what the functions of the program come to, read off the model: no premise of its own, no axiom. Blank space is spared. By an AI agent.
-/
import Derived.Test.YtihllmhdjbomjaaGreatDoorU32
import Derived.Test.YtihllmhdjbomjaaGreatDoorU2
import Derived.Shelf.LaysM
import Derived.Ground.Names2Prog
import Derived.Test.YtihllmhdjbomjaaGreatDoorProg
set_option linter.all false
set_option maxRecDepth 100000
noncomputable section
section
namespace Go.Fk
open Go Go.Ev
theorem tree_Parse_none {s:ByteArray} {w:World} {K:(Option Addr × Int × Int)→World→Prop} (hK:K (none,0,1) w):tree_Parser_Parse.C none s w K:=by
 refine tree_Parser_Parse.ok _ _ _ _ ?_
 simp only [tree_Parser_Parse.M]
 exact hK
theorem shape_New_none {w:World} {K:(Option Addr × Int)→World→Prop} (hK:K (none,1) w):shape_New.C none w K:=by
 refine shape_New.ok _ _ _ ?_
 simp only [shape_New.M]
 exact hK
theorem shape_Node_none {n:Int} {w:World} {K:(Int × Bool)→World→Prop} (hK:K (0,false) w):shape_Shape_Node.C none n w K:=by
 refine shape_Shape_Node.ok _ _ _ _ ?_
 simp only [shape_Shape_Node.M]
 exact hK
theorem shape_Of_none {n:Int} {w:World} {K:(Int × Bool)→World→Prop} (hK:K (0,false) w):shape_Shape_Of.C none n w K:=by
 refine shape_Shape_Of.ok _ _ _ _ ?_
 simp only [shape_Shape_Of.M]
 exact hK
theorem shape_Term_none {w:World} {K:Sl→World→Prop} (hK:K ⟨none,0,0⟩ w):shape_Shape_Term.C none w K:=by
 refine shape_Shape_Term.ok _ _ _ ?_
 simp only [shape_Shape_Term.M]
 exact hK
theorem shape_Parse_none {s:ByteArray} {w:World} {K:(Sl × Int × Int)→World→Prop} (hK:K (⟨none,0,0⟩,0,1) w):shape_Parse.C none s w K:=by
 refine shape_Parse.ok _ _ _ _ ?_
 simp only [shape_Parse.M]
 exact tree_Parse_none hK
theorem ShapeNone_spec {w:World} {m:Int} (hm:w.cell? ⟨0,0,none⟩=some (.int .i64 m)) (ht:TabX w) {s:ByteArray} {n:Int} {K:Bool→World→Prop} (hK:∀ w',Keeps No w w'→K true w'):frisketlaw22_ShapeNone.C s n w K:=by
 refine frisketlaw22_ShapeNone.ok _ _ _ _ ?_
 simp only [frisketlaw22_ShapeNone.M]
 refine Br.mk (λ_=>B_C hm ht λw1 k1=>hK w1 k1) λ_=>?_
 exact shape_New_none (shape_Node_none (shape_Of_none (shape_Parse_none (shape_Term_none (B_C hm ht λw1 k1=>hK w1 k1)))))
end Go.Fk
end
section
/-
  DERIVED: THE SHELF's CONTRACTS AT THIS DUMP, IN PLAIN WORDS (tools/lay-plain.mjs out of 'TryzShelf.lean', which tools/lay-shelf.mjs wrote): THE SAME DECLARATIONS UNDER THE SAME NAMES: 'import', 'namespace', 'open', 'def', 'theorem' AND NOTHING ELSE: no command of the shelf's: FOR A HAND-IN. Each laying: the table of numbers ('.._ren') and one theorem, a field a fact of the dump's own or the kernel's comparison; each contract: ONE APPLICATION.
-/
namespace Go.Proofs
open Go.Shelf
def Tryz.laysM145_ren : Go.Shelf.Ren := ⟨fun | 145 => 54 | 220 => 89 | 219 => 130 | 217 => 182 | 225 => 183 | 224 => 184 | 267 => 185 | 266 => 230 | 314 => 231 | n => n, fun | 9 => 9 | 4 => 4 | 59 => 152 | 3 => 3 | 5 => 5 | 46 => 355 | 146 => 411 | 51 => 410 | n => n, fun | 1 => 0 | n => n⟩
theorem Tryz.laysM145 : Go.Proofs.LaysM.n145 Tryz.prog Tryz.laysM145_ren := {
  mixed := by kernel_rfl
  f145 := Tryz.func54.trans (congrArg some (by kernel_rfl))
  f217 := Tryz.func182.trans (congrArg some (by kernel_rfl))
  f219 := Tryz.func130.trans (congrArg some (by kernel_rfl))
  f220 := Tryz.func89.trans (congrArg some (by kernel_rfl))
  f224 := Tryz.func184.trans (congrArg some (by kernel_rfl))
  f225 := Tryz.func183.trans (congrArg some (by kernel_rfl))
  f266 := Tryz.func230.trans (congrArg some (by kernel_rfl))
  f267 := Tryz.func185.trans (congrArg some (by kernel_rfl))
  f314 := Tryz.func231.trans (congrArg some (by kernel_rfl))
  t3 := Tryz.underlying3
  a3 := Tryz.isAgg3
  z3 := Tryz.sizeOf3
  v3 := Tryz.zeroValue3
  t4 := Tryz.underlying4
  a4 := Tryz.isAgg4
  z4 := Tryz.sizeOf4
  v4 := Tryz.zeroValue4
  t5 := Tryz.underlying5
  a5 := Tryz.isAgg5
  z5 := Tryz.sizeOf5
  v5 := Tryz.zeroValue5
  t9 := Tryz.underlying9
  a9 := Tryz.isAgg9
  z9 := Tryz.sizeOf9
  v9 := Tryz.zeroValue9
  t46 := Tryz.underlying355
  a46 := Tryz.isAgg355
  z46 := Tryz.sizeOf355
  v46 := Tryz.zeroValue355
  t51 := Tryz.underlying410
  a51 := Tryz.isAgg410
  z51 := Tryz.sizeOf410
  v51 := Tryz.zeroValue410
  t59 := Tryz.underlying152
  a59 := Tryz.isAgg152
  z59 := Tryz.sizeOf152
  v59 := Tryz.zeroValue152
  t146 := Tryz.underlying411
  a146 := Tryz.isAgg411
  z146 := Tryz.sizeOf411
  v146 := Tryz.zeroValue411
  g1 := by kernel_rfl
  i3 := by kernel_rfl
  i4 := by kernel_rfl
  i5 := by kernel_rfl
  i9 := by kernel_rfl
  i46 := by kernel_rfl
  i51 := by kernel_rfl
  i59 := by kernel_rfl
  i146 := by kernel_rfl
  m1 := by kernel_rfl
  s1_3 := fun w h => Go.Proofs.cell_of_shapedOpen_int (zero := #[.int .i64 0]) (t := 3) h (of_decide_eq_true (by kernel_rfl)) (by kernel_rfl) rfl (by kernel_rfl) (by kernel_rfl) Tryz.underlying3 }
end Go.Proofs
end
end
