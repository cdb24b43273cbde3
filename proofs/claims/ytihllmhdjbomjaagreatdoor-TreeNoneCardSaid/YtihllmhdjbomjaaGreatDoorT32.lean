/-
  A part of the proof: what the functions of the program come to, read off the model: no premise of its own, no axiom. Blank space is spared. By an AI agent.
-/
import Derived.Test.YtihllmhdjbomjaaGreatDoorT31
import Derived.Test.YtihllmhdjbomjaaGreatDoorT2
import Derived.Shelf.LaysM
import Derived.Ground.Names2Prog
import Derived.Test.YtihllmhdjbomjaaGreatDoorProg
set_option linter.all false
set_option maxRecDepth 100000
noncomputable section
section
namespace Go.Ev
open Go Go.Fk
theorem run_C {w:World} {m:Int} {T:T4 (Fx Unit)} (hT:∀ B,G m B→ClOK P HdU B (evF T 5000 60 true)) (hm:w.cell? ⟨0,0,none⟩=some (.int .i64 m)) (ht:TabX w) {F:Nat} {l:List V} {u:V} {vs:List Value} {y:Value} (hd:decs (λ_=>none) l=some vs) (hy:∀ φ,dec φ u=some y)
  (h:evF T 5000 60 true F l H0 (λv _=>iff' (vEq v u) .ok (.no 997))=.ok):Calls P F vs.toArray w λe w'=>e=.returned y∧Keeps No w w':=by
 obtain⟨_,hc⟩:=hT _ (G0 hm ht) F l H0 _ _ w vs (rel0 w) hd h
 refine hc.mono λe w' ⟨z,he,φ,v,σ,_,hr,hv,_,hk⟩=>?_
 obtain⟨hb,_⟩:=iff_ok hk
 have:=vEq_ok _ _ hb
 subst this
 rw [hy φ] at hv
 cases hv
 exact⟨he,⟨hr.keeps.os,hr.keeps.tape,hr.keeps.output,hr.keeps.size,λb hb h=>hr.keeps.keep b hb h⟩⟩
end Go.Ev
namespace Go.Fk
open Go Go.Ev
theorem Keeps.cell0 {w w':World} {v:Value} (hk:Keeps No w w') (h:w.cell? ⟨0,0,none⟩=some v):w'.cell? ⟨0,0,none⟩=some v:=by
 simp only [World.cell?] at *
 cases hh:w.heap[0]? with
 | none=>rw [hh] at h;cases h
 | some ob=>rw [hk.keep 0 (lt_of_some hh) id,hh];rw [hh] at h;exact h
theorem tree_New_none {w:World} {m:Int} (hm:w.cell? ⟨0,0,none⟩=some (.int .i64 m)) (ht:TabX w) {K:(Option Addr × Int × Int)→World→Prop} (hK:∀ w',Keeps No w w'→K (none,0,1) w'):tree_New.C none w K:=by
 refine Calls.mono (run_C (λB hB=>tab3_ok hB) hm ht (l:=[.np]) (u:=.t [.np,ii 0,ii 1]) (y:=.tuple #[.pointer none,.int .i64 0,.int .i64 1]) rfl (λφ=>rfl) (by kernel_rfl)) ?_
 rintro e w' ⟨h1,h2⟩
 exact⟨(none,0,1),h1,hK w' h2⟩
theorem tree_Parse_none {s:ByteArray} {w:World} {K:(Option Addr × Int × Int)→World→Prop} (hK:K (none,0,1) w):tree_Parser_Parse.C none s w K:=by
 refine tree_Parser_Parse.ok _ _ _ _ ?_
 simp only [tree_Parser_Parse.M]
 exact hK
theorem tree_Len_none {w:World} {K:Int→World→Prop} (hK:K 0 w):tree_Tree_Len.C none w K:=by
 refine tree_Tree_Len.ok _ _ _ ?_
 simp only [tree_Tree_Len.M]
 exact hK
theorem tree_Node_none {n:Int} {w:World} {K:((Int × Int × Int × Sl × Int × Int) × Bool)→World→Prop} (hK:∀ w',Keeps No w w'→K ((0,0,0,⟨none,0,0⟩,0,0),false) w'):tree_Tree_Node.C none n w K:=by
 refine tree_Tree_Node.ok _ _ _ _ ?_
 simp only [tree_Tree_Node.M]
 refine Al.mk λb w1 n1=>?_
 have key:∀ w2,Upd b (.cells #[.int .i64 0,.int .i64 0,.int .i64 0,.slice none 0 0,.int .i64 0,.int .i64 0] T.tree_Node (0,0)) w1 w2→K ((0,0,0,⟨none,0,0⟩,0,0),false) w2:=λw2 hu=>hK w2 (hu.keeps0 n1.keeps (by have:=n1.eq;omega))
 have all:∀ rest:Bool→World→Prop,rest true w1→Join rest λj=>Br (decide (n < 0)) (j true w1) (tree_Tree_Len.C none w1 λx12 w24=>j (decide (x12≤n)) w24):=λj hj=>Br.mk (λ_=>hj) λe=>tree_Len_none (by
  have:¬ n < 0:=kF e
  rw [decide_eq_true (show (0:Int)≤n by omega)];exact hj)
 refine all _ ?_
 simp only [Br_true]
 refine St.blk n1.at_ (by simp) λw2 u1=>St.blk u1.at_ (by simp) λw3 u2=>St.blk u2.at_ (by simp) λw4 u3=>St.blk u3.at_ (by simp) λw5 u4=>St.blk u4.at_ (by simp) λw6 u5=>St.blk u5.at_ (by simp) λw7 u6=>?_
 have hu:=((((u1.trans u2).trans u3).trans u4).trans u5).trans u6
 refine Ld.int (cell_of hu.at_ rfl) (Ld.int (cell_of hu.at_ rfl) (Ld.int (cell_of hu.at_ rfl) (Ld.sl (cell_of hu.at_ rfl) (Ld.int (cell_of hu.at_ rfl) (Ld.int (cell_of hu.at_ rfl) (key w7 hu))))))
theorem tree_Text_none {w:World} {K:ByteArray→World→Prop} (hK:K ⟨#[]⟩ w):tree_Tree_Text.C none w K:=by
 refine tree_Tree_Text.ok _ _ _ ?_
 simp only [tree_Tree_Text.M]
 exact hK
theorem tree_Tokens_none {w:World} {K:Sl→World→Prop} (hK:K ⟨none,0,0⟩ w):tree_Tree_Tokens.C none w K:=by
 refine tree_Tree_Tokens.ok _ _ _ ?_
 simp only [tree_Tree_Tokens.M]
 exact hK
theorem tree_Leaves_none {n:Int} {w:World} {K:Sl→World→Prop} (hK:K ⟨none,0,0⟩ w):tree_Tree_Leaves.C none n w K:=by
 refine tree_Tree_Leaves.ok _ _ _ _ ?_
 simp only [tree_Tree_Leaves.M]
 have all:∀ rest:Bool→World→Prop,rest true w→Join rest λj=>Br (decide (n < 0)) (j true w) (tree_Tree_Len.C none w λx12 w24=>j (decide (x12≤n)) w24):=λj hj=>Br.mk (λ_=>hj) λe=>tree_Len_none (by
  have:¬ n < 0:=kF e
  rw [decide_eq_true (show (0:Int)≤n by omega)];exact hj)
 exact all _ hK
theorem tree_Grammar_none {w:World} {K:Option Addr→World→Prop} (hK:K none w):tree_Parser_Grammar.C none w K:=by
 refine tree_Parser_Grammar.ok _ _ _ ?_
 simp only [tree_Parser_Grammar.M]
 exact hK
theorem tree_Covering_none {x:Int × Int} {w:World} {K:Int→World→Prop} (hK:∀ w',Keeps No w w'→K (-1) w'):tree_Tree_Covering.C none x w K:=by
 refine tree_Tree_Covering.ok _ _ _ _ ?_
 simp only [tree_Tree_Covering.M]
 exact Al.mk λb w1 n1=>hK w1 n1.keeps
theorem TreeNone_spec {w:World} {m:Int} (hm:w.cell? ⟨0,0,none⟩=some (.int .i64 m)) (ht:TabX w) {s:ByteArray} {n:Int} {K:Bool→World→Prop} (hK:∀ w',Keeps No w w'→K true w'):frisketlaw20_TreeNone.C s n w K:=by
 refine frisketlaw20_TreeNone.ok _ _ _ _ ?_
 simp only [frisketlaw20_TreeNone.M]
 refine Br.mk (λ_=>A_C hm ht λw1 k1=>hK w1 k1) λ_=>A_C hm ht λw1 k1=>?_
 show tree_New.C none w1 _
 refine tree_New_none (k1.cell0 hm) (tab_keeps ht k1) λw2 k2=>tree_Parse_none (tree_Node_none λw3 k3=>Al.mk λb w4 n4=>?_)
 refine St.blk n4.at_ (by simp) λw5 u1=>St.blk u1.at_ (by simp) λw6 u2=>St.blk u2.at_ (by simp) λw7 u3=>St.blk u3.at_ (by simp) λw8 u4=>St.blk u4.at_ (by simp) λw9 u5=>St.blk u5.at_ (by simp) λw10 u6=>?_
 have hu:=((((u1.trans u2).trans u3).trans u4).trans u5).trans u6
 have k10:Keeps No w w10:=((k1.trans k2).trans k3).trans (hu.keeps0 n4.keeps (by have:=n4.eq;omega))
 refine tree_Text_none (Br.mk (λ_=>tree_Tokens_none (tree_Len_none (tree_Leaves_none (tree_Grammar_none (tree_Covering_none λw11 k11=>hK _ (k10.trans k11)))))) λe=>by simp at e)
end Go.Fk
end
section
/-
  DERIVED: THE SHELF's CONTRACTS AT THIS DUMP, IN PLAIN WORDS (tools/lay-plain.mjs out of 'TryzShelf.lean', which tools/lay-shelf.mjs wrote): THE SAME DECLARATIONS UNDER THE SAME NAMES: 'import', 'namespace', 'open', 'def', 'theorem' AND NOTHING ELSE: no command of the shelf's: FOR A HAND-IN. Each laying: the table of numbers ('.._ren') and one theorem, a field a fact of the dump's own or the kernel's comparison; each contract: ONE APPLICATION.
-/
namespace Go.Proofs
open Go.Shelf
def Tryz.laysM145_ren : Go.Shelf.Ren := ⟨fun | 145 => 54 | 220 => 89 | 219 => 130 | 217 => 182 | 225 => 183 | 224 => 184 | 267 => 185 | 266 => 230 | 314 => 231 | n => n, fun | 9 => 9 | 4 => 4 | 59 => 152 | 3 => 3 | 5 => 5 | 46 => 355 | 146 => 411 | 51 => 410 | n => n, fun | 1 => 0 | n => n⟩
theorem Tryz.laysM145 : Go.Proofs.LaysM.n145 Tryz.prog Tryz.laysM145_ren := {
  mixed := by kernel_rfl
  f145 := Tryz.func54.trans (congrArg some (by kernel_rfl))
  f217 := Tryz.func182.trans (congrArg some (by kernel_rfl))
  f219 := Tryz.func130.trans (congrArg some (by kernel_rfl))
  f220 := Tryz.func89.trans (congrArg some (by kernel_rfl))
  f224 := Tryz.func184.trans (congrArg some (by kernel_rfl))
  f225 := Tryz.func183.trans (congrArg some (by kernel_rfl))
  f266 := Tryz.func230.trans (congrArg some (by kernel_rfl))
  f267 := Tryz.func185.trans (congrArg some (by kernel_rfl))
  f314 := Tryz.func231.trans (congrArg some (by kernel_rfl))
  t3 := Tryz.underlying3
  a3 := Tryz.isAgg3
  z3 := Tryz.sizeOf3
  v3 := Tryz.zeroValue3
  t4 := Tryz.underlying4
  a4 := Tryz.isAgg4
  z4 := Tryz.sizeOf4
  v4 := Tryz.zeroValue4
  t5 := Tryz.underlying5
  a5 := Tryz.isAgg5
  z5 := Tryz.sizeOf5
  v5 := Tryz.zeroValue5
  t9 := Tryz.underlying9
  a9 := Tryz.isAgg9
  z9 := Tryz.sizeOf9
  v9 := Tryz.zeroValue9
  t46 := Tryz.underlying355
  a46 := Tryz.isAgg355
  z46 := Tryz.sizeOf355
  v46 := Tryz.zeroValue355
  t51 := Tryz.underlying410
  a51 := Tryz.isAgg410
  z51 := Tryz.sizeOf410
  v51 := Tryz.zeroValue410
  t59 := Tryz.underlying152
  a59 := Tryz.isAgg152
  z59 := Tryz.sizeOf152
  v59 := Tryz.zeroValue152
  t146 := Tryz.underlying411
  a146 := Tryz.isAgg411
  z146 := Tryz.sizeOf411
  v146 := Tryz.zeroValue411
  g1 := by kernel_rfl
  i3 := by kernel_rfl
  i4 := by kernel_rfl
  i5 := by kernel_rfl
  i9 := by kernel_rfl
  i46 := by kernel_rfl
  i51 := by kernel_rfl
  i59 := by kernel_rfl
  i146 := by kernel_rfl
  m1 := by kernel_rfl
  s1_3 := fun w h => Go.Proofs.cell_of_shapedOpen_int (zero := #[.int .i64 0]) (t := 3) h (of_decide_eq_true (by kernel_rfl)) (by kernel_rfl) rfl (by kernel_rfl) (by kernel_rfl) Tryz.underlying3 }
end Go.Proofs
end
end
