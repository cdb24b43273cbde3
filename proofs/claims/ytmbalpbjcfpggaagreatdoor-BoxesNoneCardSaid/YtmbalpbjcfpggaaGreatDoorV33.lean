/-
  A part of the proof: what the functions of the program come to, read off the model: no premise of its own, no axiom. Blank space is spared. By an AI agent.
-/
import Derived.Test.YtmbalpbjcfpggaaGreatDoorV32
import Derived.Test.YtmbalpbjcfpggaaGreatDoorV2
set_option linter.all false
set_option maxRecDepth 100000
noncomputable section
section
namespace Go.Fk
open Go Go.Ev
theorem Keeps.cell0 {w w':World} {v:Value} (hk:Keeps No w w') (h:w.cell? ⟨0,0,none⟩=some v):w'.cell? ⟨0,0,none⟩=some v:=by
 simp only [World.cell?] at *
 cases hh:w.heap[0]? with
 | none=>rw [hh] at h;cases h
 | some ob=>rw [hk.keep 0 (lt_of_some hh) id,hh];rw [hh] at h;exact h
theorem boxes_New_none {w:World} {K:(Option Addr × Int)→World→Prop} (hK:K (none,1) w):boxes_New.C none w K:=by
 refine boxes_New.ok _ _ _ ?_
 simp only [boxes_New.M]
 exact hK
theorem boxes_Words_none {w:World} {K:Sl→World→Prop} (hK:K ⟨none,0,0⟩ w):boxes_Style_Words.C none none w K:=by
 refine boxes_Style_Words.ok _ _ _ _ ?_
 simp only [boxes_Style_Words.M]
 exact hK
theorem boxes_Make_none {a b:Sl} {w:World} {K:Option Addr→World→Prop} (hK:K none w):boxes_Style_Make.C none none a b w K:=by
 refine boxes_Style_Make.ok _ _ _ _ _ _ ?_
 simp only [boxes_Style_Make.M]
 exact hK
theorem boxes_Box_none {w:World} {K:Option Addr→World→Prop} (hK:K none w):boxes_Style_Box.C none none w K:=by
 refine boxes_Style_Box.ok _ _ _ _ ?_
 simp only [boxes_Style_Box.M]
 refine boxes_Words_none λR hR=>hR _ _ ?_
 exact Br.mk (λe=>by simp at e) (λ_=>boxes_Make_none hK)
theorem boxes_Glued_none {a b:ByteArray} {w:World} {K:Bool→World→Prop} (hK:K false w):boxes_Style_Glued.C none a b w K:=by
 refine boxes_Style_Glued.ok _ _ _ _ _ ?_
 simp only [boxes_Style_Glued.M]
 exact hK
theorem boxes_Between_none {a b:Int × ByteArray} {w:World} {K:Int→World→Prop} (hK:∀ w',Keeps No w w'→K 1 w'):boxes_Style_Between.C none a b w K:=by
 refine boxes_Style_Between.ok _ _ _ _ _ ?_
 simp only [boxes_Style_Between.M]
 exact Al.mk λb1 w1 n1=>Al.mk λb2 w2 n2=>hK w2 (n1.keeps.trans n2.keeps)
theorem BoxesNone_spec {w:World} {m:Int} (hm:w.cell? ⟨0,0,none⟩=some (.int .i64 m)) (ht:TabX w) {a b:ByteArray} {K:Bool→World→Prop} (hK:∀ w',Keeps No w w'→K true w'):frisketlaw26_BoxesNone.C a b w K:=by
 refine frisketlaw26_BoxesNone.ok _ _ _ _ ?_
 simp only [frisketlaw26_BoxesNone.M]
 have A:∀ rest:Bool→World→Prop,rest true w→rest false w→Join rest λj3=>Br (decide ((60:Int) < (a.size:Int))) (j3 true w) (j3 (decide ((60:Int) < (b.size:Int))) w):=λrest h1 h2=>Br.mk (λ_=>h1) (λ_=>by
  cases decide ((60:Int) < (b.size:Int)) with
  | true=>exact h1
  | false=>exact h2)
 refine A _ (C_C hm ht λw1 k1=>hK w1 k1) ?_
 show boxes_New.C none w _
 refine boxes_New_none (Al.mk λb2 w4 n4=>St.blk n4.at_ (by simp) λw5 u1=>St.blk u1.at_ (by simp) λw6 u2=>?_)
 have hu:=u1.trans u2
 have k6:Keeps No w w6:=hu.keeps0 n4.keeps (by have:=n4.eq;omega)
 show boxes_Style_Box.C none none w6 _
 refine boxes_Box_none ?_
 show boxes_Style_Words.C none none w6 _
 refine boxes_Words_none ?_
 show boxes_Style_Glued.C none a b w6 _
 refine boxes_Glued_none ?_
 refine Ld.int (cell_of hu.at_ rfl) (Ld.str (cell_of hu.at_ rfl) (Ld.int (cell_of hu.at_ rfl) (Ld.str (cell_of hu.at_ rfl) (boxes_Between_none λw10 k10=>?_))))
 show boxes_Style_Make.C none none ⟨none,0,0⟩ ⟨none,0,0⟩ w10 _
 exact boxes_Make_none (C_C ((k6.trans k10).cell0 hm) (tab_keeps ht (k6.trans k10)) λw12 k12=>hK _ ((k6.trans k10).trans k12))
end Go.Fk
end
end
