/-
  A part of the proof: what the functions of the program come to, read off the model: no premise of its own, no axiom. Blank space is spared. By an AI agent.
-/
import Derived.Test.YtmbalpbjcfpggaaGreatDoorV2
import Derived.ChangeKeysEq
import Derived.Laws.MakeOwn
import Derived.Deep.AppendSrc
import Derived.Laws.BytesString
import Derived.Maps.RangeRun
set_option linter.all false
set_option maxRecDepth 100000
noncomputable section
section
namespace Go.Ev
open Go Go.Fk
section
variable {D:Type} {P:Program} {Hd:D→Loc→View→Prop} {w0:Base} {φ:Phi} {σ:H D} {w:World} {loc:List (Option Nat)} {L:Lc} {e:E} {ρ:Operand→Value} {o:Oper} {k:V→H D→R}
def OpOK (P:Program) (Hd:D→Loc→View→Prop) (w0:Base) (φ:Phi) (σ:H D) (w:World) (ρ:Operand→Value) (o:Oper) (k:V→H D→R):Prop:=Go.Fk.Good P (Post P Hd w0 φ σ k) ((execOp ρ o).run P w)
theorem OpOK.ofPure (hr:Rel P Hd w0 φ σ w) (h:PureOK P φ ρ o (λu=>k u σ)):OpOK P Hd w0 φ σ w ρ o k:=by
 obtain⟨u,y,h1,h2,h3⟩:=h
 unfold OpOK
 rw [h2]
 exact Post.pure hr h1 h3
theorem OpOK.val {s:Sem Value} {y:Value} {w':World} (hx:execOp ρ o=(do pure (Next.value (← s)):Sem Next)) (hs:s.run P w=.ok y w') (h:Post P Hd w0 φ σ k y w'):OpOK P Hd w0 φ σ w ρ o k:=by
 unfold OpOK
 rw [hx,run_v hs]
 exact h
theorem OpOK.unit {s:Sem Unit} {w':World} (hx:execOp ρ o=(do s;pure Next.skip:Sem Next)) (hs:s.run P w=.ok () w') (h:Post P Hd w0 φ σ k undef w'):OpOK P Hd w0 φ σ w ρ o k:=by
 unfold OpOK
 rw [hx,run_u hs]
 exact h
theorem op_ld {t:Nat} {a:Operand} {u:V} {ud:TypeDesc} (ho:o.op=.load t a) (ht:P.underlying t=some ud) (ha:isAggD ud=false) (hr:Rel P Hd w0 φ σ w) (hx:dec φ u=some (ρ a)) (h:vLd u σ (λu=>k u σ)=.ok):OpOK P Hd w0 φ σ w ρ o k:=by
 obtain⟨v,off,ex,n,c,ty,sz,x,rfl,h1,h2,h3⟩:=vLd_ok h
 obtain⟨ad,z,e1,e2,e3,_,_⟩:=hr.cell h1 h2 hx
 exact OpOK.val (s:=Instr.loadAt t (ρ a)) (by simp [execOp,ho]) (by simp [e1,Instr.loadAt,Instr.sureAddr,loadVar,run_isAgg' w ht,ha,load,Sem.run,e2]) (Post.pure hr e3 h3)
theorem cells_list {v:Vid} {ex:Bool} {n:Nat} {c:Tr V} {ty sz off m:Nat} {l:List V} (hr:Rel P Hd w0 φ σ w) (h1:σ.look v=some (.cells ex n c ty sz)) (hl:l.length=m) (hg:∀ i,i < m→c.get (off + i)=l[i]?) {y:Value} (hy:dec φ (.p v off)=some y) :
  ∃ a vs,y=.pointer (some a)∧decs φ l=some vs∧vs.length=m∧(∀ v∈vs,oneCell v=true)∧∀ (j:Nat) v,vs[j]?=some v→w.cell? (a.add j)=some v:=by
 obtain⟨M,cs,g1,g2,g3⟩:=hr.cells h1
 obtain⟨M',g4,rfl⟩:=dec_p hy
 rw [g1] at g4;cases g4
 have key:∀ i x,l[i]?=some x→∃ z,cs[M.base + (off + i)]?=some z∧dec φ x=some z∧oneCell z=true:=by
  intro i x hx
  have hi:i < m:=by rw [← hl];exact (kA hx).1
  obtain⟨_,z,a1,a2,a3⟩:=g3.get _ x (by rw [hg i hi,hx])
  exact⟨z,a2,a1,a3⟩
 refine⟨_,(List.range m).map λi=>cs[M.base + (off + i)]?.getD undef,rfl,decs_mk (by simp [hl]) λi x hx=>?_,by simp,λv hv=>?_,λj v hv=>?_⟩
 ·have hi:i < m:=by rw [← hl];exact (kA hx).1
  obtain⟨z,a1,a2,_⟩:=key i x hx
  exact⟨z,by simp [hi,a1],a2⟩
 ·obtain⟨i,hi,rfl⟩:=List.mem_map.1 hv
  have hi':i < l.length:=by rw [hl];simpa using hi
  obtain⟨z,a1,_,a3⟩:=key i _ (kC hi')
  simpa [a1] using a3
 ·obtain⟨hj,hv'⟩:=kA hv
  have hj':j < l.length:=by rw [hl];simpa using hj
  obtain⟨z,a1,_,a3⟩:=key j _ (kC hj')
  simp [a1] at hv'
  subst hv'
  rw [add_eq]
  exact cell_of g3.at_ (by rw [← a1];congr 1;omega)
theorem op_ldA {t:Nat} {a:Operand} {u:V} {ud:TypeDesc} {n:Nat} (ho:o.op=.load t a) (ht:P.underlying t=some ud) (ha:isAggD ud=true) (hn:sizeC P t=some n) (hr:Rel P Hd w0 φ σ w) (hx:dec φ u=some (ρ a)) (h:vLdA n u σ (λu=>k u σ)=.ok):OpOK P Hd w0 φ σ w ρ o k:=by
 obtain⟨v,off,ex,m,c,ty,sz,u',l,rfl,h1,ha',h2,h3,h4⟩:=vLdA_ok h
 obtain⟨L0,cs0,_,_,hc0⟩:=hr.cells h1
 obtain⟨ad,vs,e1,e2,e3,e4,e5⟩:=cells_list hr h1 h2 (h3 hc0.has) hx
 obtain⟨inf,hi,hin⟩:=sizeC_ok hn
 refine OpOK.val (s:=Instr.loadAt t (ρ a)) (y:=.agg vs.toArray) (by simp [execOp,ho]) ?_ (Post.pure hr (ha'.of e2 e4) h4)
 have:=run_loadCells (P:=P) e5
 rw [e3] at this
 simp [e1,Instr.loadAt,Instr.sureAddr,loadVar,run_isAgg' w ht,ha,run_sizeOf' w hi,hin,this]
theorem newAt (w:World) (ob:Obj):New w.heap.size ob w (w.alloc ob):=by
 have:Al ob w (λb w'=>b=w.heap.size∧w'=w.alloc ob∧New b ob w w'):=by
  refine⟨rfl,rfl,⟨rfl,?_,⟨rfl,rfl,rfl,by simp,λb hb _=>?_⟩,by simp⟩⟩
  ·show (w.heap.push ob)[w.heap.size]?=some ob
   simp
  ·show (w.heap.push ob)[b]?=_
   rw [Array.getElem?_push,if_neg (by omega)]
 exact this.2.2
theorem run_newObj (w:World) (ob:Obj):(newObj ob).run P w=.ok w.heap.size (w.alloc ob):=rfl
theorem new_cells {ex:Bool} {n:Nat} {c:Tr V} {ty sz cap:Nat} {cells:Array Value} {v:Vid} {kk:H D→R} (hr:Rel P Hd w0 φ σ w) (hk:σ.add v (.cells ex n c ty sz) kk=.ok)
  (hc:∀ i u,c.get i=some u→i < n∧∃ y,cells[i]?=some y∧dec φ u=some y∧oneCell y=true) (hhas:∀ i,i < n→(c.get i).isSome=true) (hfull:ex=true→cells.size=n) (ho:ex=false→0 < sz∧n≤cap * sz∧cap * sz≤cells.size) :
  ∃ φ' σ',φ.le φ'∧φ' v=some ⟨w.heap.size,0,cap⟩∧Rel P Hd w0 φ' σ' (w.alloc (.cells cells ty))∧Ext σ σ'∧kk σ'=.ok:=by
 obtain⟨h1,σ',h2,h3,h4⟩:=H.add_ok hk
 have hle:=Phi.with_le (L:=⟨w.heap.size,0,cap⟩) (hr.gone v h1)
 refine⟨φ.with v ⟨w.heap.size,0,cap⟩,σ',hle,Phi.with_eq,?_,Ext.put h2 h3,h4⟩
 refine hr.new h1 (newAt w _) h2 ⟨Base.new_of hr.keeps (Nat.le_refl _),cells,⟨?_,λi u hu=>?_,hhas,λhe=>⟨hfull he,rfl⟩,λhe=>?_⟩⟩
 ·exact (newAt w _).at_
 ·obtain⟨g1,y,g2,g3,g4⟩:=hc i u hu
  exact⟨g1,y,dec_mono hle _ _ g3,by simpa using g2,g4⟩
 ·obtain⟨g1,g2,g3⟩:=ho he
  exact⟨g1,g2,λ_=>by simpa using g3⟩
theorem mkRow_ok {l:List V} {ty sz:Nat} {cells:Array Value} {v:Vid} {kk:H D→R} (hr:Rel P Hd w0 φ σ w) (hk:mkRow v l ty sz σ kk=.ok) (hd:decs φ l=some cells.toList) (h1:∀ x∈cells.toList,oneCell x=true) :
  ∃ φ' σ',φ.le φ'∧φ' v=some ⟨w.heap.size,0,0⟩∧Rel P Hd w0 φ' σ' (w.alloc (.cells cells ty))∧Ext σ σ'∧kk σ'=.ok:=by
 obtain⟨c,h2,h3⟩:=trOf_ok hk
 rw [fL_eq,lenL_eq] at h3
 refine new_cells hr h3 (λi u hu=>?_) (λi hi=>by rw [h2,kC hi];rfl) (λ_=>by rw [← decs_length hd];simp) (λhe=>by cases he)
 rw [h2] at hu
 obtain⟨y,g1,g2⟩:=decs_get hd hu
 exact⟨(kA hu).1,y,by simpa using g1,g2,h1 y (kD g1)⟩
theorem op_new {t:Nat} {z:List V} {v:Vid} (ho:o.op=.alloc t) (hz:zeroC P t=some z) (hr:Rel P Hd w0 φ σ w) (h:vNew z t v σ k=.ok):OpOK P Hd w0 φ σ w ρ o k:=by
 obtain⟨i,zv,hi,hzv,hzc,hrun⟩:=zeroC_ok hz
 have hzd:=cellsC_dec (φ:=φ) hzc
 have h':fL (lenL z) (λn=>Tr.ofF (lstF z) n λc=>σ.add v (.cells true n c t 1) λσ=>k (.p v 0) σ)=.ok:=h
 rw [fL_eq,lenL_eq] at h'
 obtain⟨c,g1,g2⟩:=ofF_ok h'
 have hg:∀ j,c.get j=z[j]?:=λj=>by
  rw [g1]
  by_cases hj:j < z.length
  ·rw [if_pos hj,kC hj]
   show some (Option.rec (motive:=λ_=>V) .np (λx=>x) (nth j z))=_
   rw [nth_eq,kC hj]
  ·rw [if_neg hj,List.getElem?_eq_none (by omega)]
 obtain⟨φ',σ',h1,h2,h3,h4,h5⟩:=new_cells (cap:=0) (cells:=zv.cells) hr g2 (λi u hu=>by
  rw [hg] at hu
  obtain⟨y,g1,g2⟩:=decs_get hzd hu
  exact⟨(kA hu).1,y,by simpa using g1,g2,(cellsC_one hzc).1 y (kD g1)⟩) (λi hi=>by rw [hg,kC hi];rfl) (λ_=>by rw [← decs_length hzd];simp) (λhe=>by cases he)
 refine OpOK.val (s:=Instr.alloc t true (.tuple #[])) (y:=.pointer (some ⟨w.heap.size,0,none⟩)) (w':=w.alloc (.cells zv.cells t)) (by simp [execOp,ho]) ?_ ⟨φ',_,σ',h1,h3,by simp [dec,h2],h4,h5⟩
 simp [Instr.alloc,hrun,newVar,newRow,run_newObj]
theorem op_box {t:Nat} {x:Operand} {u:V} {v:Vid} (ho:o.op=.box t x) (hr:Rel P Hd w0 φ σ w) (hx:dec φ u=some (ρ x)) (h:vBox t v u σ k=.ok):OpOK P Hd w0 φ σ w ρ o k:=by
 obtain⟨hb,h0⟩:=iff_ok h
 have hcv:=cellsV_dec hx hb
 have h1:∀ y∈cellsL (ρ x),oneCell y=true:=by
  intro y hy
  obtain⟨i,hi⟩:=List.getElem?_of_mem hy
  have hi':i < u.cells.length:=by rw [← decs_length hcv];exact (kA hi).1
  obtain⟨y',g1,g2⟩:=decs_get hcv (kC hi')
  rw [hi] at g1;cases g1
  exact oneV_dec g2 (allOne_ok hb _ (List.getElem_mem hi'))
 obtain⟨φ',σ',h1,h2,h3,h4,h5⟩:=mkRow_ok (cells:=(cellsL (ρ x)).toArray) hr h0 (by simpa using hcv) (by simpa using h1)
 refine OpOK.val (s:=Instr.box t (ρ x)) (y:=.pointer (some ⟨w.heap.size,0,none⟩)) (w':=w.alloc (.cells (cellsL (ρ x)).toArray t)) (by simp [execOp,ho]) ?_ ⟨φ',_,σ',h1,h3,by simp [dec,h2],h4,h5⟩
 simp [Instr.box,newVar,newRow,run_newObj,cells_eq]
theorem zeros_eq {zero:Array Value} (hz:0 < zero.size):∀ n,((Array.range (n * zero.size)).map (zero[· % zero.size]!)).toList=((List.replicate n zero.toList).flatten):=by
 intro n
 apply List.ext_getElem?
 intro i
 induction n generalizing i with
 | zero=>simp
 | succ n ih =>
  rw [List.replicate_succ,List.flatten_cons]
  by_cases hi:i < zero.size
  ·rw [List.getElem?_append_left (by simpa using hi)]
   have:i < (n + 1) * zero.size:=by rw [Nat.succ_mul];omega
   simp [this,Nat.mod_eq_of_lt hi,hi]
  ·rw [List.getElem?_append_right (by simpa using hi)]
   have:=ih (i - zero.size)
   rw [show zero.toList.length=zero.size from by simp,← this]
   simp only [Array.toList_map,Array.toList_range,List.getElem?_map,List.getElem?_range']
   by_cases h2:i < (n + 1) * zero.size
   ·have h3:i - zero.size < n * zero.size:=by rw [Nat.succ_mul] at h2;omega
    rw [List.getElem?_range h2,List.getElem?_range h3]
    simp only [Option.map_some,Option.some.injEq]
    congr 1
    rw [Nat.mod_eq_sub_mod (by omega)]
   ·have h3:¬ i - zero.size < n * zero.size:=by rw [Nat.succ_mul] at h2;omega
    rw [List.getElem?_eq_none (by simpa using h2),List.getElem?_eq_none (by simpa using h3)]
theorem times_dec {z:List V} {m:List Value} (h:decs φ z=some m):∀ n,decs φ (times n z)=some (List.replicate n m).flatten
 | 0=>rfl
 | n + 1=>by
  show decs φ (appL z (times n z))=_
  rw [appL_eq]
  rw [List.replicate_succ,List.flatten_cons]
  exact decs_append h (times_dec h n)
theorem timesC_eq (z:List V):∀ n,timesC n z=times n z
 | 0=>rfl
 | n + 1=>by show z++timesC n z=appL z (times n z);rw [appL_eq,timesC_eq z n]
theorem flat_one {m:List Value} (h:∀ x∈m,oneCell x=true) (n:Nat):∀ x∈(List.replicate n m).flatten,oneCell x=true:=by
 intro x hx
 simp only [List.mem_flatten,List.mem_replicate] at hx
 obtain⟨l,⟨_,rfl⟩,hx⟩:=hx
 exact h x hx
theorem op_bsl {t el len sz:Nat} {ps:Array (Nat × Operand)} {z:List V} {us:List V} {v:Vid} (ho:o.op=.buildSlice t len ps) (ht:P.underlying t=some (.slice el)) (hz:zeroC P el=some z) (hsz:sizeC P el=some sz) (hle:len * sz≤10000) (hlz:z.length=sz) (h0:0 < sz)
  (hr:Rel P Hd w0 φ σ w) (hus:decs φ us=some ((ps.toList.map (·.2)).map ρ)) (h:vBSl (timesC len z) el sz len (len * sz) (partsA sz ps.toList) v us σ k=.ok):OpOK P Hd w0 φ σ w ρ o k:=by
 obtain⟨i,zv,hi,hzv,hzc,hrun⟩:=zeroC_ok hz
 obtain⟨inf,hinf,hin⟩:=sizeC_ok hsz
 have hzd:=cellsC_dec (φ:=φ) hzc
 have hzs:zv.cells.size=sz:=by have:=decs_length hzd;simp at this;omega
 let cells:Array Value:=(Array.range (len * sz)).map (zv.cells[· % zv.cells.size]!)
 have hcells:cells.toList=(List.replicate len zv.cells.toList).flatten:=by
  have:=zeros_eq (zero:=zv.cells) (by omega) len
  rw [hzs] at this
  simpa [cells,hzs] using this
 have hrr:RowL φ (timesC len z) cells.toList:=⟨by rw [timesC_eq,hcells];exact times_dec hzd len,by rw [hcells];exact flat_one (cellsC_one hzc).1 len⟩
 obtain⟨l',cells',h3,h4,h5,h6⟩:=laid_ok (place:=λi=>some (i * sz,sz)) (parts:=ps.toList.map λp=>(p.1,ρ p.2)) h (by rw [List.map_map];exact partsA_ok) (by rw [hus];simp) hrr
 obtain⟨c',h7,h8⟩:=trOf_ok h6
 have hsize:cells'.size=len * sz:=by rw [h4];simp [cells]
 have hl':l'.length=len * sz:=by rw [← hsize,← decs_length h5.1];simp
 obtain⟨φ',σ',g1,g2,g3,g4,g5⟩:=new_cells (cap:=0) (cells:=cells') hr h8 (λi u hu=>by
  rw [h7] at hu
  obtain⟨y,a1,a2⟩:=decs_get h5.1 hu
  exact⟨by rw [← hl'];exact (kA hu).1,y,by simpa using a1,a2,h5.2 y (kD a1)⟩) (λi hi=>by rw [h7,kC (by omega)];rfl) (λ_=>hsize) (λhe=>by cases he)
 refine OpOK.val (s:=Instr.buildSlice t len (ps.map λ(i,x)=>(i,ρ x))) (y:=.slice (some ⟨w.heap.size,0,none⟩) len len) (w':=w.alloc (.cells cells' el)) (by simp [execOp,ho]) ?_ ⟨φ',_,σ',g1,g3,by rw [dec_sl_mk g2 (by simp [capOf])];rfl,g4,g5⟩
 simp only [Instr.buildSlice,Sem.run_bind,run_underlying' w ht,Result.andThen_ok,run_sizeOf' w hinf,hin]
 rw [if_neg (by omega)]
 by_cases hl:len * sz=0
 ·have hl0:len=0:=by rcases Nat.mul_eq_zero.1 hl with h | h <;> omega
  subst hl0
  simp only [Nat.zero_mul,if_true,Sem.run_bind,Sem.run_pure,Result.andThen_ok]
  rw [map_parts]
  have:(Array.range 0).map ((#[]:Array Value)[· % (#[]:Array Value).size]!)=cells:=by simp [cells]
  rw [this,h3]
  simp [newRow,run_newObj]
 ·rw [if_neg hl]
  simp only [Sem.run_bind,hrun,Sem.run_pure,Result.andThen_ok]
  rw [map_parts]
  have h3':=h3
  simp only [cells] at h3'
  rw [h3']
  simp [newRow,run_newObj]
end
section
variable {D:Type} {P:Program} {φ φ':Phi}
theorem ba_beq (a b:ByteArray):(a==b)=true↔a=b:=MapKept.bytes_beq a b
theorem kpEq_ok {k:KP} {x y:V} {a b:Value} (hx:KPs k x) (hy:KPs k y) (ha:dec φ x=some a) (hb:dec φ' y=some b) :
  ∃ r,(r=true↔a=b)∧(∀ t,kpOf P t=some k→cellEq P t a b=some r)∧∀ yes no,kpEq k x y yes no=iff' r yes no:=by
 cases k with
 | int q =>
  obtain⟨m,rfl⟩:=hx
  obtain⟨n,rfl⟩:=hy
  have e1:=dec_i ha
  have e2:=dec_i hb
  subst e1 e2
  refine⟨m==n,by simp,λt hk=>?_,λyes no=>?_⟩
  ·unfold kpOf at hk
   split at hk <;> simp at hk
   rename_i q' hu;subst hk
   simp [cellEq,hu]
  ·show iff' (Nat.beq (kIx q) (kIx q)&&Nat.beq (kIx q) (kIx q)) (iff' (ieq m n) yes no) (R.no 63)=_
   rw [Nat.beq_refl,ieq_eq];rfl
 | str =>
  obtain⟨m,rfl⟩:=hx
  obtain⟨n,rfl⟩:=hy
  have e1:=dec_s ha
  have e2:=dec_s hb
  subst e1 e2
  refine⟨(bytesOf m).toList==(bytesOf n).toList,?_,λt hk=>?_,λyes no=>?_⟩
  ·rw [beq_iff_eq,ByteArray.toList_eq,ByteArray.toList_eq]
   constructor
   ·intro h;rw [ba_ext h]
   ·intro h;have:=congrArg (λv=>match v with | Value.string s=>s | _=>ByteArray.empty) h;simp only at this;rw [this]
  ·unfold kpOf at hk
   split at hk <;> simp at hk
   rename_i hu
   simp [cellEq,hu]
  ·show iff' (seq' m n) yes no=_
   rw [seq_eq]
 | bool =>
  obtain⟨m,rfl⟩:=hx
  obtain⟨n,rfl⟩:=hy
  have e1:=dec_b ha
  have e2:=dec_b hb
  subst e1 e2
  refine⟨m==n,by simp,λt hk=>?_,λyes no=>rfl⟩
  unfold kpOf at hk
  split at hk <;> simp at hk
  rename_i hu
  simp [cellEq,hu]
theorem kpsEq_ok (P:Program):∀ {ks:List KP} {xs ys:List V} {az bs:List Value},All2 KPs ks xs→All2 KPs ks ys→decs φ xs=some az→decs φ' ys=some bs →
  ∃ r,(r=true↔az=bs)∧∀ yes no,kpsEq ks xs ys yes no=iff' r yes no
 | [],xs,ys,az,bs,hx,hy,ha,hb=>by
  cases hx;cases hy
  simp [decs] at ha hb;subst ha hb
  exact⟨true,by simp,λyes no=>rfl⟩
 | k::ks,xs,ys,az,bs,hx,hy,ha,hb=>by
  cases hx with
  | cons hx1 hx2 =>
   cases hy with
   | cons hy1 hy2 =>
    obtain⟨a,az',rfl,e1,e2⟩:=decs_cons_inv ha
    obtain⟨b,bs',rfl,e3,e4⟩:=decs_cons_inv hb
    obtain⟨r,c2,_,c3⟩:=kpEq_ok (P:=P) hx1 hy1 e1 e3
    obtain⟨s,d2,d3⟩:=kpsEq_ok P hx2 hy2 e2 e4
    refine⟨r&&s,by rw [Bool.and_eq_true,c2,d2];simp,λyes no=>?_⟩
    show kpEq k _ _ (kpsEq ks _ _ yes no) no=_
    rw [c3,d3]
    cases r <;> cases s <;> rfl
def KRow (X:Array Value) (off:Nat) (ks:List KP) (az:List Value):Prop:=(∀ (j:Nat) v,az[j]?=some v→X[off + j]?=some v)∧∃ (xs:List V) (φ:Phi),All2 KPs ks xs∧decs φ xs=some az
theorem KRow.len {X:Array Value} {off:Nat} {ks:List KP} {az:List Value} (h:KRow X off ks az):az.length=ks.length:=by
 obtain⟨_,xs,φ,h1,h2⟩:=h
 rw [decs_length h2,h1.length]
theorem KRow.cons {X:Array Value} {off:Nat} {k:KP} {ks:List KP} {az:List Value} (h:KRow X off (k::ks) az):∃ a az',az=a::az'∧X[off]?=some a∧(∃ x φ,KPs k x∧dec φ x=some a)∧KRow X (off + 1) ks az':=by
 obtain⟨h0,xs,φ,h1,h2⟩:=h
 cases h1 with
 | cons g1 g2 =>
  obtain⟨a,az',rfl,e1,e2⟩:=decs_cons_inv h2
  exact⟨a,az',rfl,h0 0 a rfl,⟨_,φ,g1,e1⟩,λj v hv=>by rw [show off + 1 + j=off + (j + 1) from by omega];exact h0 (j + 1) v (by simpa using hv),_,φ,g2,e2⟩
theorem KRow.split {X:Array Value} {off:Nat}:∀ {ks ks':List KP} {az:List Value},KRow X off (ks++ks') az→∃ az1 az2,az=az1++az2∧KRow X off ks az1∧KRow X (off + ks.length) ks' az2:=by
 intro ks ks' az ⟨h0,xs,φ,h1,h2⟩
 have key:∀ {ks ks':List KP} {xs:List V} {az:List Value},All2 KPs (ks++ks') xs→decs φ xs=some az→∃ x1 x2 a1 a2,az=a1++a2∧All2 KPs ks x1∧All2 KPs ks' x2∧decs φ x1=some a1∧decs φ x2=some a2:=by
  intro ks
  induction ks with
  | nil=>intro ks' xs az h1 h2;exact⟨[],xs,[],az,rfl,.nil,h1,rfl,h2⟩
  | cons k ks ih =>
   intro ks' xs az h1 h2
   cases h1 with
   | cons g1 g2 =>
    obtain⟨a,az',rfl,e1,e2⟩:=decs_cons_inv h2
    obtain⟨x1,x2,a1,a2,rfl,b1,b2,b3,b4⟩:=ih g2 e2
    exact⟨_::x1,x2,a::a1,a2,rfl,.cons g1 b1,b2,decs_cons e1 b3,b4⟩
 obtain⟨x1,x2,a1,a2,rfl,b1,b2,b3,b4⟩:=key h1 h2
 have hl:a1.length=ks.length:=by rw [decs_length b3,b1.length]
 refine⟨a1,a2,rfl,⟨λj v hv=>h0 j v (by rw [List.getElem?_append_left (kA hv).1];exact hv),x1,φ,b1,b3⟩,λj v hv=>?_,x2,φ,b2,b4⟩
 have:=h0 (ks.length + j) v (by rw [List.getElem?_append_right (by omega),show ks.length + j - a1.length=j from by omega];exact hv)
 rwa [show off + (ks.length + j)=off + ks.length + j from by omega] at this
theorem kp_agg {t:TypeId} {k:KP} (hk:kpOf P t=some k):∃ u,P.underlying t=some u∧isAggD u=false:=by
 unfold kpOf at hk
 split at hk <;> first | exact⟨_,by assumption,rfl⟩ | cases hk
theorem items_ok {el:TypeId} {k:KP} (hk:kpOf P el=some k) (X Y:Array Value) (d:Nat) (w:World):∀ (n s:Nat) {az bs:List Value},KRow X s (List.replicate n k) az→KRow Y s (List.replicate n k) bs →
  ∃ r,(Op.eqItems (d + 1) el 1 X Y (List.range' s n)).run P w=.ok r w∧(r=true↔az=bs)
 | 0,s,az,bs,ha,hb=>by
  have h1:=ha.len
  have h2:=hb.len
  simp at h1 h2
  subst h1 h2
  exact⟨true,by simp [Op.eqItems],by simp⟩
 | n + 1,s,az,bs,ha,hb=>by
  rw [List.replicate_succ] at ha hb
  obtain⟨a,az',rfl,e1,⟨x,φ,e2,e3⟩,e4⟩:=ha.cons
  obtain⟨b,bs',rfl,f1,⟨y,φ',f2,f3⟩,f4⟩:=hb.cons
  obtain⟨r,c1,c2,_⟩:=kpEq_ok (P:=P) e2 f2 e3 f3
  obtain⟨u,g2,g3⟩:=kp_agg hk
  obtain⟨g1,_,_⟩:=cellEq_ok (c2 el hk) d w
  have p1:=isAgg_scalar (P:=P) w g2 g3 X (s * 1) (by rw [Nat.mul_one];exact e1)
  have p2:=isAgg_scalar (P:=P) w g2 g3 Y (s * 1) (by rw [Nat.mul_one];exact f1)
  obtain⟨r',h1,h2⟩:=items_ok hk X Y d w n (s + 1) e4 f4
  rw [List.range'_succ]
  simp only [Op.eqItems,Sem.run_bind,p1,p2,g1,Result.andThen_ok]
  cases r
  ·exact⟨false,by simp,by simp;intro e;exact absurd (c1.2 e) (by simp)⟩
  ·exact⟨r',by simpa using h1,by rw [h2];simp [c1.1 rfl]⟩
theorem extract_get {X:Array Value} {off n:Nat} {az:List Value} (hl:az.length=n) (h:∀ (j:Nat) v,az[j]?=some v→X[off + j]?=some v):∀ (j:Nat) v,az[j]?=some v→(X.extract off (off + n))[0 + j]?=some v:=λj v hv=>by
 have hj:j < n:=by rw [← hl];exact (kA hv).1
 have h1:=h j v hv
 have:=(Array.getElem?_eq_some_iff.1 h1).1
 rw [Nat.zero_add,Array.getElem?_extract,if_pos (by omega),h1]
theorem check_prim {t:TypeId} {k:KP} {x:V} {a:Value} (hk:kpOf P t=some k) (hx:KPs k x) (ha:dec φ x=some a) (w:World) (em:Bool) (n:Nat):(Instr.checkKey em (n + 1) t a).run P w=.ok () w:=by
 unfold kpOf at hk
 cases k with
 | int q =>
  obtain⟨m,rfl⟩:=hx
  have e1:=dec_i ha;subst e1
  split at hk <;> simp at hk
  rename_i q' hu
  simp [Instr.checkKey,run_underlying' w hu]
 | str =>
  obtain⟨m,rfl⟩:=hx
  have e1:=dec_s ha;subst e1
  split at hk <;> simp at hk
  rename_i hu
  simp [Instr.checkKey,run_underlying' w hu]
 | bool =>
  obtain⟨m,rfl⟩:=hx
  have e1:=dec_b ha;subst e1
  split at hk <;> simp at hk
  rename_i hu
  simp [Instr.checkKey,run_underlying' w hu]
theorem checkArr_ok {t el n:TypeId} {k:KP} {X:Array Value} {em:Bool} {d:Nat} {w:World} {az:List Value} (hu:P.underlying t=some (.array n el)) (hk1:kpOf P el=some k) (hs:sizeC P el=some 1) (h:KRow X 0 (List.replicate n k) az) :
  (Instr.checkKey em (d + 2) t (.agg X)).run P w=.ok () w:=by
 obtain⟨inf,hi,hin⟩:=sizeC_ok hs
 have key:∀ (n s:Nat) {az:List Value},KRow X s (List.replicate n k) az →
   (forIn (List.range' s n) PUnit.unit (λi (_:PUnit)=>do Instr.checkKey em (d + 1) el (← part el X (i * (← sizeOf el)));pure (ForInStep.yield PUnit.unit)):Sem PUnit).run P w=.ok PUnit.unit w:=by
  intro n
  induction n with
  | zero=>intro s az _;simp
  | succ n ih =>
   intro s az h
   rw [List.replicate_succ] at h
   obtain⟨a,az',rfl,e1,⟨x,φ,e2,e3⟩,e4⟩:=h.cons
   obtain⟨u,g2,g3⟩:=kp_agg hk1
   have p1:=isAgg_scalar (P:=P) w g2 g3 X (s * 1) (by rw [Nat.mul_one];exact e1)
   rw [List.range'_succ,List.forIn_cons]
   simp only [Sem.run_bind,run_sizeOf' w hi,hin,Result.andThen_ok,p1,check_prim hk1 e2 e3 w em d,Sem.run_pure]
   exact ih (s + 1) e4
 unfold Instr.checkKey
 simp only [Sem.run_bind,run_underlying' w hu,Result.andThen_ok,Std.Legacy.Range.forIn_eq_forIn_range',Std.Legacy.Range.size,Nat.sub_zero,Nat.add_one_sub_one,Nat.div_one]
 rw [key n 0 h]
 rfl
theorem partT_ok {t:TypeId} {ks:List KP} (hk:kpsT P t=some ks) (X Y:Array Value) (off d:Nat) (em:Bool) (w:World) {az bs:List Value} (ha:KRow X off ks az) (hb:KRow Y off ks bs) :
  ∃ a b r,(part t X off).run P w=.ok a w∧(part t Y off).run P w=.ok b w∧(Op.equalIn (d + 2) t a b).run P w=.ok r w∧(r=true↔az=bs)∧(Instr.checkKey em (d + 2) t a).run P w=.ok () w:=by
 unfold kpsT at hk
 split at hk
 ·rename_i n el hu
  split at hk <;> try (cases hk;done)
  rename_i k m hk1 hs ht
  split at hk <;> simp at hk
  rename_i hn
  subst hk
  simp only [Bool.and_eq_true] at hn
  have hmn:=kB hn.1
  subst hmn
  obtain⟨inf,hi,hin⟩:=sizeC_ok hs
  obtain⟨it,hit,hitn⟩:=sizeC_ok ht
  have hc:P.cellsOf el=1:=by simp [Program.cellsOf,hi,hin]
  have hp:∀ Z:Array Value,(part t Z off).run P w=.ok (.agg (Z.extract off (off + m))) w:=λZ=>by
   simp [part,run_isAgg' w hu,isAggD,run_sizeOf' w hit,hitn]
  have hla:az.length=m:=by rw [ha.len];simp
  have hlb:bs.length=m:=by rw [hb.len];simp
  have ha':KRow (X.extract off (off + m)) 0 (List.replicate m k) az:=⟨extract_get hla ha.1,ha.2⟩
  have hb':KRow (Y.extract off (off + m)) 0 (List.replicate m k) bs:=⟨extract_get hlb hb.1,hb.2⟩
  obtain⟨r,h1,h2⟩:=items_ok hk1 _ _ d w m 0 ha' hb'
  refine⟨_,_,r,hp X,hp Y,?_,h2,?_⟩
  ·rw [run_equalIn_array w (d + 1) _ _ hu hi,hc,List.range_eq_range']
   exact h1
  ·exact checkArr_ok hu hk1 hs ha'
 ·obtain⟨k,hk1,rfl⟩:=kE hk
  obtain⟨a,az',rfl,e1,⟨x,φ,e2,e3⟩,e4⟩:=ha.cons
  obtain⟨b,bs',rfl,f1,⟨y,φ',f2,f3⟩,f4⟩:=hb.cons
  have h1:=e4.len
  have h2:=f4.len
  simp at h1 h2
  subst h1 h2
  obtain⟨r,c1,c2,_⟩:=kpEq_ok (P:=P) e2 f2 e3 f3
  obtain⟨u,g2,g3⟩:=kp_agg hk1
  obtain⟨g1,_,_⟩:=cellEq_ok (c2 t hk1) (d + 1) w
  exact⟨a,b,r,isAgg_scalar (P:=P) w g2 g3 X off e1,isAgg_scalar (P:=P) w g2 g3 Y off f1,g1,by rw [c1];simp,check_prim hk1 e2 e3 w em (d + 1)⟩
theorem fields_ok {X Y:Array Value} {em:Bool} {d:Nat} {w:World}:∀ {fs:List Field} {i:Nat} {ks:List KP} {az bs:List Value},kpsOf P fs i=some ks→KRow X i ks az→KRow Y i ks bs →
  (∃ r,(Op.eqFields (d + 2) X Y fs).run P w=.ok r w∧(r=true↔az=bs)) ∧
  (forIn fs PUnit.unit (λf (_:PUnit)=>if f.name≠ "_" then do Instr.checkKey em (d + 2) f.type (← part f.type X f.offset);pure (ForInStep.yield PUnit.unit) else pure (ForInStep.yield PUnit.unit)):Sem PUnit).run P w=.ok PUnit.unit w
 | [],i,ks,az,bs,hk,ha,hb=>by
  simp [kpsOf] at hk;subst hk
  have h1:=ha.len
  have h2:=hb.len
  simp at h1 h2
  subst h1 h2
  exact⟨⟨true,by simp [Op.eqFields],by simp⟩,by simp⟩
 | f::fs,i,ks,az,bs,hk,ha,hb=>by
  simp only [kpsOf] at hk
  split at hk <;> try (cases hk;done)
  rename_i k h1 h2 h3
  obtain⟨ks',h4,rfl⟩:=kE hk
  obtain⟨a1,a2,rfl,ha1,ha2⟩:=ha.split
  obtain⟨b1,b2,rfl,hb1,hb2⟩:=hb.split
  have ho:=kB h1
  have hn:f.name≠ "_":=by simpa using h2
  subst ho
  obtain⟨a,b,r,p1,p2,p3,p4,p5⟩:=partT_ok h3 X Y f.offset d em w ha1 hb1
  obtain⟨⟨s,q1,q2⟩,q3⟩:=fields_ok h4 ha2 hb2
  have hl:a1.length=b1.length:=by rw [ha1.len,hb1.len]
  refine⟨?_,?_⟩
  ·simp only [Op.eqFields,hn,ne_eq,not_false_eq_true,if_true,Sem.run_bind,p1,p2,p3,Result.andThen_ok]
   cases r
   ·exact⟨false,by simp,by simp;intro e;have:=List.append_inj_left e hl;exact absurd (p4.2 this) (by simp)⟩
   ·refine⟨s,by simpa using q1,?_⟩
    rw [q2,p4.1 rfl];simp
  ·rw [List.forIn_cons]
   simp only [hn,ne_eq,not_false_eq_true,if_true,Sem.run_bind,p1,Result.andThen_ok,p5,Sem.run_pure]
   exact q3
theorem KSs.row {ks:List KP} {x:V} {a:Value} (hx:KSs (.s ks) x) (ha:dec φ x=some a):∃ xs m,AsA x xs∧All2 KPs ks xs∧decs φ xs=some m∧a=.agg m.toArray∧KRow m.toArray 0 ks m:=by
 obtain⟨xs,h1,h2⟩:=hx
 obtain⟨m,hm,rfl⟩:=dec_a (h1.dec ha)
 exact⟨xs,m,h1,h2,hm,rfl,λj v hv=>by simpa using hv,xs,φ,h2,hm⟩
theorem keyEq_ok {t:TypeId} {ks:KS} {x y:V} {a b:Value} (hk:ksOf P t=some ks) (hx:KSs ks x) (hy:KSs ks y) (ha:dec φ x=some a) (hb:dec φ' y=some b) :
  ∃ r,(∀ w,(Op.equal t a b).run P w=.ok r w)∧(r=true↔a=b)∧(∀ yes no,keyEq ks x y yes no=iff' r yes no):=by
 have rows:∀ {ks':List KP},ks=.s ks'→(∀ (m n:List Value) (w:World),KRow m.toArray 0 ks' m→KRow n.toArray 0 ks' n→∃ r,(Op.equal t (.agg m.toArray) (.agg n.toArray)).run P w=.ok r w∧(r=true↔m=n)) →
   ∃ r,(∀ w,(Op.equal t a b).run P w=.ok r w)∧(r=true↔a=b)∧(∀ yes no,keyEq ks x y yes no=iff' r yes no):=by
  rintro ks' rfl hh
  obtain⟨xs,m,x1,x2,x3,rfl,x4⟩:=hx.row ha
  obtain⟨ys,n,y1,y2,y3,rfl,y4⟩:=hy.row hb
  obtain⟨r,r1,r2⟩:=kpsEq_ok P x2 y2 x3 y3
  refine⟨r,λw=>?_,by rw [r1];simp,λyes no=>?_⟩
  ·obtain⟨s,s1,s2⟩:=hh m n w x4 y4
   have:s=r:=by rw [Bool.eq_iff_iff,s2,r1]
   rw [s1,this]
  ·show x.onA _ 63=_
   rw [x1.on,y1.on,r2]
 unfold ksOf at hk
 split at hk
 ·rename_i fs hu
  split at hk <;> simp at hk
  rename_i ks' hst hkp;subst hk
  refine rows rfl λm n w hm hn=>?_
  obtain⟨⟨r,h1,h2⟩,_⟩:=fields_ok (d:=9997) (em:=true) (w:=w) hkp hm hn
  refine⟨r,?_,h2⟩
  have hf:P.fieldsOf t=fs:=by simp [Program.fieldsOf,hu]
  show (Op.equalIn (9999 + 1) t _ _).run P w=_
  rw [run_equalIn_struct w 9999 t _ _ (by rw [hf];exact hu) hst,hf]
  exact h1
 ·rename_i n el hu
  obtain⟨ks',h1,rfl⟩:=kE hk
  refine rows rfl λm n' w hm hn=>?_
  have h1':=h1
  unfold kpsT at h1'
  rw [hu] at h1'
  simp only at h1'
  split at h1' <;> try (cases h1';done)
  rename_i k q hk1 hs ht
  split at h1' <;> simp at h1'
  subst h1'
  obtain⟨inf,hi,hin⟩:=sizeC_ok hs
  have hc:P.cellsOf el=1:=by simp [Program.cellsOf,hi,hin]
  obtain⟨r,r1,r2⟩:=items_ok hk1 m.toArray n'.toArray 9998 w n 0 hm hn
  refine⟨r,?_,r2⟩
  show (Op.equalIn (9999 + 1) t _ _).run P w=_
  rw [run_equalIn_array w 9999 _ _ hu hi,hc,List.range_eq_range']
  exact r1
 ·obtain⟨k,h1,rfl⟩:=kE hk
  obtain⟨r,c2,c1,c3⟩:=kpEq_ok (P:=P) hx hy ha hb
  exact⟨r,λw=>(cellEq_ok (c1 t h1) 9999 w).1,c2,c3⟩
theorem kpEq_self {k:KP} {x:V} {r:R} {n:Nat} (h:kpEq k x x r (R.no n)=.ok):KPs k x∧r=.ok:=by
 cases k with
 | int q =>
  obtain⟨κ,a,rfl,h1⟩:=onI_ok (show x.onI _ 63=.ok from h)
  obtain⟨κ',b,e,h2⟩:=onI_ok h1
  cases e
  obtain⟨hb,h3⟩:=iff_ok h2
  simp only [Bool.and_eq_true] at hb
  have:=kIx_eq hb.1;subst this
  obtain⟨_,h4⟩:=iff_ok h3
  exact⟨⟨_,rfl⟩,h4⟩
 | str =>
  obtain⟨l,rfl,h1⟩:=onS_ok (show x.onS _ 63=.ok from h)
  obtain⟨l',e,h2⟩:=onS_ok h1
  cases e
  exact⟨⟨_,rfl⟩,(iff_ok h2).2⟩
 | bool =>
  obtain⟨l,rfl,h1⟩:=onB_ok (show x.onB _ 63=.ok from h)
  obtain⟨l',e,h2⟩:=onB_ok h1
  cases e
  exact⟨⟨_,rfl⟩,(iff_ok h2).2⟩
theorem kpsEq_self {n:Nat}:∀ {ks:List KP} {xs:List V} {r:R},kpsEq ks xs xs r (R.no n)=.ok→All2 KPs ks xs∧r=.ok
 | [],[],r,h=>⟨.nil,h⟩
 | [],_::_,r,h=>by cases h
 | k::ks,[],r,h=>by cases h
 | k::ks,x::xs,r,h=>by
  have h':kpEq k x x (kpsEq ks xs xs r (R.no n)) (R.no n)=.ok:=h
  obtain⟨h1,h2⟩:=kpEq_self h'
  obtain⟨h3,h4⟩:=kpsEq_self h2
  exact⟨.cons h1 h3,h4⟩
theorem keyEq_self {ks:KS} {x:V} {r:R} {n:Nat} (h:keyEq ks x x r (R.no n)=.ok):KSs ks x∧r=.ok:=by
 cases ks with
 | p k=>exact kpEq_self h
 | s ks =>
  obtain⟨xs,hA,h1⟩:=onA_ok (show x.onA _ 63=.ok from h)
  rw [hA.on] at h1
  obtain⟨h3,h4⟩:=kpsEq_self h1
  exact⟨⟨_,hA,h3⟩,h4⟩
def CK (ks:KS) (a:Value):Prop:=∃ x,KSs ks x∧∃ φ:Phi,dec φ x=some a
theorem CK.eq {t:TypeId} {ks:KS} {a b:Value} (hk:ksOf P t=some ks) (ha:CK ks a) (hb:CK ks b):∃ r,(∀ w,(Op.equal t a b).run P w=.ok r w)∧(r=true↔a=b):=by
 obtain⟨x,hx,φ,e1⟩:=ha
 obtain⟨y,hy,φ',e2⟩:=hb
 obtain⟨r,h1,h2,_⟩:=keyEq_ok hk hx hy e1 e2
 exact⟨r,h1,h2⟩
theorem now_eq {q:TypeDesc} {a b:Value} {r:Bool} (h:Instr.sameNow q a b=some r):r=true↔a=b:=by
 unfold Instr.sameNow at h
 split at h
 ·split at h <;> simp at h
  rename_i hk;subst hk;subst h;simp
 ·simp only [Option.some.injEq] at h;subst h;rw [ba_beq];exact⟨λh=>by rw [h],λh=>Value.string.inj h⟩
 ·simp at h;subst h;simp
 ·cases h
theorem findNow_ok {q:TypeDesc} {a:Value}:∀ {es:List MapEntry} {i:Nat} {r:Option (Nat × Value)},Instr.findNow q a es i=some r→(r=none∧∀ e∈es,e.key≠a)∨∃ j e,r=some (i + j,e.val)∧es[j]?=some e∧e.key=a
 | [],i,r,h=>by simp [Instr.findNow] at h;subst h;exact .inl ⟨rfl,by simp⟩
 | e::es,i,r,h=>by
  unfold Instr.findNow at h
  split at h
  ·rename_i hs
   simp at h;subst h
   exact .inr ⟨0,e,rfl,rfl,((now_eq hs).1 rfl).symm⟩
  ·rename_i hs
   rcases findNow_ok h with⟨h1,h2⟩ | ⟨j,e',h1,h2,h3⟩
   ·refine .inl ⟨h1,λe' he'=>?_⟩
    rcases List.mem_cons.1 he' with rfl | he'
    ·exact λhh=>by have:=(now_eq hs).2 hh.symm;cases this
    ·exact h2 e' he'
   ·exact .inr ⟨j + 1,e',by rw [h1];congr 2;omega,by simpa using h2,h3⟩
  ·cases h
theorem findAsking_ok {t:TypeId} {ks:KS} {a:Value} (hk:ksOf P t=some ks) (ha:CK ks a) (w:World):∀ {es:List MapEntry} {i:Nat},(∀ e∈es,CK ks e.key) →
  ((Instr.findAsking t a es i).run P w=.ok none w∧∀ e∈es,e.key≠a)∨∃ j e,(Instr.findAsking t a es i).run P w=.ok (some (i + j,e.val)) w∧es[j]?=some e∧e.key=a
 | [],i,h=>.inl ⟨rfl,by simp⟩
 | e::es,i,h=>by
  obtain⟨r,h1,h2⟩:=CK.eq hk ha (h e (by simp))
  cases r with
  | true =>
   refine .inr ⟨0,e,?_,rfl,(h2.1 rfl).symm⟩
   simp [Instr.findAsking,h1]
  | false =>
   have hne:e.key≠a:=λhh=>by have:=h2.2 hh.symm;cases this
   rcases findAsking_ok hk ha w (es:=es) (i:=i + 1) (λe' he'=>h e' (by simp [he'])) with⟨h3,h4⟩ | ⟨j,e',h3,h4,h5⟩
   ·refine .inl ⟨by simp [Instr.findAsking,h1,h3],λe' he'=>?_⟩
    rcases List.mem_cons.1 he' with rfl | he'
    ·exact hne
    ·exact h4 e' he'
   ·refine .inr ⟨j + 1,e',?_,by simpa using h4,h5⟩
    simp only [Instr.findAsking,Sem.run_bind,h1,Result.andThen_ok,Bool.false_eq_true,if_false,h3]
    congr 3;omega
theorem ks_under {t:TypeId} {ks:KS} (hk:ksOf P t=some ks):∃ u,P.underlying t=some u:=by
 unfold ksOf at hk
 split at hk
 ·exact⟨_,by assumption⟩
 ·exact⟨_,by assumption⟩
 ·obtain⟨k,h1,rfl⟩:=kE hk
  unfold kpOf at h1
  split at h1 <;> first | exact⟨_,by assumption⟩ | cases h1
theorem findKey_ok {t:TypeId} {ks:KS} {a:Value} (hk:ksOf P t=some ks) (ha:CK ks a) (w:World) {es:List MapEntry} (h:∀ e∈es,CK ks e.key) :
  ((Instr.findKey t a es).run P w=.ok none w∧∀ e∈es,e.key≠a)∨∃ j e,(Instr.findKey t a es).run P w=.ok (some (j,e.val)) w∧es[j]?=some e∧e.key=a:=by
 obtain⟨u,hu⟩:=ks_under hk
 unfold Instr.findKey
 simp only [Sem.run_bind,run_underlying' w hu,Result.andThen_ok]
 cases hn:Instr.findNow u a es 0 with
 | some r =>
  simp only [Sem.run_pure]
  rcases findNow_ok hn with⟨rfl,h2⟩ | ⟨j,e,rfl,h2,h3⟩
  ·exact .inl ⟨rfl,h2⟩
  ·exact .inr ⟨j,e,by simp,h2,h3⟩
 | none =>
  rcases findAsking_ok hk ha w (es:=es) (i:=0) h with⟨h1,h2⟩ | ⟨j,e,h1,h2,h3⟩
  ·exact .inl ⟨h1,h2⟩
  ·exact .inr ⟨j,e,by simpa using h1,h2,h3⟩
theorem checkKey_ok {t:TypeId} {ks:KS} {a:Value} (hk:ksOf P t=some ks) (ha:CK ks a) (w:World) (em:Bool):(Instr.checkKey em 10000 t a).run P w=.ok () w:=by
 obtain⟨x,hx,φ,e1⟩:=ha
 unfold ksOf at hk
 split at hk
 ·rename_i fs hu
  split at hk <;> simp at hk
  rename_i ks' hst hkp;subst hk
  obtain⟨xs,m,x1,x2,x3,rfl,x4⟩:=hx.row e1
  obtain⟨_,this⟩:=fields_ok (d:=9997) (em:=em) (w:=w) hkp x4 x4
  unfold Instr.checkKey
  simp only [Sem.run_bind,run_underlying' w hu,Result.andThen_ok]
  rw [← Array.forIn_toList]
  simp at this ⊢
  rw [this]
  rfl
 ·rename_i n el hu
  obtain⟨ks',h1,rfl⟩:=kE hk
  obtain⟨xs,m,x1,x2,x3,rfl,x4⟩:=hx.row e1
  unfold kpsT at h1
  rw [hu] at h1
  simp only at h1
  split at h1 <;> try (cases h1;done)
  rename_i k q hk1 hs ht
  split at h1 <;> simp at h1
  subst h1
  exact checkArr_ok (d:=9998) hu hk1 hs x4
 ·obtain⟨k,h1,rfl⟩:=kE hk
  exact check_prim h1 hx e1 w em 9999
theorem same_prim {k:KP} {x:V} {a:Value} (hx:KPs k x) (ha:dec φ x=some a) (n:Nat):Instr.sameBits n a a=true:=by
 cases k <;> obtain⟨m,rfl⟩:=hx
 ·have e1:=dec_i ha;subst e1;cases n <;> simp [Instr.sameBits]
 ·have e1:=dec_s ha;subst e1;cases n <;> exact (ba_beq _ _).2 rfl
 ·have e1:=dec_b ha;subst e1;cases n <;> simp [Instr.sameBits]
theorem stays_ok {ks:KS} {a:Value} (ha:CK ks a) (w:World):(Instr.keyThatStays a a).run P w=.ok a w:=by
 have:Instr.sameBits 10000 a a=true:=by
  obtain⟨x,hx,φ,e1⟩:=ha
  cases ks with
  | p k=>exact same_prim hx e1 _
  | s ks =>
   obtain⟨xs,m,_,hxs,hm,rfl,_⟩:=hx.row e1
   have key:∀ {ks:List KP} {xs:List V} {m:List Value},All2 KPs ks xs→decs φ xs=some m→∀ v∈m,Instr.sameBits 9999 v v=true:=by
    intro ks xs m hA
    induction hA generalizing m with
    | nil=>intro hd v hv;simp [decs] at hd;subst hd;cases hv
    | cons h1 _ ih =>
     intro hd v hv
     obtain⟨a,az',rfl,e1,e2⟩:=decs_cons_inv hd
     rcases List.mem_cons.1 hv with rfl | hv
     ·exact same_prim h1 e1 _
     ·exact ih e2 v hv
   show (m.toArray.size==m.toArray.size&&(m.toArray.toList.zip m.toArray.toList).all λ(x,y)=>Instr.sameBits 9999 x y)=true
   simp only [beq_self_eq_true,Bool.true_and,List.all_eq_true]
   rintro⟨p,q⟩ hpq
   obtain⟨i,hi⟩:=List.getElem?_of_mem hpq
   rw [List.getElem?_zip_eq_some] at hi
   simp only at hi
   have:p=q:=Option.some.inj (hi.1.symm.trans hi.2)
   subst this
   exact key hxs hm p (by simpa using kD hi.1)
 simp [Instr.keyThatStays,this]
theorem arrK_ok {t:TypeId} {ks:KS} (h:arrK P t=some ks):ksOf P t=some ks∧P.eqGuardType P.depth t=false∧∃ l,ks=.s l:=by
 unfold arrK at h
 unfold ksOf
 split at h
 ·rename_i n el hu
  rw [hu]
  split at h
  ·rename_i hg
   obtain⟨l,h1,h2⟩:=kE h
   exact⟨h,hg,l,h2.symm⟩
  ·cases h
 ·cases h
theorem pure_eqk {neg:Bool} {op:BinOp} {t yt:Nat} {x y:Operand} {a b:V} {ks:KS} {ρ:Operand→Value} {o:Oper} {k:V→R} (hop:op=if neg then .neq else .eql) (ho:o.op=.binOp op t x y yt) (hks:arrK P t=some ks) (hx:dec φ a=some (ρ x)) (hy:dec φ b=some (ρ y))
  (h:vEqk neg ks a b k=.ok):PureOK P φ ρ o k:=by
 obtain⟨k1,h1⟩:=keyEq_self h
 obtain⟨k2,h2⟩:=keyEq_self h1
 clear h h1
 obtain⟨a1,a2,l,rfl⟩:=arrK_ok hks
 obtain⟨r,r1,_,r2⟩:=keyEq_ok a1 k1 k2 hx hy
 rw [r2] at h2
 obtain⟨xs,m,_,_,_,em,_⟩:=k1.row hx
 obtain⟨ys,n,_,_,_,en,_⟩:=k2.row hy
 refine PureOK.mk (s:=do eqGuard op t x y (ρ x) (ρ y);binOp op t (ρ x) (ρ y)) (u:=.b (if neg then !r else r)) (y:=.bool (if neg then !r else r)) (by simp [execOp,ho]) rfl (λw=>?_) (by cases neg <;> cases r <;> exact h2)
 have h:=r1 w
 rw [em,en] at h ⊢
 rw [Sem.run_bind,run_eqGuard_agg w op t x y _ _ a2,Result.andThen_ok]
 cases neg
 ·obtain rfl:op=.eql:=hop
  exact run_eql h
 ·obtain rfl:op=.neq:=hop
  exact run_neq h
end
open Go.ChangeMaps (setBlock)
section
variable {D:Type} {P:Program} {Hd:D→Loc→View→Prop} {w0:Base} {φ:Phi} {σ:H D} {w:World} {ρ:Operand→Value} {o:Oper} {k:V→H D→R}
theorem find_ok {t:TypeId} {ks:KS} {x:V} {a:Value} {k0:R} {k1:V→R} (hk:ksOf P t=some ks) (hx:KSs ks x) (hd:dec φ x=some a):∀ {es:List (V × V)},(∀ p∈es,KSs ks p.1∧∃ b,dec φ p.1=some b)→find ks es x k0 k1=.ok →
  (∃ p∈es,dec φ p.1=some a∧k1 p.2=.ok)∨((∀ p∈es,dec φ p.1≠some a)∧k0=.ok)
 | [],_,h=>.inr ⟨by simp,h⟩
 | p::es,hs,h=>by
  obtain⟨h1,b,h2⟩:=hs p (by simp)
  obtain⟨r,_,h4,h5⟩:=keyEq_ok hk h1 hx h2 hd
  have h':keyEq ks p.1 x (k1 p.2) (find ks es x k0 k1)=.ok:=h
  rw [h5] at h'
  rcases iff_t h' with⟨rfl,h6⟩ | ⟨rfl,h6⟩
  ·exact .inl ⟨p,by simp,by rw [h2,h4.1 rfl],h6⟩
  ·have hne:dec φ p.1≠some a:=λhh=>by
    rw [h2] at hh;simp at hh
    have:=h4.2 hh;cases this
   rcases find_ok hk hx hd (λq hq=>hs q (by simp [hq])) h6 with⟨q,g1,g2⟩ | ⟨g1,g2⟩
   ·exact .inl ⟨q,by simp [g1],g2⟩
   ·refine .inr ⟨λq hq=>?_,g2⟩
    rcases List.mem_cons.1 hq with rfl | hq
    ·exact hne
    ·exact g1 q hq
theorem putM_ok {t:TypeId} {ks:KS} {x y:V} {a:Value} {k:List (V × V)→R} (hk:ksOf P t=some ks) (hx:KSs ks x) (hd:dec φ x=some a):∀ {es:List (V × V)},(∀ p∈es,KSs ks p.1∧∃ b,dec φ p.1=some b)→∀ {k:List (V × V)→R},putM ks es x y k=.ok →
  ((∀ p∈es,dec φ p.1≠some a)∧k (es++[(x,y)])=.ok)∨∃ l1 p l2,es=l1++p::l2∧dec φ p.1=some a∧k (l1++(x,y)::l2)=.ok
 | [],_,k,h=>.inl ⟨by simp,h⟩
 | p::es,hs,k,h=>by
  obtain⟨h1,b,h2⟩:=hs p (by simp)
  obtain⟨r,_,h4,h5⟩:=keyEq_ok hk h1 hx h2 hd
  have h':keyEq ks p.1 x (k ((x,y)::es)) (putM ks es x y λl=>k (p::l))=.ok:=h
  rw [h5] at h'
  rcases iff_t h' with⟨rfl,h6⟩ | ⟨rfl,h6⟩
  ·exact .inr ⟨[],p,es,rfl,by rw [h2,h4.1 rfl],h6⟩
  ·have hne:dec φ p.1≠some a:=λhh=>by
    rw [h2] at hh;simp at hh
    have:=h4.2 hh;cases this
   rcases putM_ok (k:=k) hk hx hd (λq hq=>hs q (by simp [hq])) h6 with⟨g1,g2⟩ | ⟨l1,q,l2,g1,g2,g3⟩
   ·refine .inl ⟨λq hq=>?_,g2⟩
    rcases List.mem_cons.1 hq with rfl | hq
    ·exact hne
    ·exact g1 q hq
   ·exact .inr ⟨p::l1,q,l2,by rw [g1];rfl,g2,g3⟩
theorem MapAt'.ck {ks:KS} {arr:Array MapEntry} {clock:Nat} {es:List (V × V)} (h:MapAt' φ ks arr clock es):∀ e∈arr.toList,CK ks e.key:=λe he=>by
 obtain⟨p,hp,h1,_⟩:=h.to_ e he
 exact⟨p.1,h.shape p hp,φ,h1⟩
theorem MapAt'.dk {ks:KS} {arr:Array MapEntry} {clock:Nat} {es:List (V × V)} (h:MapAt' φ ks arr clock es):∀ p∈es,KSs ks p.1∧∃ b,dec φ p.1=some b:=λp hp=>by
 obtain⟨e,he,h1,_⟩:=h.of p hp
 exact⟨h.shape p hp,_,h1⟩
theorem zeroV_ok {t:TypeId} {z:V} (h:zeroV P t=some z):∃ zv,dec φ z=some zv∧∀ w,(zeroValue t).run P w=.ok zv w:=by
 unfold zeroV at h
 split at h <;> try (cases h;done)
 rename_i i hi
 split at h <;> try (cases h;done)
 rename_i zv hz
 exact⟨zv,valC_dec h,λw=>by simp [zeroValue,run_typeInfo' w hi,hz]⟩
theorem fin_ok {ok b:Bool} {v:V} {k:V→R} {y:Value} (hv:dec φ v=some y) (h:fin ok b v k=.ok):∃ u,dec φ u=some (if ok then .tuple #[y,.bool b] else y)∧k u=.ok:=by
 rcases iff_t (show iff' ok _ _=.ok from h) with⟨rfl,h⟩ | ⟨rfl,h⟩
 ·exact⟨_,by simp [dec,decs,hv],h⟩
 ·exact⟨_,by simpa using hv,h⟩
theorem op_look {t kT el:Nat} {ks:KS} {z:V} {ok:Bool} {m i:Operand} {um ui:V} (ho:o.op=.lookup t m i ok) (ht:P.underlying t=some (.map kT el)) (hz:zeroV P el=some z) (hks:ksOf P kT=some ks) (hr:Rel P Hd w0 φ σ w)
  (hm:dec φ um=some (ρ m)) (hi:dec φ ui=some (ρ i)) (h:vLook kT ks z ok um ui σ (λu=>k u σ)=.ok):OpOK P Hd w0 φ σ w ρ o k:=by
 obtain⟨hsh,h1⟩:=keyEq_self h
 obtain⟨zv,hzd,hzr⟩:=zeroV_ok (φ:=φ) hz
 have hck:CK ks (ρ i):=⟨ui,hsh,φ,hi⟩
 rcases onMO_ok h1 with⟨v,rfl,h2⟩ | ⟨rfl,h2⟩
 ·obtain⟨M,hM,em⟩:=dec_m hm
  obtain⟨b,h3,h4⟩:=H.get_ok (show σ.get v _=.ok from h2)
  obtain⟨kT',ks',es,ver,rfl,h5⟩:=onMp_ok h4
  obtain⟨hb,h6⟩:=iff_ok h5
  have:=kB hb;subst this
  obtain⟨L,hL,hge,hks',arr,clock,hat,hA⟩:=hr.live h3 trivial
  rw [hM] at hL;cases hL
  rw [hks] at hks';cases hks'
  have run:∀ r,(Instr.findKey kT' (ρ i) arr.toList).run P w=.ok r w→(Instr.lookup t (ρ m) (ρ i) ok).run P w=.ok (match r with | some (_,v)=>(if ok then .tuple #[v,.bool true] else v) | none=>(if ok then .tuple #[zv,.bool false] else zv)) w:=by
   intro r hrun
   simp only [em,Instr.lookup,Sem.run_bind,run_underlying' w ht,Result.andThen_ok,MapKept.run_getObj_map hat,Sem.run_pure,checkKey_ok hks hck w,hrun]
   cases r with
   | none=>simp [hzr]
   | some p=>cases p;simp
  rcases find_ok hks hsh hi hA.dk h6 with⟨p,hp,g1,g2⟩ | ⟨g1,g2⟩
  ·obtain⟨e,he,c1,c2⟩:=hA.of p hp
   have hkey:e.key=ρ i:=by rw [g1] at c1;exact (Option.some.inj c1).symm
   obtain⟨u,d1,d2⟩:=fin_ok c2 g2
   rcases findKey_ok hks hck w hA.ck with⟨f1,f2⟩ | ⟨j,e',f1,f2,f3⟩
   ·exact absurd hkey (f2 e he)
   ·have:e'=e:=key_once hA.st (kD f2) he (f3.trans hkey.symm)
    subst this
    exact OpOK.val (s:=Instr.lookup t (ρ m) (ρ i) ok) (by simp [execOp,ho]) (run _ f1) (Post.pure hr d1 d2)
  ·obtain⟨u,d1,d2⟩:=fin_ok hzd g2
   rcases findKey_ok hks hck w hA.ck with⟨f1,f2⟩ | ⟨j,e',f1,f2,f3⟩
   ·exact OpOK.val (s:=Instr.lookup t (ρ m) (ρ i) ok) (by simp [execOp,ho]) (run _ f1) (Post.pure hr d1 d2)
   ·obtain⟨p,hp,c1,_⟩:=hA.to_ e' (kD f2)
    exact absurd (by rw [c1,f3]) (g1 p hp)
 ·have em:ρ m=.map none:=by simpa [dec] using hm.symm
  obtain⟨u,d1,d2⟩:=fin_ok hzd h2
  refine OpOK.val (s:=Instr.lookup t (ρ m) (ρ i) ok) (w':=w) (by simp [execOp,ho]) ?_ (Post.pure hr d1 d2)
  rcases findKey_ok hks hck w (es:=[]) (by simp) with⟨f1,_⟩ | ⟨j,e',_,f2,_⟩
  ·simp only [em,Instr.lookup,Sem.run_bind,run_underlying' w ht,Result.andThen_ok,Sem.run_pure,checkKey_ok hks hck w]
   rw [f1]
   simp [hzr]
  ·simp at f2
theorem op_mkm {t kT el:Nat} {ks:KS} {v:Vid} (ho:o.op=.makeMap t none) (hks:ksOf P kT=some ks) (hr:Rel P Hd w0 φ σ w) (h:vMkM kT ks v σ k=.ok):OpOK P Hd w0 φ σ w ρ o k:=by
 obtain⟨h1,σ',h2,h3,h4⟩:=H.add_ok (show σ.add v _ _=.ok from h)
 have hle:=Phi.with_le (L:=⟨w.heap.size,0,0⟩) (hr.gone v h1)
 refine OpOK.val (s:=Instr.makeMap t none) (y:=.map (some w.heap.size)) (w':=w.alloc (.map #[] 0)) (by simp [execOp,ho]) (by simp [Instr.makeMap,run_newObj]) ⟨φ.with v ⟨w.heap.size,0,0⟩,_,σ',hle,?_,by simp [dec,Phi.with_eq],Ext.put h2 h3,h4⟩
 exact hr.new h1 (newAt w _) h2 ⟨Base.new_of hr.keeps (Nat.le_refl _),hks,#[],0,(newAt w _).at_,⟨MapKept.stamped_empty 0,rfl,by simp,by simp,by simp,.nil⟩⟩
theorem op_putm {t kT el:Nat} {ks:KS} {m i x:Operand} {um ui ux:V} (ho:o.op=.mapUpdate t m i x∨o.op=.insert t m i x) (ht:P.underlying t=some (.map kT el)) (hks:ksOf P kT=some ks) (hr:Rel P Hd w0 φ σ w)
  (hm:dec φ um=some (ρ m)) (hi:dec φ ui=some (ρ i)) (hx:dec φ ux=some (ρ x)) (h:vPutM kT ks um ui ux σ (λσ=>k (.t []) σ)=.ok):OpOK P Hd w0 φ σ w ρ o k:=by
 obtain⟨hsh,h1⟩:=keyEq_self h
 have hck:CK ks (ρ i):=⟨ui,hsh,φ,hi⟩
 obtain⟨v,rfl,h2⟩:=onM_ok h1
 obtain⟨M,hM,em⟩:=dec_m hm
 obtain⟨b,h3,h4⟩:=H.get_ok (show σ.get v _=.ok from h2)
 obtain⟨kT',ks',es,ver,rfl,h5⟩:=onMp_ok h4
 obtain⟨hb,h6⟩:=iff_ok h5
 have:=kB hb;subst this
 obtain⟨L,hL,hge,hks',arr,clock,hat,hA⟩:=hr.live h3 trivial
 rw [hM] at hL;cases hL
 rw [hks] at hks';cases hks'
 have hexec:execOp ρ o=(do Instr.mapUpdate t (ρ m) (ρ i) (ρ x);pure Next.skip:Sem Next):=by rcases ho with ho | ho <;> simp [execOp,ho]
 have fin:∀ {es':List (V × V)} {arr':Array MapEntry} {clock':Nat},σ.put v (.map kT' ks es' (Nat.succ ver)) (λσ=>k (.t []) σ)=.ok→(Instr.mapUpdate t (ρ m) (ρ i) (ρ x)).run P w=.ok () (setBlock w M.blk (.map arr' clock'))→MapAt' φ ks arr' clock' es'→OpOK P Hd w0 φ σ w ρ o k:=by
  intro es' arr' clock' hk hrun hA'
  obtain⟨σ',g1,g2,g3⟩:=H.put_ok hk
  have hu:=keepsSetBlock hat (.map arr' clock')
  refine OpOK.unit hexec hrun ⟨φ,_,σ',.refl _,?_,rfl,Ext.put g1 g2,g3⟩
  exact hr.set h3 trivial hM hu g1 trivial (λkT ks es ver he=>by cases he;exact⟨es',_,rfl,Nat.lt_succ_self _⟩) ⟨hge,hks,arr',clock',hu.at_,hA'⟩
 rcases findKey_ok hks hck w hA.ck with⟨f1,f2⟩ | ⟨j,e0,f1,f2,f3⟩
 ·rcases putM_ok (k:=λ_=>.ok) hks hsh hi hA.dk h6 with⟨g1,g2⟩ | ⟨l1,p,l2,g1,g2,_⟩
  ·refine fin (arr':=arr.push ⟨ρ i,ρ x,clock⟩) (clock':=clock + 1) g2 ?_ ⟨MapKept.stamped_push hA.st f2,by simp [hA.size],?_,?_,?_,?_⟩
   ·simp [em,Instr.mapUpdate,run_underlying' w ht,MapKept.run_getObj_map hat,checkKey_ok hks hck w,f1,MapKept.run_setObj_map _ hat,Result.andThen,setBlock]
   ·intro q hq
    rcases List.mem_append.1 hq with hq | hq
    ·exact hA.shape q hq
    ·simp at hq;subst hq;exact hsh
   ·intro e he
    simp only [Array.toList_push,List.mem_append,List.mem_singleton] at he
    rcases he with he | rfl
    ·obtain⟨q,hq,a1,a2⟩:=hA.to_ e he;exact⟨q,by simp [hq],a1,a2⟩
    ·exact⟨(ui,ux),by simp,hi,hx⟩
   ·intro q hq
    rcases List.mem_append.1 hq with hq | hq
    ·obtain⟨e,he,a1,a2⟩:=hA.of q hq;exact⟨e,by simp;exact .inl (by simpa using he),a1,a2⟩
    ·simp at hq;subst hq;exact⟨⟨ρ i,ρ x,clock⟩,by simp,hi,hx⟩
   ·rw [List.pairwise_append]
    refine⟨hA.nd,by simp,λp hp q hq a ha hb=>?_⟩
    simp at hq;subst hq
    rw [hi] at hb;cases hb
    exact g1 p hp ha
  ·obtain⟨e,he,a1,_⟩:=hA.of p (by rw [g1];simp)
   rw [g2] at a1
   exact absurd (Option.some.inj a1).symm (f2 e he)
 ·rcases putM_ok (k:=λ_=>.ok) hks hsh hi hA.dk h6 with⟨g1,g2⟩ | ⟨l1,p,l2,g1,g2,g3⟩
  ·obtain⟨q,hq,a1,_⟩:=hA.to_ e0 (kD f2)
   exact absurd (by rw [a1,f3]) (g1 q hq)
  ·have hj:arr[j]?=some e0:=by simpa using f2
   have hnd:=hA.nd
   rw [g1,List.pairwise_append,List.pairwise_cons] at hnd
   obtain⟨n1,⟨n2,n3⟩,n4⟩:=hnd
   have hlist:(arr.modify j (λe'=>{ e' with key:=ρ i,val:=ρ x })).toList=arr.toList.set j { e0 with key:=ρ i,val:=ρ x }:=by rw [Array.toList_modify,Go.ChangeMaps.modify_eq_set _ _ _ _ f2]
   have hmem:∀ e,e∈arr.toList.set j { e0 with key:=ρ i,val:=ρ x }→e={ e0 with key:=ρ i,val:=ρ x }∨(e∈arr.toList∧e.key≠ρ i):=by
    intro e he
    obtain⟨n,hn⟩:=List.getElem?_of_mem he
    rw [List.getElem?_set] at hn
    split at hn
    ·split at hn
     ·simp at hn;exact .inl hn.symm
     ·cases hn
    ·rename_i hne
     refine .inr ⟨kD hn,λe1=>?_⟩
     have:=key_once hA.st (kD hn) (kD f2) (e1.trans f3.symm)
     subst this
     have hb2:=hA.st.2.1
     rw [List.Nodup,List.pairwise_map,List.pairwise_iff_getElem] at hb2
     rw [List.getElem?_eq_some_iff] at hn f2
     obtain⟨hi1,hi2⟩:=hn
     obtain⟨hj1,hj2⟩:=f2
     rcases Nat.lt_trichotomy n j with h | h | h
     ·exact hb2 n j hi1 hj1 h (by rw [hi2,hj2])
     ·exact hne h.symm
     ·exact hb2 j n hj1 hi1 h (by rw [hi2,hj2])
   have hmem2:∀ e,e∈arr.toList→e.key≠ρ i→e∈arr.toList.set j { e0 with key:=ρ i,val:=ρ x }:=by
    intro e he hk
    obtain⟨n,hn⟩:=List.getElem?_of_mem he
    refine kD (i:=n) ?_
    rw [List.getElem?_set,if_neg,hn]
    rintro rfl
    rw [f2] at hn;cases hn
    exact hk f3
   have hjl:j < arr.toList.length:=(kA f2).1
   refine fin (arr':=arr.modify j (λe'=>{ e' with key:=ρ i,val:=ρ x })) (clock':=clock) g3 ?_ ⟨MapKept.stamped_modify hA.st _ _ (λ_ _=>rfl) (λe' _ he'=>by rw [hj] at he';cases he';exact f3.symm),by simp [hA.size,g1],?_,?_,?_,?_⟩
   ·simp [em,Instr.mapUpdate,run_underlying' w ht,MapKept.run_getObj_map hat,checkKey_ok hks hck w,f1,hj,f3,stays_ok hck w,MapKept.run_setObj_map _ hat,Result.andThen,setBlock]
   ·intro q hq
    rcases List.mem_append.1 hq with hq | hq
    ·exact hA.shape q (by rw [g1];simp [hq])
    ·rcases List.mem_cons.1 hq with rfl | hq
     ·exact hsh
     ·exact hA.shape q (by rw [g1];simp [hq])
   ·intro e he
    rw [hlist] at he
    rcases hmem e he with rfl | ⟨he,hk⟩
    ·exact⟨(ui,ux),by simp,hi,hx⟩
    ·obtain⟨q,hq,a1,a2⟩:=hA.to_ e he
     rw [g1] at hq
     refine⟨q,?_,a1,a2⟩
     rcases List.mem_append.1 hq with hq | hq
     ·simp [hq]
     ·rcases List.mem_cons.1 hq with rfl | hq
      ·rw [g2] at a1;exact absurd (Option.some.inj a1).symm hk
      ·simp [hq]
   ·intro q hq
    rw [hlist]
    have old:q∈es→dec φ q.1≠some (ρ i)→∃ e∈arr.toList.set j { e0 with key:=ρ i,val:=ρ x },dec φ q.1=some e.key∧dec φ q.2=some e.val:=by
     intro hq hne
     obtain⟨e,he,a1,a2⟩:=hA.of q hq
     exact⟨e,hmem2 e he (λhh=>hne (by rw [a1,hh])),a1,a2⟩
    rcases List.mem_append.1 hq with hq | hq
    ·exact old (by rw [g1];simp [hq]) (λhh=>n4 q hq p (by simp) _ hh g2)
    ·rcases List.mem_cons.1 hq with rfl | hq
     ·exact⟨_,List.mem_set hjl _,hi,hx⟩
     ·exact old (by rw [g1];simp [hq]) (λhh=>n2 q hq _ g2 hh)
   ·rw [List.pairwise_append,List.pairwise_cons]
    refine⟨n1,⟨λq hq a ha hb=>?_,n3⟩,λq hq r hr' a ha hb=>?_⟩
    ·rw [hi] at ha;cases ha;exact n2 q hq _ g2 hb
    ·rcases List.mem_cons.1 hr' with rfl | hr'
     ·rw [hi] at hb;cases hb;exact n4 q hq p (by simp) _ ha g2
     ·exact n4 q hq r (by simp [hr']) _ ha hb
end
end Go.Ev
end
section
namespace Go.Ev
open Go Go.Fk
section
variable {D:Type} {P:Program} {Hd:D→Loc→View→Prop} {w0:Base} {φ:Phi} {σ:H D} {w:World} {ρ:Operand→Value} {o:Oper} {k:V→H D→R}
theorem Upd.trans {b:Nat} {o o':Obj} {w w1 w2:World} (h:Upd b o w w1) (h':Upd b o' w1 w2):Upd b o' w w2:=⟨h'.at_,h.keeps.trans h'.keeps,h'.size.trans h.size⟩
theorem Upd.id {b:Nat} {o:Obj} {w:World} (h:w.heap[b]?=some o):Upd b o w w:=⟨h,Keeps.refl,rfl⟩
theorem stCells_blk {b off ty:Nat}:∀ (vs:List Value) (i:Nat) (w:World) (cs:Array Value) (k:World→Prop),w.heap[b]?=some (.cells cs ty (0,0))→off + i + vs.length≤cs.size→(∀ v∈vs,oneCell v=true) →
  (∀ w',Upd b (.cells (wr (off + i) vs cs.toList).toArray ty (0,0)) w w'→k w')→StCells ⟨b,off,none⟩ k vs i w
 | [],i,w,cs,k,hb,hs,h1,hk=>by
  simp only [StCells]
  exact hk w (Upd.id (by simpa [wr] using hb))
 | v::vs,i,w,cs,k,hb,hs,h1,hk=>by
  simp only [StCells,h1 v (by simp)]
  rw [add_eq]
  refine St.blk hb (by simp at hs;omega) λw1 hu=>?_
  refine stCells_blk vs (i + 1) w1 (cs.setIfInBounds (off + i) v) k hu.at_ (by simp at hs ⊢;omega) (λu hu=>h1 u (by simp [hu])) λw' hu'=>hk w' ?_
  refine Upd.trans hu ?_
  have:(cs.setIfInBounds (off + i) v).toList=cs.toList.set (off + i) v:=by simp
  rw [this] at hu'
  exact hu'
theorem wr_cells {ex:Bool} {n:Nat} {c c':Tr V} {ty sz off:Nat} {v:Vid} {L:Loc} {cs:Array Value} {l:List V} {vs:List Value} {w':World} {σ':H D} (hr:Rel P Hd w0 φ σ w) (hv:σ.look v=some (.cells ex n c ty sz)) (hL:φ v=some L) (hge:w0.New L.blk) (hA:CellsAt φ w L ex n c ty sz cs)
  (hd:decs φ l=some vs) (h1:∀ v∈vs,oneCell v=true) (ha:off + l.length≤n) (hc:∀ j,c'.get j=if off≤j∧j < off + l.length then l[j - off]? else c.get j)
  (hu:Upd L.blk (.cells (wr (L.base + off) vs cs.toList).toArray ty (0,0)) w w') (hσ:∀ v',σ'.look v'=if v'=v then some (.cells ex n c' ty sz) else σ.look v'):Rel P Hd w0 φ σ' w':=by
 have hlen:=decs_length hd
 have hsz:l≠[]→L.base + off + l.length≤cs.toList.length:=by
  intro hne
  have hpos:0 < l.length:=List.length_pos_iff.2 hne
  obtain⟨_,y,_,_,h2,_⟩:=hA.in_ (i:=off + (l.length - 1)) (by omega)
  have:=(Array.getElem?_eq_some_iff.1 h2).1
  simp;omega
 refine hr.set hv trivial hL hu hσ trivial (λkT ks es ver he=>by cases he) ⟨hge,_,⟨hu.at_,λj x hx=>?_,λj hj=>?_,λhe=>⟨by simpa [wr_length] using (hA.full he).1,(hA.full he).2⟩,λhe=>?_⟩⟩
 ·rw [hc] at hx
  by_cases hj:off≤j∧j < off + l.length
  ·rw [if_pos hj] at hx
   obtain⟨y,g1,g2⟩:=decs_get hd hx
   refine⟨by omega,y,g2,?_,h1 y (kD g1)⟩
   have hne:l≠[]:=λe=>by subst e;simp at hx
   simp only [List.getElem?_toArray]
   rw [wr_get _ _ _ _ (by rw [hlen];exact hsz hne),if_pos (by omega),show L.base + j - (L.base + off)=j - off from by omega]
   exact g1
  ·rw [if_neg hj] at hx
   obtain⟨g1,y,g2,g3,g4⟩:=hA.get j x hx
   refine⟨g1,y,g2,?_,g4⟩
   simp only [List.getElem?_toArray]
   cases l with
   | nil =>
    simp [decs] at hd;subst hd
    simpa [wr] using g3
   | cons a l =>
    rw [wr_get _ _ _ _ (by rw [hlen];exact hsz (by simp)),if_neg (by omega)]
    simpa using g3
 ·rw [hc]
  by_cases hj':off≤j∧j < off + l.length
  ·rw [if_pos hj',kC (by omega)];rfl
  ·rw [if_neg hj'];exact hA.has j hj
 ·obtain⟨g1,g2,g3⟩:=hA.open_ he
  exact⟨g1,g2,by simpa [wr_length] using g3⟩
theorem one_of {l:List V} {vs:List Value} (hd:decs φ l=some vs) (h1:∀ x∈l,x.one=true):∀ v∈vs,oneCell v=true:=by
 intro v hv
 obtain⟨i,hi⟩:=List.getElem?_of_mem hv
 have hi':i < l.length:=by rw [← decs_length hd];exact (kA hi).1
 obtain⟨y,g1,g2⟩:=decs_get hd (kC hi')
 rw [hi] at g1;cases g1
 exact oneV_dec g2 (h1 _ (List.getElem_mem hi'))
theorem run_wr {ex:Bool} {n:Nat} {c:Tr V} {ty sz off:Nat} {L:Loc} {cs:Array Value} {l:List V} {vs:List Value} (hA:CellsAt φ w L ex n c ty sz cs) (hd:decs φ l=some vs) (h1:∀ v∈vs,oneCell v=true) (ha:off + l.length≤n) :
  ∃ w',(storeCells ⟨L.blk,L.base + off,none⟩ vs).run P w=.ok () w'∧Upd L.blk (.cells (wr (L.base + off) vs cs.toList).toArray ty (0,0)) w w':=by
 have hlen:=decs_length hd
 cases l with
 | nil =>
  simp [decs] at hd;subst hd
  exact⟨w,rfl,Upd.id (by simpa [wr] using hA.at_)⟩
 | cons a l =>
  have hsz:L.base + off + (a::l).length≤cs.size:=by
   obtain⟨_,y,_,_,h2,_⟩:=hA.in_ (i:=off + l.length) (by simp at ha;omega)
   have:=(Array.getElem?_eq_some_iff.1 h2).1
   simp;omega
  exact stCells_ok vs 0 w (stCells_blk vs 0 w cs _ hA.at_ (by rw [hlen];simpa using hsz) h1 λw' hu=>by simpa using hu)
theorem op_st {t:Nat} {a x:Operand} {ua ux:V} {n:Nat} (ho:o.op=.store t a x) (hn:sizeC P t=some n) (hr:Rel P Hd w0 φ σ w) (ha:dec φ ua=some (ρ a)) (hx:dec φ ux=some (ρ x)) (h:vSt n ua ux σ (λσ=>k (.t []) σ)=.ok):OpOK P Hd w0 φ σ w ρ o k:=by
 obtain⟨v,off,rfl,h1⟩:=onP_ok h
 obtain⟨ex,m,c,ty,sz,h2,h3⟩:=H.cells_ok h1
 obtain⟨b0,h4⟩:=iff_ok h3
 have b0:off + n≤m:=Nat.le_of_ble_eq_true b0
 obtain⟨L,cs,g1,g2,g3⟩:=hr.cells h2
 obtain⟨M,hM,ea⟩:=dec_p ha
 rw [g1] at hM;cases hM
 obtain⟨inf,hi,hin⟩:=sizeC_ok hn
 have fin:∀ {c':Tr V} {l:List V},decs φ l=some (cellsL (ρ x))→(∀ v∈cellsL (ρ x),oneCell v=true)→l.length=n→(∀ j,c'.get j=if off≤j∧j < off + l.length then l[j - off]? else c.get j)→σ.put v (.cells ex m c' ty sz) (λσ=>k (.t []) σ)=.ok→OpOK P Hd w0 φ σ w ρ o k:=by
  intro c' l hcv hone hl hc h6
  obtain⟨σ',h7,h8,h9⟩:=H.put_ok h6
  obtain⟨w',e1,e2⟩:=run_wr (P:=P) (off:=off) g3 hcv hone (by omega)
  refine OpOK.unit (s:=Instr.storeAt t (ρ a) (ρ x)) (w':=w') (by simp [execOp,ho]) ?_ ⟨φ,_,σ',.refl _,wr_cells hr h2 g1 g2 g3 hcv hone (by omega) hc e2 h7,rfl,Ext.put h7 h8,h9⟩
  simp only [Instr.storeAt,ea,Instr.sureAddr,Sem.run_bind,Sem.run_pure,Result.andThen_ok,storeVar,run_sizeOf' w hi]
  rw [if_neg (by rw [cells_eq];simp;rw [hin,← hl,decs_length hcv])]
  rw [cells_eq]
  simpa using e1
 have whole:∀ {c':Tr V} {l:List V},n=m→l.length=n→(∀ j,c'.get j=l[j]?)→∀ j,c'.get j=if off≤j∧j < off + l.length then l[j - off]? else c.get j:=by
  intro c' l e1 e2 hc j
  have:off=0:=by omega
  subst this
  rw [hc]
  by_cases hj:j < l.length
  ·rw [if_pos (by omega)];rfl
  ·rw [if_neg (by omega),List.getElem?_eq_none (by omega)]
   cases he:c.get j with
   | none=>rfl
   | some u=>have:=(g3.get j u he).1;omega
 have gen:stL n ux.cells c off m (λc'=>σ.put v (.cells ex m c' ty sz) λσ=>k (.t []) σ)=.ok→OpOK P Hd w0 φ σ w ρ o k:=by
  intro h5
  obtain⟨hb,h6⟩:=iff_ok h5
  simp only [Bool.and_eq_true] at hb
  have b1:=kB hb.1
  rw [lenL_eq] at b1
  have hcv:=cellsV_dec hx hb.2
  have hone:=one_of hcv (allOne_ok hb.2)
  rcases iff_t (b:=Nat.beq n m) h6 with⟨b2,h6⟩ | ⟨_,h6⟩
  ·obtain⟨c',h7,h8⟩:=trOf_ok h6
   exact fin hcv hone b1 (whole (kB b2) b1 h7) h8
  ·obtain⟨c',h7,h8⟩:=wrFrom_ok h6
   exact fin hcv hone b1 h7 h8
 rcases iff_t (b:=Nat.beq n 1&&ux.one) h4 with⟨hb,h5⟩ | ⟨_,h5⟩
 ·simp only [Bool.and_eq_true] at hb
  have b1:=kB hb.1
  have hc1:ux.cells=[ux]:=by cases ux <;> first | rfl | (cases hb.2)
  have hcv:=cellsV_dec hx (by rw [hc1];show Bool.rec (motive:=λ_=>Bool) false true ux.one=true;rw [hb.2])
  rw [hc1] at hcv
  obtain⟨c',h7,h8⟩:=put_ok h5
  refine fin hcv (one_of hcv λy hy=>by simp at hy;subst hy;exact hb.2) (by simp [b1]) (λj=>?_) h8
  rw [h7]
  by_cases hj:j=off
  ·subst hj;simp
  ·rw [if_neg hj,if_neg (by simp;omega)]
 ·rcases onW_ok h5 with h6 | ⟨f,n',rfl,h6⟩
  ·exact gen h6
  ·rcases iff_t h6 with⟨hb,h7⟩ | ⟨_,h7⟩
   ·simp only [Bool.and_eq_true] at hb
    have b1:=kB hb.1
    have b2:=kB hb.2
    subst b1
    obtain⟨vs,e1,e2,e3⟩:=(dec_w ..).1 hx
    obtain⟨c',h8,h9⟩:=ofF_ok h7
    have hl:(wL f n').length=n':=by rw [wL_eq];simp
    refine fin (l:=wL f n') (by rw [e1,e3];simp [cellsL]) (by rw [e3];simpa [cellsL] using e2) hl (whole b2 hl λj=>?_) h9
    rw [h8,wL_eq]
    by_cases hj:j < n'
    ·rw [if_pos hj];simp [hj]
    ·rw [if_neg hj,List.getElem?_eq_none (by simp;omega)]
   ·exact gen h7
theorem callB {b:Builtin} {args:Array Operand} {ats:Array TypeId} {s:Sem Value} (ho:o.op=.call { callee:=.builtin b,args:=args,argTypes:=ats }) (hb:∀ c,builtin b ats o.type c (args.map ρ)=(do pure (Next.value (← s)):Sem Next)):∀ w,(execOp ρ o).run P w=((do pure (Next.value (← s)):Sem Next)).run P w:=by
 intro w
 simp only [execOp,ho,resolve,Sem.run_bind,Sem.run_pure,Result.andThen_ok,invoke,hb]
theorem OpOK.valB {b:Builtin} {args:Array Operand} {ats:Array TypeId} {s:Sem Value} {y:Value} {w':World} (ho:o.op=.call { callee:=.builtin b,args:=args,argTypes:=ats }) (hb:∀ c,builtin b ats o.type c (args.map ρ)=(do pure (Next.value (← s)):Sem Next)) (hs:s.run P w=.ok y w') (h:Post P Hd w0 φ σ k y w'):OpOK P Hd w0 φ σ w ρ o k:=by
 unfold OpOK
 rw [callB ho hb,run_v hs]
 exact h
def LenK:Nat→TypeDesc→Prop
 | 0,.string=>True
 | 1,.slice _=>True
 | 2,.map _ _=>True
 | _,_=>False
theorem op_len {t kd:Nat} {x:Operand} {u:V} {args:Array Operand} {ats:Array TypeId} {ud:TypeDesc} (ho:o.op=.call { callee:=.builtin .len,args:=args,argTypes:=ats }) (hargs:args.toList=[x]) (hats:ats.toList=[t]) (ht:P.underlying t=some ud)
  (hud:LenK kd ud) (hr:Rel P Hd w0 φ σ w) (hx:dec φ u=some (ρ x)) (h:vLen kd u σ (λu=>k u σ)=.ok):OpOK P Hd w0 φ σ w ρ o k:=by
 have ha:args=#[x]:=Array.ext' hargs
 have hat:ats=#[t]:=Array.ext' hats
 subst ha hat
 have fin:∀ {n:Nat},(Builtin.len_ #[t] o.type #[ρ x]).run P w=.ok (.int .i64 n) w→k (.i .i64 (.ofNat n)) σ=.ok→OpOK P Hd w0 φ σ w ρ o k:=λhrun hk =>
  OpOK.valB (s:=Builtin.len_ #[t] o.type #[ρ x]) ho (λc=>by simp [builtin]) hrun (Post.pure hr (by simp [dec]) hk)
 rcases onLen_ok h with⟨l,rfl,h1⟩ | ⟨v,off,m,c,rfl,h1⟩ | ⟨v,off,r,p,s,rfl,h1⟩ | ⟨rfl,h1⟩ | ⟨rfl,h1⟩ | ⟨v,rfl,h1⟩ <;> obtain⟨hb,h1⟩:=iff_ok h1 <;> have hb':=kB hb
 ·subst hb'
  have e:=dec_s hx
  cases ud <;> simp only [LenK] at hud
  exact fin (by rw [e];simp [Builtin.len_,run_underlying' w ht,bytesOf_size,goInt]) h1
 ·subst hb'
  obtain⟨M,_,e,_⟩:=dec_sl hx
  cases ud <;> simp only [LenK] at hud
  exact fin (by rw [e];simp [Builtin.len_,run_underlying' w ht,goInt]) h1
 ·subst hb'
  obtain⟨M,_,e⟩:=kE (show (φ v).map _=some (ρ x) from hx)
  cases ud <;> simp only [LenK] at hud
  exact fin (by rw [← e];simp [Builtin.len_,run_underlying' w ht,goInt]) h1
 ·subst hb'
  have e:ρ x=.slice none 0 0:=by simpa [dec] using hx.symm
  cases ud <;> simp only [LenK] at hud
  exact fin (by rw [e];simp [Builtin.len_,run_underlying' w ht,goInt]) h1
 ·subst hb'
  have e:ρ x=.map none:=by simpa [dec] using hx.symm
  cases ud <;> simp only [LenK] at hud
  exact fin (by rw [e];simp [Builtin.len_,run_underlying' w ht,goInt]) h1
 ·subst hb'
  obtain⟨M,hM,e⟩:=dec_m hx
  cases ud <;> simp only [LenK] at hud
  obtain⟨bk,h3,h4⟩:=H.get_ok h1
  obtain⟨kT',ks',es,ver,rfl,h5⟩:=onMp_ok h4
  obtain⟨L,hL,hge,hks',arr,clock,hat,hA⟩:=hr.live h3 trivial
  rw [hM] at hL;cases hL
  rw [fL_eq,lenL_eq] at h5
  exact fin (by rw [e];simp [Builtin.len_,run_underlying' w ht,MapKept.run_getObj_map hat,goInt,hA.size]) h5
theorem op_mm {mx:Bool} {x y:Operand} {a b:V} {args:Array Operand} {ats:Array TypeId} (ho:o.op=.call { callee:=.builtin (if mx then .max else .min),args:=args,argTypes:=ats }) (hargs:args.toList=[x,y]) (hr:Rel P Hd w0 φ σ w) (hx:dec φ a=some (ρ x)) (hy:dec φ b=some (ρ y))
  (h:vMM mx a b (λu=>k u σ)=.ok):OpOK P Hd w0 φ σ w ρ o k:=by
 have ha:args=#[x,y]:=Array.ext' hargs
 subst ha
 obtain⟨κ,m,e1,h1⟩:=onI_ok (x:=a) h
 clear h;subst e1
 obtain⟨κ',n,e2,h2⟩:=onI_ok h1
 clear h1;subst e2
 have ex:=dec_i hx
 have ey:=dec_i hy
 cases mx
 ·have hb:∀ c,builtin .min ats o.type c (#[x,y].map ρ)=(do pure (Next.value (← Builtin.min_ ats o.type #[ρ x,ρ y])):Sem Next):=λc=>by simp [builtin]
  rcases iff_t (show iff' (ilt n m) _ _=.ok from h2) with⟨h0,h3⟩ | ⟨h0,h3⟩ <;> rw [ilt_eq] at h0
  ·have h0':n < m:=by simpa using h0
   exact OpOK.valB (y:=.int κ n) (w':=w) (by simpa using ho) hb (by simp [Builtin.min_,Builtin.min2,ex,ey,List.foldlM,h0']) (Post.pure hr (by simp [dec]) h3)
  ·have h0':¬ n < m:=by simpa using h0
   exact OpOK.valB (y:=.int κ m) (w':=w) (by simpa using ho) hb (by simp [Builtin.min_,Builtin.min2,ex,ey,List.foldlM,h0']) (Post.pure hr (by simp [dec]) h3)
 ·have hb:∀ c,builtin .max ats o.type c (#[x,y].map ρ)=(do pure (Next.value (← Builtin.max_ ats o.type #[ρ x,ρ y])):Sem Next):=λc=>by simp [builtin]
  rcases iff_t (show iff' (ilt m n) _ _=.ok from h2) with⟨h0,h3⟩ | ⟨h0,h3⟩ <;> rw [ilt_eq] at h0
  ·have h0':m < n:=by simpa using h0
   exact OpOK.valB (y:=.int κ n) (w':=w) (by simpa using ho) hb (by simp [Builtin.max_,Builtin.max2,ex,ey,List.foldlM,h0']) (Post.pure hr (by simp [dec]) h3)
  ·have h0':¬ m < n:=by simpa using h0
   exact OpOK.valB (y:=.int κ m) (w':=w) (by simpa using ho) hb (by simp [Builtin.max_,Builtin.max2,ex,ey,List.foldlM,h0']) (Post.pure hr (by simp [dec]) h3)
end
end Go.Ev
end
section
namespace Go.Fk
open Go Go.MapKept Go.Maps Go.RowKit Go.Shelf Go.Proofs Go.Sort
open Go.ChangeMaps (setBlock)
theorem set_all (l:List Value):∀ (j:Nat) (cells:Array Value),j + l.length≤cells.size→((l.zipIdx j).foldl (λcs p=>cs.setIfInBounds p.2 p.1) cells).toList=cells.toList.take j++l++cells.toList.drop (j + l.length):=by
 induction l with
 | nil=>intro j cells h;simp
 | cons x l ih =>
  intro j cells h
  simp only [List.length_cons] at h
  simp only [List.zipIdx_cons,List.foldl_cons]
  rw [ih (j + 1) _ (by simp;omega)]
  simp only [Array.toList_setIfInBounds,List.length_cons]
  have hj:j < cells.toList.length:=by simp;omega
  rw [List.take_set,List.drop_set_of_lt (by omega),List.take_succ_eq_append_getElem hj,List.set_append_right _ _ (by simp;omega)]
  have:(j - (cells.toList.take j).length)=0:=by simp;omega
  rw [this]
  simp [show j + 1 + l.length=j + (l.length + 1) by omega]
theorem fill_one (k:Nat) (cells c:Array Value) (h1:cells.size=1 * k) (h2:c.size=k):Instr.fill (λi=>some (i * k,k)) cells [(0,.agg c)]=some c:=by
 have hc:(Value.agg c).cells=c:=rfl
 simp only [Instr.fill,hc,h2,ne_eq,not_true_eq_false,Nat.zero_mul,Nat.zero_add,false_or,decide_false,Bool.false_or,decide_eq_true_eq,h1,Nat.one_mul,gt_iff_lt,Nat.lt_irrefl,if_false]
 refine congrArg some (Array.toList_inj.1 ?_)
 have:=set_all c.toList 0 cells (by simp;omega)
 have h3:cells.toList.drop c.size=[]:=List.drop_eq_nil_of_le (by simp;omega)
 rw [← Array.foldl_toList,Array.toList_zipIdx]
 simpa [h3] using this
section
variable {F:Fence} {n:Nat} {P:Program} (w:World) {ops:Array Oper} {rest:List Oper} {o:Oper} {a:Act} {Q:Exit→Act→World→Prop}
theorem wpListIn_slice1 (hg:o.guard=none) (t:TypeId) (x:Operand) (hop:o.op=Op.buildSlice t 1 #[(0,x)]) (e:TypeId) (k:Nat) (c z:Array Value) (ht:P.underlying t=some (.slice e)) (hz:∀ w,(Go.sizeOf e).run P w=.ok k w) (hv:∀ w,(zeroValue e).run P w=.ok (.agg z) w)
  (hx:a.eval x=.agg c) (hzk:z.size=k) (hck:c.size=k) (hk:0 < k) (hk2:k≤1000)
  (hK:∀ w',w'=w.alloc (.cells c e)→wpListIn F n P ops Q rest (a.put o.dst (.slice (some ⟨w.heap.size,0,none⟩) 1 1)) w') :
  wpListIn F n P ops Q (o::rest) a w:=by
 refine wpListIn_plain hg λK' hK'=>?_
 have hrun:(Instr.buildSlice t 1 #[(0,.agg c)]).run P w=.ok (.slice (some ⟨w.heap.size,0,none⟩) 1 1) (w.alloc (.cells c e)):=by
  have hk0:¬ k=0:=by omega
  have hf:=fill_one k ((Array.range (1 * k)).map (z[· % z.size]!)) c (by simp) hck
  simp only [Nat.one_mul] at hf
  simp only [Instr.buildSlice,Sem.run_bind,run_underlying ht,Result.andThen_ok,hz,Nat.one_mul]
  rw [if_neg (by omega),if_neg hk0]
  simp only [Sem.run_bind,hv,Sem.run_pure,Result.andThen_ok,Value.cells]
  rw [hf]
  simp [newRow,newObj,Result.andThen,Sem.run]
 unfold Oper.wpIn
 refine⟨by simp [Oper.about,hop],?_⟩
 rw [Oper.semAt_plain F _ _ (by rw [hop];intro c hc';cases hc')]
 simp [execOp,hop,hx,hrun,Result.andThen]
 exact hK' _ _ (hK _ rfl)
theorem wpListIn_allocR (hg:o.guard=none) (e:TypeId) (hop:o.op=Op.alloc e) (z:Array Value) (hv:∀ w,(zeroValue e).run P w=.ok (.agg z) w)
  (hK:∀ w',w'=w.alloc (.cells z e)→wpListIn F n P ops Q rest (a.put o.dst (.pointer (some ⟨w.heap.size,0,none⟩))) w') :
  wpListIn F n P ops Q (o::rest) a w:=by
 refine wpListIn_plain hg λK' hK'=>?_
 have hrun:(Instr.alloc e true (.tuple #[])).run P w=.ok (.pointer (some ⟨w.heap.size,0,none⟩)) (w.alloc (.cells z e)):=by
  simp [Instr.alloc,hv,newVar,newRow,newObj,Result.andThen,Sem.run,Value.cells]
 unfold Oper.wpIn
 refine⟨by simp [Oper.about,hop],?_⟩
 rw [Oper.semAt_plain F _ _ (by rw [hop];intro c hc';cases hc')]
 simp [execOp,hop,hrun,Result.andThen]
 exact hK' _ _ (hK _ rfl)
theorem wpListIn_storeR (hg:o.guard=none) (e:TypeId) (p x:Operand) (hop:o.op=Op.store e p x) (k b:Nat) (c z:Array Value) (hz:∀ w,(Go.sizeOf e).run P w=.ok k w)
  (hp:a.eval p=.pointer (some ⟨b,0,none⟩)) (hx:a.eval x=.agg c) (hb:w.heap[b]?=some (.cells z e (0,0))) (hzk:z.size=k) (hck:c.size=k) (h1:∀ u∈c.toList,u.oneCell'=true)
  (hK:∀ w',w.grownBy w' (some b)→w'.heap.size=w.heap.size→w'.heap[b]?=some (.cells c e (0,0))→wpListIn F n P ops Q rest (a.put o.dst undef) w') :
  wpListIn F n P ops Q (o::rest) a w:=by
 refine wpListIn_plain hg λK' hK'=>?_
 obtain⟨w',e1,e2⟩:∃ w',(storeCells ⟨b,0,none⟩ c.toList).run P w=.ok () w'∧Upd b (.cells (Go.Ev.wr 0 c.toList z.toList).toArray e (0,0)) w w' :=
  stCells_ok c.toList 0 w (Go.Ev.stCells_blk (off:=0) c.toList 0 w z _ hb (by simp;omega) h1 λw' hu=>by simpa using hu)
 have hwr:(Go.Ev.wr 0 c.toList z.toList).toArray=c:=by
  apply Array.toList_inj.1
  simp only [List.toList_toArray]
  apply List.ext_getElem?
  intro i
  rw [Go.Ev.wr_get _ _ _ _ (by simp;omega)]
  by_cases hi:i < c.size
  ·rw [if_pos (by simp;omega)];simp
  ·rw [if_neg (by simp;omega),List.getElem?_eq_none (by simp;omega),List.getElem?_eq_none (by simp;omega)]
 rw [hwr] at e2
 have hrun:(Instr.storeAt e (.pointer (some ⟨b,0,none⟩)) (.agg c)).run P w=.ok () w':=by
  simp only [Instr.storeAt,Instr.sureAddr,Sem.run_bind,Sem.run_pure,Result.andThen_ok,storeVar,hz]
  rw [if_neg (by simp [Value.cells,hck])]
  simpa [Value.cells] using e1
 unfold Oper.wpIn
 refine⟨by simp [Oper.about,hop],?_⟩
 rw [Oper.semAt_plain F _ _ (by rw [hop];intro c hc';cases hc')]
 simp [execOp,hop,hp,hx,hrun,Result.andThen]
 refine hK' _ _ (hK _ ⟨e2.keeps.os,e2.keeps.tape,e2.keeps.output,e2.keeps.size,λi hi hne=>e2.keeps.keep i hi λe=>hne (by rw [e])⟩ e2.size e2.at_)
theorem wpListIn_loadR (hg:o.guard=none) (e:TypeId) (p:Operand) (hop:o.op=Op.load e p) (k b:Nat) (c:Array Value) (ha:∀ w,(isAgg e).run P w=.ok true w) (hz:∀ w,(Go.sizeOf e).run P w=.ok k w)
  (hp:a.eval p=.pointer (some ⟨b,0,none⟩)) (hb:w.heap[b]?=some (.cells c e (0,0))) (hck:c.size=k)
  (hK:wpListIn F n P ops Q rest (a.put o.dst (.agg c)) w) :
  wpListIn F n P ops Q (o::rest) a w:=by
 refine wpListIn_plain hg λK' hK'=>?_
 have hl:=Go.Ev.run_loadCells (P:=P) (a:=⟨b,0,none⟩) (w:=w) (vs:=c.toList) λj v hv=>by
  have:c[j]?=some v:=by simpa using hv
  by_cases h0:j=0
  ·subst h0;simp only [World.cell?,Addr.add,if_true,hb];simp [this]
  ·simp only [World.cell?,Addr.add,h0,if_false,hb];simp [this]
 have hrun:(Instr.loadAt e (.pointer (some ⟨b,0,none⟩))).run P w=.ok (.agg c) w:=by
  rw [show c.toList.length=k by simp [hck]] at hl
  simp [Instr.loadAt,Instr.sureAddr,loadVar,ha,hz,hl]
 unfold Oper.wpIn
 refine⟨by simp [Oper.about,hop],?_⟩
 rw [Oper.semAt_plain F _ _ (by rw [hop];intro c hc';cases hc')]
 simp [execOp,hop,hp,hrun,Result.andThen]
 exact hK' _ _ hK
end
end Go.Fk
end
section
namespace Go.Fk
open Go Go.MapKept Go.Maps Go.RowKit Go.Shelf Go.Proofs Go.Sort
open Go.ChangeMaps (setBlock)
def RecV (k:Nat) (x:Value):Prop:=∃ c,x=.agg c∧c.size=k∧∀ u∈c.toList,u.oneCell'=true
def vc (x:Value):List Value:=x.cells.toList
theorem cell_new (w:World) (c:Array Value) (t:TypeId):∀ j u,c.toList[j]?=some u→(w.alloc (.cells c t)).cell? ((⟨w.heap.size,0,none⟩:Addr).add j)=some u:=by
 intro j u hj
 have hj':c[j]?=some u:=by simpa using hj
 have h1:(w.alloc (.cells c t)).heap[w.heap.size]?=some (.cells c t (0,0)):=World.alloc_heap_new w _
 by_cases h0:j=0
 ·subst h0;simp only [World.cell?,Addr.add,if_true,h1];simp [hj']
 ·simp only [World.cell?,Addr.add,h0,if_false,h1];simp [hj']
def rfOf:Code→Option (Code × Code)
 | .seq a b=>match rfOf a with | some x=>some x | none=>rfOf b
 | .block _ b=>rfOf b
 | .rangeFunc _ _ a b=>some (a,b)
 | _=>none
def rfAt (f:Func):Code × Code:=match f.body with | some c=>(match rfOf c with | some x=>x | none=>(.skip,.skip)) | none=>(.skip,.skip)
def apRecS (ab:Code × Code) (fn:FuncId) (sv:Value) (Bs D:Nat) (st:LoopState) (pend:Option Code):Go.Loop :=
 { state:=st,pending:=pend,fn,tmps:=#[.slice none 0 0,sv,.pointer (some ⟨Bs,0,none⟩),undef,.slice none 0 0,undef,sv,undef,undef,undef,undef,undef,undef],params:=#[7],assign:=ab.1,body:=ab.2,defers:=D }
structure ApAtR (t24 t26:TypeId) (ab:Code × Code) (k:Nat) (w0:World) (fn:FuncId) (sv:Value) (Bs l D:Nat) (ss:List Value) (W:World):Prop where
 box:∃ v,W.heap[Bs]?=some (.cells #[v] t24 (0,0))∧W.ownsRow w0.heap.size t26 k v ss.length (ss.flatMap vc)∧(v=.slice none 0 0↔ss=[])
 L:W.heap[l]?=some (.loop (apRecS ab fn sv Bs D .ready none))
 K:W.heap[D]?=some (.deferred (some []))
 below:Go.RowKit.Below w0.heap.size w0 W
theorem apR_abides (t24 t26:TypeId) (ab:Code × Code) (k:Nat) (w0:World) (fn:FuncId) (sv:Value) (Bs l D B:Nat) (hB:w0.heap.size≤B):AbidesFrom B (ApAtR t24 t26 ab k w0 fn sv Bs l D):=λs W W' row h hg hrow=>by
 have hrow':∀ r,row=some r→∃ o:Obj,W.heap[r]?=some o∧o.isWalk=true:=λr e=>(hrow r e).2
 obtain⟨v,hv,hr,hn⟩:=h.box
 exact⟨⟨v,(grownBy_keeps hg hrow' hv rfl).trans hv,ownsRow_abides_a hr hg hrow',hn⟩,(grownBy_keeps hg hrow' h.L rfl).trans h.L,(grownBy_keeps hg hrow' h.K rfl).trans h.K,
  h.below.grown hg h.below.size (λk e=>Nat.le_trans hB (hrow k e).1)⟩
def SeqR (F:Fence) (n:Nat) (P:Program) (g:Nat) (lb:Array Value) (E:Value→Prop) (S:List Value→Prop) (N:Nat) (w:World):Prop :=
 ∀ (l:Nat) (J:List Value→World→Prop) (W:World),Go.RowKit.Below w.heap.size w W→AbidesFrom W.heap.size J →
  (∀ pre x W1,J pre W1→pre.length < N→E x→YieldAt F (n - 1) P l #[x] W1 λe W'=>e=.returned (.bool true)∧J (pre++[x]) W'∧KeepsWalks W1 W') →
  J [] W →
  CallsIn F n P g (#[.func (.yield l) #[] #[]]++lb) W λe W'=>(∃ v,e=.returned v)∧∃ xs,S xs∧J xs W'
end Go.Fk
end
section
namespace Go.Ev
open Go Go.Fk
section
variable {D:Type} {P:Program} {Hd:D→Loc→View→Prop} {w0:Base} {φ:Phi} {σ:H D} {w:World} {ρ:Operand→Value} {o:Oper} {k:V→H D→R}
theorem dec_in {κ:IntKind} {i:Nat} {x:Operand} (h:dec φ (.i κ (.ofNat i))=some (ρ x)):ρ x=.int κ (.ofNat i):=dec_i h
theorem op_mks {t el:Nat} {l c:Operand} {ul uc:V} {inf:TypeInfo} {z:List V} {v:Vid} (ho:o.op=.makeSlice t l c) (ht:P.underlying t=some (.slice el)) (hi:P.info? el=some inf) (hz:zeroC P el=some z) (hlz:z.length=inf.size) (h0:0 < inf.size)
  (hr:Rel P Hd w0 φ σ w) (hl:dec φ ul=some (ρ l)) (hc:dec φ uc=some (ρ c)) (h:vMkS z el inf.size inf.bytes v ul uc σ k=.ok):OpOK P Hd w0 φ σ w ρ o k:=by
 obtain⟨κl,nl,rfl,h1⟩:=asI_ok h
 obtain⟨κc,nc,rfl,h2⟩:=asI_ok h1
 obtain⟨hb,h3⟩:=iff_ok h2
 simp only [Bool.and_eq_true] at hb
 obtain⟨⟨b1,b2⟩,b3⟩:=hb
 have b1:=Nat.le_of_ble_eq_true b1
 have b2:nc * inf.bytes≤100000000:=Nat.le_of_ble_eq_true b2
 have b3:=Nat.le_of_ble_eq_true b3
 rw [fL_eq] at h3
 obtain⟨t',h4,h5⟩:=trOf_ok h3
 obtain⟨i,zv,hi',hzv,hzc,hrun⟩:=zeroC_ok hz
 rw [hi] at hi';cases hi'
 have hzd:=cellsC_dec (φ:=φ) hzc
 have hzs:zv.cells.size=inf.size:=by have:=decs_length hzd;simp at this;omega
 have hzero:=zeros_eq (zero:=zv.cells) (by omega) nc
 obtain⟨φ',σ',g1,g2,g3,g4,g5⟩:=new_cells (cap:=0) (cells:=(Array.range (nc * inf.size)).map (zv.cells[· % zv.cells.size]!)) hr h5 (λi u hu=>by
  rw [h4] at hu
  have hd:=times_dec hzd nc
  rw [← hzero] at hd
  obtain⟨y,a1,a2⟩:=decs_get hd hu
  rw [hzs] at a1
  have hy:y∈(List.replicate nc zv.cells.toList).flatten:=by rw [← hzero];rw [← hzs] at a1;exact kD a1
  have hlt:=(kA a1).1
  simp at hlt
  exact⟨hlt,y,by rw [← Array.getElem?_toList];rw [hzs];exact a1,a2,flat_one (cellsC_one hzc).1 nc y hy⟩) (λi hi=>by
  have hd:=decs_length (times_dec hzd nc)
  rw [← hzero,hzs] at hd
  simp at hd
  have hi:i < nc * inf.size:=hi
  rw [h4,kC (by omega)];rfl) (λ_=>by simp) (λhe=>by cases he)
 have el':=dec_in hl
 have ec':=dec_in hc
 refine OpOK.val (s:=Instr.makeSlice t (ρ l) (ρ c)) (y:=.slice (some ⟨w.heap.size,0,none⟩) nl nc) (w':=w.alloc (.cells ((Array.range (nc * inf.size)).map (zv.cells[· % zv.cells.size]!)) el)) (by simp [execOp,ho]) ?_ ⟨φ',_,σ',g1,g3,by rw [dec_sl_mk g2 (by simp [capOf];omega)];rfl,g4,g5⟩
 have hb2:(inf.bytes:Int) * (nc:Int)≤281474976710656:=by
  have:(inf.bytes:Int) * (nc:Int)≤100000000:=by rw [← Int.natCast_mul];rw [Nat.mul_comm];omega
  omega
 rw [el',ec']
 have:=run_make (P:=P) w t el inf zv ht hi hzv κl κc (nl:Int) (nc:Int) (by omega) (by omega) hb2 (by omega)
 simpa [madeCells] using this
theorem op_clr {t el:Nat} {x:Operand} {u:V} {z:List V} {sz:Nat} {args:Array Operand} {ats:Array TypeId} (ho:o.op=.call { callee:=.builtin .clear,args:=args,argTypes:=ats }) (hargs:args.toList=[x]) (hats:ats.toList=[t])
  (ht:P.underlying t=some (.slice el)) (hz:zeroC P el=some z) (hlz:z.length=sz) (h0:0 < sz) (hr:Rel P Hd w0 φ σ w) (hx:dec φ u=some (ρ x)) (h:vClr z sz u σ (λσ=>k (.t []) σ)=.ok):OpOK P Hd w0 φ σ w ρ o k:=by
 have ha:args=#[x]:=Array.ext' hargs
 subst ha
 have ha:ats=#[t]:=Array.ext' hats
 subst ha
 have hb:∀ c,builtin .clear #[t] o.type c (#[x].map ρ)=(do pure (Next.value (← Builtin.clear_ #[t] o.type #[ρ x])):Sem Next):=λc=>by simp [builtin]
 obtain⟨i,zv,hi,hzv,hzc,hrun⟩:=zeroC_ok hz
 have hzd:=cellsC_dec (φ:=φ) hzc
 have hzs:zv.cells.size=sz:=by have:=decs_length hzd;simp at this;omega
 have unit:dec φ (.t [])=some (.tuple #[]):=by simp [dec,decs]
 rcases onRd_ok h with⟨rfl,h1⟩ | ⟨v,off,r,p,s,rfl,h1⟩ | ⟨v,off,n,c,rfl,h1⟩ | ⟨l,rfl,h1⟩
 ·have e:ρ x=.slice none 0 0:=by simpa [dec] using hx.symm
  exact OpOK.valB (y:=.tuple #[]) (w':=w) ho hb (by simp [Builtin.clear_,e,run_underlying' w ht]) (Post.pure hr unit h1)
 ·obtain⟨M,_,e⟩:=kE (show (φ v).map _=some (ρ x) from hx)
  exact OpOK.valB (y:=.tuple #[]) (w':=w) ho hb (by simp [Builtin.clear_,← e,run_underlying' w ht]) (Post.pure hr unit h1)
 ·obtain⟨M,hM,e,hle⟩:=dec_sl hx
  obtain⟨ex,m,c',ty,sz',h2,h3⟩:=H.cells_ok (show σ.cells v _=.ok from h1)
  obtain⟨hb2,h4⟩:=iff_ok h3
  have hb2:off + n * sz≤m:=Nat.le_of_ble_eq_true hb2
  obtain⟨c2,h5,h6⟩:=wrFrom_ok h4
  obtain⟨σ',h7,h8,h9⟩:=H.put_ok h6
  obtain⟨L,cs,hL,hge,hA⟩:=hr.cells h2
  rw [hM] at hL;cases hL
  have hd:=times_dec hzd n
  have hone:=flat_one (cellsC_one hzc).1 n
  have hln:(times n z).length=n * sz:=by
   have:=decs_length hd
   rw [← this,List.length_flatten]
   simp [hzs]
  obtain⟨w',e1,e2⟩:=run_wr (P:=P) (off:=off) hA hd hone (by omega)
  have hzero:(Builtin.zeroCells zv.cells n).toList=(List.replicate n zv.cells.toList).flatten:=zeros_eq (zero:=zv.cells) (by omega) n
  refine OpOK.valB (y:=.tuple #[]) (w':=w') ho hb ?_ ⟨φ,_,σ',.refl _,wr_cells hr h2 hM hge hA hd hone (by omega) h5 e2 h7,unit,Ext.put h7 h8,h9⟩
  rw [e]
  cases n with
  | zero =>
   have:w'=w:=by
    have h':(storeCells ⟨M.blk,M.base + off,none⟩ []).run P w=.ok () w':=e1
    simp [storeCells] at h'
    exact h'.symm
   simp [Builtin.clear_,run_underlying' w ht,this]
  | succ n =>
   simp [Builtin.clear_,run_underlying' w ht,hrun w,hzero,e1]
 ·cases h1
theorem bytesV_ok:∀ {l:List V} {s:List Nat} {vs:List Value},bytesV l=some s→decs φ l=some vs→vs=s.map λn=>Value.int .u8 (Int.ofNat n)
 | [],s,vs,h,hd=>by
  obtain rfl:[]=s:=Option.some.inj (show some []=some s from h)
  simp [decs] at hd;subst hd;rfl
 | u::l,s,vs,h,hd=>by
  obtain⟨y,vs',rfl,h1,h2⟩:=decs_cons_inv hd
  have h':Option.rec (motive:=λ_=>Option (List Nat)) none (λn=>Option.rec (motive:=λ_=>Option (List Nat)) none (λr=>some (n::r)) (bytesV l)) u.byte=some s:=h
  cases hb:u.byte with
  | none=>rw [hb] at h';cases h'
  | some n =>
   rw [hb] at h'
   cases hr:bytesV l with
   | none=>rw [hr] at h';cases h'
   | some r =>
    rw [hr] at h'
    obtain rfl:n::r=s:=Option.some.inj h'
    cases bytesV_ok hr h2
    unfold V.byte at hb
    split at hb <;> try (cases hb;done)
    rename_i κ n0
    split at hb <;> try (cases hb;done)
    rename_i hk
    cases hb
    have:=dec_i h1
    subst this
    have:κ=.u8:=kIx_eq (b:=.u8) hk
    subst this
    rfl
theorem push_bytes (s:List Nat):∀ r:ByteArray,(s.map Int.ofNat).foldl (λr (n:Int)=>r.push (UInt8.ofNat n.toNat)) r=r++bytesOf s:=by
 induction s with
 | nil=>intro r;apply ba_ext;simp [bytesOf]
 | cons a s ih =>
  intro r
  rw [List.map_cons,List.foldl_cons,ih]
  apply ba_ext
  simp [bytesOf]
theorem run_b2s {s d el:Nat} {v:Value} (w:World) (hs:P.underlying s=some (.slice el)) (hd:P.underlying d=some .string) (he:P.underlying el=some (.int .u8)) (hv:∃ a n c,v=.slice a n c):(convert s d v).run P w=(Conv.bytesToString v).run P w:=by
 obtain⟨a,n,c,rfl⟩:=hv
 simp [convert,run_underlying' w hs,run_underlying' w hd,run_underlying' w he]
theorem op_b2s {s d el:Nat} {x:Operand} {u:V} (ho:o.op=.convert s d x) (hs:P.underlying s=some (.slice el)) (hd:P.underlying d=some .string) (he:P.underlying el=some (.int .u8)) (hr:Rel P Hd w0 φ σ w) (hx:dec φ u=some (ρ x))
  (h:vB2S u σ (λu=>k u σ)=.ok):OpOK P Hd w0 φ σ w ρ o k:=by
 have fin:∀ {l:List Nat},(∃ a n c,ρ x=.slice a n c)→(Conv.bytesToString (ρ x)).run P w=.ok (.string (bytesOf l)) w→k (.s l) σ=.ok→OpOK P Hd w0 φ σ w ρ o k:=λhv hrun hk =>
  OpOK.val (s:=convert s d (ρ x)) (by simp [execOp,ho]) (by rw [run_b2s w hs hd he hv];exact hrun) (Post.pure hr (by simp [dec]) hk)
 rcases onRd_ok h with⟨rfl,h1⟩ | ⟨v,off,r,p,sz,rfl,h1⟩ | ⟨v,off,m,c,rfl,h1⟩ | ⟨l,rfl,h1⟩
 ·have e:ρ x=.slice none 0 0:=by simpa [dec] using hx.symm
  exact fin ⟨_,_,_,e⟩ (by rw [e];simp [Conv.bytesToString,bytesOf];rfl) h1
 ·obtain⟨M,_,e⟩:=kE (show (φ v).map _=some (ρ x) from hx)
  refine fin ⟨_,_,_,e.symm⟩ ?_ h1
  rw [← e,run_bytesToString w _ 0 _ [] (by simp [loadCells,loadCellsFrom])]
  rfl
 ·obtain⟨M,hM,e,hle⟩:=dec_sl hx
  obtain⟨ex,n,c',ty,sz,h2,h3⟩:=H.cells_ok (show σ.cells v _=.ok from h1)
  obtain⟨l,h4,h5,h6⟩:=rdFrom_ok h3
  obtain⟨bs,h7,h8⟩:=orE_ok h6
  obtain⟨ad,vs,e1,e2,e3,_,e5⟩:=cells_list hr h2 h4 h5 (y:=.pointer (some ⟨M.blk,M.base + off,none⟩)) (by simp [dec,hM])
  cases e1
  cases bytesV_ok h7 e2
  refine fin ⟨_,_,_,e⟩ ?_ h8
  have hl:=run_loadCells (P:=P) e5
  rw [e3] at hl
  have:=run_bytesToString (P:=P) w ⟨M.blk,M.base + off,none⟩ m (capOf M c) (bs.map Int.ofNat) (by rw [hl,List.map_map];rfl)
  rw [e,this,push_bytes]
  congr 2
 ·cases h1
end
section
variable {D:Type} {P:Program} {Hd:D→Loc→View→Prop} {w0:Base} {φ φ':Phi} {σ σ':H D} {w w':World} {ρ:Operand→Value} {o:Oper} {k:V→H D→R}
theorem src_ok {sz tx:Nat} {x:V} {y:Value} {K:Nat→List V→R} (hr:Rel P Hd w0 φ σ w) (hx:dec φ x=some y) (hk:(∃ e',P.underlying tx=some (.slice e'))∨P.underlying tx=some .string) (h:rdSl sz x σ K=.ok) :
  ∃ m l,K m l=.ok∧(l.length=m * sz→∃ news,decs φ l=some news∧Src P sz tx y m news w):=by
 rcases onRd_ok h with⟨rfl,h1⟩ | ⟨v,off,r,p,s,rfl,h1⟩ | ⟨v,off,m,c,rfl,h1⟩ | ⟨l,rfl,h1⟩
 ·have e:y=.slice none 0 0:=by simpa [dec] using hx.symm
  subst e
  exact⟨0,[],h1,λ_=>⟨[],rfl,⟨hk,λ_=>rfl,run_firstCells_none w sz 0 0 0,run_firstCells_none w.drew sz 0 0 0,by simp,λ_ h=>by cases h⟩⟩⟩
 ·obtain⟨M,_,e⟩:=kE (show (φ v).map _=some y from hx)
  subst e
  exact⟨0,[],h1,λ_=>⟨[],rfl,⟨hk,λ_=>rfl,run_firstCells_some w sz 0 _ 0 _ [] (by simp) (λj v h=>by simp at h),run_firstCells_some w.drew sz 0 _ 0 _ [] (by simp) (λj v h=>by simp at h),by simp,λ_ h=>by cases h⟩⟩⟩
 ·obtain⟨M,hM,e,hle⟩:=dec_sl hx
  subst e
  obtain⟨ex,n,c',ty,sz',h2,h3⟩:=H.cells_ok (show σ.cells v _=.ok from h1)
  obtain⟨l,h4,h5,h6⟩:=rdFrom_ok h3
  obtain⟨ad,vs,e1,e2,e3,e4,e5⟩:=cells_list hr h2 h4 h5 (y:=.pointer (some ⟨M.blk,M.base + off,none⟩)) (by simp [dec,hM])
  cases e1
  exact⟨m,l,h6,λ_=>⟨vs,e2,⟨hk,λ_=>rfl,run_firstCells_some w sz m _ m _ vs e3 e5,run_firstCells_some w.drew sz m _ m _ vs e3 (by simpa using e5),e3,λu hu=>by have:=e4 u hu;cases u <;> first | rfl | cases this⟩⟩⟩
 ·have e:=dec_s hx
  subst e
  obtain⟨hb,h2⟩:=iff_ok h1
  have:=kB hb
  subst this
  rw [fL_eq,lenL_eq] at h2
  have hbl:∀ l:List Nat,bytesL l=l.map λb=>V.i .u8 (.ofNat (b % 256)):=λl=>by
   induction l with
   | nil=>rfl
   | cons b l ih=>exact congrArg (V.i .u8 (.ofNat (b % 256))::·) ih
  rw [hbl] at h2
  refine⟨_,_,h2,λ_=>⟨byteCells (bytesOf l),?_,?_⟩⟩
  ·refine decs_mk (by rw [byteCells_length,bytesOf_size];simp) λi x hx=>?_
   simp only [List.getElem?_map,Option.map_eq_some_iff] at hx
   obtain⟨b,hb,rfl⟩:=hx
   refine⟨.int .u8 (Int.ofNat (b % 256)),?_,rfl⟩
   simp [byteCells,bytesOf,hb]
  ·have hs:l.length=(bytesOf l).size:=by rw [bytesOf_size]
   rw [hs]
   exact⟨hk,λ_=>rfl,firstCells_string _ w,firstCells_string _ w.drew,by rw [byteCells_length,Nat.mul_one],λu hu=>by
    obtain⟨_,_,rfl⟩:=List.mem_map.1 hu
    rfl⟩
theorem newOpen_ok {v:Vid} {l:List V} {need ty sz cap:Nat} {cells:Array Value} {vs:List Value} (hr:Rel P Hd w0 φ σ w) (h:newOpen v l need ty sz σ k=.ok) (hd:decs φ l=some vs) (h1:∀ x∈vs,oneCell x=true) (hl:l.length=need * sz) (h0:0 < sz) (hc:need≤cap)
  (hcells:∀ (i:Nat) y,vs[i]?=some y→cells[i]?=some y) (hs:cells.size=cap * sz) :
  ∃ φ' σ',φ.le φ'∧Rel P Hd w0 φ' σ' (w.alloc (.cells cells ty))∧dec φ' (.sl v 0 need (.re 0))=some (.slice (some ⟨w.heap.size,0,none⟩) need cap)∧Ext σ σ'∧k (.sl v 0 need (.re 0)) σ'=.ok:=by
 obtain⟨c,h2,h3⟩:=trOf_ok h
 rw [fL_eq] at h3
 obtain⟨φ',σ',g1,g2,g3,g4,g5⟩:=new_cells (cap:=cap) (cells:=cells) hr h3 (λi u hu=>by
  rw [h2] at hu
  obtain⟨y,a1,a2⟩:=decs_get hd hu
  have:=(kA hu).1
  exact⟨by simpa [hl] using this,y,hcells i y a1,a2,h1 y (kD a1)⟩) (λi hi=>by
  have hi:i < need * sz:=hi
  rw [h2,kC (by omega)];rfl) (λhe=>by cases he) (λ_=>⟨h0,Nat.mul_le_mul_right _ hc,by omega⟩)
 exact⟨φ',σ',g1,g3,by rw [dec_sl_mk g2 (by simpa [capOf] using hc)];simp [capOf],g4,g5⟩
theorem run_append_room {t tx ty el m:Nat} {i:TypeInfo} {a:Addr} {n cap:Nat} {x:Value} {news:List Value} (ht:P.underlying t=some (.slice el)) (hi:P.info? el=some i) (hs:Src P i.size tx x m news w) (hc:n + m≤cap) (hst:(storeCells (a.add (n * i.size)) news).run P w=.ok () w') :
  (Builtin.append_ #[t,tx] ty #[.slice (some a) n cap,x]).run P w=.ok (.slice (some a) (n + m) cap) w':=by
 rcases hs.kind with⟨e',hk⟩ | hk <;> simp [Builtin.append_,run_underlying' w ht,run_underlying' w hk,run_sizeOf' w hi,hs.len,hc,hs.cells,hst]
theorem run_append_nil0 {t tx ty el:Nat} {i:TypeInfo} {x:Value} (ht:P.underlying t=some (.slice el)) (hi:P.info? el=some i) {news:List Value} (hs:Src P i.size tx x 0 news w) :
  (Builtin.append_ #[t,tx] ty #[.slice none 0 0,x]).run P w=.ok (.slice none 0 0) w:=by
 rcases hs.kind with⟨e',hk⟩ | hk <;> simp [Builtin.append_,run_underlying' w ht,run_underlying' w hk,run_sizeOf' w hi,hs.len,hs.cells]
theorem Rel.kill (h:Rel P Hd w0 φ σ w) {v:Vid} {ex:Bool} {n:Nat} {c:Tr V} {ty sz:Nat} (hv:σ.look v=some (.cells ex n c ty sz)) (hσ:∀ v',σ'.look v'=if v'=v then some .dead else σ.look v'):Rel P Hd w0 φ σ' w:=by
 have hof:∀ {u c},σ'.look u=some c→Live c→σ.look u=some c:=by
  intro u c hu hc
  rw [hσ] at hu
  by_cases huv:u=v
  ·rw [if_pos huv] at hu;cases hu;exact hc.elim
  ·rw [if_neg huv] at hu;exact hu
 refine h.step (Ch:=No) (Phi.le.refl _) Keeps.refl (λ_ _ h=>h.elim) (λu hn=>?_) (λu c L' hu hc hL'=>.inl ⟨u,c,L',hof hu hc,hc,hL',rfl⟩) (λu u' c c' M M' h1 h2 h3 h4 h5 h6 h7=>h.inj u u' c c' M M' (hof h1 h2) h2 (hof h3 h4) h4 h5 h6 h7) (λu c hu hd=>?_) (λm kT ks es ver hm=>?_)
 ·rw [hσ] at hn
  by_cases huv:u=v
  ·rw [if_pos huv] at hn;cases hn
  ·rw [if_neg huv] at hn;exact h.gone u hn
 ·rw [hσ] at hu
  by_cases huv:u=v
  ·rw [if_pos huv] at hu;cases hu;exact absurd rfl hd
  ·rw [if_neg huv] at hu;exact .inl ⟨hu,λ_ _ _ h=>h⟩
 ·have:m≠v:=by rintro rfl;rw [hv] at hm;cases hm
  exact .inl ⟨by rw [hσ,if_neg this];exact hm,λ_ _ h=>h⟩
theorem Rel.move (h:Rel P Hd w0 φ σ w) {u v:Vid} {ex:Bool} {n:Nat} {c:Tr V} {ty sz:Nat} {L L':Loc} {b':Blk D} {ob:Obj} (hu:σ.look u=some (.cells ex n c ty sz)) (hL:φ u=some L) (hv:σ.look v=none) (hup:Upd L.blk ob w w') (hLL:L'.blk=L.blk)
  (hσ:∀ v',σ'.look v'=if v'=v then some b' else if v'=u then some .dead else σ.look v') (hb:BlkOK P Hd w0 σ' (φ.with v L') w' L' b'):Rel P Hd w0 (φ.with v L') σ' w':=by
 have huv:u≠v:=by rintro rfl;rw [hv] at hu;cases hu
 have hof:∀ {x d},σ'.look x=some d→Live d→x≠v→σ.look x=some d∧x≠u:=by
  intro x d hx hd hxv
  rw [hσ,if_neg hxv] at hx
  by_cases hxu:x=u
  ·rw [if_pos hxu] at hx;cases hx;exact hd.elim
  ·rw [if_neg hxu] at hx;exact⟨hx,hxu⟩
 have hwith:∀ {x M},x≠v→φ.with v L' x=some M→φ x=some M:=by
  intro x M hx hM;simpa [Phi.with,hx] using hM
 have hdis:∀ {x d M},σ'.look x=some d→Live d→x≠v→φ.with v L' x=some M→M.blk≠L.blk:=by
  intro x d M hx hd hxv hM he
  obtain⟨h1,h2⟩:=hof hx hd hxv
  exact h2 (h.inj x u d _ M L h1 hd hu trivial (hwith hxv hM) hL he)
 refine h.step (Ch:=(·=L.blk)) (Phi.with_le (h.gone v hv)) hup.keeps (λb' _ hb=>⟨u,_,L,hu,trivial,hL,hb.symm⟩) (λx hn=>?_) (λx d M hx hd hM=>?_) (λx x' d d' M M' h1 h2 h3 h4 h5 h6 h7=>?_) (λx d hx hd=>?_) (λm kT ks es ver hm=>?_)
 ·rw [hσ] at hn
  by_cases hxv:x=v
  ·rw [if_pos hxv] at hn;cases hn
  ·rw [if_neg hxv] at hn
   by_cases hxu:x=u
   ·rw [if_pos hxu] at hn;cases hn
   ·rw [if_neg hxu] at hn;simp [Phi.with,hxv,h.gone x hn]
 ·by_cases hxv:x=v
  ·subst hxv;rw [Phi.with_eq] at hM;cases hM;exact .inl ⟨u,_,L,hu,trivial,hL,hLL.symm⟩
  ·exact .inl ⟨x,d,M,(hof hx hd hxv).1,hd,hwith hxv hM,rfl⟩
 ·by_cases hxv:x=v
  ·by_cases hxv':x'=v
   ·rw [hxv,hxv']
   ·subst hxv;rw [Phi.with_eq] at h5;cases h5
    exact absurd (h7.symm.trans hLL) (hdis h3 h4 hxv' h6)
  ·by_cases hxv':x'=v
   ·subst hxv';rw [Phi.with_eq] at h6;cases h6
    exact absurd (h7.trans hLL) (hdis h1 h2 hxv h5)
   ·exact h.inj x x' d d' M M' (hof h1 h2 hxv).1 h2 (hof h3 h4 hxv').1 h4 (hwith hxv h5) (hwith hxv' h6) h7
 ·by_cases hxv:x=v
  ·subst hxv;rw [hσ,if_pos rfl] at hx;cases hx;exact .inr ⟨L',Phi.with_eq,hb⟩
  ·have hx':=hx
   rw [hσ,if_neg hxv] at hx
   by_cases hxu:x=u
   ·rw [if_pos hxu] at hx;cases hx;exact absurd rfl hd
   ·rw [if_neg hxu] at hx
    exact .inl ⟨hx,λM hM hl he=>hxu (h.inj x u d _ M L hx hl hu trivial hM hL he)⟩
 ·have h1:m≠v:=by rintro rfl;rw [hv] at hm;cases hm
  have h2:m≠u:=by rintro rfl;rw [hu] at hm;cases hm
  exact .inl ⟨by rw [hσ,if_neg h1,if_neg h2];exact hm,λM hM he=>h2 (h.inj m u _ _ M L hm trivial hu trivial hM hL he)⟩
end
section
variable {D:Type} {P:Program} {Hd:D→Loc→View→Prop} {w0:Base} {φ φ':Phi} {σ σ':H D} {w w':World} {ρ:Operand→Value} {o:Oper} {k:V→H D→R}
theorem grown_cells {zero:Array Value} {vs:List Value} {need cap sz:Nat} (hz:zero.size=sz) (hl:vs.length=need * sz) (hc:need≤cap):(vs.toArray++Builtin.zeroCells zero (cap - need)).size=cap * sz:=by
 rw [Array.size_append,size_zeroCells,hz,List.size_toArray,hl,← Nat.add_mul]
 congr 1
 omega
theorem op_app {t tx el:Nat} {s x:Operand} {us ux:V} {v:Vid} {args:Array Operand} {ats:Array TypeId} {inf:TypeInfo} {z:List V} (ho:o.op=.call { callee:=.builtin .append,args:=args,argTypes:=ats }) (hargs:args.toList=[s,x]) (hats:ats.toList=[t,tx])
  (ht:P.underlying t=some (.slice el)) (hi:P.info? el=some inf) (hz:zeroC P el=some z) (hlz:z.length=inf.size) (h0:0 < inf.size) (hk:(∃ e',P.underlying tx=some (.slice e'))∨P.underlying tx=some .string)
  (hr:Rel P Hd w0 φ σ w) (hs:dec φ us=some (ρ s)) (hx:dec φ ux=some (ρ x)) (h:vApp el inf.size inf.bytes v us ux σ k=.ok):OpOK P Hd w0 φ σ w ρ o k:=by
 have ha:args=#[s,x]:=Array.ext' hargs
 have hat:ats=#[t,tx]:=Array.ext' hats
 subst ha hat
 obtain⟨m,l,h1,h2⟩:=src_ok hr hx hk h
 obtain⟨hb,h3⟩:=iff_ok h1
 clear h h1
 simp only [Bool.and_eq_true] at hb
 obtain⟨⟨⟨b1,b2⟩,b3⟩,b4⟩:=hb
 have b1:=Nat.le_of_ble_eq_true b1
 have b2:m * inf.bytes≤100000000:=Nat.le_of_ble_eq_true b2
 rw [lenL_eq] at b4
 have b4:l.length=m * inf.size:=kB b4
 obtain⟨news,d1,src⟩:=h2 b4
 have hone:=one_of d1 (allOne_ok b3)
 obtain⟨i,zv,hi',hzv,hzc,hrun⟩:=zeroC_ok hz
 rw [hi] at hi';cases hi'
 have hzs:zv.cells.size=inf.size:=by have:=decs_length (cellsC_dec (φ:=φ) hzc);simp at this;omega
 have fin:∀ {y:Value} {w':World},(Builtin.append_ #[t,tx] o.type #[ρ s,ρ x]).run P w=.ok y w'→Post P Hd w0 φ σ k y w'→OpOK P Hd w0 φ σ w ρ o k:=λhrun hp =>
  OpOK.valB (s:=Builtin.append_ #[t,tx] o.type #[ρ s,ρ x]) ho (λc=>by simp [builtin]) hrun hp
 have grow:∀ {φ1:Phi} {σ1:H D} {base:Option Addr} {n cap:Nat} {old:List V} {olds:List Value},φ.le φ1→Ext σ σ1→Rel P Hd w0 φ1 σ1 w→ρ s=.slice base n cap→n≤100000→n * inf.bytes≤100000000→cap < n + m→decs φ old=some olds→(∀ y∈olds,oneCell y=true)→olds.length=n * inf.size →
   (Builtin.firstCells inf.size n (.slice base n cap)).run P w.drew=.ok olds.toArray w.drew→newOpen v (appL old l) (n + m) el inf.size σ1 k=.ok→OpOK P Hd w0 φ σ w ρ o k:=by
  intro φ1 σ1 base n cap old olds hle hext hr1 es c1 c2 hg ho1 ho2 ho3 hf hnew
  rw [appL_eq] at hnew
  have hnb:(n + m) * inf.bytes≤140737488355328:=by rw [Nat.add_mul];omega
  have hrun:=run_append_grow_src (P:=P) w t tx o.type el inf zv ht hi hzv base n cap olds hf (ρ x) m news src hg (by omega) (growslice_fits hg hnb)
  have hge:=grownCap_ge w (n + m) cap el
  have hlen:(olds++news).length=(n + m) * inf.size:=by rw [List.length_append,ho3,src.newsLen,Nat.add_mul]
  obtain⟨φ2,σ2,g1,g2,g3,g4,g5⟩:=newOpen_ok (cap:=grownCap w (n + m) cap el) (cells:=(olds++news).toArray++Builtin.zeroCells zv.cells (grownCap w (n + m) cap el - (n + m))) hr1.drew hnew (decs_append (decs_mono hle _ _ ho1) (decs_mono hle _ _ d1))
   (λy hy=>by rcases List.mem_append.1 hy with hy | hy;exact ho2 y hy;exact hone y hy) (by rw [← decs_length (decs_append ho1 d1),hlen]) h0 hge (λi y hy=>by
    have:=(kA hy).1
    rw [Array.getElem?_append_left (by simpa using this)]
    simpa using hy) (grown_cells hzs hlen hge)
  exact fin (by rw [es];exact hrun) ⟨φ2,_,σ2,hle.trans g1,g2,g3,hext.trans g4,g5⟩
 rcases onApp_ok h3 with⟨rfl,h4⟩ | ⟨u,off,n,c,rfl,h4⟩
 ·have es:ρ s=.slice none 0 0:=by simpa [dec] using hs.symm
  rcases iff_t (show iff' _ _ _=.ok from h4) with⟨hm,h5⟩ | ⟨hm,h5⟩
  ·have:=kB hm
   subst this
   exact fin (by rw [es];exact run_append_nil0 ht hi src) (Post.pure hr (by simp [dec]) h5)
  ·have hm:m≠0:=by intro e;subst e;cases hm
   refine grow (old:=[]) (olds:=[]) (.refl _) (.refl _) hr es (by omega) (by omega) (by omega) rfl (by simp) (by simp) (run_firstCells_none _ _ _ _ _) ?_
   rw [Nat.zero_add]
   exact h5
 ·obtain⟨L,hL,es,hle⟩:=dec_sl hs
  obtain⟨ex,known,tr,ty',sz',h5,h6⟩:=H.cells_ok (show σ.cells u _=.ok from h4)
  clear h3 h4
  obtain⟨hb,h7⟩:=iff_ok h6
  clear h6
  simp only [Bool.and_eq_true] at hb
  obtain⟨⟨⟨c1,c2⟩,c3⟩,c4⟩:=hb
  have c1:=Nat.le_of_ble_eq_true c1
  have c2:n * inf.bytes≤100000000:=Nat.le_of_ble_eq_true c2
  have c3:=kB c3
  have c4:=kB c4
  rw [c3,c4] at h5
  rw [fL_eq,fL_eq] at h7
  obtain⟨M,cs,hM,hge,hA⟩:=hr.cells h5
  rw [hL] at hM;cases hM
  have inplace:∀ {ex':Bool} {c':Cp},capOf L c'=capOf L c→n + m≤capOf L c→ex'=ex→Nat.ble (Nat.add (Nat.add off (Nat.mul n inf.size)) (lenL l)) known=true→wrFrom l tr (off + n * inf.size) (λt=>σ.put u (.cells ex' known t el inf.size) λσ=>k (.sl u off (n + m) c') σ)=.ok→OpOK P Hd w0 φ σ w ρ o k:=by
   intro ex' c' hcap hroom hex hall hwr
   rw [lenL_eq] at hall
   have hall:off + n * inf.size + l.length≤known:=Nat.le_of_ble_eq_true hall
   subst hex
   obtain⟨t',e1,e2⟩:=wrFrom_ok hwr
   obtain⟨σ',e3,e4,e5⟩:=H.put_ok e2
   obtain⟨w',e6,e7⟩:=run_wr (P:=P) (off:=off + n * inf.size) hA d1 hone hall
   refine fin (w':=w') (y:=.slice (some ⟨L.blk,L.base + off,none⟩) (n + m) (capOf L c)) ?_ ⟨φ,_,σ',.refl _,wr_cells hr h5 hL hge hA d1 hone hall e1 e7 e3,by rw [dec_sl_mk hL (by omega),hcap],Ext.put e3 e4,e5⟩
   rw [es]
   refine run_append_room ht hi src hroom ?_
   rw [add_eq,Nat.add_assoc]
   exact e6
  have old:∀ {K:List V→R},rdFrom tr off (n * inf.size) K=.ok→∃ old olds,K old=.ok∧decs φ old=some olds∧(∀ y∈olds,oneCell y=true)∧olds.length=n * inf.size∧(∀ i,i < n * inf.size→tr.get (off + i)=old[i]?)∧old.length=n * inf.size ∧
    (Builtin.firstCells inf.size n (.slice (some ⟨L.blk,L.base + off,none⟩) n (capOf L c))).run P w.drew=.ok olds.toArray w.drew:=by
   intro K hK
   obtain⟨old,f1,f2,f3⟩:=rdFrom_ok hK
   obtain⟨ad,vs,e1,e2,e3,e4,e5⟩:=cells_list hr h5 f1 f2 (y:=.pointer (some ⟨L.blk,L.base + off,none⟩)) (by simp [dec,hL])
   cases e1
   exact⟨old,vs,f3,e2,e4,e3,f2,f1,run_firstCells_some w.drew inf.size n _ n _ vs e3 (by simpa using e5)⟩
  cases c with
  | ex c =>
   rcases iff_t (show iff' _ _ _=.ok from h7) with⟨hn,h8⟩ | ⟨hn,h8⟩
   ·have hn:n + m≤c:=Nat.le_of_ble_eq_true hn
    obtain⟨hall,h9⟩:=iff_ok h8
    exact inplace (c':=.ex c) rfl hn rfl hall h9
   ·have hn:c < n + m:=by
     rcases Nat.lt_or_ge c (n + m) with h | h
     ·exact h
     ·cases (show true=false from (Nat.ble_eq_true_of_le (m:=c) (n:=n + m) h).symm.trans hn)
    obtain⟨ol,ols,f1,f2,f3,f4,_,_,f5⟩:=old h8
    exact grow (.refl _) (.refl _) hr es c1 c2 hn f2 f3 f4 f5 f1
  | re r =>
   obtain⟨hex,h8⟩ | ⟨hex,h8⟩:=iff_t (show iff' ex _ _=.ok from h7)
   ·cases h8
   subst hex
   obtain⟨hoff,h9⟩:=iff_ok h8
   have hoff:off=r * inf.size:=kB hoff
   subst hoff
   obtain⟨o1,o2,o3⟩:=hA.open_ rfl
   rcases iff_t (show iff' _ _ _=.ok from h9) with⟨hn,h10⟩ | ⟨hn,h10⟩
   ·have hn:r * inf.size + (n + m) * inf.size≤known:=Nat.le_of_ble_eq_true hn
    have hn2:(r + (n + m)) * inf.size≤L.cap * inf.size:=by rw [Nat.add_mul];omega
    have hn3:=Nat.le_of_mul_le_mul_right hn2 h0
    obtain⟨hall,h11⟩:=iff_ok h10
    exact inplace (c':=.re r) rfl (by simp only [capOf];omega) rfl hall h11
   ·obtain⟨ol,ols,f1,f2,f3,f4,f40,f41,f5⟩:=old h10
    obtain⟨σ1,e1,e2,e3⟩:=H.put_ok f1
    by_cases hroom:n + m≤capOf L (.re r)
    ·
     rw [appL_eq] at e3
     obtain⟨tr',g1,g2⟩:=trOf_ok e3
     rw [fL_eq] at g2
     obtain⟨g3,σ2,g4,g5,g6⟩:=H.add_ok g2
     have hroom':n + m≤L.cap - r:=hroom
     have huv:v≠u:=by rintro rfl;rw [e1,if_pos rfl] at g3;cases g3
     have hv:σ.look v=none:=by rw [e1,if_neg huv] at g3;exact g3
     have hlen:l.length=news.length:=(decs_length d1).symm
     have hsz:0 < l.length→L.base + (r * inf.size + n * inf.size) + l.length≤cs.size:=by
      intro hl
      have hmpos:0 < m:=by
       rcases Nat.eq_zero_or_pos m with h | h
       ·rw [b4,h,Nat.zero_mul] at hl;cases hl
       ·exact h
      have:=o3 (by omega)
      have h2:(r + (n + m)) * inf.size≤L.cap * inf.size:=Nat.mul_le_mul_right _ (by omega)
      rw [Nat.add_mul,Nat.add_mul] at h2
      omega
     obtain⟨w',e6,e7⟩:∃ w',(storeCells ⟨L.blk,L.base + (r * inf.size + n * inf.size),none⟩ news).run P w=.ok () w'∧Upd L.blk (.cells (wr (L.base + (r * inf.size + n * inf.size)) news cs.toList).toArray el (0,0)) w w':=by
      rcases Nat.eq_zero_or_pos l.length with hl0 | hl0
      ·have:news=[]:=List.eq_nil_of_length_eq_zero (by omega)
       subst this
       exact⟨w,rfl,Upd.id (by simpa [wr] using hA.at_)⟩
      ·exact stCells_ok news 0 w (stCells_blk news 0 w cs _ hA.at_ (by have:=hsz hl0;rw [← hlen];simpa using this) hone λw' hu=>by simpa using hu)
     have hle':=Phi.with_le (L:=⟨L.blk,L.base + r * inf.size,L.cap - r⟩) (hr.gone v hv)
     refine fin (w':=w') (y:=.slice (some ⟨L.blk,L.base + r * inf.size,none⟩) (n + m) (L.cap - r)) ?_ ⟨φ.with v ⟨L.blk,L.base + r * inf.size,L.cap - r⟩,_,σ2,hle',?_,by rw [dec_sl_mk Phi.with_eq (by simpa [capOf] using hroom')];simp [capOf],(Ext.put e1 e2).trans (Ext.put g4 g5),g6⟩
     ·rw [es]
      refine run_append_room ht hi src hroom ?_
      rw [add_eq,Nat.add_assoc]
      exact e6
     ·refine hr.move (b':=.cells false (Nat.mul (Nat.add n m) inf.size) tr' el inf.size) h5 hL hv e7 rfl (λv'=>by rw [g4,e1]) ⟨hge,_,⟨e7.at_,λi y hy=>?_,λi hi=>(by
       have hi:i < (n + m) * inf.size:=hi
       rw [g1,kC (by rw [List.length_append,f41,b4,← Nat.add_mul];exact hi)];rfl),λhe=>(by cases he),λ_=>⟨h0,Nat.mul_le_mul_right _ hroom',λhc=>?_⟩⟩⟩
      ·rw [g1] at hy
       have hlt:=(kA hy).1
       simp only [List.length_append,f41,b4] at hlt
       refine⟨by show i < (n + m) * inf.size;rw [Nat.add_mul];exact hlt,?_⟩
       rw [List.getElem?_toArray]
       by_cases hi2:i < n * inf.size
       ·rw [List.getElem?_append_left (by omega)] at hy
        rw [← f40 i hi2] at hy
        obtain⟨_,yy,a1,a2,a3⟩:=hA.get _ _ hy
        refine⟨yy,dec_mono hle' _ _ a1,?_,a3⟩
        rcases Nat.eq_zero_or_pos l.length with hl0 | hl0
        ·have:news=[]:=List.eq_nil_of_length_eq_zero (by omega)
         subst this
         show (wr _ [] cs.toList)[_]?=_
         rw [show wr (L.base + (r * inf.size + n * inf.size)) [] cs.toList=cs.toList from rfl,Array.getElem?_toList,← a2]
         congr 1
         show L.base + r * inf.size + i=_
         omega
        ·rw [wr_get _ _ _ _ (by have:=hsz hl0;rw [← hlen];simpa using this),if_neg (by show ¬ (_≤L.base + r * inf.size + i∧_);omega),Array.getElem?_toList,← a2]
         congr 1
         show L.base + r * inf.size + i=_
         omega
       ·rw [List.getElem?_append_right (by omega),f41] at hy
        obtain⟨yy,a1,a2⟩:=decs_get d1 hy
        refine⟨yy,dec_mono hle' _ _ a2,?_,hone yy (kD a1)⟩
        have hl0:0 < l.length:=by omega
        rw [wr_get _ _ _ _ (by have:=hsz hl0;rw [← hlen];simpa using this),if_pos (by show _≤L.base + r * inf.size + i∧L.base + r * inf.size + i < _;rw [← hlen,b4];omega),← a1]
        congr 1
        show L.base + r * inf.size + i - _=_
        omega
      ·have hc:0 < L.cap - r:=hc
       have:=o3 (by omega)
       show L.base + r * inf.size + (L.cap - r) * inf.size≤_
       simp only [List.size_toArray,wr_length,Array.length_toList]
       have:r * inf.size + (L.cap - r) * inf.size=L.cap * inf.size:=by rw [← Nat.add_mul];congr 1;omega
       omega
    ·exact grow (.refl _) (Ext.put e1 e2) (hr.kill h5 e1) es c1 c2 (by omega) f2 f3 f4 f5 e3
end
open Go.ChangeMaps (setBlock)
section
variable {D:Type} {P:Program} {Hd:D→Loc→View→Prop} {w0:Base} {φ φ':Phi} {σ σ':H D} {w w':World} {ρ:Operand→Value} {o:Oper} {k:V→H D→R}
theorem Rel.killI (h:Rel P Hd w0 φ σ w) {v:Vid} {m:Vid} {vr:Nat} {la:List V} {re:List (V × V)} (hv:σ.look v=some (.iter m vr la re)) (hσ:∀ v',σ'.look v'=if v'=v then some .dead else σ.look v'):Rel P Hd w0 φ σ' w:=by
 have hof:∀ {u c},σ'.look u=some c→Live c→σ.look u=some c:=by
  intro u c hu hc
  rw [hσ] at hu
  by_cases huv:u=v
  ·rw [if_pos huv] at hu;cases hu;exact hc.elim
  ·rw [if_neg huv] at hu;exact hu
 refine h.step (Ch:=No) (Phi.le.refl _) Keeps.refl (λ_ _ h=>h.elim) (λu hn=>?_) (λu c L' hu hc hL'=>.inl ⟨u,c,L',hof hu hc,hc,hL',rfl⟩) (λu u' c c' M M' h1 h2 h3 h4 h5 h6 h7=>h.inj u u' c c' M M' (hof h1 h2) h2 (hof h3 h4) h4 h5 h6 h7) (λu c hu hd=>?_) (λm kT ks es ver hm=>?_)
 ·rw [hσ] at hn
  by_cases huv:u=v
  ·rw [if_pos huv] at hn;cases hn
  ·rw [if_neg huv] at hn;exact h.gone u hn
 ·rw [hσ] at hu
  by_cases huv:u=v
  ·rw [if_pos huv] at hu;cases hu;exact absurd rfl hd
  ·rw [if_neg huv] at hu;exact .inl ⟨hu,λ_ _ _ h=>h⟩
 ·have:m≠v:=by rintro rfl;rw [hv] at hm;cases hm
  exact .inl ⟨by rw [hσ,if_neg this];exact hm,λ_ _ h=>h⟩
theorem op_rng {t kT el:Nat} {x:Operand} {u:V} {v:Vid} (ho:o.op=.range t x) (ht:P.underlying t=some (.map kT el)) (hr:Rel P Hd w0 φ σ w) (hx:dec φ u=some (ρ x)) (h:vRng v u σ k=.ok):OpOK P Hd w0 φ σ w ρ o k:=by
 obtain⟨m,rfl,h1⟩:=onM_ok h
 obtain⟨b,h2,h3⟩:=H.get_ok (show σ.get m _=.ok from h1)
 obtain⟨kT',ks,es,ver,rfl,h4⟩:=onMp_ok h3
 obtain⟨M,hM,em⟩:=dec_m hx
 obtain⟨L,hL,hge,hks,arr,clock,hat,hA⟩:=hr.live h2 trivial
 rw [hM] at hL;cases hL
 obtain⟨g1,σ',g2,g3,g4⟩:=H.add_ok h4
 have hle:=Phi.with_le (L:=⟨w.heap.size,0,0⟩) (hr.gone v g1)
 have hmv:m≠v:=by rintro rfl;rw [g1] at h2;cases h2
 have hA':=hA.mono hle
 have hn:=newAt w (.mapIter (some M.blk) clock #[] clock)
 refine OpOK.val (s:=Instr.range t (ρ x)) (y:=.pointer (some ⟨w.heap.size,0,none⟩)) (w':=w.alloc (.mapIter (some M.blk) clock #[] clock)) (by simp [execOp,ho]) (by rw [em];simp [Instr.range,run_underlying' w ht,MapKept.run_getObj_map hat,run_newObj]) ⟨φ.with v ⟨w.heap.size,0,0⟩,_,σ',hle,?_,by simp [dec,Phi.with_eq],Ext.put g2 g3,g4⟩
 refine hr.new g1 hn g2 ⟨Base.new_of hr.keeps (Nat.le_refl _),rfl,M,clock,#[],clock,hle _ _ hM,hn.at_,kT',ks,es,ver,by rw [g2,if_neg hmv];exact h2,Nat.le_refl _,λ_=>⟨arr,clock,hn.keeps.blk0 hat,rfl,.inl ⟨rfl,rfl,rfl⟩,by simp,λe he _=>hA'.to_ e he,λp hp=>?_,hA'.nd⟩⟩
 obtain⟨e,he,a1,a2⟩:=hA'.of p hp
 exact⟨e,he,by simp,a1,a2⟩
theorem eachOf_ok {k:V × V→List (V × V)→R}:∀ {l pre:List (V × V)},eachOf true pre l k=.ok→∀ l1 p l2,l=l1++p::l2→k p (pre++l1++l2)=.ok
 | [],pre,_,l1,p,l2,h=>by simp at h
 | q::l,pre,h,l1,p,l2,he=>by
  have h':R.and (k q (pre++l)) (eachOf true (pre++[q]) l k)=.ok:=h
  have hand:∀ {x y:R},R.and x y=.ok→x=.ok∧y=.ok:=by
   intro x y h
   cases x with
   | ok=>exact⟨rfl,h⟩
   | no n=>cases h
  obtain⟨h1,h2⟩:=hand h'
  cases l1 with
  | nil=>simp at he;obtain⟨rfl,rfl⟩:=he;simpa using h1
  | cons a l1 =>
   simp at he
   obtain⟨rfl,rfl⟩:=he
   have:=eachOf_ok h2 l1 p l2 rfl
   simpa using this
theorem onIter_ok {x:V} {K:Vid→Vid→Nat→List V→List (V × V)→R} (h:onIter x σ K=.ok):∃ v m ver last rest kT ks es,x=.p v 0∧σ.look v=some (.iter m ver last rest)∧σ.look m=some (.map kT ks es ver)∧K v m ver last rest=.ok:=by
 obtain⟨v,off,rfl,h1⟩:=onP_ok h
 obtain⟨h0,h2⟩:=iff_ok h1
 have h0:=kB h0
 subst h0
 obtain⟨b,h3,h4⟩:=H.get_ok (show σ.get v _=.ok from h2)
 obtain⟨m,ver,last,rest,rfl,h5⟩:=onIt_ok h4
 obtain⟨b',h6,h7⟩:=H.get_ok (show σ.get m _=.ok from h5)
 obtain⟨kT,ks,es,ver',rfl,h8⟩:=onMp_ok h7
 obtain⟨h9,h10⟩:=iff_ok h8
 have h9:=kB h9
 subst h9
 exact⟨v,m,ver,last,rest,kT,ks,es,rfl,h3,h6,h10⟩
theorem Rel.iter (hr:Rel P Hd w0 φ σ w) {v m:Vid} {ver kT:Nat} {ks:KS} {last:List V} {rest es:List (V × V)} (h1:σ.look v=some (.iter m ver last rest)) (h2:σ.look m=some (.map kT ks es ver)) :
  ∃ L Lm seen arr clock,φ v=some L∧L.base=0∧w0.New L.blk∧φ m=some Lm∧w.heap[L.blk]?=some (.mapIter (some Lm.blk) clock seen clock)∧w.heap[Lm.blk]?=some (.map arr clock)∧MapAt' φ ks arr clock es ∧
   ((last=[]∧seen=#[])∨∃ e∈arr.toList,seen.back?=some e.born∧decs φ last=some [e.key,e.val])∧(∀ s∈seen.toList,∃ e∈arr.toList,e.born=s) ∧
   (∀ e∈arr.toList,seen.contains e.born=false→∃ p∈rest,dec φ p.1=some e.key∧dec φ p.2=some e.val) ∧
   (∀ p∈rest,∃ e∈arr.toList,seen.contains e.born=false∧dec φ p.1=some e.key∧dec φ p.2=some e.val)∧(rest.Pairwise λp q=>∀ x,dec φ p.1=some x→dec φ q.1≠some x):=by
 obtain⟨L,hL,hge,hb,Lm,since,seen,stepped,hm,hat,kT',ks',es',ver',a1,a2,a3⟩:=hr.live h1 trivial
 rw [h2] at a1;cases a1
 obtain⟨arr,clock,b1,rfl,b3,b4,b5,b6,b7⟩:=a3 rfl
 obtain⟨M,hM,_,_,arr',clock',c1,c2⟩:=hr.live h2 trivial
 rw [hm] at hM;cases hM
 rw [b1] at c1;cases c1
 have hst:stepped=since:=by rcases b3 with⟨_,_,h⟩ | ⟨h,_⟩ <;> exact h
 subst hst
 exact⟨L,Lm,seen,arr,stepped,hL,hb,hge,hm,hat,b1,c2,b3.imp (λ⟨x,y,_⟩=>⟨x,y⟩) (λ⟨_,x⟩=>x),b4,b5,b6,b7⟩
theorem op_ent {x:Operand} {u:V} (ho:o.op=.entry x) (hr:Rel P Hd w0 φ σ w) (hx:dec φ u=some (ρ x)) (h:vEnt u σ (λu=>k u σ)=.ok):OpOK P Hd w0 φ σ w ρ o k:=by
 obtain⟨v,m,ver,last,rest,kT,ks,es,rfl,h1,h2,h3⟩:=onIter_ok h
 obtain⟨hb,h4⟩:=iff_ok h3
 have hb:=kB hb
 obtain⟨L,Lm,seen,arr,clock,a1,a2,a3,a4,a5,a6,a7,a8,_⟩:=hr.iter h1 h2
 rcases a8 with⟨rfl,_⟩ | ⟨e,he,b1,b2⟩
 ·cases hb
 obtain⟨M,hM,ex⟩:=dec_p hx
 rw [a1] at hM;cases hM
 have hs:seen=seen.pop.push e.born:=by
  rw [Array.back?_eq_getElem?] at b1
  obtain⟨hlt,b1⟩:=Array.getElem?_eq_some_iff.1 b1
  apply Array.ext
  ·simp;omega
  ·intro i hi1 hi2
   rw [Array.getElem_push]
   split
   ·simp
   ·rename_i hh
    simp at hh
    have:i=seen.size - 1:=by omega
    subst this
    exact b1
 rw [hs] at a5
 refine OpOK.val (s:=Instr.entry (ρ x)) (y:=.tuple #[e.key,e.val]) (w':=w) (by simp [execOp,ho]) ?_ (Post.pure hr (by simp [dec,b2]) h4)
 rw [ex,a2]
 exact run_entry_at w L.blk Lm.blk clock seen.pop arr clock e a5 a6 he a7.st.2.1
theorem op_nxt {x:Operand} {u:V} (ho:o.op=.next x false) (hr:Rel P Hd w0 φ σ w) (hx:dec φ u=some (ρ x)) (h:vNxt true u σ k=.ok):OpOK P Hd w0 φ σ w ρ o k:=by
 obtain⟨v,m,ver,last,rest,kT,ks,es,rfl,h1,h2,h3⟩:=onIter_ok h
 obtain⟨L,Lm,seen,arr,clock,a1,a2,a3,a4,a5,a6,a7,a8,a9,a10,a11,a12⟩:=hr.iter h1 h2
 obtain⟨M,hM,ex⟩:=dec_p hx
 rw [a1] at hM;cases hM
 have hexec:execOp ρ o=(do pure (Next.value (← Instr.next (ρ x) false o.type)):Sem Next):=by simp [execOp,ho]
 have ex':ρ x=.pointer (some ⟨L.blk,0,none⟩):=by rw [ex,a2]
 rcases run_next_at (P:=P) w o.type L.blk Lm.blk clock clock seen arr clock a5 a6 a7.st.1 (Nat.le_refl _) with⟨b1,b2⟩ | ⟨e,he,w1,b2,b3⟩
 ·cases rest with
  | nil =>
   obtain⟨σ',g1,g2,g3⟩:=H.put_ok (show σ.put v .dead _=.ok from h3)
   exact OpOK.val (w':=w) hexec (by rw [ex'];exact b2) ⟨φ,_,σ',.refl _,hr.killI h1 g1,by simp [dec,decs],Ext.put g1 g2,g3⟩
  | cons p l =>
   obtain⟨e,he,c1,_⟩:=a11 p (by simp)
   have:e∈leftOf arr seen:=by simp only [leftOf,Array.mem_filter];exact⟨by simpa using he,by rw [c1];rfl⟩
   have hz:=Array.eq_empty_of_size_eq_zero b1
   rw [hz] at this;simp at this
 ·have he':e∈arr.toList∧seen.contains e.born=false:=by
   simp only [leftOf,Array.toList_filter,List.mem_filter] at he
   exact⟨he.1,by simpa using he.2⟩
  obtain⟨p,hp,c1,c2⟩:=a10 e he'.1 he'.2
  cases rest with
  | nil=>simp at hp
  | cons p0 l0 =>
   obtain⟨l1,l2,hl⟩:=List.append_of_mem hp
   have h4:=eachOf_ok (show eachOf true [] (p0::l0) _=.ok from h3) l1 p l2 hl
   rw [List.nil_append] at h4
   obtain⟨σ',g1,g2,g3⟩:=H.put_ok h4
   rw [hl] at a10 a11 a12
   rw [List.pairwise_append,List.pairwise_cons] at a12
   obtain⟨n1,⟨n2,n3⟩,n4⟩:=a12
   have hw1:w1.heap=w.heap:=by rcases b2 with rfl | rfl <;> rfl
   have hr1:Rel P Hd w0 φ σ w1:=by rcases b2 with rfl | rfl;exact hr;exact hr.drew
   have hu:Upd L.blk (.mapIter (some Lm.blk) clock (seen.push e.born) clock) w1 (setBlock w1 L.blk (.mapIter (some Lm.blk) clock (seen.push e.born) clock)):=by
    refine⟨?_,⟨rfl,rfl,rfl,by simp [setBlock],λi hi hm=>?_⟩,by simp [setBlock]⟩
    ·simp [setBlock,hw1,(Array.getElem?_eq_some_iff.1 a5).1]
    ·simp only [setBlock]
     rw [Array.getElem?_setIfInBounds_ne (λhh=>hm hh.symm)]
   have hmv:Lm.blk≠L.blk:=by intro hh;rw [hh,a5] at a6;cases a6
   have hmv':m≠v:=by rintro rfl;rw [h1] at h2;cases h2
   have hinj:∀ e1∈arr.toList,∀ e2∈arr.toList,e1.born=e2.born→e1=e2:=λe1 h1 e2 h2 hh=>born_inj a7.st.2.1 h1 h2 hh
   refine OpOK.val hexec (by rw [ex'];exact b3) ⟨φ,_,σ',.refl _,hr1.set h1 trivial a1 hu g1 (b':=.iter m ver [p.1,p.2] (l1++l2)) trivial (λ_ _ _ _ h=>by cases h) ⟨a3,a2,Lm,clock,seen.push e.born,clock,a4,hu.at_,kT,ks,es,ver,by rw [g1,if_neg hmv'];exact h2,Nat.le_refl _,λ_=>⟨arr,clock,hu.keeps.blk (by rw [hw1];exact a6) hmv,rfl,.inr ⟨rfl,e,he'.1,by simp,decs_cons c1 (decs_cons c2 rfl)⟩,λs hs=>?_,λe' h5 h6=>?_,λq hq=>?_,?_⟩⟩,by simp [dec,decs,c1,c2],Ext.put g1 g2,g3⟩
   ·simp only [Array.toList_push,List.mem_append,List.mem_singleton] at hs
    rcases hs with hs | rfl
    ·exact a9 s hs
    ·exact⟨e,he'.1,rfl⟩
   ·simp only [Array.contains_push,Bool.or_eq_false_iff,beq_eq_false_iff_ne] at h6
    obtain⟨q,hq,d1,d2⟩:=a10 e' h5 h6.1
    refine⟨q,?_,d1,d2⟩
    rcases List.mem_append.1 hq with hq | hq
    ·simp [hq]
    ·rcases List.mem_cons.1 hq with rfl | hq
     ·rw [c1] at d1
      have:=key_once a7.st he'.1 h5 (Option.some.inj d1)
      exact absurd (by rw [this]) h6.2
     ·simp [hq]
   ·have hq':q∈l1++p::l2:=by rcases List.mem_append.1 hq with hq | hq <;> simp [hq]
    obtain⟨e',f1,f2,f3,f4⟩:=a11 q hq'
    refine⟨e',f1,?_,f3,f4⟩
    simp only [Array.contains_push,f2,Bool.false_or,beq_eq_false_iff_ne]
    intro hh
    have:=hinj e' f1 e he'.1 (by first | exact hh | exact hh.symm)
    subst this
    rcases List.mem_append.1 hq with hq | hq
    ·exact n4 q hq p (by simp) _ f3 c1
    ·exact n2 q hq _ c1 f3
   ·rw [List.pairwise_append]
    exact⟨n1,n3,λa ha b hb=>n4 a ha b (by simp [hb])⟩
end
end Go.Ev
end
section
namespace Go.Ev
open Go Go.Fk
section
variable {D:Type} {P:Program} {φ:Phi} {loc:List (Option Nat)} {L:Lc} {e:E} {ρ:Operand→Value} {o:Oper} {σ:H D} {k:V→H D→R} {cl:Nat→Hk D} {md:Bool} {v:Vid}
theorem get1 (hc:Cx φ loc L e ρ) {x:Operand} {K:List V→R} (h:getL [opd loc x] L e K=.ok):∃ u,dec φ u=some (ρ x)∧K [u]=.ok:=by
 obtain⟨us,h1,h2⟩:=getL_ok h
 cases h1 with | cons a t=>cases t;exact⟨_,hc.opd a,h2⟩
theorem get2 (hc:Cx φ loc L e ρ) {x y:Operand} {K:List V→R} (h:getL [opd loc x,opd loc y] L e K=.ok):∃ u u',dec φ u=some (ρ x)∧dec φ u'=some (ρ y)∧K [u,u']=.ok:=by
 obtain⟨us,h1,h2⟩:=getL_ok h
 cases h1 with | cons a t=>cases t with | cons b t=>cases t;exact⟨_,_,hc.opd a,hc.opd b,h2⟩
theorem get3 (hc:Cx φ loc L e ρ) {x y z:Operand} {K:List V→R} (h:getL [opd loc x,opd loc y,opd loc z] L e K=.ok):∃ u u' u'',dec φ u=some (ρ x)∧dec φ u'=some (ρ y)∧dec φ u''=some (ρ z)∧K [u,u',u'']=.ok:=by
 obtain⟨us,h1,h2⟩:=getL_ok h
 cases h1 with | cons a t=>cases t with | cons b t=>cases t with | cons c t=>cases t;exact⟨_,_,_,hc.opd a,hc.opd b,hc.opd c,h2⟩
theorem get4 (hc:Cx φ loc L e ρ) {x y z q:Operand} {K:List V→R} (h:getL [opd loc x,opd loc y,opd loc z,opd loc q] L e K=.ok):∃ u u' u'' u3,dec φ u=some (ρ x)∧dec φ u'=some (ρ y)∧dec φ u''=some (ρ z)∧dec φ u3=some (ρ q)∧K [u,u',u'',u3]=.ok:=by
 obtain⟨us,h1,h2⟩:=getL_ok h
 cases h1 with | cons a t=>cases t with | cons b t=>cases t with | cons c t=>cases t with | cons d t=>cases t;exact⟨_,_,_,_,hc.opd a,hc.opd b,hc.opd c,hc.opd d,h2⟩
theorem getN (hc:Cx φ loc L e ρ) {l:List Operand} {K:List V→R} (h:getL (opds loc l) L e K=.ok):∃ us,decs φ us=some (l.map ρ)∧K us=.ok:=by
 obtain⟨us,h1,h2⟩:=getL_ok h
 exact⟨us,hc.opds h1,h2⟩
theorem g0 {kd:OK} (h:evO P cl md v (.op kd []) L e σ k=.ok):vK kd [] v σ k=.ok:=h
theorem g1 (hc:Cx φ loc L e ρ) {x:Operand} {kd:OK} (h:evO P cl md v (.op kd [opd loc x]) L e σ k=.ok):∃ u,dec φ u=some (ρ x)∧vK kd [u] v σ k=.ok:=get1 hc (show getL _ L e (λvs=>vK kd vs v σ k)=.ok from h)
theorem g2 (hc:Cx φ loc L e ρ) {x y:Operand} {kd:OK} (h:evO P cl md v (.op kd [opd loc x,opd loc y]) L e σ k=.ok):∃ u u',dec φ u=some (ρ x)∧dec φ u'=some (ρ y)∧vK kd [u,u'] v σ k=.ok:=get2 hc (show getL _ L e (λvs=>vK kd vs v σ k)=.ok from h)
theorem g3 (hc:Cx φ loc L e ρ) {x y z:Operand} {kd:OK} (h:evO P cl md v (.op kd [opd loc x,opd loc y,opd loc z]) L e σ k=.ok):∃ u u' u'',dec φ u=some (ρ x)∧dec φ u'=some (ρ y)∧dec φ u''=some (ρ z)∧vK kd [u,u',u''] v σ k=.ok:=get3 hc (show getL _ L e (λvs=>vK kd vs v σ k)=.ok from h)
theorem g4 (hc:Cx φ loc L e ρ) {x y z q:Operand} {kd:OK} (h:evO P cl md v (.op kd [opd loc x,opd loc y,opd loc z,opd loc q]) L e σ k=.ok):∃ u u' u'' u3,dec φ u=some (ρ x)∧dec φ u'=some (ρ y)∧dec φ u''=some (ρ z)∧dec φ u3=some (ρ q)∧vK kd [u,u',u'',u3] v σ k=.ok:=get4 hc (show getL _ L e (λvs=>vK kd vs v σ k)=.ok from h)
theorem gN (hc:Cx φ loc L e ρ) {l:List Operand} {kd:OK} (h:evO P cl md v (.op kd (opds loc l)) L e σ k=.ok):∃ us,decs φ us=some (l.map ρ)∧vK kd us v σ k=.ok:=getN hc (show getL _ L e (λvs=>vK kd vs v σ k)=.ok from h)
theorem pure_ok (hc:Cx φ loc L e ρ) (hp:pureO (compOp P loc o)=true) (h:evO P cl md v (compOp P loc o) L e σ k=.ok):PureOK P φ ρ o (λu=>k u σ):=by
 cases hop:o.op
 case move x =>
  simp only [compOp,hop] at h
  obtain⟨u,hx,h⟩:=g1 hc h
  exact pure_mv (.inl hop) hx h
 case assign x =>
  simp only [compOp,hop] at h
  obtain⟨u,hx,h⟩:=g1 hc h
  exact pure_mv (.inr hop) hx h
 case pick c a b =>
  simp only [compOp,hop] at h
  exact pure_pick hc hop h
 case nilCheck x =>
  simp only [compOp,hop] at h
  obtain⟨u,hx,h⟩:=g1 hc h
  exact pure_nil hop hx h
 case extract x j =>
  simp only [compOp,hop] at h
  obtain⟨u,hx,h⟩:=g1 hc h
  exact pure_ext hop hx h
 case build t ps =>
  simp only [compOp,hop] at h
  split at h
  ·rename_i fs ht
   split at h
   ·rename_i z l hz hl hs
    obtain⟨us,hus,h⟩:=gN hc h
    exact pure_build_s hop ht hz hl hs hus h
   ·cases h
  ·rename_i n el ht
   split at h
   ·rename_i z sz hz hsz
    obtain⟨us,hus,h⟩:=gN hc h
    exact pure_build_a hop ht hz hsz hus h
   ·cases h
  ·cases h
 case binOp op t x y yt =>
  simp only [compOp,hop] at h hp
  split at h
  ·split at h
   ·rename_i ks hks
    obtain⟨a,b,hx,hy,h⟩:=g2 hc h
    exact pure_eqk (neg:=false) rfl hop hks hx hy h
   ·obtain⟨a,b,hx,hy,h⟩:=g2 hc h
    exact pure_eq (neg:=false) rfl hop hc.const hx hy h
  ·split at h
   ·rename_i ks hks
    obtain⟨a,b,hx,hy,h⟩:=g2 hc h
    exact pure_eqk (neg:=true) rfl hop hks hx hy h
   ·obtain⟨a,b,hx,hy,h⟩:=g2 hc h
    exact pure_eq (neg:=true) rfl hop hc.const hx hy h
  ·obtain⟨a,b,hx,hy,h⟩:=g2 hc h
   exact pure_shl hop hx hy h
  ·obtain⟨a,b,hx,hy,h⟩:=g2 hc h
   exact pure_shr hop hx hy h
  ·rename_i h1 h2 h3 h4
   split at h
   ·rename_i ht
    split at h
    ·obtain⟨a,b,hx,hy,h⟩:=g2 hc h
     exact pure_cat hop hx hy h
    ·cases h
   ·obtain⟨a,b,hx,hy,h⟩:=g2 hc h
    exact pure_binI hop h1 h2 h3 h4 hx hy h
 case unOp op t x =>
  simp only [compOp,hop] at h
  split at h
  ·obtain⟨u,hx,h⟩:=g1 hc h;exact pure_not hop hx h
  ·obtain⟨u,hx,h⟩:=g1 hc h;exact pure_neg hop hx h
  ·obtain⟨u,hx,h⟩:=g1 hc h;exact pure_cpl hop hx h
  ·cases h
 case convert s d x =>
  simp only [compOp,hop] at h hp
  split at h
  ·rename_i κs κ hs hd
   obtain⟨u,hx,h⟩:=g1 hc h
   exact pure_conv hop hs hd hx h
  ·rename_i hs hd
   rw [hs,hd] at hp
   cases hp
  ·rename_i el hs hd
   rw [hs,hd] at hp
   simp only at hp
   split at hp <;> cases hp
  ·cases h
 case fieldAddr t x f =>
  simp only [compOp,hop] at h
  split at h
  ·rename_i fd hf
   split at h
   ·rename_i n hn
    split at h
    ·cases h
    ·rename_i h0
     obtain⟨u,hx,h⟩:=g1 hc h
     exact pure_fa hop hf hn (by rintro rfl;cases h0) hx h
   ·cases h
  ·cases h
 case field t x f =>
  simp only [compOp,hop] at h
  split at h
  ·rename_i fd hf
   split at h
   ·rename_i ud n hud hn
    obtain⟨u,hx,h⟩:=g1 hc h
    exact pure_fld hop hf hud hn hx h
   ·cases h
  ·cases h
 case indexAddr t x i =>
  simp only [compOp,hop] at h
  split at h
  ·rename_i el ht
   split at h
   ·rename_i sz hsz
    obtain⟨u,j,hx,hj,h⟩:=g2 hc h
    obtain⟨inf,h1,h2⟩:=sizeC_ok hsz
    subst h2
    exact pure_ia hop ht h1 hx hj h
   ·cases h
  ·rename_i n el ht
   split at h
   ·rename_i sz hsz
    obtain⟨u,j,hx,hj,h⟩:=g2 hc h
    obtain⟨inf,h1,h2⟩:=sizeC_ok hsz
    subst h2
    exact pure_iaa hop ht h1 hx hj h
   ·cases h
  ·cases h
 case index t x i =>
  simp only [compOp,hop] at h
  split at h
  ·rename_i ht
   obtain⟨u,j,hx,hj,h⟩:=g2 hc h
   exact pure_is hop ht hx hj h
  ·rename_i n el ht
   split at h
   ·rename_i ud sz hud hsz
    obtain⟨u,j,hx,hj,h⟩:=g2 hc h
    exact pure_iv hop ht hud hsz hx hj h
   ·cases h
  ·cases h
 case call c =>
  revert hp h
  simp only [compOp,hop]
  repeat' split
  all_goals (intro hp h;first | (cases hp;done) | skip)
  rename_i x t hargs hats hcal _ n el ht
  obtain⟨cal,args,ats⟩:=c
  simp only at hcal hargs hats
  subst hcal
  have ha:args=#[x]:=Array.ext' hargs
  have hat:ats=#[t]:=Array.ext' hats
  subst ha hat
  exact⟨.i .i64 (.ofNat n),.int .i64 n,by simp [dec],λw=>by rw [callB (s:=Builtin.len_ #[t] o.type #[ρ x]) hop (λc=>by simp [builtin]) w];exact run_v (by simp [Builtin.len_,run_underlying' w ht,goInt]),h⟩
 all_goals
  exfalso
  revert hp
  simp only [compOp,hop]
  repeat' split
  all_goals (intro hp;cases hp)
end
section
variable {D:Type} {P:Program} {Hd:D→Loc→View→Prop} {w0:Base} {w:World} {φ:Phi} {loc:List (Option Nat)} {L:Lc} {e:E} {ρ:Operand→Value} {o:Oper} {σ:H D} {k:V→H D→R} {cl:Nat→Hk D} {md:Bool} {v:Vid}
def ClOK (P:Program) (Hd:D→Loc→View→Prop) (w0:Base) (cl:Nat→Hk D):Prop:=∀ (F:Nat) (l:List V) (σ:H D) (K:V→H D→R) (φ:Phi) (w:World) (vs:List Value),Rel P Hd w0 φ σ w→decs φ l=some vs→cl F l σ K=.ok →
 enters P F=true∧Calls P F vs.toArray w λe w''=>∃ v,e=.returned v∧Post P Hd w0 φ σ K v w''
theorem optS (hc:Cx φ loc L e ρ) {x:Operand} {lo hi:Option Operand} {kd:OK} (h:evO P cl md v (.op kd (opd loc x::(ofO loc lo++ofO loc hi))) L e σ k=.ok) :
  ∃ u ul uh,dec φ u=some (ρ x)∧OptR φ ρ lo ul∧OptR φ ρ hi uh∧vK kd (u::(ul.toList++uh.toList)) v σ k=.ok:=by
 cases lo <;> cases hi
 ·obtain⟨u,hx,h⟩:=g1 hc (show evO P cl md v (.op kd [opd loc x]) L e σ k=.ok from h)
  exact⟨u,none,none,hx,trivial,trivial,h⟩
 ·obtain⟨u,u',hx,h1,h⟩:=g2 hc (show evO P cl md v (.op kd [opd loc x,opd loc _]) L e σ k=.ok from h)
  exact⟨u,none,some u',hx,trivial,h1,h⟩
 ·obtain⟨u,u',hx,h1,h⟩:=g2 hc (show evO P cl md v (.op kd [opd loc x,opd loc _]) L e σ k=.ok from h)
  exact⟨u,some u',none,hx,h1,trivial,h⟩
 ·obtain⟨u,u',u'',hx,h1,h2,h⟩:=g3 hc (show evO P cl md v (.op kd [opd loc x,opd loc _,opd loc _]) L e σ k=.ok from h)
  exact⟨u,some u',some u'',hx,h1,h2,h⟩
theorem optR_is {x:Option Operand} {u:Option V} (h:OptR φ ρ x u):isS x=u.isSome:=by cases x <;> cases u <;> first | rfl | exact h.elim
theorem op_slice {t:Nat} {x:Operand} {lo hi mx:Option Operand} (hop:o.op=.slice t x lo hi mx) (hc:Cx φ loc L e ρ) (h:evO P cl md v (compOp P loc o) L e σ k=.ok):PureOK P φ ρ o (λu=>k u σ):=by
 simp only [compOp,hop] at h
 split at h
 ·rename_i ht
  split at h
  ·obtain⟨u,ul,uh,hx,hl,hh,h⟩:=optS hc h
   refine pure_slS hop ht hx hl hh ?_
   rw [optR_is hl,optR_is hh] at h;cases ul <;> cases uh <;> exact h
  ·cases h
 ·rename_i el ht
  split at h
  ·rename_i sz hsz
   obtain⟨inf,h1,h2⟩:=sizeC_ok hsz
   subst h2
   obtain⟨u,ul,uh,hx,hl,hh,h⟩:=optS hc h
   refine pure_sl hop ht h1 hx hl hh ?_
   rw [optR_is hl,optR_is hh] at h;cases ul <;> cases uh <;> exact h
  ·rename_i sz m hi' hsz
   obtain⟨inf,h1,h2⟩:=sizeC_ok hsz
   subst h2
   cases lo with
   | none =>
    obtain⟨u,uh,um,hx,hh,hm,h⟩:=g3 hc (show evO P cl md v (.op _ [opd loc x,opd loc _,opd loc _]) L e σ k=.ok from h)
    exact pure_sl3 (ul:=none) hop ht h1 hx trivial hh hm h
   | some lo =>
    obtain⟨u,uh,um,ul,hx,hh,hm,hl,h⟩:=g4 hc (show evO P cl md v (.op _ [opd loc x,opd loc _,opd loc _,opd loc _]) L e σ k=.ok from h)
    exact pure_sl3 (ul:=some ul) hop ht h1 hx hl hh hm h
  ·cases h
 ·rename_i n el ht
  split at h
  ·rename_i sz hsz
   obtain⟨inf,h1,h2⟩:=sizeC_ok hsz
   subst h2
   obtain⟨u,ul,uh,hx,hl,hh,h⟩:=optS hc h
   refine pure_slA hop ht h1 hx hl hh ?_
   rw [optR_is hl,optR_is hh] at h;cases ul <;> cases uh <;> exact h
  ·cases h
 ·cases h
theorem calls_good {F:Nat} {vs:Array Value} (h:(execOp ρ o).run P w=.ok (.enter F vs) w) (hC:Calls P F vs w λe w''=>∃ v,e=.returned v∧Post P Hd w0 φ σ k v w''):OpOK P Hd w0 φ σ w ρ o k:=by
 unfold OpOK
 rw [h]
 exact hC
theorem methF_ok {t:TypeId} {name:String} {F:Nat} {y:Value} (h:methF P t name=some F) (w:World) (n:Nat):(method (n + 1) t y name).run P w=.ok (F,y) w:=by
 unfold methF at h
 split at h <;> try (cases h;done)
 rename_i i hi
 split at h <;> try (cases h;done)
 rename_i m hm
 split at h <;> try (cases h;done)
 rename_i F' hp hf hu
 cases h
 simp [method,run_typeInfo' w hi,hm,hp,follow,hf,receiverAt,run_underlying' w hu,Place.get]
theorem op_call {c:Call} (hop:o.op=.call c) (hp:pureO (compOp P loc o)=false) (hcl:ClOK P Hd w0 cl) (hc:Cx φ loc L e ρ) (hr:Rel P Hd w0 φ σ w) (h:evO P cl md v (compOp P loc o) L e σ k=.ok):OpOK P Hd w0 φ σ w ρ o k:=by
 obtain⟨cal,args,ats⟩:=c
 revert hp h
 simp only [compOp,hop]
 cases cal with
 | value f =>
  intro _ h
  cases f with
  | func F =>
   obtain⟨us,hus,h⟩:=getN (K:=λl=>cl F l σ k) hc h
   obtain⟨hF,hC⟩:=hcl F us σ k φ w _ hr hus h
   refine calls_good (F:=F) ?_ hC
   simp only [execOp,hop,resolve,hc.func,Deferred.ofValue,Sem.run_bind,Sem.run_pure,Result.andThen_ok,invoke]
   rw [run_callFunc w _ hF]
   congr 2
   apply Array.ext'
   simp
  | global g =>
   cases (show R.no 3=R.ok from h)
  | _ =>
   obtain⟨u,h1,h2⟩:=getO_ok (show getO (opd loc _) L e (λf=>getL _ L e λargs=>f.onF (λF a c=>cl F ((a++args)++c) σ k) 101)=.ok from h)
   have hf:=hc.opd h1
   obtain⟨us,hus,h3⟩:=getN (K:=λargs=>u.onF (λF a c=>cl F ((a++args)++c) σ k) 101) hc h2
   obtain⟨F,a,c,e1,h4⟩:=onF_ok h3
   subst e1
   obtain⟨m,n,d1,d2,ef⟩:=dec_f hf
   obtain⟨hF,hC⟩:=hcl F _ σ k φ w _ hr (decs_append (decs_append d1 hus) d2) h4
   refine calls_good (F:=F) ?_ hC
   simp only [execOp,hop,resolve,ef,Deferred.ofValue,Sem.run_bind,Sem.run_pure,Result.andThen_ok,invoke]
   rw [run_callFunc w _ hF]
   congr 2
   apply Array.ext'
   simp
 | invoke r name =>
  intro hp' h
  clear hp'
  obtain⟨u,h1,h2⟩:=getO_ok (show getO (opd loc r) L e (λx=>getL _ L e λl=>x.onQ (λt y=>orE (methF P t name) (λF=>cl F (y::l) σ k) 102) 103)=.ok from h)
  have hf:=hc.opd h1
  obtain⟨us,hus,h3⟩:=getN (K:=λl=>u.onQ (λt y=>orE (methF P t name) (λF=>cl F (y::l) σ k) 102) 103) hc h2
  obtain⟨t,y,e1,h4⟩:=onQ_ok h3
  subst e1
  obtain⟨F,hF0,h5⟩:=orE_ok h4
  obtain⟨z,d1,ez⟩:=dec_q hf
  obtain⟨hF,hC⟩:=hcl F _ σ k φ w _ hr (decs_cons d1 hus) h5
  refine calls_good (F:=F) ?_ hC
  simp only [execOp,hop,resolve,ez,Sem.run_bind,Sem.run_pure,Result.andThen_ok,invoke]
  have e0:(#[Value.iface t z]++args.map ρ)[0]?=some (Value.iface t z):=by rw [Array.getElem?_append_left (by simp)];rfl
  rw [e0]
  simp only [callMethod,Sem.run_bind,run_program,Result.andThen_ok]
  rw [show P.types.size + Made.depth=(P.types.size + 99) + 1 from rfl,methF_ok hF0 w]
  have e2:(#[z]++(#[Value.iface t z]++args.map ρ).extract 1 (#[Value.iface t z]++args.map ρ).size:Array Value)=(z::args.toList.map ρ).toArray:=by
   apply Array.ext'
   rw [Array.toList_append,Array.toList_extract,Array.toList_append]
   simp [List.extract_eq_drop_take,List.take_of_length_le,Nat.add_comm]
  show (callFunc F (#[z]++(#[Value.iface t z]++args.map ρ).extract 1 (#[Value.iface t z]++args.map ρ).size)).run P w=_
  rw [e2,run_callFunc w _ hF]
 | builtin b =>
  simp only
  split
  ·rename_i x t hargs hats
   split
   ·rename_i ht
    intro _ h
    obtain⟨u,hx,h⟩:=g1 hc h
    exact op_len (kd:=0) hop hargs hats ht trivial hr hx h
   ·rename_i el ht
    intro _ h
    obtain⟨u,hx,h⟩:=g1 hc h
    exact op_len (kd:=1) hop hargs hats ht trivial hr hx h
   ·rename_i a b' ht
    intro _ h
    obtain⟨u,hx,h⟩:=g1 hc h
    exact op_len (kd:=2) hop hargs hats ht trivial hr hx h
   ·intro hp;cases hp
   ·intro _ h;cases h
  ·rename_i s x t u hargs hats
   split
   ·rename_i el ht
    split
    ·rename_i i z el' hi hz hu
     split
     ·rename_i hb2
      intro _ h
      simp only [Bool.and_eq_true] at hb2
      obtain⟨us,ux,hs,hx,h⟩:=g2 hc h
      exact op_app hop hargs hats ht hi hz (kB hb2.1) (by simpa using hb2.2) (.inl ⟨_,hu⟩) hr hs hx h
     ·intro _ h;cases h
    ·rename_i i z hi hz hu
     split
     ·rename_i hb2
      intro _ h
      simp only [Bool.and_eq_true] at hb2
      obtain⟨us,ux,hs,hx,h⟩:=g2 hc h
      exact op_app hop hargs hats ht hi hz (kB hb2.1) (by simpa using hb2.2) (.inr hu) hr hs hx h
     ·intro _ h;cases h
    ·intro _ h;cases h
   ·intro _ h;cases h
  ·rename_i x t hargs hats
   split
   ·rename_i el ht
    split
    ·rename_i z sz hz hsz
     split
     ·rename_i hb2
      intro _ h
      simp only [Bool.and_eq_true] at hb2
      obtain⟨u,hx,h⟩:=g1 hc h
      exact op_clr hop hargs hats ht hz (kB hb2.1) (by simpa using hb2.2) hr hx h
     ·intro _ h;cases h
    ·intro _ h;cases h
   ·intro _ h;cases h
  ·rename_i x y hargs
   intro _ h
   obtain⟨a,b,hx,hy,h⟩:=g2 hc h
   exact op_mm (mx:=true) hop hargs hr hx hy h
  ·rename_i x y hargs
   intro _ h
   obtain⟨a,b,hx,hy,h⟩:=g2 hc h
   exact op_mm (mx:=false) hop hargs hr hx hy h
  ·intro _ h;cases h
theorem evO_ok (hcl:ClOK P Hd w0 cl) (hc:Cx φ loc L e ρ) (hr:Rel P Hd w0 φ σ w) (h:evO P cl true v (compOp P loc o) L e σ k=.ok):OpOK P Hd w0 φ σ w ρ o k:=by
 cases hp:pureO (compOp P loc o) with
 | true=>exact OpOK.ofPure hr (pure_ok hc hp h)
 | false =>
 cases hop:o.op
 case alloc t =>
  simp only [compOp,hop] at h
  split at h
  ·rename_i z hz
   exact op_new hop hz hr (g0 h)
  ·cases h
 case box t x =>
  simp only [compOp,hop] at h
  obtain⟨u,hx,h⟩:=g1 hc h
  exact op_box hop hr hx h
 case buildSlice t len ps =>
  simp only [compOp,hop] at h
  split at h
  ·rename_i el ht
   split at h
   ·rename_i z sz hz hsz
    split at h
    ·rename_i hb
     simp only [Bool.and_eq_true] at hb
     obtain⟨us,hus,h⟩:=gN hc h
     exact op_bsl hop ht hz hsz (Nat.le_of_ble_eq_true hb.1.1) (kB hb.1.2) (by simpa using hb.2) hr hus h
    ·cases h
   ·cases h
  ·cases h
 case load t a =>
  simp only [compOp,hop] at h
  split at h
  ·rename_i ud n ht hn
   split at h
   ·rename_i ha
    obtain⟨u,hx,h⟩:=g1 hc h
    exact op_ldA hop ht ha hn hr hx h
   ·rename_i ha
    obtain⟨u,hx,h⟩:=g1 hc h
    exact op_ld hop ht ha hr hx h
  ·cases h
 case store t a x =>
  simp only [compOp,hop] at h
  split at h
  ·rename_i n hn
   obtain⟨ua,ux,ha,hx,h⟩:=g2 hc h
   exact op_st hop hn hr ha hx h
  ·cases h
 case binOp op t x y yt =>
  refine OpOK.ofPure hr ?_
  simp only [compOp,hop] at h
  split at h
  ·split at h
   ·rename_i ks hks
    obtain⟨a,b,hx,hy,h⟩:=g2 hc h
    exact pure_eqk (neg:=false) rfl hop hks hx hy h
   ·obtain⟨a,b,hx,hy,h⟩:=g2 hc h
    exact pure_eq (neg:=false) rfl hop hc.const hx hy h
  ·split at h
   ·rename_i ks hks
    obtain⟨a,b,hx,hy,h⟩:=g2 hc h
    exact pure_eqk (neg:=true) rfl hop hks hx hy h
   ·obtain⟨a,b,hx,hy,h⟩:=g2 hc h
    exact pure_eq (neg:=true) rfl hop hc.const hx hy h
  ·obtain⟨a,b,hx,hy,h⟩:=g2 hc h
   exact pure_shl hop hx hy h
  ·obtain⟨a,b,hx,hy,h⟩:=g2 hc h
   exact pure_shr hop hx hy h
  ·rename_i h1 h2 h3 h4
   split at h
   ·rename_i ht
    split at h
    ·obtain⟨a,b,hx,hy,h⟩:=g2 hc h
     exact pure_cat hop hx hy h
    ·cases h
   ·obtain⟨a,b,hx,hy,h⟩:=g2 hc h
    exact pure_binI hop h1 h2 h3 h4 hx hy h
 case convert s d x =>
  simp only [compOp,hop] at h hp
  split at h
  ·rename_i κs κ hs hd
   obtain⟨u,hx,h⟩:=g1 hc h
   exact OpOK.ofPure hr (pure_conv hop hs hd hx h)
  ·rename_i hs hd
   obtain⟨u,hx,h⟩:=g1 hc h
   exact OpOK.ofPure hr (pure_s2s hop hs hd hx h)
  ·rename_i el hs hd
   split at h
   ·rename_i he
    obtain⟨u,hx,h⟩:=g1 hc h
    exact op_b2s hop hs hd he hr hx h
   ·cases h
  ·cases h
 case makeMap t r =>
  simp only [compOp,hop] at h
  split at h
  ·rename_i kT el ht
   split at h
   ·rename_i ks hks
    exact op_mkm (el:=el) hop hks hr (g0 h)
   ·cases h
  ·cases h
 case makeSlice t l c =>
  simp only [compOp,hop] at h
  split at h
  ·rename_i el ht
   split at h
   ·rename_i i z hi hz
    split at h
    ·rename_i hb
     simp only [Bool.and_eq_true] at hb
     obtain⟨ul,uc,hl,hc',h⟩:=g2 hc h
     exact op_mks hop ht hi hz (kB hb.1) (by simpa using hb.2) hr hl hc' h
    ·cases h
   ·cases h
  ·cases h
 case slice t x lo hi mx=>exact OpOK.ofPure hr (op_slice hop hc h)
 case lookup t m i ok =>
  simp only [compOp,hop] at h
  split at h
  ·rename_i kT el ht
   split at h
   ·rename_i z ks hz hks
    obtain⟨um,ui,hm,hi,h⟩:=g2 hc h
    exact op_look hop ht hz hks hr hm hi h
   ·cases h
  ·cases h
 case mapUpdate t m i x =>
  simp only [compOp,hop] at h
  split at h
  ·rename_i kT el ht
   split at h
   ·rename_i ks hks
    obtain⟨um,ui,ux,hm,hi,hx,h⟩:=g3 hc h
    exact op_putm (.inl hop) ht hks hr hm hi hx h
   ·cases h
  ·cases h
 case insert t m i x =>
  simp only [compOp,hop] at h
  split at h
  ·rename_i kT el ht
   split at h
   ·rename_i ks hks
    obtain⟨um,ui,ux,hm,hi,hx,h⟩:=g3 hc h
    exact op_putm (.inr hop) ht hks hr hm hi hx h
   ·cases h
  ·cases h
 case makeFunc fn first cap =>
  simp only [compOp,hop] at h
  split at h
  ·obtain⟨us,hus,h⟩:=gN hc h
   exact OpOK.ofPure hr (pure_mkf hop hus h)
  ·cases h
 case makeInterface t x =>
  simp only [compOp,hop] at h
  split at h
  ·rename_i el ht
   obtain⟨u,hx,h⟩:=g1 hc h
   exact OpOK.ofPure hr (pure_mki hop ht hx h)
  ·cases h
 case range t x =>
  simp only [compOp,hop] at h
  split at h
  ·rename_i kT el ht
   obtain⟨u,hx,h⟩:=g1 hc h
   exact op_rng hop ht hr hx h
  ·cases h
 case next x str =>
  simp only [compOp,hop] at h
  split at h
  ·obtain⟨u,h1,h2⟩:=getO_ok (show getO (opd loc x) L e (λx=>vNxt true x σ k)=.ok from h)
   exact op_nxt hop hr (hc.opd h1) h2
  ·cases h
 case entry x =>
  simp only [compOp,hop] at h
  obtain⟨u,hx,h⟩:=g1 hc h
  exact op_ent hop hr hx h
 case call c=>exact op_call hop hp hcl hc hr h
 all_goals
  exfalso
  revert hp h
  simp only [compOp,hop]
  try (intro hp;cases hp;done)
  try (intro hp h;cases h;done)
  repeat' split
  all_goals (intro hp h;first | (cases hp;done) | (cases h;done))
end
def Det {κ:Type} (p:(κ→R)→Prop) (m:κ→R):Prop:=(∃ f,p f∧∀ k,m k=f k)∨∃ n,∀ k,m k=.no n
section
variable {κ:Type} {p:(κ→R)→Prop} {x:V} {n:Nat}
theorem Det.leaf {f:κ→R} (h:p f):Det p f:=.inl ⟨f,h,λ_=>rfl⟩
theorem Det.no:Det p (λ_=>R.no n):=.inr ⟨n,λ_=>rfl⟩
theorem Det.iff {b:Bool} {f g:κ→R} (hf:b=true→Det p f) (hg:b=false→Det p g):Det p (λk=>iff' b (f k) (g k)):=by
 cases b with
 | true=>exact hf rfl
 | false=>exact hg rfl
theorem Det.orE {α:Type} {o:Option α} {f:α→κ→R} (h:∀ a,o=some a→Det p (f a)):Det p (λk=>orE o (λa=>f a k) n):=by
 cases o with
 | some a=>exact h a rfl
 | none=>exact .no
theorem Det.opt {α:Type} {o:Option α} {g:κ→R} {f:α→κ→R} (h0:Det p g) (h:∀ a,o=some a→Det p (f a)):Det p (λk=>Option.rec (motive:=λ_=>R) (g k) (λa=>f a k) o):=by
 cases o with
 | some a=>exact h a rfl
 | none=>exact h0
theorem Det.fL {m:Nat} {f:Nat→κ→R} (h:Det p (f m)):Det p (λk=>fL m (λa=>f a k)):=h
theorem Det.onB {f:Bool→κ→R} (h:∀ b,Det p (f b)):Det p (λk=>x.onB (λb=>f b k) n):=by cases x <;> first | exact h _ | exact .no
theorem Det.onI {f:IntKind→Int→κ→R} (h:∀ a b,Det p (f a b)):Det p (λk=>x.onI (λa b=>f a b k) n):=by cases x <;> first | exact h _ _ | exact .no
theorem Det.onS {f:List Nat→κ→R} (h:∀ b,Det p (f b)):Det p (λk=>x.onS (λb=>f b k) n):=by cases x <;> first | exact h _ | exact .no
theorem Det.onP {f:Vid→Nat→κ→R} (h:∀ a b,Det p (f a b)):Det p (λk=>x.onP (λa b=>f a b k) n):=by cases x <;> first | exact h _ _ | exact .no
theorem Det.onSl {f:Vid→Nat→Nat→Cp→κ→R} (h:∀ a b c d,Det p (f a b c d)):Det p (λk=>x.onSl (λa b c d=>f a b c d k) n):=by cases x <;> first | exact h _ _ _ _ | exact .no
theorem Det.onM {f:Vid→κ→R} (h:∀ b,Det p (f b)):Det p (λk=>x.onM (λb=>f b k) n):=by cases x <;> first | exact h _ | exact .no
theorem Det.onMO {f:Option Vid→κ→R} (h:∀ b,Det p (f b)):Det p (λk=>x.onMO (λb=>f b k) n):=by cases x <;> first | exact h _ | exact .no
theorem Det.onF {f:Nat→List V→List V→κ→R} (h:∀ a b c,Det p (f a b c)):Det p (λk=>x.onF (λa b c=>f a b c k) n):=by cases x <;> first | exact h _ _ _ | exact .no
theorem Det.onQ {f:Nat→V→κ→R} (h:∀ a b,Det p (f a b)):Det p (λk=>x.onQ (λa b=>f a b k) n):=by cases x <;> first | exact h _ _ | exact .no
theorem Det.onA {f:List V→κ→R} (h:∀ b,Det p (f b)):Det p (λk=>x.onA (λb=>f b k) n):=by cases x <;> first | exact h _ | exact .no
theorem Det.onAW {f:List V→κ→R} {g:(Nat→V)→Nat→κ→R} (h:∀ b,Det p (f b)) (h':∀ a b,Det p (g a b)):Det p (λk=>x.onAW (λb=>f b k) (λa b=>g a b k) n):=by cases x <;> first | exact h _ | exact h' _ _ | exact .no
theorem Det.onW {f:κ→R} {g:(Nat→V)→Nat→κ→R} (h:Det p f) (h':∀ a b,Det p (g a b)):Det p (λk=>x.onW (f k) (λa b=>g a b k)):=by cases x <;> first | exact h | exact h' _ _
theorem Det.onPq {f:κ→R} {g:Vid→Nat→κ→R} (h:Det p f) (h':∀ a b,Det p (g a b)):Det p (λk=>x.onPq (f k) (λa b=>g a b k) n):=by cases x <;> first | exact h | exact h' _ _ | exact .no
theorem Det.onT {f:List V→κ→R} (h:∀ b,Det p (f b)):Det p (λk=>x.onT (λb=>f b k) n):=by cases x <;> first | exact h _ | exact .no
theorem Det.onNil {f:V→κ→R} (h:∀ b,Det p (f b)):Det p (λk=>x.onNil (λb=>f b k) n):=by cases x <;> first | exact h _ | exact .no
theorem Det.onLen {f:Nat→Nat→κ→R} {g:Vid→κ→R} (h:∀ a b,Det p (f a b)) (h':∀ v,Det p (g v)):Det p (λk=>x.onLen (λa b=>f a b k) (λv=>g v k) n):=by cases x <;> first | exact h _ _ | exact h' _ | exact .no
theorem Det.onG {f:Bool→κ→R} {g:κ→R} (h:∀ b,Det p (f b)) (h':Det p g):Det p (λk=>x.onG (λb=>f b k) (g k) n):=by cases x <;> first | exact h _ | exact h' | exact .no
theorem Det.onZ {f:Nat→Bool→κ→R} (h:∀ a b,Det p (f a b)):Det p (λk=>x.onZ (λa b=>f a b k) n):=by cases x <;> first | exact h _ _ | exact .no
theorem Det.onApp {f:Vid→Nat→Nat→Cp→κ→R} {g:κ→R} (h':Det p g) (h:∀ a b c d,Det p (f a b c d)):Det p (λk=>x.onApp (g k) (λa b c d=>f a b c d k) n):=by cases x <;> first | exact h _ _ _ _ | exact h' | exact .no
theorem Det.onSlN {f:Vid→Nat→Nat→Cp→κ→R} {g:κ→R} (h':Det p g) (h:∀ a b c d,Det p (f a b c d)):Det p (λk=>x.onSlN (g k) (λa b c d=>f a b c d k) n):=by cases x <;> first | exact h _ _ _ _ | exact h' | exact .no
theorem Det.onRd {f:Vid→Nat→Nat→κ→R} {g:κ→R} {q:List Nat→κ→R} (h':Det p g) (h:∀ a b c,Det p (f a b c)) (hq:∀ l,Det p (q l)):Det p (λk=>x.onRd (g k) (λa b c=>f a b c k) (λl=>q l k) n):=by cases x <;> first | exact h _ _ _ | exact h' | exact hq _ | exact .no
theorem Det.asI {f:Nat→κ→R} (h:∀ b,Det p (f b)):Det p (λk=>asI x (λb=>f b k)):=by
 refine Det.onI (f:=λ_ n k=>Int.rec (motive:=λ_=>R) (λi=>f i k) (λ_=>R.no 37) n) λa b=>?_
 cases b with
 | ofNat i=>exact h i
 | negSucc i=>exact .no
theorem Det.cp {c:Cp} {f g:Nat→κ→R} (h:∀ c,Det p (f c)) (h':∀ c,Det p (g c)):Det p (λk=>Cp.rec (motive:=λ_=>R) (λc=>f c k) (λc=>g c k) c):=by
 cases c with
 | ex c=>exact h c
 | re c=>exact h' c
theorem Det.optI {o:Option V} {d:Nat} {f:Nat→κ→R} (h:∀ b,Det p (f b)):Det p (λk=>optI o d (λb=>f b k)):=by
 cases o with
 | none=>exact h d
 | some y=>exact Det.asI h
end
section
variable {D:Type} {κ:Type} {p:(κ→R)→Prop} {n:Nat} {σ:H D} {v:Vid} {b:Blk D}
theorem Det.onC {f:Bool→Nat→Tr V→Nat→Nat→κ→R} (h:∀ a b c d e,Det p (f a b c d e)):Det p (λk=>b.onC (λa b c d e=>f a b c d e k) n):=by cases b <;> first | exact h _ _ _ _ _ | exact .no
theorem Det.onMp {f:Nat→KS→List (V × V)→Nat→κ→R} (h:∀ a b c d,Det p (f a b c d)):Det p (λk=>b.onM (λa b c d=>f a b c d k) n):=by cases b <;> first | exact h _ _ _ _ | exact .no
theorem Det.onIt {f:Vid→Nat→List V→List (V × V)→κ→R} (h:∀ a b c d,Det p (f a b c d)):Det p (λk=>b.onI (λa b c d=>f a b c d k) n):=by cases b <;> first | exact h _ _ _ _ | exact .no
theorem Det.get {f:Blk D→κ→R} (h:∀ b,σ.look v=some b→Det p (f b)):Det p (λk=>σ.get v (λb=>f b k)):=by
 cases σ
 exact Det.orE h
theorem Det.cells {f:Bool→Nat→Tr V→Nat→Nat→κ→R} (h:∀ a b c d e,Det p (f a b c d e)):Det p (λk=>σ.cells v (λa b c d e=>f a b c d e k)):=Det.get λb _=>Det.onC h
theorem Det.put {f:H D→κ→R} (h:∀ σ',Ext σ σ'→Det p (f σ')):Det p (λk=>σ.put v b (λσ=>f σ k)):=by
 cases σ with
 | mk t nx lg =>
  rcases hputp_eq b v t with⟨t',h1,h2⟩ | h2
  ·have e:∀ k,H.put (.mk t nx lg) v b k=k (.mk t' nx (v::lg)):=λk=>h2 _
   have:Ext (.mk t nx lg) (.mk t' nx (v::lg)):=⟨[v],rfl,λv' hv=>by show t'.getp v'=t.getp v';rw [h1,if_neg (by simpa using hv)]⟩
   rcases h _ this with⟨f',hp,hf⟩ | ⟨m,hf⟩
   ·exact .inl ⟨f',hp,λk=>(e _).trans (hf k)⟩
   ·exact .inr ⟨m,λk=>(e _).trans (hf k)⟩
  ·exact .inr ⟨5,λk=>h2 _⟩
theorem Det.add {f:H D→κ→R} (h:∀ σ',Ext σ σ'→Det p (f σ')):Det p (λk=>σ.add v b (λσ=>f σ k)):=by
 cases hv:σ.look v with
 | some b' =>
  refine .inr ⟨6,λk=>?_⟩
  cases σ with
  | mk t nx lg =>
   show Option.rec (motive:=λ_=>R) _ (λ_=>R.no 6) (t.getp v)=_
   rw [show t.getp v=some b' from hv]
 | none =>
  have:(λk=>σ.add v b (λσ=>f σ k))=λk=>σ.put v b (λσ=>f σ k):=by
   funext k
   cases σ with
   | mk t nx lg =>
    show Option.rec (motive:=λ_=>R) _ (λ_=>R.no 6) (t.getp v)=_
    rw [show t.getp v=none from hv]
    rfl
  rw [this]
  exact Det.put h
theorem Det.tput {x:V} {t:Tr V} {i:Nat} {f:Tr V→κ→R} (h:∀ t',Det p (f t')):Det p (λk=>Tr.put x t i (λt=>f t k)):=by
 rcases put_ret (x:=x) t i with⟨t',h1⟩ | ⟨n,h1⟩
 ·have:(λk=>Tr.put x t i (λt=>f t k))=f t':=funext λk=>h1 _
  rw [this];exact h t'
 ·exact .inr ⟨n,λk=>h1 _⟩
theorem Det.rdFrom {c:Tr V}:∀ {m off:Nat} {f:List V→κ→R},(∀ l,Det p (f l))→Det p (λk=>rdFrom c off m (λl=>f l k))
 | 0,off,f,h=>h []
 | m + 1,off,f,h=>Det.orE (f:=λv k=>Ev.fL (Nat.succ off) λo=>Ev.rdFrom c o m λl=>f (v::l) k) λv _=>Det.fL (f:=λo k=>Ev.rdFrom c o m λl=>f (v::l) k) (Det.rdFrom λl=>h _)
theorem Det.wrFrom:∀ {l:List V} {c:Tr V} {off:Nat} {f:Tr V→κ→R},(∀ t,Det p (f t))→Det p (λk=>wrFrom l c off (λt=>f t k))
 | [],c,off,f,h=>h c
 | u::l,c,off,f,h=>Det.tput (f:=λc' k=>Ev.fL (Nat.succ off) λo=>Ev.wrFrom l c' o λt=>f t k) λc'=>Det.fL (f:=λo k=>Ev.wrFrom l c' o λt=>f t k) (Det.wrFrom h)
theorem Det.trOf {l:List V} {f:Tr V→κ→R} (h:∀ t,Det p (f t)):Det p (λk=>trOf l (λt=>f t k)):=by
 rcases trOf_ret l with⟨c,h1⟩ | h1
 ·have:(λk=>Ev.trOf l (λt=>f t k))=f c:=funext λk=>h1 _
  rw [this];exact h c
 ·exact .inr ⟨4,λk=>h1 _⟩
theorem Det.ofF {g:Nat→V} {m:Nat} {f:Tr V→κ→R} (h:∀ t,Det p (f t)):Det p (λk=>Tr.ofF g m (λt=>f t k)):=by
 rcases ofF_ret g m with⟨c,h1⟩ | h1
 ·have:(λk=>Tr.ofF g m (λt=>f t k))=f c:=funext λk=>h1 _
  rw [this];exact h c
 ·exact .inr ⟨4,λk=>h1 _⟩
theorem Det.mkRow {l:List V} {ty sz:Nat} {f:H D→κ→R} (h:∀ σ',Ext σ σ'→Det p (f σ')):Det p (λk=>mkRow v l ty sz σ (λσ=>f σ k)) :=
 Det.trOf (f:=λc k=>Ev.fL (lenL l) λn=>σ.add v (.cells true n c ty sz) λσ=>f σ k) λc=>Det.fL (f:=λn k=>σ.add v (.cells true n c ty sz) λσ=>f σ k) (Det.add h)
theorem Det.overK {α:Type}:∀ {xs l:List α} {f:List α→κ→R},(∀ t,Det p (f t))→Det p (λk=>overK xs l (λt=>f t k))
 | [],l,f,h=>h l
 | x::xs,[],f,h=>.no
 | x::xs,y::l,f,h=>Det.overK (xs:=xs) (l:=l) (f:=λt=>f (x::t)) λt=>h _
theorem Det.putK {α:Type}:∀ {i:Nat} {xs l:List α} {f:List α→κ→R},(∀ t,Det p (f t))→Det p (λk=>putK i xs l (λt=>f t k))
 | 0,xs,l,f,h=>Det.overK h
 | i + 1,xs,[],f,h=>.no
 | i + 1,xs,y::l,f,h=>Det.putK (i:=i) (xs:=xs) (l:=l) (f:=λt=>f (y::t)) λt=>h _
theorem Det.laid:∀ {ps:List (Nat × Nat)} {xs:List V} {l:List V} {f:List V→κ→R},(∀ t,Det p (f t))→Det p (λk=>laid ps xs l (λt=>f t k))
 | [],xs,l,f,h=>h l
 | q::ps,[],l,f,h=>.no
 | q::ps,x::xs,l,f,h=>Det.iff (f:=λk=>Ev.putK q.1 x.cells l λl=>Ev.laid ps xs l λt=>f t k) (λ_=>Det.putK (f:=λl k=>Ev.laid ps xs l λt=>f t k) λt=>Det.laid h) (λ_=>.no)
theorem Det.kpEq {q:KP} {x y:V} {f g:κ→R} (hf:Det p f) (hg:Det p g):Det p (λk=>kpEq q x y (f k) (g k)):=by
 cases q with
 | int q=>exact Det.onI (f:=λκ a k=>y.onI (λκ' b=>iff' (Nat.beq (kIx κ) (kIx q)&&Nat.beq (kIx κ') (kIx q)) (iff' (ieq a b) (f k) (g k)) (R.no 63)) 63) λa b=>Det.onI (f:=λκ' c k=>iff' (Nat.beq (kIx a) (kIx q)&&Nat.beq (kIx κ') (kIx q)) (iff' (ieq b c) (f k) (g k)) (R.no 63)) λc d=>Det.iff (f:=λk=>iff' (ieq b d) (f k) (g k)) (λ_=>Det.iff (λ_=>hf) (λ_=>hg)) (λ_=>.no)
 | str=>exact Det.onS (f:=λa k=>y.onS (λb=>iff' (seq' a b) (f k) (g k)) 63) λa=>Det.onS (f:=λb k=>iff' (seq' a b) (f k) (g k)) λb=>Det.iff (λ_=>hf) (λ_=>hg)
 | bool=>exact Det.onB (f:=λa k=>y.onB (λb=>iff' (a==b) (f k) (g k)) 63) λa=>Det.onB (f:=λb k=>iff' (a==b) (f k) (g k)) λb=>Det.iff (λ_=>hf) (λ_=>hg)
theorem Det.kpsEq {f g:κ→R} (hf:Det p f) (hg:Det p g):∀ {q:List KP} {xs ys:List V},Det p (λk=>kpsEq q xs ys (f k) (g k))
 | [],[],[]=>hf
 | [],[],_::_=>.no
 | [],_::_,_=>.no
 | q::l,[],_=>.no
 | q::l,x::xs,[]=>.no
 | q::l,x::xs,y::ys=>Det.kpEq (f:=λk=>Ev.kpsEq l xs ys (f k) (g k)) (Det.kpsEq hf hg) hg
theorem Det.keyEq {ks:KS} {x y:V} {f g:κ→R} (hf:Det p f) (hg:Det p g):Det p (λk=>keyEq ks x y (f k) (g k)):=by
 cases ks with
 | p q=>exact Det.kpEq hf hg
 | s q=>exact Det.onA (f:=λxs k=>y.onA (λys=>Ev.kpsEq q xs ys (f k) (g k)) 63) λxs=>Det.onA (f:=λys k=>Ev.kpsEq q xs ys (f k) (g k)) λys=>Det.kpsEq hf hg
theorem Det.find {ks:KS} {x:V} {f:κ→R} {g:V→κ→R} (hf:Det p f) (hg:∀ v,Det p (g v)):∀ {es:List (V × V)},Det p (λk=>find ks es x (f k) (λv=>g v k))
 | []=>hf
 | q::es=>Det.keyEq (f:=g q.2) (g:=λk=>Ev.find ks es x (f k) (λv=>g v k)) (hg _) (Det.find hf hg)
theorem Det.putM {ks:KS} {x y:V}:∀ {es:List (V × V)} {f:List (V × V)→κ→R},(∀ l,Det p (f l))→Det p (λk=>putM ks es x y (λl=>f l k))
 | [],f,h=>h _
 | q::es,f,h=>Det.keyEq (f:=f ((x,y)::es)) (g:=λk=>Ev.putM ks es x y (λl=>f (q::l) k)) (h _) (Det.putM λl=>h _)
end
section
variable {D:Type} {κ:Type} {p:(κ→R)→Prop}
theorem Det.numK {q:IntKind} {z:Int} {f:V→κ→R} (h:∀ u,Det p (f u)):Det p (λk=>numK q z λu=>f u k):=by simp only [numK_eq];exact h _
theorem Det.forK {q:IntKind} {z:Int} {f:V→κ→R} (h:∀ u,Det p (f u)):Det p (λk=>forK q z λu=>f u k):=by simp only [forK_eq];exact h _
theorem Det.brec {b:Bool} {f g:κ→R} (hg:Det p g) (hf:Det p f):Det p (λk=>Bool.rec (motive:=λ_=>R) (g k) (f k) b):=by cases b;exact hg;exact hf
theorem dEqn {neg:Bool} {ek:EK} {x y:V} {f:V→κ→R} (h:∀ u,Det p (f u)):Det p (λk=>vEqn neg ek x y λu=>f u k):=by
  cases ek
  all_goals
   skip
  unfold vEqn eqV
  repeat' (first
   | exact h _
   | exact h _ _ ‹_›
   | exact h _ _ (.refl _)
   | exact Det.no
   | refine Det.asI λ_=>?_
   | refine Det.optI λ_=>?_
   | refine Det.onI λ_ _=>?_
   | refine Det.onB λ_=>?_
   | refine Det.onS λ_=>?_
   | refine Det.onP λ_ _=>?_
   | refine Det.onSl λ_ _ _ _=>?_
   | refine Det.onM λ_=>?_
   | refine Det.onMO λ_=>?_
   | refine Det.onA λ_=>?_
   | refine Det.onT λ_=>?_
   | refine Det.onNil λ_=>?_
   | refine Det.onLen (λ_ _=>?_) λ_=>?_
   | refine Det.onZ λ_ _=>?_
   | refine Det.onApp ?_ λ_ _ _ _=>?_
   | refine Det.onSlN ?_ λ_ _ _ _=>?_
   | refine Det.onRd ?_ (λ_ _ _=>?_) λ_=>?_
   | refine Det.cells λ_ _ _ _ _=>?_
   | refine Det.get λ_ _=>?_
   | refine Det.onMp λ_ _ _ _=>?_
   | refine Det.onIt λ_ _ _ _=>?_
   | refine Det.orE λ_ _=>?_
   | refine Det.opt ?_ λ_ _=>?_
   | refine Det.cp (λ_=>?_) λ_=>?_
   | refine Det.trOf λ_=>?_
   | refine Det.ofF λ_=>?_
   | refine Det.tput λ_=>?_
   | refine Det.numK λ_=>?_
   | refine Det.forK λ_=>?_
   | refine Det.onAW (λ_=>?_) λ_ _=>?_
   | refine Det.onW ?_ λ_ _=>?_
   | refine Det.onPq ?_ λ_ _=>?_
   | refine Det.rdFrom λ_=>?_
   | refine Det.wrFrom λ_=>?_
   | refine Det.laid λ_=>?_
   | refine Det.keyEq ?_ ?_
   | refine Det.find ?_ λ_=>?_
   | refine Det.putM λ_=>?_
   | refine Det.iff (λ_=>?_) λ_=>?_
   | refine Det.fL ?_
   | refine Det.brec ?_ ?_)
theorem dBin {op:BinOp} {x y:V} {f:V→κ→R} (h:∀ u,Det p (f u)):Det p (λk=>vBin op x y λu=>f u k):=by
  cases op
  all_goals
   skip
  unfold vBin binV
  all_goals try unfold bAddI
  all_goals try unfold bSubI
  all_goals try unfold bMulI
  all_goals try unfold bQuoI
  all_goals try unfold bRemI
  all_goals try unfold bLssI
  all_goals try unfold bLeqI
  all_goals try unfold bGtrI
  all_goals try unfold bGeqI
  all_goals try unfold bNotI
  all_goals try unfold bit2
  all_goals try unfold yesNo
  all_goals try unfold noYes
  all_goals
   repeat' (first
   | exact h _
   | exact h _ _ ‹_›
   | exact h _ _ (.refl _)
   | exact Det.no
   | refine Det.asI λ_=>?_
   | refine Det.optI λ_=>?_
   | refine Det.onI λ_ _=>?_
   | refine Det.onB λ_=>?_
   | refine Det.onS λ_=>?_
   | refine Det.onP λ_ _=>?_
   | refine Det.onSl λ_ _ _ _=>?_
   | refine Det.onM λ_=>?_
   | refine Det.onMO λ_=>?_
   | refine Det.onA λ_=>?_
   | refine Det.onT λ_=>?_
   | refine Det.onNil λ_=>?_
   | refine Det.onLen (λ_ _=>?_) λ_=>?_
   | refine Det.onZ λ_ _=>?_
   | refine Det.onApp ?_ λ_ _ _ _=>?_
   | refine Det.onSlN ?_ λ_ _ _ _=>?_
   | refine Det.onRd ?_ (λ_ _ _=>?_) λ_=>?_
   | refine Det.cells λ_ _ _ _ _=>?_
   | refine Det.get λ_ _=>?_
   | refine Det.onMp λ_ _ _ _=>?_
   | refine Det.onIt λ_ _ _ _=>?_
   | refine Det.orE λ_ _=>?_
   | refine Det.opt ?_ λ_ _=>?_
   | refine Det.cp (λ_=>?_) λ_=>?_
   | refine Det.trOf λ_=>?_
   | refine Det.ofF λ_=>?_
   | refine Det.tput λ_=>?_
   | refine Det.numK λ_=>?_
   | refine Det.forK λ_=>?_
   | refine Det.onAW (λ_=>?_) λ_ _=>?_
   | refine Det.onW ?_ λ_ _=>?_
   | refine Det.onPq ?_ λ_ _=>?_
   | refine Det.rdFrom λ_=>?_
   | refine Det.wrFrom λ_=>?_
   | refine Det.laid λ_=>?_
   | refine Det.keyEq ?_ ?_
   | refine Det.find ?_ λ_=>?_
   | refine Det.putM λ_=>?_
   | refine Det.iff (λ_=>?_) λ_=>?_
   | refine Det.fL ?_
   | refine Det.brec ?_ ?_)
theorem dNew {z:List V} {ty:Nat} {v:Vid} {σ:H D} {f:V→H D→κ→R} (h:∀ u σ',Ext σ σ'→Det p (f u σ')):Det p (λk=>vNew z ty v σ λu σ=>f u σ k):=by
  unfold vNew
  exact Det.fL (Det.ofF λ_=>Det.add λσ' hσ=>h _ σ' hσ)
theorem dBox {ty:Nat} {v:Vid} {x:V} {σ:H D} {f:V→H D→κ→R} (h:∀ u σ',Ext σ σ'→Det p (f u σ')):Det p (λk=>vBox ty v x σ λu σ=>f u σ k):=by
  unfold vBox
  exact Det.iff (λ_=>Det.mkRow λσ' hσ=>h _ σ' hσ) λ_=>Det.no
theorem dBuild {z:List V} {n:Nat} {ps:List (Nat × Nat)} {xs:List V} {σ:H D} {f:V→H D→κ→R} (h:∀ u σ',Ext σ σ'→Det p (f u σ')):Det p (λk=>vBuild z n ps xs σ λu σ=>f u σ k):=by
  unfold vBuild
  exact Det.laid λ_=>h _ _ (.refl _)
theorem dBSl {z:List V} {ty sz len n:Nat} {ps:List (Nat × Nat)} {v:Vid} {xs:List V} {σ:H D} {f:V→H D→κ→R} (h:∀ u σ',Ext σ σ'→Det p (f u σ')):Det p (λk=>vBSl z ty sz len n ps v xs σ λu σ=>f u σ k):=by
  unfold vBSl
  exact Det.laid λ_=>Det.trOf λ_=>Det.add λσ' hσ=>h _ σ' hσ
theorem dMkS {z:List V} {ty sz bytes:Nat} {v:Vid} {l c:V} {σ:H D} {f:V→H D→κ→R} (h:∀ u σ',Ext σ σ'→Det p (f u σ')):Det p (λk=>vMkS z ty sz bytes v l c σ λu σ=>f u σ k):=by
  unfold vMkS
  exact Det.asI λ_=>Det.asI λ_=>Det.iff (λ_=>Det.fL (Det.trOf λ_=>Det.add λσ' hσ=>h _ σ' hσ)) λ_=>Det.no
theorem dMkM {kT:Nat} {ks:KS} {v:Vid} {σ:H D} {f:V→H D→κ→R} (h:∀ u σ',Ext σ σ'→Det p (f u σ')):Det p (λk=>vMkM kT ks v σ λu σ=>f u σ k):=by
  unfold vMkM
  exact Det.add λσ' hσ=>h _ σ' hσ
theorem dRng {v:Vid} {x:V} {σ:H D} {f:V→H D→κ→R} (h:∀ u σ',Ext σ σ'→Det p (f u σ')):Det p (λk=>vRng v x σ λu σ=>f u σ k):=by
  unfold vRng
  exact Det.onM λ_=>Det.get λ_ _=>Det.onMp λ_ _ _ _=>Det.add λσ' hσ=>h _ σ' hσ
theorem pureAll:(∀ ⦃x:V⦄ ⦃σ:H D⦄ ⦃f:V→κ→R⦄,(∀ u,Det p (f u))→Det p (λk=>vLd x σ λu=>f u k)) ∧
  (∀ ⦃n:Nat⦄ ⦃x:V⦄ ⦃σ:H D⦄ ⦃f:V→κ→R⦄,(∀ u,Det p (f u))→Det p (λk=>vLdA n x σ λu=>f u k)) ∧
  (∀ ⦃x:V⦄ ⦃f:V→κ→R⦄,(∀ u,Det p (f u))→Det p (λk=>vNil x λu=>f u k)) ∧
  (∀ ⦃neg:Bool⦄ ⦃ks:KS⦄ ⦃x y:V⦄ ⦃f:V→κ→R⦄,(∀ u,Det p (f u))→Det p (λk=>vEqk neg ks x y λu=>f u k)) ∧
  (∀ ⦃x y:V⦄ ⦃f:V→κ→R⦄,(∀ u,Det p (f u))→Det p (λk=>vShl x y λu=>f u k)) ∧
  (∀ ⦃x y:V⦄ ⦃f:V→κ→R⦄,(∀ u,Det p (f u))→Det p (λk=>vShr x y λu=>f u k)) ∧
  (∀ ⦃x y:V⦄ ⦃f:V→κ→R⦄,(∀ u,Det p (f u))→Det p (λk=>vCat x y λu=>f u k)) ∧
  (∀ ⦃x:V⦄ ⦃f:V→κ→R⦄,(∀ u,Det p (f u))→Det p (λk=>vNot x λu=>f u k)) ∧
  (∀ ⦃x:V⦄ ⦃f:V→κ→R⦄,(∀ u,Det p (f u))→Det p (λk=>vNeg x λu=>f u k)) ∧
  (∀ ⦃x:V⦄ ⦃f:V→κ→R⦄,(∀ u,Det p (f u))→Det p (λk=>vCpl x λu=>f u k)) ∧
  (∀ ⦃x:V⦄ ⦃f:V→κ→R⦄,(∀ u,Det p (f u))→Det p (λk=>vS2S x λu=>f u k)) ∧
  (∀ ⦃off:Nat⦄ ⦃x:V⦄ ⦃f:V→κ→R⦄,(∀ u,Det p (f u))→Det p (λk=>vFA off x λu=>f u k)) ∧
  (∀ ⦃agg:Bool⦄ ⦃off n:Nat⦄ ⦃x:V⦄ ⦃f:V→κ→R⦄,(∀ u,Det p (f u))→Det p (λk=>vFld agg off n x λu=>f u k)) ∧
  (∀ ⦃sz:Nat⦄ ⦃x i:V⦄ ⦃f:V→κ→R⦄,(∀ u,Det p (f u))→Det p (λk=>vIA sz x i λu=>f u k)) ∧
  (∀ ⦃len sz:Nat⦄ ⦃x i:V⦄ ⦃f:V→κ→R⦄,(∀ u,Det p (f u))→Det p (λk=>vIAA len sz x i λu=>f u k)) ∧
  (∀ ⦃x i:V⦄ ⦃f:V→κ→R⦄,(∀ u,Det p (f u))→Det p (λk=>vIS x i λu=>f u k)) ∧
  (∀ ⦃agg:Bool⦄ ⦃len sz:Nat⦄ ⦃x i:V⦄ ⦃f:V→κ→R⦄,(∀ u,Det p (f u))→Det p (λk=>vIV agg len sz x i λu=>f u k)) ∧
  (∀ ⦃j:Nat⦄ ⦃x:V⦄ ⦃f:V→κ→R⦄,(∀ u,Det p (f u))→Det p (λk=>vExt j x λu=>f u k)) ∧
  (∀ ⦃kd:Nat⦄ ⦃x:V⦄ ⦃σ:H D⦄ ⦃f:V→κ→R⦄,(∀ u,Det p (f u))→Det p (λk=>vLen kd x σ λu=>f u k)) ∧
  (∀ ⦃lo hi:Option V⦄ ⦃x:V⦄ ⦃f:V→κ→R⦄,(∀ u,Det p (f u))→Det p (λk=>vSlS lo hi x λu=>f u k)) ∧
  (∀ ⦃sz:Nat⦄ ⦃lo hi:Option V⦄ ⦃x:V⦄ ⦃f:V→κ→R⦄,(∀ u,Det p (f u))→Det p (λk=>vSl sz lo hi x λu=>f u k)) ∧
  (∀ ⦃sz:Nat⦄ ⦃lo:Option V⦄ ⦃hi mx x:V⦄ ⦃f:V→κ→R⦄,(∀ u,Det p (f u))→Det p (λk=>vSl3 sz lo hi mx x λu=>f u k)) ∧
  (∀ ⦃len sz:Nat⦄ ⦃lo hi:Option V⦄ ⦃x:V⦄ ⦃f:V→κ→R⦄,(∀ u,Det p (f u))→Det p (λk=>vSlA len sz lo hi x λu=>f u k)) ∧
  (∀ ⦃kT:Nat⦄ ⦃ks:KS⦄ ⦃z:V⦄ ⦃ok:Bool⦄ ⦃m i:V⦄ ⦃σ:H D⦄ ⦃f:V→κ→R⦄,(∀ u,Det p (f u))→Det p (λk=>vLook kT ks z ok m i σ λu=>f u k)) ∧
  (∀ ⦃mx:Bool⦄ ⦃x y:V⦄ ⦃f:V→κ→R⦄,(∀ u,Det p (f u))→Det p (λk=>vMM mx x y λu=>f u k)) ∧
  (∀ ⦃q:IntKind⦄ ⦃x:V⦄ ⦃f:V→κ→R⦄,(∀ u,Det p (f u))→Det p (λk=>vConv q x λu=>f u k)) ∧
  (∀ ⦃x:V⦄ ⦃σ:H D⦄ ⦃f:V→κ→R⦄,(∀ u,Det p (f u))→Det p (λk=>vB2S x σ λu=>f u k)) ∧
  (∀ ⦃x:V⦄ ⦃σ:H D⦄ ⦃f:V→κ→R⦄,(∀ u,Det p (f u))→Det p (λk=>vEnt x σ λu=>f u k)):=by
  refine⟨?_,?_,?_,?_,?_,?_,?_,?_,?_,?_,?_,?_,?_,?_,?_,?_,?_,?_,?_,?_,?_,?_,?_,?_,?_,?_,?_,?_⟩ <;> intros <;> rename_i h <;> (first | unfold vLd | unfold vLdA | unfold vNil | unfold vEqk | unfold vShl | unfold vShr | unfold vCat | unfold vNot | unfold vNeg | unfold vCpl | unfold vS2S | unfold vFA | unfold vFld partV partW | unfold vIA | unfold vIAA | unfold vIS | unfold vIV partV partW | unfold vExt | unfold vLen | unfold vSlS | unfold vSl slOf | unfold vSl3 | unfold vSlA | unfold vLook fin | unfold vMM | unfold vConv | unfold vB2S | unfold vEnt onIter)
  all_goals
   repeat' (first
   | exact h _
   | exact h _ _ ‹_›
   | exact h _ _ (.refl _)
   | exact Det.no
   | refine Det.asI λ_=>?_
   | refine Det.optI λ_=>?_
   | refine Det.onI λ_ _=>?_
   | refine Det.onB λ_=>?_
   | refine Det.onS λ_=>?_
   | refine Det.onP λ_ _=>?_
   | refine Det.onSl λ_ _ _ _=>?_
   | refine Det.onM λ_=>?_
   | refine Det.onMO λ_=>?_
   | refine Det.onA λ_=>?_
   | refine Det.onT λ_=>?_
   | refine Det.onNil λ_=>?_
   | refine Det.onLen (λ_ _=>?_) λ_=>?_
   | refine Det.onZ λ_ _=>?_
   | refine Det.onApp ?_ λ_ _ _ _=>?_
   | refine Det.onSlN ?_ λ_ _ _ _=>?_
   | refine Det.onRd ?_ (λ_ _ _=>?_) λ_=>?_
   | refine Det.cells λ_ _ _ _ _=>?_
   | refine Det.get λ_ _=>?_
   | refine Det.onMp λ_ _ _ _=>?_
   | refine Det.onIt λ_ _ _ _=>?_
   | refine Det.orE λ_ _=>?_
   | refine Det.opt ?_ λ_ _=>?_
   | refine Det.cp (λ_=>?_) λ_=>?_
   | refine Det.trOf λ_=>?_
   | refine Det.ofF λ_=>?_
   | refine Det.tput λ_=>?_
   | refine Det.numK λ_=>?_
   | refine Det.forK λ_=>?_
   | refine Det.onAW (λ_=>?_) λ_ _=>?_
   | refine Det.onW ?_ λ_ _=>?_
   | refine Det.onPq ?_ λ_ _=>?_
   | refine Det.rdFrom λ_=>?_
   | refine Det.wrFrom λ_=>?_
   | refine Det.laid λ_=>?_
   | refine Det.keyEq ?_ ?_
   | refine Det.find ?_ λ_=>?_
   | refine Det.putM λ_=>?_
   | refine Det.iff (λ_=>?_) λ_=>?_
   | refine Det.fL ?_
   | refine Det.brec ?_ ?_)
def dLd:=(pureAll (D:=D) (κ:=κ) (p:=p)).1
def dLdA:=(pureAll (D:=D) (κ:=κ) (p:=p)).2.1
def dNil:=(pureAll (D:=Unit) (κ:=κ) (p:=p)).2.2.1
def dEqk:=(pureAll (D:=Unit) (κ:=κ) (p:=p)).2.2.2.1
def dShl:=(pureAll (D:=Unit) (κ:=κ) (p:=p)).2.2.2.2.1
def dShr:=(pureAll (D:=Unit) (κ:=κ) (p:=p)).2.2.2.2.2.1
def dCat:=(pureAll (D:=Unit) (κ:=κ) (p:=p)).2.2.2.2.2.2.1
def dNot:=(pureAll (D:=Unit) (κ:=κ) (p:=p)).2.2.2.2.2.2.2.1
def dNeg:=(pureAll (D:=Unit) (κ:=κ) (p:=p)).2.2.2.2.2.2.2.2.1
def dCpl:=(pureAll (D:=Unit) (κ:=κ) (p:=p)).2.2.2.2.2.2.2.2.2.1
def dS2S:=(pureAll (D:=Unit) (κ:=κ) (p:=p)).2.2.2.2.2.2.2.2.2.2.1
def dFA:=(pureAll (D:=Unit) (κ:=κ) (p:=p)).2.2.2.2.2.2.2.2.2.2.2.1
def dFld:=(pureAll (D:=Unit) (κ:=κ) (p:=p)).2.2.2.2.2.2.2.2.2.2.2.2.1
def dIA:=(pureAll (D:=Unit) (κ:=κ) (p:=p)).2.2.2.2.2.2.2.2.2.2.2.2.2.1
def dIAA:=(pureAll (D:=Unit) (κ:=κ) (p:=p)).2.2.2.2.2.2.2.2.2.2.2.2.2.2.1
def dIS:=(pureAll (D:=Unit) (κ:=κ) (p:=p)).2.2.2.2.2.2.2.2.2.2.2.2.2.2.2.1
def dIV:=(pureAll (D:=Unit) (κ:=κ) (p:=p)).2.2.2.2.2.2.2.2.2.2.2.2.2.2.2.2.1
def dExt:=(pureAll (D:=Unit) (κ:=κ) (p:=p)).2.2.2.2.2.2.2.2.2.2.2.2.2.2.2.2.2.1
def dLen:=(pureAll (D:=D) (κ:=κ) (p:=p)).2.2.2.2.2.2.2.2.2.2.2.2.2.2.2.2.2.2.1
def dSlS:=(pureAll (D:=Unit) (κ:=κ) (p:=p)).2.2.2.2.2.2.2.2.2.2.2.2.2.2.2.2.2.2.2.1
def dSl:=(pureAll (D:=Unit) (κ:=κ) (p:=p)).2.2.2.2.2.2.2.2.2.2.2.2.2.2.2.2.2.2.2.2.1
def dSl3:=(pureAll (D:=Unit) (κ:=κ) (p:=p)).2.2.2.2.2.2.2.2.2.2.2.2.2.2.2.2.2.2.2.2.2.1
def dSlA:=(pureAll (D:=Unit) (κ:=κ) (p:=p)).2.2.2.2.2.2.2.2.2.2.2.2.2.2.2.2.2.2.2.2.2.2.1
def dLook:=(pureAll (D:=D) (κ:=κ) (p:=p)).2.2.2.2.2.2.2.2.2.2.2.2.2.2.2.2.2.2.2.2.2.2.2.1
def dMM:=(pureAll (D:=Unit) (κ:=κ) (p:=p)).2.2.2.2.2.2.2.2.2.2.2.2.2.2.2.2.2.2.2.2.2.2.2.2.1
def dConv:=(pureAll (D:=Unit) (κ:=κ) (p:=p)).2.2.2.2.2.2.2.2.2.2.2.2.2.2.2.2.2.2.2.2.2.2.2.2.2.1
def dB2S:=(pureAll (D:=D) (κ:=κ) (p:=p)).2.2.2.2.2.2.2.2.2.2.2.2.2.2.2.2.2.2.2.2.2.2.2.2.2.2.1
def dEnt:=(pureAll (D:=D) (κ:=κ) (p:=p)).2.2.2.2.2.2.2.2.2.2.2.2.2.2.2.2.2.2.2.2.2.2.2.2.2.2.2
theorem memAll:(∀ ⦃n:Nat⦄ ⦃x y:V⦄ ⦃σ:H D⦄ ⦃f:H D→κ→R⦄,(∀ σ',Ext σ σ'→Det p (f σ'))→Det p (λk=>vSt n x y σ λσ=>f σ k)) ∧
  (∀ ⦃z:List V⦄ ⦃sz:Nat⦄ ⦃x:V⦄ ⦃σ:H D⦄ ⦃f:H D→κ→R⦄,(∀ σ',Ext σ σ'→Det p (f σ'))→Det p (λk=>vClr z sz x σ λσ=>f σ k)) ∧
  (∀ ⦃kT:Nat⦄ ⦃ks:KS⦄ ⦃m i x:V⦄ ⦃σ:H D⦄ ⦃f:H D→κ→R⦄,(∀ σ',Ext σ σ'→Det p (f σ'))→Det p (λk=>vPutM kT ks m i x σ λσ=>f σ k)):=by
  refine⟨?_,?_,?_⟩ <;> intros <;> rename_i h <;> (first | unfold vSt stL wrAll | unfold vClr | unfold vPutM)
  all_goals
   repeat' (first
   | exact h _
   | exact h _ _ ‹_›
   | exact h _ _ (.refl _)
   | exact Det.no
   | exact h _ ‹_›
   | exact h _ (Ext.refl _)
   | refine Det.put λ_ _=>?_
   | refine Det.asI λ_=>?_
   | refine Det.optI λ_=>?_
   | refine Det.onI λ_ _=>?_
   | refine Det.onB λ_=>?_
   | refine Det.onS λ_=>?_
   | refine Det.onP λ_ _=>?_
   | refine Det.onSl λ_ _ _ _=>?_
   | refine Det.onM λ_=>?_
   | refine Det.onMO λ_=>?_
   | refine Det.onA λ_=>?_
   | refine Det.onT λ_=>?_
   | refine Det.onNil λ_=>?_
   | refine Det.onLen (λ_ _=>?_) λ_=>?_
   | refine Det.onZ λ_ _=>?_
   | refine Det.onApp ?_ λ_ _ _ _=>?_
   | refine Det.onSlN ?_ λ_ _ _ _=>?_
   | refine Det.onRd ?_ (λ_ _ _=>?_) λ_=>?_
   | refine Det.cells λ_ _ _ _ _=>?_
   | refine Det.get λ_ _=>?_
   | refine Det.onMp λ_ _ _ _=>?_
   | refine Det.onIt λ_ _ _ _=>?_
   | refine Det.orE λ_ _=>?_
   | refine Det.opt ?_ λ_ _=>?_
   | refine Det.cp (λ_=>?_) λ_=>?_
   | refine Det.trOf λ_=>?_
   | refine Det.ofF λ_=>?_
   | refine Det.tput λ_=>?_
   | refine Det.numK λ_=>?_
   | refine Det.forK λ_=>?_
   | refine Det.onAW (λ_=>?_) λ_ _=>?_
   | refine Det.onW ?_ λ_ _=>?_
   | refine Det.onPq ?_ λ_ _=>?_
   | refine Det.rdFrom λ_=>?_
   | refine Det.wrFrom λ_=>?_
   | refine Det.laid λ_=>?_
   | refine Det.keyEq ?_ ?_
   | refine Det.find ?_ λ_=>?_
   | refine Det.putM λ_=>?_
   | refine Det.iff (λ_=>?_) λ_=>?_
   | refine Det.fL ?_
   | refine Det.brec ?_ ?_)
def dSt:=(memAll (D:=D) (κ:=κ) (p:=p)).1
def dClr:=(memAll (D:=D) (κ:=κ) (p:=p)).2.1
def dPutM:=(memAll (D:=D) (κ:=κ) (p:=p)).2.2
end
section
variable {D:Type} {κ:Type} {p:(κ→R)→Prop} {σ:H D}
theorem dNewOpen {v:Vid} {l:List V} {need ty sz:Nat} {f:V→H D→κ→R} (h:∀ u σ',Ext σ σ'→Det p (f u σ')):Det p (λk=>newOpen v l need ty sz σ λu σ=>f u σ k) :=
 Det.trOf (f:=λc k=>Ev.fL (Nat.mul need sz) λn=>σ.add v (.cells false n c ty sz) λσ=>f (.sl v 0 need (.re 0)) σ k) λc=>Det.fL (f:=λn k=>σ.add v (.cells false n c ty sz) λσ=>f (.sl v 0 need (.re 0)) σ k) (Det.add λσ' hσ=>h _ σ' hσ)
theorem dRdSl {sz:Nat} {x:V} {f:Nat→List V→κ→R} (h:∀ n l,Det p (f n l)):Det p (λk=>rdSl sz x σ λn l=>f n l k):=by
 unfold rdSl
 refine Det.onRd (h _ _) (λ_ _ _=>Det.cells λ_ _ _ _ _=>Det.rdFrom λ_=>h _ _) λ_=>Det.iff (λ_=>h _ _) λ_=>Det.no
theorem dApp {ty sz bytes:Nat} {v:Vid} {s x:V} {f:V→H D→κ→R} (h:∀ u σ',Ext σ σ'→Det p (f u σ')):Det p (λk=>vApp ty sz bytes v s x σ λu σ=>f u σ k):=by
 unfold vApp
 refine dRdSl λm l=>?_
 refine Det.iff (λ_=>?_) (λ_=>Det.no)
 refine Det.onApp (Det.iff (λ_=>h _ _ (.refl _)) λ_=>dNewOpen h) λw off n c=>?_
 refine Det.cells λex known t ty' sz'=>Det.iff (λ_=>?_) λ_=>Det.no
 refine Det.fL (Det.fL (Det.cp (λc=>?_) λr=>?_))
 ·exact Det.iff (λ_=>Det.iff (λ_=>Det.wrFrom λ_=>Det.put λσ' hσ=>h _ σ' hσ) λ_=>Det.no) λ_=>Det.rdFrom λ_=>dNewOpen h
 ·refine Det.iff (λ_=>Det.no) λ_=>Det.iff (λ_=>?_) λ_=>Det.no
  exact Det.iff (λ_=>Det.iff (λ_=>Det.wrFrom λ_=>Det.put λσ' hσ=>h _ σ' hσ) λ_=>Det.no) λ_=>Det.rdFrom λ_=>Det.put λσ1 h1=>dNewOpen λu σ' hσ=>h u σ' (h1.trans hσ)
theorem dIter {x:V} {f:Vid→Vid→Nat→List V→List (V × V)→κ→R} (h:∀ a b c d e,Det p (f a b c d e)):Det p (λk=>onIter x σ λa b c d e=>f a b c d e k):=by
 unfold onIter
 exact Det.onP λv off=>Det.iff (λ_=>Det.get λb _=>Det.onIt λm ver last rest=>Det.get λb' _=>Det.onMp λ_ _ _ ver'=>Det.iff (λ_=>h _ _ _ _ _) λ_=>Det.no) λ_=>Det.no
theorem dNxt {x:V} {f:V→H D→κ→R} (h:∀ u σ',Ext σ σ'→Det p (f u σ')):Det p (λk=>vNxt false x σ λu σ=>f u σ k):=by
 unfold vNxt
 refine dIter λv m ver last rest=>?_
 cases rest with
 | nil=>exact Det.put λσ' hσ=>h _ σ' hσ
 | cons q l=>exact Det.put (f:=λσ k=>f (.t [.b true,q.1,q.2]) σ k) λσ' hσ=>h _ σ' hσ
theorem vK_det (o:OK) (vs:List V) (v:Vid) (σ:H D) {f:V→H D→κ→R} (h:∀ u σ',Ext σ σ'→Det p (f u σ')):Det p (λk=>vK o vs v σ (λu σ=>f u σ k)):=by
 have h0:=λu=>h u σ (.refl _)
 cases o
 case new =>
  rcases vs with _ | ⟨a,vs⟩
  all_goals first | exact Det.no | exact dNew h
 case mkm =>
  rcases vs with _ | ⟨a,vs⟩
  all_goals first | exact Det.no | exact dMkM h
 case mv =>
  rcases vs with _ | ⟨a,_ | ⟨b,vs⟩⟩
  all_goals first | exact Det.no | exact h0 a
 case ld =>
  rcases vs with _ | ⟨a,_ | ⟨b,vs⟩⟩
  all_goals first | exact Det.no | exact dLd h0
 case ldA =>
  rcases vs with _ | ⟨a,_ | ⟨b,vs⟩⟩
  all_goals first | exact Det.no | exact dLdA h0
 case nil =>
  rcases vs with _ | ⟨a,_ | ⟨b,vs⟩⟩
  all_goals first | exact Det.no | exact dNil h0
 case not =>
  rcases vs with _ | ⟨a,_ | ⟨b,vs⟩⟩
  all_goals first | exact Det.no | exact dNot h0
 case neg =>
  rcases vs with _ | ⟨a,_ | ⟨b,vs⟩⟩
  all_goals first | exact Det.no | exact dNeg h0
 case cpl =>
  rcases vs with _ | ⟨a,_ | ⟨b,vs⟩⟩
  all_goals first | exact Det.no | exact dCpl h0
 case fa =>
  rcases vs with _ | ⟨a,_ | ⟨b,vs⟩⟩
  all_goals first | exact Det.no | exact dFA h0
 case fld =>
  rcases vs with _ | ⟨a,_ | ⟨b,vs⟩⟩
  all_goals first | exact Det.no | exact dFld h0
 case ext =>
  rcases vs with _ | ⟨a,_ | ⟨b,vs⟩⟩
  all_goals first | exact Det.no | exact dExt h0
 case len =>
  rcases vs with _ | ⟨a,_ | ⟨b,vs⟩⟩
  all_goals first | exact Det.no | exact dLen h0
 case box =>
  rcases vs with _ | ⟨a,_ | ⟨b,vs⟩⟩
  all_goals first | exact Det.no | exact dBox h
 case mki =>
  rcases vs with _ | ⟨a,_ | ⟨b,vs⟩⟩
  all_goals first | exact Det.no | exact h0 _
 case conv =>
  rcases vs with _ | ⟨a,_ | ⟨b,vs⟩⟩
  all_goals first | exact Det.no | exact dConv h0
 case b2s =>
  rcases vs with _ | ⟨a,_ | ⟨b,vs⟩⟩
  all_goals first | exact Det.no | exact dB2S h0
 case s2s =>
  rcases vs with _ | ⟨a,_ | ⟨b,vs⟩⟩
  all_goals first | exact Det.no | exact dS2S h0
 case rng =>
  rcases vs with _ | ⟨a,_ | ⟨b,vs⟩⟩
  all_goals first | exact Det.no | exact dRng h
 case ent =>
  rcases vs with _ | ⟨a,_ | ⟨b,vs⟩⟩
  all_goals first | exact Det.no | exact dEnt h0
 case clr =>
  rcases vs with _ | ⟨a,_ | ⟨b,vs⟩⟩
  all_goals first | exact Det.no | exact dClr (λσ hσ=>h _ σ hσ)
 case eqk =>
  rcases vs with _ | ⟨a,_ | ⟨b,_ | ⟨c,vs⟩⟩⟩
  all_goals first | exact Det.no | exact dEqk h0
 case st =>
  rcases vs with _ | ⟨a,_ | ⟨b,_ | ⟨c,vs⟩⟩⟩
  all_goals first | exact Det.no | exact dSt (λσ hσ=>h _ σ hσ)
 case eq =>
  rcases vs with _ | ⟨a,_ | ⟨b,_ | ⟨c,vs⟩⟩⟩
  all_goals first | exact Det.no | exact dEqn h0
 case bin =>
  rcases vs with _ | ⟨a,_ | ⟨b,_ | ⟨c,vs⟩⟩⟩
  all_goals first | exact Det.no | exact dBin h0
 case shl =>
  rcases vs with _ | ⟨a,_ | ⟨b,_ | ⟨c,vs⟩⟩⟩
  all_goals first | exact Det.no | exact dShl h0
 case shr =>
  rcases vs with _ | ⟨a,_ | ⟨b,_ | ⟨c,vs⟩⟩⟩
  all_goals first | exact Det.no | exact dShr h0
 case cat =>
  rcases vs with _ | ⟨a,_ | ⟨b,_ | ⟨c,vs⟩⟩⟩
  all_goals first | exact Det.no | exact dCat h0
 case ia =>
  rcases vs with _ | ⟨a,_ | ⟨b,_ | ⟨c,vs⟩⟩⟩
  all_goals first | exact Det.no | exact dIA h0
 case iaa =>
  rcases vs with _ | ⟨a,_ | ⟨b,_ | ⟨c,vs⟩⟩⟩
  all_goals first | exact Det.no | exact dIAA h0
 case is =>
  rcases vs with _ | ⟨a,_ | ⟨b,_ | ⟨c,vs⟩⟩⟩
  all_goals first | exact Det.no | exact dIS h0
 case iv =>
  rcases vs with _ | ⟨a,_ | ⟨b,_ | ⟨c,vs⟩⟩⟩
  all_goals first | exact Det.no | exact dIV h0
 case mks =>
  rcases vs with _ | ⟨a,_ | ⟨b,_ | ⟨c,vs⟩⟩⟩
  all_goals first | exact Det.no | exact dMkS h
 case look =>
  rcases vs with _ | ⟨a,_ | ⟨b,_ | ⟨c,vs⟩⟩⟩
  all_goals first | exact Det.no | exact dLook h0
 case app =>
  rcases vs with _ | ⟨a,_ | ⟨b,_ | ⟨c,vs⟩⟩⟩
  all_goals first | exact Det.no | exact dApp h
 case mm =>
  rcases vs with _ | ⟨a,_ | ⟨b,_ | ⟨c,vs⟩⟩⟩
  all_goals first | exact Det.no | exact dMM h0
 case putm =>
  rcases vs with _ | ⟨a,_ | ⟨b,_ | ⟨c,_ | ⟨d,vs⟩⟩⟩⟩
  all_goals first | exact Det.no | exact dPutM (λσ hσ=>h _ σ hσ)
 case build=>exact dBuild (n:=0) h
 case bsl=>exact dBSl h
 case mkf=>exact h0 _
 case slS lo hi =>
  cases lo <;> cases hi
  ·rcases vs with _ | ⟨a,_ | ⟨b,vs⟩⟩
   all_goals first | exact Det.no | exact dSlS h0
  ·rcases vs with _ | ⟨a,_ | ⟨b,_ | ⟨c,vs⟩⟩⟩
   all_goals first | exact Det.no | exact dSlS h0
  ·rcases vs with _ | ⟨a,_ | ⟨b,_ | ⟨c,vs⟩⟩⟩
   all_goals first | exact Det.no | exact dSlS h0
  ·rcases vs with _ | ⟨a,_ | ⟨b,_ | ⟨c,_ | ⟨d,vs⟩⟩⟩⟩
   all_goals first | exact Det.no | exact dSlS h0
 case sl sz lo hi =>
  cases lo <;> cases hi
  ·rcases vs with _ | ⟨a,_ | ⟨b,vs⟩⟩
   all_goals first | exact Det.no | exact dSl h0
  ·rcases vs with _ | ⟨a,_ | ⟨b,_ | ⟨c,vs⟩⟩⟩
   all_goals first | exact Det.no | exact dSl h0
  ·rcases vs with _ | ⟨a,_ | ⟨b,_ | ⟨c,vs⟩⟩⟩
   all_goals first | exact Det.no | exact dSl h0
  ·rcases vs with _ | ⟨a,_ | ⟨b,_ | ⟨c,_ | ⟨d,vs⟩⟩⟩⟩
   all_goals first | exact Det.no | exact dSl h0
 case slA len sz lo hi =>
  cases lo <;> cases hi
  ·rcases vs with _ | ⟨a,_ | ⟨b,vs⟩⟩
   all_goals first | exact Det.no | exact dSlA h0
  ·rcases vs with _ | ⟨a,_ | ⟨b,_ | ⟨c,vs⟩⟩⟩
   all_goals first | exact Det.no | exact dSlA h0
  ·rcases vs with _ | ⟨a,_ | ⟨b,_ | ⟨c,vs⟩⟩⟩
   all_goals first | exact Det.no | exact dSlA h0
  ·rcases vs with _ | ⟨a,_ | ⟨b,_ | ⟨c,_ | ⟨d,vs⟩⟩⟩⟩
   all_goals first | exact Det.no | exact dSlA h0
 case sl3 sz lo =>
  cases lo
  ·rcases vs with _ | ⟨a,_ | ⟨b,_ | ⟨c,_ | ⟨d,vs⟩⟩⟩⟩
   all_goals first | exact Det.no | exact dSl3 h0
  ·rcases vs with _ | ⟨a,_ | ⟨b,_ | ⟨c,_ | ⟨d,_ | ⟨e,vs⟩⟩⟩⟩⟩
   all_goals first | exact Det.no | exact dSl3 h0
end
section
variable {D:Type} {κ:Type} {p:(κ→R)→Prop} {σ:H D} {L:Lc} {e:E} {P:Program} {cl:Nat→Hk D} {v:Vid} {vs:List Vid}
def ClDet (cl:Nat→Hk D):Prop:=∀ (κ:Type) (p:(κ→R)→Prop) (F:Nat) (l:List V) (σ:H D) (f:V→H D→κ→R),(∀ u σ',Ext σ σ'→Det p (f u σ'))→Det p (λk=>cl F l σ (λu σ=>f u σ k))
theorem noCl_det:ClDet (noCl:Nat→Hk D):=λ_ _ _ _ _ _ _=>Det.no
theorem dGetO {x:Opd} {f:V→κ→R} (h:∀ u,opdV x L e=some u→Det p (f u)):Det p (λk=>getO x L e (λu=>f u k)):=by
 cases x with
 | l j=>exact Det.orE (f:=f) h
 | t q=>exact Det.orE (f:=f) h
 | c v=>exact h v rfl
 | bad=>exact Det.no
theorem dGetL:∀ {l:List Opd} {f:List V→κ→R},(∀ us,Det p (f us))→Det p (λk=>getL l L e (λu=>f u k))
 | [],f,h=>h []
 | x::l,f,h=>dGetO (f:=λu k=>getL l L e λus=>f (u::us) k) λu _=>dGetL λus=>h (u::us)
theorem evO_det (hcl:ClDet cl) {o:O} {f:V→H D→κ→R} (h:∀ u σ',Ext σ σ'→Det p (f u σ')):Det p (λk=>evO P cl false v o L e σ (λu σ=>f u σ k)):=by
 cases o with
 | op o args=>exact dGetL (f:=λvs k=>vK o vs v σ (λu σ=>f u σ k)) λus=>vK_det o us v σ h
 | pick c a b=>exact dGetO (f:=λc k=>c.onB (λc=>iff' c (getO a L e λv=>f v σ k) (getO b L e λv=>f v σ k)) 10) λc _=>Det.onB λc=>Det.iff (λ_=>dGetO (f:=λv k=>f v σ k) λu _=>h u σ (.refl _)) (λ_=>dGetO (f:=λv k=>f v σ k) λu _=>h u σ (.refl _))
 | call F args=>exact dGetL (f:=λl k=>cl F l σ (λu σ=>f u σ k)) λus=>hcl _ _ F us σ f h
 | callv g args=>exact dGetO (f:=λg k=>getL args L e λl=>g.onF (λF a c=>cl F ((a++l)++c) σ (λu σ=>f u σ k)) 101) λg _=>dGetL (f:=λl k=>g.onF (λF a c=>cl F ((a++l)++c) σ (λu σ=>f u σ k)) 101) λl=>Det.onF λF a c=>hcl _ _ F _ σ f h
 | inv name x args=>exact dGetO (f:=λx k=>getL args L e λl=>x.onQ (λt y=>orE (methF P t name) (λF=>cl F (y::l) σ (λu σ=>f u σ k)) 102) 103) λx _=>dGetL (f:=λl k=>x.onQ (λt y=>orE (methF P t name) (λF=>cl F (y::l) σ (λu σ=>f u σ k)) 102) 103) λl=>Det.onQ λt y=>Det.orE (f:=λF k=>cl F (y::l) σ (λu σ=>f u σ k)) λF _=>hcl _ _ F _ σ f h
 | nxt x=>exact dGetO (f:=λx k=>vNxt false x σ (λu σ=>f u σ k)) λx _=>dNxt h
 | bad n=>exact Det.no
theorem dGuard {g:Opd × Bool} {yes no:κ→R} (hy:Det p yes) (hn:Det p no):Det p (λk=>guarded g L e (yes k) (no k)):=by
 unfold guarded
 refine dGetO (f:=λy k=>y.onG (λy=>match g.2 with | true=>iff' y (yes k) (no k) | false=>iff' y (no k) (yes k)) (no k) 110) λy _=>Det.onG (f:=λy k=>match g.2 with | true=>iff' y (yes k) (no k) | false=>iff' y (no k) (yes k)) (λb=>?_) hn
 cases g.2
 ·exact Det.iff (λ_=>hn) λ_=>hy
 ·exact Det.iff (λ_=>hy) λ_=>hn
theorem evS_det (hcl:ClDet cl) {s:S} {f:Lc→H D→κ→R} (h:∀ L' σ',Ext σ σ'→Det p (f L' σ')):Det p (λk=>evS P cl false vs s L e σ (λL σ=>f L σ k)):=by
 unfold evS
 cases s.g with
 | none=>exact evO_det hcl (f:=λv σ k=>f (push s.d v L) σ k) λu σ' hσ=>h _ σ' hσ
 | some g =>
  exact dGuard (yes:=λk=>evO P cl false (vAt s.j vs) s.o L e σ λv σ=>f (push s.d v L) σ k) (no:=λk=>f (push s.d (.t []) L) σ k) (evO_det hcl (f:=λv σ k=>f (push s.d v L) σ k) λu σ' hσ=>h _ σ' hσ) (h _ _ (.refl _))
theorem evL_det (hcl:ClDet cl):∀ {l:List S} {L:Lc} {σ:H D} {f:Lc→H D→κ→R},(∀ L' σ',Ext σ σ'→Det p (f L' σ'))→Det p (λk=>evL P cl false vs e l L σ (λL σ=>f L σ k))
 | [],L,σ,f,h=>h _ _ (.refl _)
 | s::l,L,σ,f,h=>evS_det hcl (f:=λL σ k=>evL P cl false vs e l L σ (λL σ=>f L σ k)) λL' σ' hσ=>evL_det hcl λL2 σ2 h2=>h L2 σ2 (hσ.trans h2)
theorem keepE_det:∀ {kp:Kp} {e:E} {f:E→κ→R},(∀ e':E,(∀ q,q ∉ kp.map (·.2)→e'.getp q=e.getp q)→Det p (f e'))→Det p (λk=>keepE L kp e (λe=>f e k))
 | [],e,f,h=>h e λ_ _=>rfl
 | a::l,e,f,h=>dGetO (f:=λv k=>E.putp v a.2 e λe=>keepE L l e (λe=>f e k)) λv _=>by
  show Det p (λk=>E.putp v a.2 e λe=>keepE L l e (λe=>f e k))
  rcases putp_eq v a.2 e with⟨t',h2,h1⟩ | h1
  ·have:(λk=>E.putp v a.2 e λe=>keepE L l e (λe=>f e k))=λk=>keepE L l t' (λe=>f e k):=funext λk=>h1 _
   rw [this]
   refine keepE_det λe' he=>h e' λq hq=>?_
   simp at hq
   rw [he q (by simpa using hq.2),h2,if_neg hq.1]
  ·exact .inr ⟨3,λk=>h1 _⟩
theorem evPu_det {o:O} {f:V→κ→R} (h:∀ u,Det p (f u)):Det p (λk=>evPu P o L e σ (λu=>f u k)):=by
 unfold evPu
 cases pureO o with
 | true=>exact evO_det noCl_det (f:=λu _ k=>f u k) λu _ _=>h u
 | false=>exact Det.no
theorem evTO_det {o:O} {r:Pg} {f:V→Pg→κ→R} (h:∀ u r,Det p (f u r)):Det p (λk=>evTO P o L e σ r (λu r=>f u r k)):=by
 have other:Det p (λk=>match pureO o with | true=>evO P noCl false 0 o L e σ λv _=>f v r k | false=>R.no 106):=by
  cases pureO o with
  | true=>exact evO_det noCl_det (f:=λu _ k=>f u r k) λu _ _=>h u r
  | false=>exact Det.no
 unfold evTO
 split
 ·exact dGetO (f:=λx k=>vLdP x σ r λu r=>f u r k) λx _=>Det.onP λv off=>Det.cells λ_ _ c _ _=>Det.orE (f:=λu k=>f u ((v,off,u)::r) k) λu _=>h _ _
 ·exact dGetO (f:=λx k=>vLdAP _ x σ r λu r=>f u r k) λx _=>Det.onP λv off=>Det.cells λ_ _ c _ _=>Det.rdFrom (f:=λl k=>f (.a l) (pgs v off l r) k) λl=>h _ _
 ·exact other
theorem evT_det:∀ {l:List S} {L:Lc} {r:Pg} {f:Lc→Pg→κ→R},(∀ L r,Det p (f L r))→Det p (λk=>evT P e σ l L r (λL r=>f L r k))
 | [],L,r,f,h=>h _ _
 | s::l,L,r,f,h=>by
  show Det p (λk=>evTk P s L e σ r λL r=>evT P e σ l L r (λL r=>f L r k))
  unfold evTk
  cases s.g with
  | none=>exact evTO_det (f:=λv r k=>evT P e σ l (push s.d v L) r (λL r=>f L r k)) λu r=>evT_det h
  | some g=>exact dGuard (yes:=λk=>evTO P s.o L e σ r λv r=>evT P e σ l (push s.d v L) r (λL r=>f L r k)) (no:=λk=>evT P e σ l (push s.d (.t []) L) r (λL r=>f L r k)) (evTO_det (f:=λv r k=>evT P e σ l (push s.d v L) r (λL r=>f L r k)) λu r=>evT_det h) (evT_det h)
theorem holds_det {f:κ→R} (h:Det p f):∀ {r:Pg},Det p (λk=>holds σ r (f k))
 | []=>h
 | q::r=>Det.cells (f:=λ_ _ c _ _ k=>orE (c.get q.2.1) (λu=>iff' (vEq u q.2.2) (holds σ r (f k)) (R.no 122)) 123) λ_ _ c _ _=>Det.orE (f:=λu k=>iff' (vEq u q.2.2) (holds σ r (f k)) (R.no 122)) λu _=>Det.iff (λ_=>holds_det h) λ_=>Det.no
def allKeep (ds:List Vid):Pl→Prop
 | .done kp=>kp.map (·.2)=ds
 | .bad=>True
 | .take _ q=>allKeep ds q
 | .eff _ q=>allKeep ds q
 | .alt q q'=>allKeep ds q∧allKeep ds q'
theorem evP_det (hcl:ClDet cl) {r:Pg}:∀ {q:Pl} {L:Lc} {σ:H D} {f:E→H D→κ→R},(∀ (e':E) σ',Ext σ σ'→(∀ x,x ∉ keepsOf q→e'.getp x=e.getp x)→(∀ ds,allKeep ds q→keepsOf q=ds)→Det p (f e' σ'))→Det p (λk=>evP P cl false vs r e (λe σ=>f e σ k) q L σ)
 | .done kp,L,σ,f,h=>keepE_det (f:=λe k=>f e σ k) λe' he=>h e' σ (.refl _) he λds hd=>hd
 | .bad,L,σ,f,h=>Det.no
 | .take s q,L,σ,f,h=>by
  have key:∀ v,Det p (λk=>evP P cl false vs r e (λe σ=>f e σ k) q (push s.d v L) σ):=λv=>evP_det hcl λe' σ' h1 h2 h3=>h e' σ' h1 h2 h3
  show Det p (λk=>match s.g with
   | none=>evPu P s.o L e σ λv=>evP P cl false vs r e (λe σ=>f e σ k) q (push s.d v L) σ
   | some g=>bindK (λj=>guarded g L e (evPu P s.o L e σ λv=>j v) (j (.t []))) (λv=>evP P cl false vs r e (λe σ=>f e σ k) q (push s.d v L) σ))
  cases s.g with
  | none=>exact evPu_det (f:=λv k=>evP P cl false vs r e (λe σ=>f e σ k) q (push s.d v L) σ) key
  | some g=>exact dGuard (yes:=λk=>evPu P s.o L e σ λv=>evP P cl false vs r e (λe σ=>f e σ k) q (push s.d v L) σ) (no:=λk=>evP P cl false vs r e (λe σ=>f e σ k) q (push s.d (.t []) L) σ) (evPu_det (f:=λv k=>evP P cl false vs r e (λe σ=>f e σ k) q (push s.d v L) σ) key) (key _)
 | .eff s q,L,σ,f,h=>evS_det hcl (f:=λL σ k=>holds σ r (evP P cl false vs r e (λe σ=>f e σ k) q L σ)) λL' σ' hσ=>holds_det (f:=λk=>evP P cl false vs r e (λe σ=>f e σ k) q L' σ') (evP_det hcl λe' σ2 h1 h2 h3=>h e' σ2 (hσ.trans h1) h2 h3)
 | .alt q q',L,σ,f,h=>evP_det hcl (q:=q) λe' σ' h1 h2 h3=>h e' σ' h1 h2 λds hd=>h3 ds hd.1
theorem evDraw_det {cl:Bool→Nat→Hk D} (hcl:ClDet (cl false)) {l:List S} {q:Pl} {f:E→H D→κ→R} (h:∀ e' σ',Ext σ σ'→Det p (f e' σ')):Det p (λk=>evDraw P cl false vs l q e σ (λe σ=>f e σ k)):=by
 unfold evDraw
 refine evT_det (f:=λL r k=>match lone q with
  | true=>evP P (cl false) false vs r e (λe σ=>f e σ k) q L σ
  | false=>mergeR (keepsOf q) false σ (λmd σ k=>evP P (cl md) md vs r e k q L σ) (λe σ=>f e σ k)) λL r=>?_
 cases lone q with
 | true=>exact evP_det hcl λe' σ' h1 _ _=>h e' σ' h1
 | false=>exact evP_det hcl λe' σ' h1 _ _=>h e' σ' h1
theorem delE_det:∀ {ds:List Vid} {e:E} {f:E→κ→R},(∀ e',Det p (f e'))→Det p (λk=>delE ds e (λe=>f e k))
 | [],e,f,h=>h e
 | q::ds,e,f,h=>by
  show Det p (λk=>E.delp q e λe=>delE ds e (λe=>f e k))
  rcases delp_eq q e with⟨t',_,h1⟩ | h1
  ·have:(λk=>E.delp q e λe=>delE ds e (λe=>f e k))=λk=>delE ds t' (λe=>f e k):=funext λk=>h1 _
   rw [this];exact delE_det h
  ·exact .inr ⟨3,λk=>h1 _⟩
theorem room_det {n:Nat} {f:List Vid→H D→κ→R} (h:∀ vs σ',Ext σ σ'→Det p (f vs σ')):Det p (λk=>H.room n σ (λvs σ=>f vs σ k)):=by
 cases σ with
 | mk t nx lg =>
  have:∀ n m l,∃ l' m',∀ k:List Vid→H D→R,(Nat.rec (motive:=λ_=>Vid→List Vid→R) (λm l=>k l (.mk t m lg)) (λ_ ih m l=>fL (Nat.succ m) λm'=>ih m' (m::l)) n:Vid→List Vid→R) m l=k l' (.mk t m' lg):=by
   intro n
   induction n with
   | zero=>intro m l;exact⟨l,m,λ_=>rfl⟩
   | succ n ih=>intro m l;exact ih _ _
  obtain⟨l',m',hl⟩:=this n nx []
  have e:(λk=>H.room n (.mk t nx lg) (λvs σ=>f vs σ k))=f l' (.mk t m' lg):=funext λk=>hl (λvs σ=>f vs σ k)
  rw [e]
  exact h _ _ (Ext.same (λ_=>rfl) rfl)
theorem evC_det {fu:Nat} {cl:Bool→Nat→Hk D} (hcl:ClDet (cl false)):∀ (c:C) {e:E} {σ:H D} {fn:E→H D→κ→R} {fx:Nat→E→H D→κ→R} {fr:E→H D→κ→R},(∀ e' σ',Ext σ σ'→Det p (fn e' σ'))→(∀ i e' σ',Ext σ σ'→Det p (fx i e' σ'))→(∀ e' σ',Ext σ σ'→Det p (fr e' σ')) →
  Det p (λk=>evC P fu cl c false e σ (λe σ=>fn e σ k) (λi e σ=>fx i e σ k) (λe σ=>fr e σ k))
 | .skip,e,σ,fn,fx,fr,hn,hx,hr=>hn _ _ (.refl _)
 | .reg n l kp,e,σ,fn,fx,fr,hn,hx,hr=>by
  cases n with
  | zero=>exact evL_det hcl (f:=λL σ k=>keepE L kp e λe=>fn e σ k) λL' σ' hσ=>keepE_det (f:=λe k=>fn e σ' k) λe' _=>hn e' σ' hσ
  | succ n=>exact room_det (n:=n + 1) (f:=λvs σ k=>evL P (cl false) false vs e l [] σ λL σ=>keepE L kp e λe=>fn e σ k) λvs σ1 h1=>evL_det hcl (f:=λL σ k=>keepE L kp e λe=>fn e σ k) λL' σ' hσ=>keepE_det (f:=λe k=>fn e σ' k) λe' _=>hn e' σ' (h1.trans hσ)
 | .draw n l q,e,σ,fn,fx,fr,hn,hx,hr=>by
  cases n with
  | zero=>exact evDraw_det hcl hn
  | succ n=>exact room_det (n:=n + 1) (f:=λvs σ k=>evDraw P cl false vs l q e σ λe σ=>fn e σ k) λvs σ1 h1=>evDraw_det hcl λe' σ' hσ=>hn e' σ' (h1.trans hσ)
 | .seq a b,e,σ,fn,fx,fr,hn,hx,hr=>evC_det hcl a (fn:=λe σ k=>evC P fu cl b false e σ (λe σ=>fn e σ k) (λi e σ=>fx i e σ k) (λe σ=>fr e σ k)) (λe1 σ1 h1=>evC_det hcl b (λe' σ' h=>hn e' σ' (h1.trans h)) (λi e' σ' h=>hx i e' σ' (h1.trans h)) (λe' σ' h=>hr e' σ' (h1.trans h))) hx hr
 | .cond c a b,e,σ,fn,fx,fr,hn,hx,hr=>dGetO (f:=λc k=>c.onB (λc=>iff' c (evC P fu cl a false e σ (λe σ=>fn e σ k) (λi e σ=>fx i e σ k) (λe σ=>fr e σ k)) (evC P fu cl b false e σ (λe σ=>fn e σ k) (λi e σ=>fx i e σ k) (λe σ=>fr e σ k))) 140) λc _=>Det.onB λc=>Det.iff (λ_=>evC_det hcl a hn hx hr) λ_=>evC_det hcl b hn hx hr
 | .block id b,e,σ,fn,fx,fr,hn,hx,hr=>evC_det hcl b (fx:=λi e σ k=>iff' (Nat.beq i id) (fn e σ k) (fx i e σ k)) hn (λi e' σ' h=>Det.iff (λ_=>hn e' σ' h) λ_=>hx i e' σ' h) hr
 | .mrg id ds b,e,σ,fn,fx,fr,hn,hx,hr=>evC_det hcl b (fn:=λ_ _ _=>R.no 142) (fx:=λi e1 σ1 k=>iff' (Nat.beq i id) (delE ds e λe=>fn e σ1 k) (R.no 143)) (fr:=λ_ _ _=>R.no 145) (λ_ _ _=>Det.no) (λi e' σ' h=>Det.iff (λ_=>delE_det (f:=λe k=>fn e σ' k) λe2=>hn e2 σ' h) λ_=>Det.no) (λ_ _ _=>Det.no)
 | .loop b,e,σ,fn,fx,fr,hn,hx,hr=>by
  have:∀ n e1 σ1,Ext σ σ1→Det p (λk=>loopR n (λr e σ=>evC P fu cl b false e σ r (λi e σ=>fx i e σ k) (λe σ=>fr e σ k)) e1 σ1):=by
   intro n
   induction n with
   | zero=>intro e1 σ1 h1;exact Det.no
   | succ n ih=>intro e1 σ1 h1;exact evC_det hcl b (fn:=λe σ k=>loopR n (λr e σ=>evC P fu cl b false e σ r (λi e σ=>fx i e σ k) (λe σ=>fr e σ k)) e σ) (λe' σ' h=>ih e' σ' (h1.trans h)) (λi e' σ' h=>hx i e' σ' (h1.trans h)) (λe' σ' h=>hr e' σ' (h1.trans h))
  exact this fu e σ (.refl _)
 | .exit id,e,σ,fn,fx,fr,hn,hx,hr=>hx _ _ _ (.refl _)
 | .ret,e,σ,fn,fx,fr,hn,hx,hr=>hr _ _ (.refl _)
 | .bad n,e,σ,fn,fx,fr,hn,hx,hr=>Det.no
theorem resL_det:∀ {rs:List RV} {f:List V→κ→R},(∀ vs,Det p (f vs))→Det p (λk=>resL e σ rs (λvs=>f vs k))
 | [],f,h=>h []
 | r::l,f,h=>by
  have key:∀ v,Det p (λk=>resL e σ l λvs=>f (v::vs) k):=λv=>resL_det λvs=>h (v::vs)
  show Det p (λk=>resV r e σ λv=>resL e σ l λvs=>f (v::vs) k)
  cases r with
  | tmp q=>exact Det.orE (f:=λv k=>resL e σ l λvs=>f (v::vs) k) λv _=>key v
  | cell q n agg =>
   cases agg
   ·exact Det.orE (o:=e.getp q) (n:=151) (f:=λx k=>vLd x σ λv=>resL e σ l λvs=>f (v::vs) k) λx _=>dLd (f:=λv k=>resL e σ l λvs=>f (v::vs) k) key
   ·exact Det.orE (o:=e.getp q) (n:=151) (f:=λx k=>vLdA n x σ λv=>resL e σ l λvs=>f (v::vs) k) λx _=>dLdA (f:=λv k=>resL e σ l λvs=>f (v::vs) k) key
  | bad=>exact Det.no
theorem evRet_det {rs:List RV} {f:V→H D→κ→R} (h:∀ u,Det p (f u σ)):Det p (λk=>evRet rs (λu σ=>f u σ k) e σ):=by
 unfold evRet
 refine resL_det (f:=λvs k=>match vs with | [v]=>f v σ k | vs=>f (.t vs) σ k) λvs=>?_
 split
 ·exact h _
 ·exact h _
theorem argE_det {np:Nat} {l:List V} {f:E→κ→R} (h:∀ e,Det p (f e)):Det p (λk=>argE np l (λe=>f e k)):=by
 exact Det.iff (λ_=>h _) λ_=>Det.no
structure FxDet (h:Fx D):Prop where
 det:∀ (fu:Nat) (cl:Bool→Nat→Hk D),ClDet (cl false)→∀ (κ:Type) (p:(κ→R)→Prop) (l:List V) (σ:H D) (f:V→H D→κ→R),(∀ u σ',Ext σ σ'→Det p (f u σ'))→Det p (λk=>h fu cl false l σ (λu σ=>f u σ k))
theorem evFn_det {A:Nat→Adv} {F:Nat}:FxDet (evFn (D:=D) P A F):=⟨λfu cl hcl κ p l σ f h=>by
 unfold evFn
 cases fnC P A F with
 | none=>exact Det.no
 | mk np c rs =>
  refine argE_det (f:=λe k=>evC P fu cl c false e σ (evRet rs λu σ=>f u σ k) (λ_=>noK 161) (evRet rs λu σ=>f u σ k)) λe=>?_
  have hr:∀ e' σ',Ext σ σ'→Det p (λk=>evRet rs (λu σ=>f u σ k) e' σ'):=λe' σ' hσ=>evRet_det λu=>h u σ' hσ
  exact evC_det hcl c (fn:=λe σ k=>evRet rs (λu σ=>f u σ k) e σ) (fx:=λ_ _ _ _=>R.no 161) (fr:=λe σ k=>evRet rs (λu σ=>f u σ k) e σ) hr (λ_ _ _ _=>Det.no) hr⟩
theorem evF_det {T:T4 (Fx D)} {fu:Nat} (hT:∀ q h,T.getp q=some h→FxDet h):∀ fuel,ClDet (evF T fu fuel false)
 | 0=>λ_ _ _ _ _ _ _=>Det.no
 | fuel + 1=>λκ p F l σ f h=>Det.iff (λ_=>Det.orE (f:=λh k=>h fu (evF T fu fuel) false l σ (λu σ=>f u σ k)) λg hg=>(hT _ g hg).det fu _ (evF_det hT fuel) κ p l σ f h) λ_=>Det.no
end
theorem both_and {a b:Bool} (h:both a b=true):a=true∧b=true:=both_ok.1 h
theorem seq2_ok:∀ {a b:List Nat},seq'' a b=true→a=b
 | [],[],_=>rfl
 | [],_::_,h=>by cases h
 | _::_,[],h=>by cases h
 | a::l,b::m,h=>by
  simp only [seq''] at h
  split at h <;> try (cases h;done)
  rename_i hb
  rw [kB hb,seq2_ok h]
theorem cpEq_ok {a b:Cp} (h:cpEq a b=true):a=b:=by
 cases a <;> cases b <;> first | (rw [kB (show Nat.beq _ _=true from h)]) | cases h
mutual
theorem vEq_ok:∀ (x y:V),vEq x y=true→x=y
 | .b x,y,h=>by
  cases y <;> simp only [vEq] at h <;> try (cases h;done)
  rw [beq_iff_eq.1 h]
 | .i k a,y,h=>by
  cases y <;> simp only [vEq] at h <;> try (cases h;done)
  split at h <;> try (cases h;done)
  rename_i hk
  rw [ieq_eq] at h
  rw [kIx_eq hk,beq_iff_eq.1 h]
 | .s a,y,h=>by
  cases y <;> simp only [vEq] at h <;> try (cases h;done)
  rw [seq2_ok h]
 | .p v o,y,h=>by
  cases y <;> simp only [vEq] at h <;> try (cases h;done)
  split at h <;> try (cases h;done)
  rename_i hv
  rw [vidEq_ok.1 hv,kB h]
 | .np,y,h=>by cases y <;> simp only [vEq] at h <;> first | rfl | (cases h;done)
 | .sl v o n c,y,h=>by
  cases y <;> simp only [vEq] at h <;> try (cases h;done)
  split at h <;> try (cases h;done)
  rename_i h1 h2 h3 h4
  rw [vidEq_ok.1 h1,kB h2,kB h3,cpEq_ok h4]
 | .se v o r q s,y,h=>by
  cases y <;> simp only [vEq] at h <;> try (cases h;done)
  split at h <;> try (cases h;done)
  rename_i h1 h2 h3 h4 h5
  rw [vidEq_ok.1 h1,kB h2,kB h3,kB h4,kB h5]
 | .ns,y,h=>by cases y <;> simp only [vEq] at h <;> first | rfl | (cases h;done)
 | .m v,y,h=>by
  cases y <;> simp only [vEq] at h <;> try (cases h;done)
  rw [vidEq_ok.1 h]
 | .nm,y,h=>by cases y <;> simp only [vEq] at h <;> first | rfl | (cases h;done)
 | .f F a c,y,h=>by
  cases y <;> simp only [vEq] at h <;> try (cases h;done)
  split at h <;> try (cases h;done)
  rename_i h1 h2 h3
  rw [kB h1,vEqs_ok _ _ h2,vEqs_ok _ _ h3]
 | .nf,y,h=>by cases y <;> simp only [vEq] at h <;> first | rfl | (cases h;done)
 | .q t x,y,h=>by
  cases y <;> simp only [vEq] at h <;> try (cases h;done)
  split at h <;> try (cases h;done)
  rename_i h1
  rw [kB h1,vEq_ok _ _ h]
 | .nq,y,h=>by cases y <;> simp only [vEq] at h <;> first | rfl | (cases h;done)
 | .a l,y,h=>by
  cases y <;> simp only [vEq] at h <;> try (cases h;done)
  rw [vEqs_ok _ _ h]
 | .t l,y,h=>by
  cases y <;> simp only [vEq] at h <;> try (cases h;done)
  rw [vEqs_ok _ _ h]
 | .w f n,y,h=>by cases y <;> simp only [vEq] at h <;> (cases h;done)
theorem vEqs_ok:∀ (x y:List V),vEqs x y=true→x=y
 | [],y,h=>by cases y <;> simp only [vEqs] at h <;> first | rfl | (cases h;done)
 | x::l,y,h=>by
  cases y <;> simp only [vEqs] at h <;> try (cases h;done)
  split at h <;> try (cases h;done)
  rename_i h1
  rw [vEq_ok _ _ h1,vEqs_ok _ _ h]
end
theorem oEq_ok {x y:Option V} (h:oEq x y=true):x=y:=by
 cases x <;> cases y <;> first | rfl | (cases (show false=true from h);done) | (rw [vEq_ok _ _ (show vEq _ _=true from h)])
theorem e8Eq_ok {α:Type} {f:α→α→Bool} (hf:∀ x y,f x y=true→x=y) {a b:E8 α} (h:e8Eq f a b=true):a=b:=by
 obtain⟨h0,h⟩:=both_and (show both _ _=true from h)
 obtain⟨h1,h⟩:=both_and h
 obtain⟨h2,h⟩:=both_and h
 obtain⟨h3,h⟩:=both_and h
 obtain⟨h4,h⟩:=both_and h
 obtain⟨h5,h⟩:=both_and h
 obtain⟨h6,h7⟩:=both_and h
 cases a;cases b
 simp only at h0 h1 h2 h3 h4 h5 h6 h7
 rw [hf _ _ h0,hf _ _ h1,hf _ _ h2,hf _ _ h3,hf _ _ h4,hf _ _ h5,hf _ _ h6,hf _ _ h7]
theorem trEq_ok (c c':Tr V) (h:trEq c c'=true):c=c':=by
 have k1:∀ a b:T1 V,T1.eq a b=true→a=b:=λa b h=>e8Eq_ok (λ_ _ h=>oEq_ok h) h
 have k2:∀ a b:T2 V,T2.eq a b=true→a=b:=λa b h=>e8Eq_ok k1 h
 have k3:∀ a b:T3 V,T3.eq a b=true→a=b:=λa b h=>e8Eq_ok k2 h
 have k4:∀ a b:T4 V,T4.eq a b=true→a=b:=λa b h=>e8Eq_ok k3 h
 have k5:∀ a b:T5 V,T5.eq a b=true→a=b:=λa b h=>e8Eq_ok k4 h
 cases c with
 | t1 a =>
  cases c' with
  | t1 b=>rw [k1 a b h]
  | t2 b=>cases (show false=true from h)
  | t3 b=>cases (show false=true from h)
  | t4 b=>cases (show false=true from h)
  | t5 b=>cases (show false=true from h)
 | t2 a =>
  cases c' with
  | t2 b=>rw [k2 a b h]
  | t1 b=>cases (show false=true from h)
  | t3 b=>cases (show false=true from h)
  | t4 b=>cases (show false=true from h)
  | t5 b=>cases (show false=true from h)
 | t3 a =>
  cases c' with
  | t3 b=>rw [k3 a b h]
  | t1 b=>cases (show false=true from h)
  | t2 b=>cases (show false=true from h)
  | t4 b=>cases (show false=true from h)
  | t5 b=>cases (show false=true from h)
 | t4 a =>
  cases c' with
  | t4 b=>rw [k4 a b h]
  | t1 b=>cases (show false=true from h)
  | t2 b=>cases (show false=true from h)
  | t3 b=>cases (show false=true from h)
  | t5 b=>cases (show false=true from h)
 | t5 a =>
  cases c' with
  | t5 b=>rw [k5 a b h]
  | t1 b=>cases (show false=true from h)
  | t2 b=>cases (show false=true from h)
  | t3 b=>cases (show false=true from h)
  | t4 b=>cases (show false=true from h)
theorem kpSame_ok {x y:KP} (h:kpSame x y=true):x=y:=by
 cases x <;> cases y <;> first | rfl | (rw [kIx_eq (show Nat.beq (kIx _) (kIx _)=true from h)]) | cases h
theorem kpsSame_ok:∀ {x y:List KP},kpsSame x y=true→x=y
 | [],[],_=>rfl
 | [],_::_,h=>by cases h
 | _::_,[],h=>by cases h
 | x::l,y::m,h=>by
  simp only [kpsSame] at h
  split at h <;> try (cases h;done)
  rename_i hb
  rw [kpSame_ok hb,kpsSame_ok h]
theorem ksSame_ok {x y:KS} (h:ksSame x y=true):x=y:=by
 cases x <;> cases y <;> first | (rw [kpSame_ok (show kpSame _ _=true from h)]) | (rw [kpsSame_ok (show kpsSame _ _=true from h)]) | cases h
theorem memKV_ok {x y:V}:∀ {m:List (V × V)},memKV x y m=true→(x,y)∈m
 | [],h=>by cases (show false=true from h)
 | q::m,h=>by
  have h':Bool.rec (motive:=λ_=>Bool) (memKV x y m) (vEq y q.2) (vEq x q.1)=true:=h
  cases h1:vEq x q.1 with
  | false=>rw [h1] at h';exact List.mem_cons_of_mem _ (memKV_ok h')
  | true =>
   rw [h1] at h'
   have e1:=vEq_ok _ _ h1
   have e2:=vEq_ok _ _ (show vEq y q.2=true from h')
   subst e1 e2
   simp
theorem esEq_ok:∀ {l m:List (V × V)},esEq l m=true→∀ p∈l,p∈m
 | [],m,_,p,hp=>by cases hp
 | q::l,m,h,p,hp=>by
  obtain⟨h1,h2⟩:=both_and (show both (memKV q.1 q.2 m) (esEq l m)=true from h)
  cases hp with
  | head=>exact memKV_ok h1
  | tail _ hp=>exact esEq_ok h2 p hp
section
variable {D:Type}
def BSame (b b':Blk D):Prop:=b=b'∨∃ kT ks es es' ver,b=.map kT ks es ver∧b'=.map kT ks es' ver∧es.length=es'.length∧(∀ p∈es,p∈es')∧∀ p∈es',p∈es
def OSame:Option (Blk D)→Option (Blk D)→Prop
 | none,none=>True
 | some b,some b'=>BSame b b'
 | _,_=>False
theorem OSame.refl (x:Option (Blk D)):OSame x x:=by cases x;trivial;exact .inl rfl
theorem OSame.of_eq {x y:Option (Blk D)} (h:x=y):OSame x y:=h ▸ OSame.refl x
theorem blkEq_ok {b b':Blk D} (h:blkEq b b'=true):BSame b b':=by
 cases b <;> cases b' <;> simp only [blkEq] at h <;> try (cases h;done)
 ·obtain⟨h1,h⟩:=both_and h
  obtain⟨h2,h⟩:=both_and h
  obtain⟨h3,h⟩:=both_and h
  obtain⟨h4,h5⟩:=both_and h
  rw [beq_iff_eq.1 h1,kB h2,kB h3,kB h4,trEq_ok _ _ h5]
  exact .inl rfl
 ·obtain⟨h1,h⟩:=both_and h
  obtain⟨h2,h⟩:=both_and h
  obtain⟨h3,h⟩:=both_and h
  obtain⟨h4,h⟩:=both_and h
  obtain⟨h5,h6⟩:=both_and h
  rw [kB h1,ksSame_ok h2,kB h3]
  exact .inr ⟨_,_,_,_,_,rfl,rfl,kB h4,esEq_ok h5,esEq_ok h6⟩
 ·exact .inl rfl
theorem logEq_ok {h h':T5 (Blk D)}:∀ {l:List Vid},logEq l h h'=true→∀ v∈l,OSame (h.getp v) (h'.getp v)
 | [],_,v,hv=>by cases hv
 | u::l,hl,v,hv=>by
  have h1:Option.rec (motive:=λ_=>Bool) false (λb=>Option.rec (motive:=λ_=>Bool) false (λb'=>both (blkEq b b') (logEq l h h')) (h'.getp u)) (h.getp u)=true:=hl
  cases e1:h.getp u with
  | none=>rw [e1] at h1;cases h1
  | some b =>
   cases e2:h'.getp u with
   | none=>rw [e1,e2] at h1;cases h1
   | some b' =>
    rw [e1,e2] at h1
    obtain⟨h3,h4⟩:=both_and (show both (blkEq b b') (logEq l h h')=true from h1)
    cases hv with
    | head=>rw [e1,e2];exact blkEq_ok h3
    | tail _ hv=>exact logEq_ok h4 v hv
theorem hEq_ok {σ0 σ σ':H D} (h:hEq σ σ'=true) (h1:Ext σ0 σ) (h2:Ext σ0 σ') (h0:σ0.log=[]):∀ v,OSame (σ.look v) (σ'.look v):=by
 obtain⟨l1,e1,f1⟩:=h1
 obtain⟨l2,e2,f2⟩:=h2
 intro v
 cases σ with
 | mk t nx lg =>
 cases σ' with
 | mk t' nx' lg' =>
 obtain⟨_,h⟩:=both_and (show both (vidEq nx nx') (both (logEq lg t t') (logEq lg' t t'))=true from h)
 obtain⟨h3,h4⟩:=both_and h
 have e1':lg=l1:=by have:lg=l1++σ0.log:=e1;rw [this,h0];simp
 have e2':lg'=l2:=by have:lg'=l2++σ0.log:=e2;rw [this,h0];simp
 subst e1' e2'
 by_cases m1:v∈lg
 ·exact logEq_ok h3 v m1
 ·by_cases m2:v∈lg'
  ·exact logEq_ok h4 v m2
  ·exact OSame.of_eq ((f1 v m1).trans (f2 v m2).symm)
theorem eEq_ok {e e':E}:∀ {ds:List Vid},eEq ds e e'=true→∀ q∈ds,e.getp q=e'.getp q
 | [],_,q,hq=>by cases hq
 | d::ds,h,q,hq=>by
  have h1:Option.rec (motive:=λ_=>Bool) false (λu=>Option.rec (motive:=λ_=>Bool) false (λu'=>both (vEq u u') (eEq ds e e')) (e'.getp d)) (e.getp d)=true:=h
  cases e1:e.getp d with
  | none=>rw [e1] at h1;cases h1
  | some u =>
   cases e2:e'.getp d with
   | none=>rw [e1,e2] at h1;cases h1
   | some u' =>
    rw [e1,e2] at h1
    obtain⟨h3,h4⟩:=both_and (show both (vEq u u') (eEq ds e e')=true from h1)
    cases hq with
    | head=>rw [e1,e2,vEq_ok _ _ h3]
    | tail _ hq=>exact eEq_ok h4 q hq
theorem perm_of {α:Type}:∀ {l m:List α},l.Nodup→(∀ p∈l,p∈m)→m.length=l.length→l.Perm m
 | [],m,_,_,h=>by
  have:m=[]:=List.eq_nil_of_length_eq_zero (by simpa using h)
  subst this;exact .refl _
 | a::l,m,hn,hs,h=>by
  obtain⟨l1,l2,rfl⟩:=List.append_of_mem (hs a (by simp))
  obtain⟨h1,h2⟩:=List.nodup_cons.1 hn
  have:=perm_of (l:=l) (m:=l1++l2) h2 (λp hp=>by
   have:=hs p (by simp [hp])
   rcases List.mem_append.1 this with h | h
   ·simp [h]
   ·rcases List.mem_cons.1 h with rfl | h
    ·exact absurd hp h1
    ·simp [h]) (by simp at h ⊢;omega)
  exact (List.Perm.cons a this).trans List.perm_middle.symm
variable {P:Program} {Hd:D→Loc→View→Prop} {w0:Base} {φ:Phi} {σ σ':H D} {w:World}
theorem MapAt'.perm {ks:KS} {arr:Array MapEntry} {clock:Nat} {es es':List (V × V)} (h:MapAt' φ ks arr clock es) (hl:es.length=es'.length) (h1:∀ p∈es,p∈es') (h2:∀ p∈es',p∈es):MapAt' φ ks arr clock es':=by
 refine⟨h.st,h.size.trans hl,λp hp=>h.shape p (h2 p hp),λe he=>let ⟨p,hp,a⟩:=h.to_ e he;⟨p,h1 p hp,a⟩,λp hp=>h.of p (h2 p hp),?_⟩
 have hnd:es.Nodup:=h.nd.imp_of_mem λ{p q} hp hq hpq e=>by
  subst e
  obtain⟨e,_,b,_⟩:=h.of p hp
  exact hpq _ b b
 exact ((perm_of hnd h1 hl.symm).pairwise_iff (λ{p q} hpq a ha hb=>hpq a hb ha)).1 h.nd
theorem Rel.perm (h:Rel P Hd w0 φ σ w) (hs:∀ v,OSame (σ.look v) (σ'.look v)):Rel P Hd w0 φ σ' w:=by
 have back:∀ {v b'},σ'.look v=some b'→∃ b,σ.look v=some b∧BSame b b':=by
  intro v b' hv
  have:=hs v
  rw [hv] at this
  cases hb:σ.look v with
  | none=>rw [hb] at this;exact this.elim
  | some b=>rw [hb] at this;exact⟨b,rfl,this⟩
 have live:∀ {b b':Blk D},BSame b b'→Live b'→Live b:=by
  rintro b b' (rfl | ⟨_,_,_,_,_,rfl,rfl,_⟩) h
  ·exact h
  ·trivial
 refine⟨h.keeps,λv hv=>h.gone v ?_,λv b' hv hd=>?_,λv v' b b' L L' h1 h2 h3 h4 h5 h6 h7=>?_⟩
 ·have:=hs v
  rw [hv] at this
  cases hb:σ.look v with
  | none=>rfl
  | some b=>rw [hb] at this;exact this.elim
 ·obtain⟨b,hb,hS⟩:=back hv
  rcases hS with rfl | ⟨kT,ks,es,es',ver,rfl,rfl,hl,g1,g2⟩
  ·obtain⟨L,hL,hB⟩:=h.blk v b hb hd
   refine⟨L,hL,?_⟩
   cases b with
   | cells=>exact hB
   | map=>exact hB
   | iter m vr la re =>
    obtain⟨a1,a2,Lm,since,seen,st,a3,a4,kT,ks,es,ver',a5,a6,a7⟩:=hB
    have:=hs m
    rw [a5] at this
    cases hm:σ'.look m with
    | none=>rw [hm] at this;exact this.elim
    | some bm =>
     rw [hm] at this
     rcases this with rfl | ⟨kT',ks',es1,es',ver1,e1,rfl,_⟩
     ·exact⟨a1,a2,Lm,since,seen,st,a3,a4,kT,ks,es,ver',hm,a6,a7⟩
     ·cases e1;exact⟨a1,a2,Lm,since,seen,st,a3,a4,kT,ks,es',ver',hm,a6,a7⟩
   | opq d =>
    obtain⟨Hv,b1,b2,b3⟩:=hB
    refine⟨Hv,b1,b2,λi ob hi v' b' L' c1 c2 c3=>?_⟩
    obtain⟨b0,d1,d2⟩:=back c1
    exact b3 i ob hi v' b0 L' d1 (live d2 c2) c3
   | dead=>exact absurd rfl hd
  ·obtain⟨L,hL,a1,a2,arr,clock,a3,a4⟩:=h.blk v _ hb (by simp)
   exact⟨L,hL,a1,a2,arr,clock,a3,a4.perm hl g1 g2⟩
 ·obtain⟨c,d1,d2⟩:=back h1
  obtain⟨c',d3,d4⟩:=back h3
  exact h.inj v v' c c' L L' d1 (live d2 h2) d3 (live d4 h4) h5 h6 h7
end
theorem path_inj {s t:Nat} (_:s < 4000) (_:t < 4000) (h:path s=path t):s=t:=h
theorem memN_iff {t:Nat}:∀ {l:List Nat},memN t l=true↔t∈l
 | []=>by simp [memN]
 | s::l=>by
  simp only [memN]
  cases hb:Nat.beq s t with
  | true=>have:=kB hb;subst this;simp
  | false =>
   have hne:s≠t:=λe=>by subst e;simp at hb
   simp only [memN_iff (l:=l),List.mem_cons]
   exact⟨.inr,λh=>h.resolve_left λe=>hne e.symm⟩
theorem idxOf_shift (t:Nat):∀ (l:List (Option Nat)) (n:Nat),idxOf t l n=(idxOf t l 0).map (· + n)
 | [],n=>rfl
 | none::l,n=>by
  simp only [idxOf]
  rw [idxOf_shift t l (n + 1),idxOf_shift t l 1]
  cases idxOf t l 0 <;> simp;omega
 | some s::l,n=>by
  simp only [idxOf]
  cases hb:Nat.beq s t with
  | true=>simp
  | false =>
   simp only
   rw [idxOf_shift t l (n + 1),idxOf_shift t l 1]
   cases idxOf t l 0 <;> simp;omega
structure Fr (n:Nat) (K:List Nat) (φ:Phi) (loc:List (Option Nat)) (L:Lc) (e:E) (a:Act):Prop where
 size:a.tmps.size=n
 defers:a.defers=[]
 tmp:∀ t k u,idxOf t loc 0=some k→nth k L=some u→dec φ u=some (a.tmps.getD t undef)
 env:∀ t u,t < 4000→idxOf t loc 0=none→e.getp (path t)=some u→dec φ u=some (a.tmps.getD t undef)
 eK:∀ t,t < 4000→(e.getp (path t)).isSome=true→memN t K=true
section
variable {n:Nat} {K:List Nat} {φ φ':Phi} {loc:List (Option Nat)} {L:Lc} {e:E} {a:Act}
theorem Fr.mono (h:Fr n K φ loc L e a) (hle:φ.le φ'):Fr n K φ' loc L e a :=
 ⟨h.size,h.defers,λt k u h1 h2=>dec_mono hle _ _ (h.tmp t k u h1 h2),λt u h1 h2 h3=>dec_mono hle _ _ (h.env t u h1 h2 h3),h.eK⟩
theorem Fr.cx (h:Fr n K φ loc L e a):Cx φ loc L e a.eval:=by
 refine⟨λt u hu=>?_,λ_=>rfl,λ_=>rfl⟩
 unfold tmpO at hu
 cases hi:idxOf t loc 0 with
 | some k=>rw [hi] at hu;exact h.tmp t k u hi hu
 | none =>
  rw [hi] at hu
  simp only at hu
  cases hb:Nat.blt t 4000 with
  | false=>rw [hb] at hu;cases hu
  | true=>rw [hb] at hu;exact h.env t u (by simpa using hb) hi hu
theorem Fr.push (h:Fr n K φ loc L e a) {o:Oper} (hd:∀ t,o.dst=some t→t < n) {v:V} {y:Value} (hv:dec φ v=some y):Fr n K φ (cons o loc) (push (match o.dst with | some _=>true | none=>false) v L) e (a.put o.dst y):=by
 unfold cons
 cases ho:o.dst with
 | none=>exact h
 | some d =>
  have hdn:=hd d ho
  show Fr n K φ (some d::loc) (v::L) e (a.put (some d) y)
  have hs:=h.size
  have hset:(a.put (some d) y).tmps.getD d undef=y:=by simp [Act.put,Array.getD_eq_getD_getElem?,hs,hdn]
  refine⟨by simp [Act.put,h.size],by simp [Act.put,h.defers],λt k u h1 h2=>?_,λt u h1 h2 h3=>?_,h.eK⟩
  ·simp only [idxOf] at h1
   cases hb:Nat.beq d t with
   | true =>
    have:=kB hb
    subst this
    rw [hb] at h1;cases h1
    simp [nth_eq] at h2
    subst h2
    rw [hset];exact hv
   | false =>
    have hne:t≠d:=λe=>by subst e;simp at hb
    rw [hb] at h1
    simp only at h1
    rw [idxOf_shift] at h1
    obtain⟨k',h4,rfl⟩:=kE h1
    rw [getD_put hne]
    exact h.tmp t k' u h4 h2
  ·simp only [idxOf] at h2
   cases hb:Nat.beq d t with
   | true=>rw [hb] at h2;cases h2
   | false =>
    have hne:t≠d:=λe=>by subst e;simp at hb
    rw [hb] at h2
    simp only at h2
    rw [idxOf_shift] at h2
    rw [getD_put hne]
    exact h.env t u h1 (by simpa using h2) h3
theorem keepL_mem {K:List Nat} {t:Nat}:∀ {l acc:List Nat},t∈keepL K l acc↔t∈acc∨(t∈l∧memN t K=true)
 | [],acc=>by simp [keepL]
 | s::l,acc=>by
  unfold keepL
  split
  ·rename_i h1 h2
   rw [keepL_mem]
   constructor
   ·rintro (h | ⟨h,h'⟩)
    ·rcases List.mem_cons.1 h with rfl | h
     ·exact .inr ⟨by simp,h1⟩
     ·exact .inl h
    ·exact .inr ⟨by simp [h],h'⟩
   ·rintro (h | ⟨h,h'⟩)
    ·exact .inl (by simp [h])
    ·rcases List.mem_cons.1 h with rfl | h
     ·exact .inl (by simp)
     ·exact .inr ⟨h,h'⟩
  ·rename_i h1
   rw [keepL_mem]
   constructor
   ·rintro (h | ⟨h,h'⟩)
    ·exact .inl h
    ·exact .inr ⟨by simp [h],h'⟩
   ·rintro (h | ⟨h,h'⟩)
    ·exact .inl h
    ·rcases List.mem_cons.1 h with rfl | h
     ·cases h2:memN t acc with
      | true=>exact .inl (memN_iff.1 h2)
      | false=>exact (h1 h' h2).elim
     ·exact .inr ⟨h,h'⟩
theorem keepE_ok:∀ {ts:List Nat} {e:E} {k:E→R},Fr n K φ loc L e a→(∀ t∈ts,t < 4000∧memN t K=true)→keepE L (keepOf loc ts) e k=.ok →
  ∃ e',k e'=.ok∧Fr n K φ loc L e' a∧(∀ t∈ts,∀ u,e'.getp (path t)=some u→dec φ u=some (a.tmps.getD t undef))∧∀ q,q ∉ ts.map path→e'.getp q=e.getp q
 | [],e,k,hF,_,h=>⟨e,h,hF,by simp,λ_ _=>rfl⟩
 | s::ts,e,k,hF,hts,h=>by
  obtain⟨hs,hsK⟩:=hts s (by simp)
  obtain⟨v,h1,h2⟩:=getO_ok (show getO (tmpO loc s) L e (λv=>E.putp v (path s) e λe=>keepE L (keepOf loc ts) e k)=.ok from h)
  have hv:dec φ v=some (a.tmps.getD s undef):=hF.cx.tmp s v h1
  obtain⟨e1,h3,h4⟩:=putp_ok h2
  have hF1:Fr n K φ loc L e1 a:=by
   refine⟨hF.size,hF.defers,hF.tmp,λt u ht hi hu=>?_,λt ht hu=>?_⟩
   ·rw [h3] at hu
    by_cases e0:path t=path s
    ·rw [if_pos e0] at hu;cases hu
     have:=path_inj ht hs e0
     subst this;exact hv
    ·rw [if_neg e0] at hu;exact hF.env t u ht hi hu
   ·rw [h3] at hu
    by_cases e0:path t=path s
    ·have:=path_inj ht hs e0
     subst this;exact hsK
    ·rw [if_neg e0] at hu;exact hF.eK t ht hu
  obtain⟨e2,g1,g2,g3,g4⟩:=keepE_ok hF1 (λt ht=>hts t (by simp [ht])) h4
  have g4':∀ t,t < 4000→t ∉ ts→e2.getp (path t)=e1.getp (path t):=λt ht hm=>g4 _ (by
   intro hh
   obtain⟨s',hs',he⟩:=List.mem_map.1 hh
   have:=path_inj (hts s' (by simp [hs'])).1 ht he
   subst this;exact hm hs')
  refine⟨e2,g1,g2,λt ht u hu=>?_,λq hq=>?_⟩
  ·by_cases hm:t∈ts
   ·exact g3 t hm u hu
   ·have:t=s:=by rcases List.mem_cons.1 ht with h | h;exact h;exact absurd h hm
    subst this
    rw [g4' t hs hm,h3,if_pos rfl] at hu
    cases hu;exact hv
  ·rw [List.map_cons,List.mem_cons,not_or] at hq
   rw [g4 q hq.2,h3,if_neg hq.1]
theorem Fr.close {all:List Nat} {k:E→R} (h:Fr n K φ loc L e a) (hn:n < 4000) (hb:bltAll n all=true) (hl:∀ t j,idxOf t loc 0=some j→t∈all) (hk:keepE L (keepOf loc (keepL K all [])) e k=.ok) :
  ∃ e',k e'=.ok∧Fr n K φ [] [] e' a∧∀ q,q ∉ (keepL K all []).map path→e'.getp q=e.getp q:=by
 have hlt:∀ t∈all,t < n:=by
  have:∀ l:List Nat,bltAll n l=true→∀ t∈l,t < n:=by
   intro l
   induction l with
   | nil=>intro _ t ht;cases ht
   | cons s l ih =>
    intro hb t ht
    obtain⟨h1,h2⟩:=bltAll_cons hb
    rcases List.mem_cons.1 ht with rfl | ht
    ·exact h1
    ·exact ih h2 t ht
  exact this all hb
 obtain⟨e',h1,h2,h3,h4⟩:=keepE_ok h (λt ht=>by
  rcases keepL_mem.1 ht with h | ⟨h,h'⟩
  ·cases h
  ·exact⟨Nat.lt_trans (hlt t h) hn,h'⟩) hk
 refine⟨e',h1,⟨h.size,h.defers,λt k u hi=>(by cases hi),λt u ht _ hu=>?_,h2.eK⟩,h4⟩
 by_cases hm:t∈keepL K all []
 ·exact h3 t hm u hu
 ·have hK:=h2.eK t ht (by rw [hu];rfl)
  cases hi:idxOf t loc 0 with
  | none=>exact h2.env t u ht hi hu
  | some j=>exact absurd (keepL_mem.2 (.inr ⟨hl t j hi,hK⟩)) hm
theorem Fr.congr {e':E} (h:Fr n K φ loc L e a) (he:∀ q,e'.getp q=e.getp q):Fr n K φ loc L e' a :=
 ⟨h.size,h.defers,h.tmp,λt u h1 h2 h3=>h.env t u h1 h2 (by rw [← he];exact h3),λt h1 h2=>h.eK t h1 (by rw [← he];exact h2)⟩
end
section
variable {D:Type} {P:Program} {Hd:D→Loc→View→Prop} {w0:Base} {w:World} {φ:Phi} {loc:List (Option Nat)} {L:Lc} {e:E} {a:Act} {o:Oper} {σ:H D} {cl:Nat→Hk D} {v:Vid} {vs:List Vid} {n:Nat} {K:List Nat} {ops:Array Oper}
def Gd (g:Option (Opd × Bool)) (L:Lc) (e:E) (yes no:R):Prop:=match g with
 | none=>yes=.ok
 | some g=>guarded g L e yes no=.ok
theorem guard_ok {g:Option (Opd × Bool)} {j:Nat} {yes no:R} (hF:Fr n K φ loc L e a) (hg:(compS P ops loc o j).g=g) (h:Gd g L e yes no) :
  (Region.wanted o (yielded ops a.tmps)=true∧yes=.ok)∨(Region.wanted o (yielded ops a.tmps)=false∧no=.ok):=by
 have hg':(match o.guard with
   | none=>none
   | some (i,b)=>match (ops[i]?).bind (·.dst) with
    | some t=>some (tmpO loc t,b)
    | none=>some (.bad,b))=g:=hg
 cases hgd:o.guard with
 | none =>
  rw [hgd] at hg'
  subst hg'
  exact .inl ⟨by simp [Region.wanted,hgd],h⟩
 | some ib =>
  obtain⟨i,b⟩:=ib
  rw [hgd] at hg'
  simp only at hg'
  cases hd:(ops[i]?).bind (·.dst) with
  | none =>
   rw [hd] at hg'
   subst hg'
   obtain⟨u,h1,_⟩:=getO_ok (show getO Opd.bad L e _=.ok from h)
   cases h1
  | some t =>
   rw [hd] at hg'
   subst hg'
   have h3:guarded (tmpO loc t,b) L e yes no=.ok:=h
   obtain⟨u,h1,h2⟩:=getO_ok (show getO (tmpO loc t) L e _=.ok from h3)
   have hv:dec φ u=some (a.tmps.getD t undef):=hF.cx.tmp t u h1
   have hy:yielded ops a.tmps i=match a.tmps.getD t undef with | .bool c=>some c | _=>none:=by
    unfold yielded
    rw [hd]
    simp only [Option.bind_some]
    rw [Array.getD_eq_getD_getElem?]
    cases a.tmps[t]? with
    | none=>rfl
    | some x=>cases x <;> rfl
   rcases onG_ok h2 with⟨c,rfl,h3⟩ | ⟨l,rfl,h3⟩
   ·have:=dec_b hv
    rw [this] at hy
    simp only at hy
    have hw:Region.wanted o (yielded ops a.tmps)=(c==b):=by simp [Region.wanted,hgd,hy]
    rw [hw]
    cases b <;> cases c <;> first | exact .inl ⟨rfl,h3⟩ | exact .inr ⟨rfl,h3⟩
   ·obtain⟨m,_,e1⟩:=dec_t hv
    rw [e1] at hy
    simp only at hy
    exact .inr ⟨by simp [Region.wanted,hgd,hy],h3⟩
theorem evS_ok {j:Nat} {k:Lc→H D→R} (hcl:ClOK P Hd w0 cl) (hF:Fr n K φ loc L e a) (hr:Rel P Hd w0 φ σ w) (h:evS P cl true vs (compS P ops loc o j) L e σ k=.ok) :
  (Region.wanted o (yielded ops a.tmps)=true∧OpOK P Hd w0 φ σ w a.eval o (λv σ=>k (push (match o.dst with | some _=>true | none=>false) v L) σ)) ∨
  (Region.wanted o (yielded ops a.tmps)=false∧k (push (match o.dst with | some _=>true | none=>false) (.t []) L) σ=.ok):=by
 have h':Gd (compS P ops loc o j).g L e (evO P cl true (vAt j vs) (compOp P loc o) L e σ λv σ=>k (push (match o.dst with | some _=>true | none=>false) v L) σ) (k (push (match o.dst with | some _=>true | none=>false) (.t []) L) σ):=by
  unfold evS at h
  unfold Gd
  split at h
  ·rename_i hg;rw [hg];exact h
  ·rename_i g hg;rw [hg];exact h
 have h':=guard_ok hF rfl h'
 rcases h' with⟨h1,h2⟩ | h1
 ·exact .inl ⟨h1,evO_ok hcl hF.cx hr h2⟩
 ·exact .inr h1
theorem op_wp {next:Act→World→Prop} {Q:Exit→Act→World→Prop} {k:V→H D→R} (h:OpOK P Hd w0 φ σ w a.eval o k) (hk:∀ y w',Post P Hd w0 φ σ k y w'→next (a.put o.dst y) w'):o.wp P a w next Q:=by
 unfold Oper.wp
 exact upon_of_good (P:=P) h hk
theorem slots_cons (o:Oper) (l:List Oper) (j:Nat):∃ j',slots P (o::l) j=j::slots P l j':=by
 simp only [slots]
 cases fresh (compOp P [] o) with
 | true=>exact⟨j + 1,rfl⟩
 | false=>exact⟨j,rfl⟩
theorem idxOf_cons_mem {all:List Nat} (hl:∀ t j,idxOf t loc 0=some j→t∈all) (hd:∀ t,o.dst=some t→t∈all):∀ t j,idxOf t (cons o loc) 0=some j→t∈all:=by
 intro t j h
 unfold cons at h
 cases ho:o.dst with
 | none=>rw [ho] at h;exact hl t j h
 | some d =>
  rw [ho] at h
  simp only [idxOf] at h
  cases hb:Nat.beq d t with
  | true=>have:=kB hb;subst this;exact hd d ho
  | false =>
   rw [hb] at h
   simp only at h
   rw [idxOf_shift] at h
   obtain⟨k',h4,_⟩:=kE h
   exact hl t k' h4
theorem evL_ok {all:List Nat} {Q:Exit→Act→World→Prop} {a₀:Act} {φ₀:Phi} {σ₀:H D} {kk:E→H D→R} (hcl:ClOK P Hd w0 cl) (hn:n < 4000) (hb:bltAll n all=true)
  (hQ:∀ φ' e' σ' a' w',φ₀.le φ'→Fr n K φ' [] [] e' a'→Rel P Hd w0 φ' σ' w'→Ext σ₀ σ'→Same all a₀ a'→kk e' σ'=.ok→Q .normal a' w') :
  ∀ (l:List Oper) (j:Nat) (loc:List (Option Nat)) (L:Lc) (σ:H D) (φ:Phi) (a:Act) (w:World),(∀ t∈dsts l,t∈all)→Same all a₀ a→Fr n K φ loc L e a→(∀ t k,idxOf t loc 0=some k→t∈all)→Rel P Hd w0 φ σ w→Ext σ₀ σ→φ₀.le φ →
   evL P cl true vs e (compL P ops (keepL K all []) l (slots P l j) loc).1 L σ (λL σ=>keepE L (compL P ops (keepL K all []) l (slots P l j) loc).2 e λe=>kk e σ)=.ok→wpList P ops Q l a w
 | [],j,loc,L,σ,φ,a,w,hd,hS,hF,hl,hr,hx,hle,h=>by
  obtain⟨e',h1,h2,_⟩:=hF.close hn hb hl (show keepE L (keepOf loc (keepL K all [])) e (λe=>kk e σ)=.ok from h)
  exact hQ φ e' σ a w hle h2 hr hx hS h1
 | o::l,j,loc,L,σ,φ,a,w,hd,hS,hF,hl,hr,hx,hle,h=>by
  obtain⟨j',hj⟩:=slots_cons (P:=P) o l j
  rw [hj] at h
  have h':evS P cl true vs (compS P ops loc o j) L e σ (λL σ=>evL P cl true vs e (compL P ops (keepL K all []) l (slots P l j') (cons o loc)).1 L σ (λL σ=>keepE L (compL P ops (keepL K all []) l (slots P l j') (cons o loc)).2 e λe=>kk e σ))=.ok:=h
  have hda:∀ t,o.dst=some t→t∈all:=λt ht=>hd t (by rw [dsts_cons,ht];simp)
  have hdl:∀ t∈dsts l,t∈all:=λt ht=>hd t (by
   rw [dsts_cons]
   cases o.dst with
   | none=>exact ht
   | some d=>simp [ht])
  have hlt:∀ t,o.dst=some t→t < n:=by
   intro t ht
   have:∀ l:List Nat,bltAll n l=true→∀ t∈l,t < n:=by
    intro l
    induction l with
    | nil=>intro _ t ht;cases ht
    | cons s l ih =>
     intro hb t ht
     obtain⟨h1,h2⟩:=bltAll_cons hb
     rcases List.mem_cons.1 ht with rfl | ht
     ·exact h1
     ·exact ih h2 t ht
   exact this all hb t (hda t ht)
  have hput:∀ y,Same all a₀ (a.put o.dst y):=λy=>hS.trans λt ht=>by
   cases ho:o.dst with
   | none=>rfl
   | some d =>
    refine getD_put λe=>?_
    subst e
    have:=memN_iff.2 (hda t ho)
    rw [this] at ht;cases ht
  unfold wpList
  rcases evS_ok hcl hF hr h' with⟨hw,hO⟩ | ⟨hw,h2⟩
  ·rw [if_pos hw]
   refine .inl (op_wp hO λy w' hp=>?_)
   obtain⟨φ',v,σ',g1,g2,g3,g4,g5⟩:=hp
   exact evL_ok hcl hn hb hQ l j' _ _ σ' φ' _ w' hdl (hput y) ((hF.mono g1).push hlt g3) (idxOf_cons_mem hl hda) g2 (hx.trans g4) (hle.trans g1) g5
  ·rw [if_neg (by simp [hw])]
   exact evL_ok hcl hn hb hQ l j' _ _ σ φ _ w hdl (hput _) (hF.push hlt (show dec φ (.t [])=some undef from rfl)) (idxOf_cons_mem hl hda) hr hx hle h2
end
section
variable {D:Type} {P:Program} {Hd:D→Loc→View→Prop} {w0:Base} {w:World} {φ φ':Phi} {loc:List (Option Nat)} {L:Lc} {e:E} {a:Act} {o:Oper} {σ:H D} {cl:Nat→Hk D} {v:Vid} {vs:List Vid} {n:Nat} {K:List Nat} {ops:Array Oper}
theorem Det.out {κ:Type} {p:(κ→R)→Prop} {m:κ→R} (h:Det p m) {k:κ} (hk:m k=.ok):∃ f,p f∧f k=.ok∧∀ k',m k'=f k':=by
 rcases h with⟨f,h1,h2⟩ | ⟨n,h1⟩
 ·exact⟨f,h1,by rw [← h2];exact hk,h2⟩
 ·rw [h1] at hk;cases hk
def PledgeAt (φ:Phi) (q:Vid × Nat × V) (w:World):Prop:=∃ M y,φ q.1=some M∧dec φ q.2.2=some y∧w.cell? ⟨M.blk,M.base + q.2.1,none⟩=some y
theorem pgs_eq (v:Vid):∀ (l:List V) (off:Nat) (r:Pg),∃ rr,pgs v off l r=rr++r∧(∀ q∈rr,∃ (i:Nat) (x:V),l[i]?=some x∧q=(v,off + i,x))∧∀ (i:Nat) (x:V),l[i]?=some x→(v,off + i,x)∈rr
 | [],off,r=>⟨[],rfl,by simp,by simp⟩
 | y::l,off,r=>by
  obtain⟨rr,h1,h2,h3⟩:=pgs_eq v l (Nat.succ off) r
  refine⟨(v,off,y)::rr,congrArg ((v,off,y)::·) h1,λq hq=>?_,λi x hi=>?_⟩
  ·rcases List.mem_cons.1 hq with rfl | hq
   ·exact⟨0,y,rfl,rfl⟩
   ·obtain⟨i,x,h4,h5⟩:=h2 q hq
    exact⟨i + 1,x,by simpa using h4,by rw [h5];congr 2;omega⟩
  ·cases i with
   | zero=>simp at hi;subst hi;simp
   | succ i =>
    simp at hi
    have:=h3 i x hi
    rw [show Nat.succ off + i=off + (i + 1) from by omega] at this
    simp [this]
theorem evTO_inv {o:O} {r:Pg} {k:V→Pg→R} (h:evTO P o L e σ r k=.ok) :
  (∃ x v off ex m c ty sz u,o=.op .ld [x]∧opdV x L e=some (.p v off)∧σ.look v=some (.cells ex m c ty sz)∧c.get off=some u∧k u ((v,off,u)::r)=.ok) ∨
  (∃ n x v off ex m c ty sz l,o=.op (.ldA n) [x]∧opdV x L e=some (.p v off)∧σ.look v=some (.cells ex m c ty sz)∧l.length=n∧(∀ i,i < n→c.get (off + i)=l[i]?)∧k (.a l) (pgs v off l r)=.ok) ∨
  (pureO o=true∧evO P noCl false 0 o L e σ (λv _=>k v r)=.ok):=by
 unfold evTO at h
 split at h
 ·obtain⟨u,h1,h2⟩:=getO_ok h
  obtain⟨v,off,rfl,h3⟩:=onP_ok h2
  obtain⟨ex,m,c,ty,sz,h4,h5⟩:=H.cells_ok h3
  obtain⟨u,h6,h7⟩:=orE_ok h5
  exact .inl ⟨_,v,off,ex,m,c,ty,sz,u,rfl,h1,h4,h6,h7⟩
 ·obtain⟨u,h1,h2⟩:=getO_ok h
  obtain⟨v,off,rfl,h3⟩:=onP_ok h2
  obtain⟨ex,m,c,ty,sz,h4,h5⟩:=H.cells_ok h3
  obtain⟨l,h6,h7,h8⟩:=rdFrom_ok h5
  exact .inr (.inl ⟨_,_,v,off,ex,m,c,ty,sz,l,rfl,h1,h4,h6,h7,h8⟩)
 ·split at h
  ·rename_i hp
   exact .inr (.inr ⟨hp,h⟩)
  ·cases h
theorem pledge_cell (hr:Rel P Hd w0 φ σ w) {ex:Bool} {m:Nat} {c:Tr V} {ty sz off:Nat} {u:V} (h1:σ.look v=some (.cells ex m c ty sz)) (h2:c.get off=some u):PledgeAt φ (v,off,u) w:=by
 obtain⟨M,cs,g1,g2,g3⟩:=hr.cells h1
 obtain⟨_,y,g4,g5,g6⟩:=g3.get _ _ h2
 exact⟨M,y,g1,g4,cell_of g3.at_ g5⟩
theorem evTO_valid (hr:Rel P Hd w0 φ σ w) {o:O} {r r1:Pg} {u:V} (h:∀ k:V→Pg→R,evTO P o L e σ r k=k u r1):∃ rr,r1=rr++r∧∀ q∈rr,PledgeAt φ q w:=by
 classical
 have h':=h λu' r'=>if r'=r1 then .ok else .no 0
 simp only [if_true] at h'
 have key:∀ {r':Pg},(if r'=r1 then R.ok else R.no 0)=R.ok→r'=r1:=λ{r'} h=>by
  split at h
  ·assumption
  ·cases h
 rcases evTO_inv h' with⟨x,v,off,ex,m,c,ty,sz,u',rfl,_,h2,h3,h4⟩ | ⟨n,x,v,off,ex,m,c,ty,sz,l,rfl,_,h2,h3,h4,h5⟩ | ⟨hp,h2⟩
 ·exact⟨[(v,off,u')],(key h4).symm,λq hq=>by simp at hq;subst hq;exact pledge_cell hr h2 h3⟩
 ·obtain⟨rr,g1,g2,_⟩:=pgs_eq v l off r
  refine⟨rr,by rw [← key h5,g1],λq hq=>?_⟩
  obtain⟨i,x',hi,rfl⟩:=g2 q hq
  exact pledge_cell hr h2 (by rw [h4 i (by rw [← h3];exact (kA hi).1),hi])
 ·obtain⟨f,⟨r',hf⟩,h3,_⟩:=(evO_det (κ:=V→Pg→R) (p:=λf=>∃ v,f=λk=>k v r) noCl_det (f:=λv _ k=>k v r) (σ:=σ) (L:=L) (e:=e) (P:=P) (v:=0) (o:=o) (λu _ _=>Det.leaf ⟨u,rfl⟩)).out (k:=λu' r'=>if r'=r1 then .ok else .no 0) h2
  rw [hf] at h3
  exact⟨[],by rw [← key h3];rfl,by simp⟩
theorem evTk_valid (hr:Rel P Hd w0 φ σ w) {s:S} {L1:Lc} {r r1:Pg} (h:∀ k:Lc→Pg→R,evTk P s L e σ r k=k L1 r1):∃ rr,r1=rr++r∧∀ q∈rr,PledgeAt φ q w:=by
 have one:∀ {m:(V→Pg→R)→R},Det (λf=>∃ u r',f=λk:V→Pg→R=>k u r') m→(∀ k:Lc→Pg→R,m (λv r=>k (push s.d v L) r)=k L1 r1)→(∀ u,(∀ k:V→Pg→R,m k=k u r1)→∃ rr,r1=rr++r∧∀ q∈rr,PledgeAt φ q w)→∃ rr,r1=rr++r∧∀ q∈rr,PledgeAt φ q w:=by
  intro m hd hm hk
  classical
  have h':=hm λ_ r'=>if r'=r1 then .ok else .no 0
  simp only [if_true] at h'
  obtain⟨f,⟨u,r',rfl⟩,h1,h2⟩:=hd.out h'
  have:r'=r1:=by
   have h1:(if r'=r1 then R.ok else R.no 0)=R.ok:=h1
   split at h1
   ·assumption
   ·cases h1
  subst this
  exact hk u h2
 unfold evTk at h
 split at h
 ·refine one (evTO_det (κ:=V→Pg→R) (f:=λu r k=>k u r) λu r=>Det.leaf ⟨u,r,rfl⟩) h λu hu=>evTO_valid hr hu
 ·rename_i g hg
  have hd:Det (λf=>∃ u r',f=λk:V→Pg→R=>k u r') (λk:V→Pg→R=>guarded g L e (evTO P s.o L e σ r λv r=>k v r) (k (.t []) r)):=dGuard (evTO_det (κ:=V→Pg→R) (f:=λu r k=>k u r) λu r=>Det.leaf ⟨u,r,rfl⟩) (Det.leaf ⟨_,_,rfl⟩)
  refine one hd h λu hu=>?_
  unfold guarded at hu
  cases hv:opdV g.1 L e with
  | none =>
   have:=hu λ_ _=>.ok
   obtain⟨u',h1,_⟩:=getO_ok this
   rw [hv] at h1;cases h1
  | some y =>
   have hg':∀ k:V→R,getO g.1 L e k=k y:=by
    intro k
    cases hx:g.1 with
    | l j=>rw [hx] at hv;show orE (nth j L) k 1=_;rw [show nth j L=some y from hv];rfl
    | t q=>rw [hx] at hv;show orE (e.getp q) k 2=_;rw [show e.getp q=some y from hv];rfl
    | c w=>rw [hx] at hv;cases hv;rfl
    | bad=>rw [hx] at hv;cases hv
   simp only [hg'] at hu
   have hok:=hu λ_ _=>.ok
   rcases onG_ok hok with⟨b,rfl,_⟩ | ⟨l,rfl,_⟩
   ·have hu':∀ k:V→Pg→R,(match g.2 with | true=>iff' b (evTO P s.o L e σ r λv r=>k v r) (k (.t []) r) | false=>iff' b (k (.t []) r) (evTO P s.o L e σ r λv r=>k v r))=k u r1:=hu
    have no:(∀ k:V→Pg→R,k (.t []) r=k u r1)→∃ rr,r1=rr++r∧∀ q∈rr,PledgeAt φ q w:=by
     intro hk
     classical
     have h1:=hk λ_ r'=>if r'=r then .ok else .no 0
     simp only [if_true] at h1
     have:r1=r:=by
      have h1:=h1.symm
      split at h1
      ·assumption
      ·cases h1
     exact⟨[],by rw [this];rfl,by simp⟩
    cases hg2:g.2 <;> cases b <;> rw [hg2] at hu'
    ·exact evTO_valid hr hu'
    ·exact no hu'
    ·exact no hu'
    ·exact evTO_valid hr hu'
   ·have hk:∀ k:V→Pg→R,k (.t []) r=k u r1:=hu
    classical
    have h1:=hk λ_ r'=>if r'=r then .ok else .no 0
    simp only [if_true] at h1
    have:r1=r:=by
     have h1:=h1.symm
     split at h1
     ·assumption
     ·cases h1
    exact⟨[],by rw [this];rfl,by simp⟩
theorem evTk_step {s:S} {l:List S} {r r':Pg} {L':Lc} (h:∀ k:Lc→Pg→R,evT P e σ (s::l) L r k=k L' r'):∃ L1 r1,(∀ k:Lc→Pg→R,evTk P s L e σ r k=k L1 r1)∧∀ k:Lc→Pg→R,evT P e σ l L1 r1 k=k L' r':=by
 have hd:Det (λf=>∃ L1 r1,f=λk:Lc→Pg→R=>k L1 r1) (λk:Lc→Pg→R=>evTk P s L e σ r k):=by
  have:=evT_det (κ:=Lc→Pg→R) (p:=λf=>∃ L1 r1,f=λk:Lc→Pg→R=>k L1 r1) (P:=P) (e:=e) (σ:=σ) (l:=[s]) (L:=L) (r:=r) (f:=λL r k=>k L r) λL r=>Det.leaf ⟨L,r,rfl⟩
  exact this
 have hok:evTk P s L e σ r (λL r=>evT P e σ l L r λ_ _=>.ok)=.ok:=h λ_ _=>.ok
 obtain⟨f,⟨L1,r1,rfl⟩,_,h2⟩:=hd.out (k:=λL r=>evT P e σ l L r λ_ _=>.ok) hok
 exact⟨L1,r1,h2,λk=>by rw [← h k];exact (h2 λL r=>evT P e σ l L r k).symm⟩
theorem evT_valid (hr:Rel P Hd w0 φ σ w):∀ {l:List S} {L L':Lc} {r r':Pg},(∀ k:Lc→Pg→R,evT P e σ l L r k=k L' r')→∃ rr,r'=rr++r∧∀ q∈rr,PledgeAt φ q w
 | [],L,L',r,r',h=>by
  classical
  have h1:=h λ_ x=>if x=r' then .ok else .no 0
  simp only [if_true] at h1
  have:r=r':=by
   have h1:(if r=r' then R.ok else R.no 0)=.ok:=h1
   split at h1
   ·assumption
   ·cases h1
  exact⟨[],by rw [this];rfl,by simp⟩
 | s::l,L,L',r,r',h=>by
  obtain⟨L1,r1,h1,h2⟩:=evTk_step h
  obtain⟨rr,g1,g2⟩:=evTk_valid hr h1
  obtain⟨rr',g3,g4⟩:=evT_valid hr h2
  exact⟨rr'++rr,by rw [g3,g1,List.append_assoc],λq hq=>by rcases List.mem_append.1 hq with hq | hq;exact g4 q hq;exact g2 q hq⟩
end
section
variable {D:Type} {P:Program} {Hd:D→Loc→View→Prop} {w0:Base} {w:World} {φ φ':Phi} {loc:List (Option Nat)} {L:Lc} {e:E} {a:Act} {o:Oper} {σ:H D} {cl:Nat→Hk D} {v:Vid} {vs:List Vid} {n:Nat} {K:List Nat} {ops:Array Oper}
theorem PledgeAt.mono {q:Vid × Nat × V} (h:PledgeAt φ q w) (hle:φ.le φ'):PledgeAt φ' q w:=by
 obtain⟨M,y,h1,h2,h3⟩:=h
 exact⟨M,y,hle _ _ h1,dec_mono hle _ _ h2,h3⟩
theorem compOp_ld {x:Opd} (h:compOp P loc o=.op .ld [x]):∃ t a ud n,o.op=.load t a∧P.underlying t=some ud∧sizeC P t=some n∧isAggD ud=false∧x=opd loc a:=by
 cases hop:o.op
 case load t a =>
  simp only [compOp,hop] at h
  split at h
  ·rename_i ud n h1 h2
   split at h
   ·cases h
   ·rename_i h3
    cases h
    exact⟨t,a,ud,n,rfl,h1,h2,h3,rfl⟩
  ·cases h
 all_goals
  exfalso
  revert h
  simp only [compOp,hop]
  try (intro h;cases h;done)
  repeat' split
  all_goals (intro h;cases h;done)
theorem compOp_ldA {x:Opd} {m:Nat} (h:compOp P loc o=.op (.ldA m) [x]):∃ t a ud,o.op=.load t a∧P.underlying t=some ud∧sizeC P t=some m∧isAggD ud=true∧x=opd loc a:=by
 cases hop:o.op
 case load t a =>
  simp only [compOp,hop] at h
  split at h
  ·rename_i ud n h1 h2
   split at h
   ·rename_i h3
    cases h
    exact⟨t,a,ud,rfl,h1,h2,h3,rfl⟩
   ·cases h
  ·cases h
 all_goals
  exfalso
  revert h
  simp only [compOp,hop]
  try (intro h;cases h;done)
  repeat' split
  all_goals (intro h;cases h;done)
theorem evTO_ok (hc:Cx φ loc L e a.eval) (hr:Rel P Hd w0 φ σ w) {r:Pg} {k:V→Pg→R} (h:evTO P (compOp P loc o) L e σ r k=.ok) :
  ∃ u y r1,k u r1=.ok∧dec φ u=some y∧∀ w',(∀ q∈r1,PledgeAt φ q w')→(execOp a.eval o).run P w'=.ok (.value y) w':=by
 rcases evTO_inv h with⟨x,v,off,ex,m,c,ty,sz,u,h1,h2,h3,h4,h5⟩ | ⟨m,x,v,off,ex,m',c,ty,sz,l,h1,h2,h3,h4,h5,h6⟩ | ⟨hp,h2⟩
 ·obtain⟨t,ad,ud,nn,ho,ht,hn,hag,rfl⟩:=compOp_ld h1
  obtain⟨M,y,g1,g2,g3⟩:=pledge_cell hr h3 h4
  refine⟨u,y,_,h5,g2,λw' hw=>?_⟩
  obtain⟨M',y',d1,d2,d3⟩:=hw (v,off,u) (by simp)
  simp only at g1 d1 d2 g2 d3
  rw [g1] at d1;cases d1
  rw [g2] at d2;cases d2
  obtain⟨M2,d4,ex'⟩:=dec_p (hc.opd h2)
  rw [g1] at d4;cases d4
  have hx:execOp a.eval o=(do pure (Next.value (← Instr.loadAt t (a.eval ad))):Sem Next):=by simp [execOp,ho]
  rw [hx]
  exact run_v (by rw [ex'];simp [Instr.loadAt,Instr.sureAddr,loadVar,run_isAgg' w' ht,hag,load,Sem.run,d3])
 ·obtain⟨t,ad,ud,ho,ht,hn,hag,rfl⟩:=compOp_ldA h1
  obtain⟨ad',ys,e1,e2,e3,e4,e5⟩:=cells_list hr h3 h4 h5 (hc.opd h2)
  obtain⟨inf,hi,hin⟩:=sizeC_ok hn
  obtain⟨rr,g1,g2,g3⟩:=pgs_eq v l off r
  refine⟨.a l,.agg ys.toArray,_,h6,by simp [dec,e2],λw' hw=>?_⟩
  obtain⟨M2,d4,ex'⟩:=dec_p (hc.opd h2)
  rw [ex'] at e1
  cases e1
  have hcells:∀ (j:Nat) z,ys[j]?=some z→w'.cell? (Addr.add ⟨M2.blk,M2.base + off,none⟩ j)=some z:=by
   intro j z hj
   have hjl:j < l.length:=by rw [← decs_length e2];exact (kA hj).1
   obtain⟨z',f1,f2⟩:=decs_get e2 (kC hjl)
   rw [hj] at f1;cases f1
   obtain⟨M',y',d1,d2,d3⟩:=hw (v,off + j,l[j]) (by rw [g1];exact List.mem_append.2 (.inl (g3 j _ (kC hjl))))
   simp only at d1 d2 d3
   rw [d4] at d1;cases d1
   rw [f2] at d2;cases d2
   rw [add_eq,Nat.add_assoc]
   exact d3
  have hl:=run_loadCells (P:=P) hcells
  rw [e3] at hl
  have hx:execOp a.eval o=(do pure (Next.value (← Instr.loadAt t (a.eval ad))):Sem Next):=by simp [execOp,ho]
  rw [hx]
  exact run_v (by rw [ex'];simp [Instr.loadAt,Instr.sureAddr,loadVar,run_isAgg' w' ht,hag,run_sizeOf' w' hi,hin,hl])
 ·obtain⟨u,y,g1,g2,g3⟩:=pure_ok (k:=λv _=>k v r) hc hp h2
  exact⟨u,y,r,g3,g1,λw' _=>g2 w'⟩
theorem evTk_ok {j:Nat} (hF:Fr n K φ loc L e a) (hr:Rel P Hd w0 φ σ w) {r:Pg} {k:Lc→Pg→R} (h:evTk P (compS P ops loc o j) L e σ r k=.ok) :
  ∃ u y r1,k (push (match o.dst with | some _=>true | none=>false) u L) r1=.ok∧dec φ u=some y ∧
   ((Region.wanted o (yielded ops a.tmps)=true∧∀ w',(∀ q∈r1,PledgeAt φ q w')→(execOp a.eval o).run P w'=.ok (.value y) w')∨(Region.wanted o (yielded ops a.tmps)=false∧y=undef)):=by
 have h':Gd (compS P ops loc o j).g L e (evTO P (compOp P loc o) L e σ r λv r=>k (push (match o.dst with | some _=>true | none=>false) v L) r) (k (push (match o.dst with | some _=>true | none=>false) (.t []) L) r):=by
  unfold evTk at h
  unfold Gd
  split at h
  ·rename_i hg;first | (rw [hg];exact h) | exact h
  ·rename_i g hg;first | (rw [hg];exact h) | exact h
 rcases guard_ok hF rfl h' with⟨h1,h2⟩ | ⟨h1,h2⟩
 ·obtain⟨u,y,r1,g1,g2,g3⟩:=evTO_ok hF.cx hr h2
  exact⟨u,y,r1,g1,g2,.inl ⟨h1,g3⟩⟩
 ·exact⟨.t [],undef,r,h2,rfl,.inr ⟨h1,rfl⟩⟩
theorem evPu_ok {j:Nat} (hF:Fr n K φ loc L e a) {k:Lc→R} (h:(match (compS P ops loc o j).g with
   | none=>evPu P (compS P ops loc o j).o L e σ λv=>k (push (compS P ops loc o j).d v L)
   | some g=>bindK (λ(jj:V→R)=>guarded g L e (evPu P (compS P ops loc o j).o L e σ λv=>jj v) (jj (.t []))) (λv=>k (push (compS P ops loc o j).d v L)))=.ok) :
  ∃ u y,k (push (match o.dst with | some _=>true | none=>false) u L)=.ok∧dec φ u=some y ∧
   ((Region.wanted o (yielded ops a.tmps)=true∧∀ w',(execOp a.eval o).run P w'=.ok (.value y) w')∨(Region.wanted o (yielded ops a.tmps)=false∧y=undef)):=by
 have h':Gd (compS P ops loc o j).g L e (evPu P (compOp P loc o) L e σ λv=>k (push (match o.dst with | some _=>true | none=>false) v L)) (k (push (match o.dst with | some _=>true | none=>false) (.t []) L)):=by
  unfold Gd
  split at h
  ·rename_i hg;first | (rw [hg];exact h) | exact h
  ·rename_i g hg;first | (rw [hg];exact h) | exact h
 rcases guard_ok hF rfl h' with⟨h1,h2⟩ | ⟨h1,h2⟩
 ·unfold evPu at h2
  split at h2
  ·rename_i hp
   obtain⟨u,y,g1,g2,g3⟩:=pure_ok (k:=λv _=>k (push (match o.dst with | some _=>true | none=>false) v L)) hF.cx hp h2
   exact⟨u,y,g3,g1,.inl ⟨h1,g2⟩⟩
  ·cases h2
 ·exact⟨.t [],undef,h2,rfl,.inr ⟨h1,rfl⟩⟩
theorem holds_ok {φ₀:Phi} (hr:Rel P Hd w0 φ' σ w) (hle:φ₀.le φ') {w1:World} {k:R}:∀ {r:Pg},(∀ q∈r,PledgeAt φ₀ q w1)→holds σ r k=.ok→(∀ q∈r,PledgeAt φ₀ q w)∧k=.ok
 | [],_,h=>⟨by simp,h⟩
 | q::r,h1,h=>by
  obtain⟨ex,m,c,ty,sz,h2,h3⟩:=H.cells_ok (show σ.cells q.1 (λ_ _ c _ _=>orE (c.get q.2.1) (λu=>iff' (vEq u q.2.2) (holds σ r k) (R.no 122)) 123)=.ok from h)
  obtain⟨u,h4,h5⟩:=orE_ok h3
  obtain⟨h6,h7⟩:=iff_ok h5
  have:=vEq_ok _ _ h6
  obtain⟨g1,g2⟩:=holds_ok hr hle (λq hq=>h1 q (by simp [hq])) h7
  refine⟨λq' hq=>?_,g2⟩
  rcases List.mem_cons.1 hq with rfl | hq
  ·obtain⟨M,y,d1,d2,_⟩:=h1 q' (by simp)
   obtain⟨M',y',f1,f2,f3⟩:=pledge_cell hr h2 h4
   simp only at f1 f2 f3
   rw [hle _ _ d1] at f1;cases f1
   rw [this,dec_mono hle _ _ d2] at f2;cases f2
   exact⟨M,y,d1,d2,f3⟩
  ·exact g1 q' hq
end
end Go.Ev
end
end
