/-
  A part of the proof: what the functions of the program come to, read off the model: no premise of its own, no axiom. Blank space is spared. By an AI agent.
-/
import Derived.Test.YtihllmhdjbomjaaGreatDoorA1
import Derived.Maps.RangeRun
import Derived.Maps.Keyed
set_option linter.all false
set_option maxRecDepth 100000
noncomputable section
section
namespace Go.Fk
open Go Go.MapKept Go.Maps
open Go.ChangeMaps (setBlock)
theorem Ty.enc_inj {t:Ty} {x y:t.T} (h:t.enc x=t.enc y):x=y:=by
 cases t <;> simp only [Ty.enc] at h
 case int=>cases h;rfl
 case bool=>cases h;rfl
 case str=>cases h;rfl
 case ptr=>cases h;rfl
 case addr=>cases h;rfl
 case sl =>
  cases x;cases y;cases h;rfl
 case map=>cases h;rfl
 case raw=>exact h
structure MapTy (P:Program) (T kT vT:TypeId) (kt vt:Ty):Prop where
 ty:P.underlying T=some (.map kT vT)
 keyed:Keyed P kT
def OkKey (P:Program) (kT:TypeId) (v:Value):Prop:=∃ l,keyOf P kT v=some l
def MapAt (P:Program) (kT:TypeId) (kt vt:Ty) (H:View) (m:Nat) (R:kt.T→vt.T→Prop):Prop :=
 ∃ es clock,H m (.map es clock)∧Stamped es clock∧(∀ e∈es.toList,OkKey P kT e.key∧∃ x y,e.key=kt.enc x∧e.val=vt.enc y∧R x y) ∧
  ∀ x y,R x y→∃ e∈es.toList,e.key=kt.enc x∧e.val=vt.enc y
def MapO (P:Program) (kT:TypeId) (kt vt:Ty) (H:View):Option Nat→(kt.T→vt.T→Prop)→Prop
 | none,R=>∀ x y,¬ R x y
 | some m,R=>MapAt P kT kt vt H m R
section
variable {P:Program} {T kT vT:TypeId} {kt vt:Ty} {H H':View} {m:Nat} {R R':kt.T→vt.T→Prop}
theorem MapAt.mono (h:MapAt P kT kt vt H m R) (hv:Vle H H'):MapAt P kT kt vt H' m R:=by
 obtain⟨es,clock,h1,h2⟩:=h
 exact⟨es,clock,hv _ _ h1,h2⟩
theorem MapO.mono {mo:Option Nat} (h:MapO P kT kt vt H mo R) (hv:Vle H H'):MapO P kT kt vt H' mo R:=by
 cases mo with
 | none=>exact h
 | some m=>exact MapAt.mono h hv
theorem MapAt.congr (h:MapAt P kT kt vt H m R) (hr:∀ x y,R x y↔R' x y):MapAt P kT kt vt H m R':=by
 have:R=R':=funext λx=>funext λy=>propext (hr x y)
 exact this ▸ h
theorem MapAt.keep {M M' N:Nat→Prop} {w w':World} (h:MapAt P kT kt vt (V M w) m R) (hk:Keeps N w w') (hn:¬ N m) (hM:¬ M' m):MapAt P kT kt vt (V M' w') m R:=by
 obtain⟨es,clock,⟨_,h1⟩,h2⟩:=h
 exact⟨es,clock,⟨hM,hk.blk h1 hn⟩,h2⟩
theorem MapAt.lt {M:Nat→Prop} {w:World} (h:MapAt P kT kt vt (V M w) m R):m < w.heap.size:=by
 obtain⟨es,clock,⟨_,h1⟩,h2⟩:=h
 exact lt_of_some h1
theorem MapAt.out {M:Nat→Prop} {w:World} (h:MapAt P kT kt vt (V M w) m R):¬ M m:=by
 obtain⟨es,clock,⟨h0,h1⟩,h2⟩:=h
 exact h0
theorem MapAt.empty {b:Nat} (h:H b (.map #[] 0)):MapAt P kT kt vt H b λ_ _=>False :=
 ⟨#[],0,h,stamped_empty 0,by simp,λ_ _ h=>h.elim⟩
theorem key_once {es:Array MapEntry} {clock:Nat} (h:Stamped es clock) {e e':MapEntry} (he:e∈es.toList) (he':e'∈es.toList) (hk:e.key=e'.key):e=e':=by
 have h2:=((stamped_iff es clock).1 h).2.2
 obtain⟨i,hi⟩:=List.getElem?_of_mem he
 obtain⟨j,hj⟩:=List.getElem?_of_mem he'
 rw [List.getElem?_eq_some_iff] at hi hj
 obtain⟨hi1,hi2⟩:=hi
 obtain⟨hj1,hj2⟩:=hj
 rw [List.pairwise_iff_getElem] at h2
 rcases Nat.lt_trichotomy i j with h | h | h
 ·exact absurd (by rw [hi2,hj2];exact hk) (h2 i j hi1 hj1 h)
 ·subst h;rw [← hi2,← hj2]
 ·exact absurd (by rw [hi2,hj2];exact hk.symm) (h2 j i hj1 hi1 h)
theorem born_once {es:Array MapEntry} {clock:Nat} (h:Stamped es clock) {e e':MapEntry} (he:e∈es.toList) (he':e'∈es.toList) (hk:e.born=e'.born):e=e':=by
 have h2:=((stamped_iff es clock).1 h).2.1
 rw [List.Nodup,List.pairwise_map] at h2
 obtain⟨i,hi⟩:=List.getElem?_of_mem he
 obtain⟨j,hj⟩:=List.getElem?_of_mem he'
 rw [List.getElem?_eq_some_iff] at hi hj
 obtain⟨hi1,hi2⟩:=hi
 obtain⟨hj1,hj2⟩:=hj
 rw [List.pairwise_iff_getElem] at h2
 rcases Nat.lt_trichotomy i j with h | h | h
 ·exact absurd (by rw [hi2,hj2];exact hk) (h2 i j hi1 hj1 h)
 ·subst h;rw [← hi2,← hj2]
 ·exact absurd (by rw [hi2,hj2];exact hk.symm) (h2 j i hj1 hi1 h)
theorem keepsSetBlock {w:World} {b:Nat} {es:Array MapEntry} {clock:Nat} (hb:w.heap[b]?=some (.map es clock)) (o:Obj):Upd b o w (setBlock w b o) :=
 ⟨Go.ChangeMaps.heap_setBlock_same hb o,⟨rfl,rfl,rfl,by simp [setBlock],λi _ hi=>Go.ChangeMaps.heap_setBlock_other hb o hi⟩,by simp [setBlock]⟩
theorem App0.put (hT:MapTy P T kT vT kt vt) {w:World} {x:kt.T} {y:vt.T} {K:World→Prop} {M:Nat→Prop} (h:MapAt P kT kt vt (V M w) m R) (hk:OkKey P kT (kt.enc x))
  (hK:∀ w',Keeps (·=m) w w'→w'.heap.size=w.heap.size→MapAt P kT kt vt (V M w') m (λa b=>(a=x∧b=y)∨(a≠x∧R a b))→K w') :
  App0 P (Instr.mapUpdate T (.map (some m)) (kt.enc x) (vt.enc y)) w K:=by
 obtain⟨es,clock,⟨hM,hb⟩,hs,h3,h4⟩:=h
 obtain⟨lx,hlx⟩:=hk
 rcases hT.keyed.find w hlx es.toList (λe he=>(h3 e he).1) with⟨h1,h2⟩ | ⟨j,e0,h1,h2,h5⟩
 ·have hu:=keepsSetBlock hb (.map (es.push ⟨kt.enc x,vt.enc y,clock⟩) (clock + 1))
  refine⟨setBlock w m (.map (es.push ⟨kt.enc x,vt.enc y,clock⟩) (clock + 1)),?_,hK _ hu.keeps hu.size ?_⟩
  ·simp [Instr.mapUpdate,run_underlying hT.ty,MapKept.run_getObj_map hb,hT.keyed.check w false hlx,h1,MapKept.run_setObj_map _ hb,Result.andThen,setBlock]
  ·refine⟨_,_,⟨hM,hu.at_⟩,stamped_push hs h2,?_,?_⟩
   ·intro e he
    simp only [Array.toList_push,List.mem_append,List.mem_singleton] at he
    rcases he with he | rfl
    ·obtain⟨h6,x',y',h7,h8,h9⟩:=h3 e he
     exact⟨h6,x',y',h7,h8,.inr ⟨λe1=>h2 e he (by rw [h7,e1]),h9⟩⟩
    ·exact⟨⟨lx,hlx⟩,x,y,rfl,rfl,.inl ⟨rfl,rfl⟩⟩
   ·rintro a b (⟨rfl,rfl⟩ | ⟨ha,hr⟩)
    ·exact⟨⟨kt.enc a,vt.enc b,clock⟩,by simp,rfl,rfl⟩
    ·obtain⟨e,he,h6,h7⟩:=h4 a b hr
     exact⟨e,by simp;exact .inl (by simpa using he),h6,h7⟩
 ·have hj:es[j]?=some e0:=by simpa using h2
  have hlist:(es.modify j (λe'=>{ e' with key:=kt.enc x,val:=vt.enc y })).toList=es.toList.set j { e0 with key:=kt.enc x,val:=vt.enc y }:=by rw [Array.toList_modify,Go.ChangeMaps.modify_eq_set _ _ _ _ h2]
  have hu:=keepsSetBlock hb (.map (es.modify j (λe'=>{ e' with key:=kt.enc x,val:=vt.enc y })) clock)
  refine⟨setBlock w m (.map (es.modify j (λe'=>{ e' with key:=kt.enc x,val:=vt.enc y })) clock),?_,hK _ hu.keeps hu.size ?_⟩
  ·simp [Instr.mapUpdate,run_underlying hT.ty,MapKept.run_getObj_map hb,hT.keyed.check w false hlx,h1,hj,h5,hT.keyed.stays w hlx,MapKept.run_setObj_map _ hb,Result.andThen,setBlock]
  ·have he0:e0∈es.toList:=kD h2
   have hset:∀ e,e∈es.toList.set j { e0 with key:=kt.enc x,val:=vt.enc y }↔e={ e0 with key:=kt.enc x,val:=vt.enc y }∨(e∈es.toList∧e.key≠kt.enc x):=by
    intro e
    have hjl:j < es.toList.length:=(kA h2).1
    constructor
    ·intro he
     obtain⟨i,hi⟩:=List.getElem?_of_mem he
     rw [List.getElem?_set] at hi
     split at hi
     ·simp at hi;exact .inl hi.symm
     ·rename_i hne
      refine .inr ⟨kD hi,λe1=>?_⟩
      have:=key_once hs (kD hi) he0 (e1.trans h5.symm)
      subst this
      have hb2:=hs.2.1
      rw [List.Nodup,List.pairwise_map,List.pairwise_iff_getElem] at hb2
      rw [List.getElem?_eq_some_iff] at hi h2
      obtain⟨hi1,hi2⟩:=hi
      obtain⟨hj1,hj2⟩:=h2
      rcases Nat.lt_trichotomy i j with h | h | h
      ·exact hb2 i j hi1 hj1 h (by rw [hi2,hj2])
      ·exact hne h.symm
      ·exact hb2 j i hj1 hi1 h (by rw [hi2,hj2])
    ·rintro (rfl | ⟨he,hk⟩)
     ·exact List.mem_set hjl _
     ·obtain⟨i,hi⟩:=List.getElem?_of_mem he
      refine kD (i:=i) ?_
      rw [List.getElem?_set,if_neg,hi]
      rintro rfl
      rw [h2] at hi
      cases hi
      exact hk h5
   refine⟨_,_,⟨hM,hu.at_⟩,stamped_modify hs _ _ (λ_ _=>rfl) (λe' _ he'=>by rw [hj] at he';cases he';exact h5.symm),?_,?_⟩
   ·intro e he
    rw [hlist,hset] at he
    rcases he with rfl | ⟨he,hk⟩
    ·exact⟨⟨lx,hlx⟩,x,y,rfl,rfl,.inl ⟨rfl,rfl⟩⟩
    ·obtain⟨h6,x',y',h7,h8,h9⟩:=h3 e he
     exact⟨h6,x',y',h7,h8,.inr ⟨λe1=>hk (by rw [h7,e1]),h9⟩⟩
   ·rw [hlist]
    rintro a b (⟨rfl,rfl⟩ | ⟨ha,hr⟩)
    ·exact⟨_,(hset _).2 (.inl rfl),rfl,rfl⟩
    ·obtain⟨e,he,h6,h7⟩:=h4 a b hr
     exact⟨e,(hset _).2 (.inr ⟨he,λe1=>ha (Ty.enc_inj (h6.symm.trans e1))⟩),h6,h7⟩
theorem range_map (hT:P.underlying T=some (.map kT vT)) {σ:Type} {w:World} {M:Nat→Prop} {mo:Option Nat} {s0:σ} {body:σ→kt.T × vt.T→World→(σ→World→Prop)→Prop} {exit:σ→World→Prop}
  (h:MapO P kT kt vt (V M w) mo R) (I:Nat→(kt.T→Prop)→σ→World→Prop)
  (h0:∀ r w',r=w.heap.size→Keeps No w w'→I r (λ_=>False) s0 w')
  (hst:∀ r d s w1 w2,r=w.heap.size→I r d s w1→Keeps (·=r) w1 w2→I r d s w2)
  (hbody:∀ r d s w2 x y,r=w.heap.size→r < w2.heap.size→I r d s w2→R x y→¬ d x→(∀ m,mo=some m→w2.heap[m]?=w.heap[m]?)→∀ again:σ→World→Prop,
   (∀ s' w',I r (λq=>d q∨q=x) s' w'→w'.heap[r]?=w2.heap[r]?→(∀ m,mo=some m→w'.heap[m]?=w2.heap[m]?)→again s' w')→body s (x,y) w2 again)
  (hexit:∀ r d s w2,r=w.heap.size→I r d s w2→(∀ x,d x↔∃ y,R x y)→exit s w2) :
  App P (Instr.range T (.map mo)) (.one .ptr) w λit w1=>Loop (λ(s:σ) w2 again=>Join (λ(b:Bool) w3=>Br b (App P (Instr.entry (.pointer it)) (.tup [.one kt,.one vt]) w3 λx w4=>body s x w4 again) (exit s w3)) λj =>
   Nxt P (Instr.next (.pointer it) false 0) kt vt w2 (λw6=>j false w6) (λ_ _ w7=>j true w7)) s0 w1:=by
 cases mo with
 | none =>
  refine⟨some ⟨w.heap.size,0,none⟩,w.alloc (.mapIter none 0 #[] 0),?_,?_⟩
  ·simp [Instr.range,run_underlying hT,newObj,Result.andThen,RTy.enc,Ty.enc,Sem.run]
  ·refine Al.mk (o:=.mapIter none 0 #[] 0) (w:=w) (k:=λb w'=>b=w.heap.size→Loop _ s0 w') (λb w' hn hb=>?_) rfl
   subst hb
   refine Loop.mk (λs w2=>w2.heap[w.heap.size]?=some (.mapIter none 0 #[] 0)∧I w.heap.size (λ_=>False) s w2) (λ_=>0) ⟨hn.at_,h0 _ _ rfl hn.keeps⟩ λs w2 ⟨hi1,hi2⟩ again hagain=>?_
   dsimp only [Join]
   refine⟨w2,.inl ⟨?_,?_⟩⟩
   ·simp [Instr.next,getObj,hi1,Result.andThen,Sem.run]
   ·exact hexit _ _ s w2 rfl hi2 λx=>⟨λh=>h.elim,λ⟨y,hr⟩=>h x y hr⟩
 | some m =>
  obtain⟨es,clock,⟨hM,hb⟩,hs,h3,h4⟩:=h
  have hst2:=(stamped_iff es clock).1 hs
  refine⟨some ⟨w.heap.size,0,none⟩,w.alloc (.mapIter (some m) clock #[] clock),?_,?_⟩
  ·simp [Instr.range,run_underlying hT,newObj,MapKept.run_getObj_map hb,Result.andThen,RTy.enc,Ty.enc,Sem.run]
  ·refine Al.mk (o:=.mapIter (some m) clock #[] clock) (w:=w) (k:=λb w'=>b=w.heap.size→Loop _ s0 w') (λb w' hn hb0=>?_) rfl
   subst hb0
   have hne:m≠w.heap.size:=λe=>by have:=lt_of_some hb;omega
   refine Loop.mkn (λn s w2=>∃ seen d,w2.heap[w.heap.size]?=some (.mapIter (some m) clock seen clock)∧w2.heap[m]?=some (.map es clock)∧(leftOf es seen).size=n∧I w.heap.size d s w2 ∧
    ∀ x,d x↔∃ e∈es.toList,e.key=kt.enc x∧seen.contains e.born=true) (leftOf es #[]).size ⟨#[],λ_=>False,hn.at_,hn.keeps.blk0 hb,rfl,h0 _ _ rfl hn.keeps,λx=>⟨λh=>h.elim,by rintro⟨e,_,_,h⟩;simp at h⟩⟩ ?_
   rintro n s w2 ⟨seen,d,i1,i2,i3,i4,i5⟩ again hagain
   dsimp only [Join]
   rcases run_next_at (P:=P) w2 0 w.heap.size m clock clock seen es clock i1 i2 hst2.1 (Nat.le_refl _) with⟨hz,hrun⟩ | ⟨e,he,w1,hal,hrun⟩
   ·refine⟨w2,.inl ⟨hrun,hexit _ d s w2 rfl i4 λx=>⟨λhd=>?_,λ⟨y,hr⟩=>?_⟩⟩⟩
    ·obtain⟨e,he,hk,_⟩:=(i5 x).1 hd
     obtain⟨_,x',y',h7,h8,h9⟩:=h3 e he
     have hx:x'=x:=Ty.enc_inj (h7.symm.trans hk)
     subst hx
     exact⟨y',h9⟩
    ·obtain⟨e,he,h6,h7⟩:=h4 x y hr
     exact (i5 x).2 ⟨e,he,h6,all_seen es seen hz e he⟩
   ·obtain⟨hem,hes⟩:=mem_left he
    obtain⟨_,x,y,h7,h8,h9⟩:=h3 e hem
    have i1':w1.heap[w.heap.size]?=some (.mapIter (some m) clock seen clock):=by rcases hal with rfl | rfl <;> exact i1
    have hk1:Keeps (·=w.heap.size) w2 (setBlock w1 w.heap.size (.mapIter (some m) clock (seen.push e.born) clock)):=by
     have:Keeps No w2 w1:=by rcases hal with rfl | rfl;{ exact .refl };{ exact .drew }
     refine this.no.trans ⟨rfl,rfl,rfl,by simp [setBlock],λi _ hi=>?_⟩
     simp only [setBlock]
     rw [Array.getElem?_setIfInBounds]
     simp [Ne.symm hi]
    have hat:(setBlock w1 w.heap.size (.mapIter (some m) clock (seen.push e.born) clock)).heap[w.heap.size]?=some (.mapIter (some m) clock (seen.push e.born) clock):=by
     simp only [setBlock]
     have:=lt_of_some i1'
     simp [this]
    have hmt:(setBlock w1 w.heap.size (.mapIter (some m) clock (seen.push e.born) clock)).heap[m]?=some (.map es clock):=hk1.blk i2 hne
    refine⟨_,.inr ⟨x,y,by rw [← h7,← h8];exact hrun,?_⟩⟩
    refine⟨(x,y),setBlock w1 w.heap.size (.mapIter (some m) clock (seen.push e.born) clock),?_,?_⟩
    ·have:=run_entry_at (P:=P) _ w.heap.size m clock seen es clock e hat hmt hem hst2.2.1
     rw [h7,h8] at this
     exact this
    ·refine hbody _ d s _ x y rfl (lt_of_some hat) (hst _ _ _ _ _ rfl i4 hk1) h9 ?_ ?_ again λs' w' hI hr hm=>?_
     ·intro hd
      obtain⟨e',he',hk',hc⟩:=(i5 x).1 hd
      have:=key_once hs he' hem (hk'.trans h7.symm)
      subst this
      rw [hes] at hc
      cases hc
     ·rintro _ ⟨⟩
      rw [hmt,hb]
     ·refine hagain _ s' w' (i3 ▸ left_shrinks es seen e he) ⟨seen.push e.born,_,hr.trans hat,(hm m rfl).trans hmt,rfl,hI,λq=>?_⟩
      rw [i5 q]
      constructor
      ·rintro (⟨e',he',hk',hc⟩ | rfl)
       ·exact⟨e',he',hk',by rw [contains_push,hc];rfl⟩
       ·exact⟨e,hem,h7,by rw [contains_push];simp⟩
      ·rintro⟨e',he',hk',hc⟩
       rw [contains_push] at hc
       rcases Bool.or_eq_true _ _ ▸ hc with hc | hc
       ·exact .inl ⟨e',he',hk',hc⟩
       ·have:e'.born=e.born:=by simpa using hc
        have:=born_once hs he' hem this
        subst this
        exact .inr (Ty.enc_inj (hk'.symm.trans h7))
end
end Go.Fk
end
end
