/-
  A part of the proof: what the functions of the program come to, read off the model: no premise of its own, no axiom. Blank space is spared. By an AI agent.
-/
import Derived.Test.YtmbalpbjcfpggaaGreatDoorV3
import Derived.Test.YtmbalpbjcfpggaaGreatDoorV2
import Derived.Lib.Strings
import Derived.Lib.IndexMore
import Derived.Lib.ItoaNum
import Derived.Deep.Draws
import Derived.Lib.Split
import Derived.Lib.Join
import Derived.Shelf.SlSortCmp.NoneTotal
set_option linter.all false
set_option maxRecDepth 100000
noncomputable section
section
namespace Go.Ev
open Go Go.Fk
section
variable {D:Type} {P:Program} {Hd:D→Loc→View→Prop} {w0:Base} {vs:List Vid} {n:Nat} {K:List Nat} {ops:Array Oper} {js:Array Nat} {e:E} {cl:Nat→Hk D}
theorem ite_ok {c:Prop} [Decidable c] (h:(if c then R.ok else R.no 0)=R.ok):c:=by
 by_cases hc:c
 ·exact hc
 ·rw [if_neg hc] at h;cases h
theorem firstQ_mem {f:Nat→Oper→Bool} {listed:Array Bool} {i:Nat}:∀ {l:List Nat},firstQ f ops listed l=some i→i∈l∧Region.free .any ops listed i=true
 | [],h=>by cases h
 | j::l,h=>by
  unfold firstQ at h
  split at h
  ·split at h
   ·rename_i hf
    cases h;exact⟨by simp,hf⟩
   ·have:=firstQ_mem h;exact⟨by simp [this.1],this.2⟩
  ·have:=firstQ_mem h;exact⟨by simp [this.1],this.2⟩
theorem mkA_keep {ds:List Vid} {loc:List (Option Nat)} {g:Array Bool→List (Option Nat)→Pl} {listed:Array Bool} (hg:∀ a b,allKeep ds (g a b)):∀ l:List Nat,allKeep ds (mkA P ops js loc g listed l)
 | []=>trivial
 | i::l=>by
  unfold mkA
  split
  ·cases l with
   | nil=>exact hg _ _
   | cons j l=>exact⟨hg _ _,mkA_keep hg _⟩
  ·trivial
theorem keepOf_snd (loc:List (Option Nat)) (kp:List Nat):(keepOf loc kp).map (·.2)=kp.map path:=by simp [keepOf]
theorem mkP_keep {kp:List Nat}:∀ (f:Nat) (listed:Array Bool) (loc:List (Option Nat)),allKeep (kp.map path) (mkP P ops js kp f listed loc)
 | 0,listed,loc=>by
  unfold mkP
  split
  ·exact keepOf_snd loc kp
  ·trivial
 | f + 1,listed,loc=>by
  unfold mkP
  split
  ·exact keepOf_snd loc kp
  ·split
   ·split
    ·exact mkP_keep f _ _
    ·trivial
   ·exact mkA_keep (mkP_keep f) _
theorem mkT_keep {not kp:List Nat}:∀ (f:Nat) (listed:Array Bool) (loc:List (Option Nat)),allKeep (kp.map path) (mkT P not ops js kp f listed loc).2
 | 0,listed,loc=>by
  unfold mkT
  exact mkP_keep (P:=P) (ops:=ops) (js:=js) 0 listed loc
 | f + 1,listed,loc=>by
  unfold mkT
  split
  ·exact keepOf_snd loc kp
  ·split
   ·split
    ·exact mkT_keep f _ _
    ·trivial
   ·exact mkP_keep (f + 1) listed loc
theorem mkA_ok {r:Pg} {kk:E→H D→R} {loc:List (Option Nat)} {L:Lc} {σ:H D} {g:Array Bool→List (Option Nat)→Pl} {listed:Array Bool}:∀ {l:List Nat},l≠[]→evP P cl true vs r e kk (mkA P ops js loc g listed l) L σ=.ok →
  ∀ i∈l,∃ o j,ops[i]?=some o∧evP P cl true vs r e kk (.eff (compS P ops loc o j) (g (listed.setIfInBounds i true) (cons o loc))) L σ=.ok
 | [],hne,_,i,_=>absurd rfl hne
 | i0::l,_,h,i,hi=>by
  unfold mkA at h
  split at h
  ·rename_i o j ho hj
   cases l with
   | nil =>
    simp at hi;subst hi
    exact⟨o,j,ho,h⟩
   | cons i1 l =>
    have h':R.and (evP P cl true vs r e kk (.eff (compS P ops loc o j) (g (listed.setIfInBounds i0 true) (cons o loc))) L σ) (evP P cl true vs r e kk (mkA P ops js loc g listed (i1::l)) L σ)=.ok:=h
    have hand:∀ {x y:R},R.and x y=.ok→x=.ok∧y=.ok:=by
     intro x y h
     cases x with
     | ok=>exact⟨rfl,h⟩
     | no n=>cases h
    obtain⟨h1,h2⟩:=hand h'
    rcases List.mem_cons.1 hi with rfl | hi
    ·exact⟨o,j,ho,h1⟩
    ·exact mkA_ok (by simp) h2 i hi
  ·cases h
section
variable {Q:Exit→Act→World→Prop} {a₀:Act} {φ₀:Phi} {σ₀:H D} {kk:E→H D→R} {r:Pg} {w1:World}
theorem dst_mem {o:Oper} (ho:o∈ops.toList):∀ t,o.dst=some t→t∈dsts ops.toList:=by
 intro t ht
 have:∀ l:List Oper,o∈l→t∈dsts l:=by
  intro l
  induction l with
  | nil=>intro h;cases h
  | cons o' l ih =>
   intro h
   rw [dsts_cons]
   rcases List.mem_cons.1 h with rfl | h
   ·rw [ht];simp
   ·cases o'.dst with
    | none=>exact ih h
    | some d=>simp [ih h]
 exact this _ ho
theorem evP_ok (hcl:ClOK P Hd w0 cl) (hn:n < 4000) (hb:bltAll n (dsts ops.toList)=true) (hns:Region.noSelect ops=true) (hP:∀ c a w,¬ Q (.panic c) a w) (hr1:∀ q∈r,PledgeAt φ₀ q w1) (hQ:∀ φ' e' σ' a' w',φ₀.le φ'→Fr n K φ' [] [] e' a'→(∀ q,q ∉ (keepL K (dsts ops.toList) []).map path→e'.getp q=e.getp q)→Rel P Hd w0 φ' σ' w'→Ext σ₀ σ'→Same (dsts ops.toList) a₀ a'→kk e' σ'=.ok→Q .normal a' w'):∀ (f:Nat) (listed:Array Bool) (loc:List (Option Nat)) (L:Lc) (σ:H D) (φ:Phi) (a:Act) (w:World),φ₀.le φ→Fr n K φ loc L e a→(∀ t j,idxOf t loc 0=some j→t∈dsts ops.toList)→Same (dsts ops.toList) a₀ a→Rel P Hd w0 φ σ w→Ext σ₀ σ→(∀ q∈r,PledgeAt φ₀ q w) →
  evP P cl true vs r e kk (mkP P ops js (keepL K (dsts ops.toList) []) f listed loc) L σ=.ok→wpAnyH P .any ops Q (λw=>∀ q∈r,PledgeAt φ₀ q w) f listed a w
 | 0,listed,loc,L,σ,φ,a,w,hle,hF,hl,hS,hr,hx,hp,h=>by
  unfold mkP at h
  split at h
  ·rename_i hrd
   obtain⟨e',h1,h2,h3⟩:=hF.close hn hb hl (show keepE L (keepOf loc _) e (λe=>kk e σ)=.ok from h)
   exact wpAnyH_done hrd (hQ φ e' σ a w hle h2 h3 hr hx hS h1) 0
  ·cases h
 | f + 1,listed,loc,L,σ,φ,a,w,hle,hF,hl,hS,hr,hx,hp,h=>by
  unfold mkP at h
  split at h
  ·rename_i hrd
   obtain⟨e',h1,h2,h3⟩:=hF.close hn hb hl (show keepE L (keepOf loc _) e (λe=>kk e σ)=.ok from h)
   exact wpAnyH_done hrd (hQ φ e' σ a w hle h2 h3 hr hx hS h1) _
  rename_i i₀ l hrd
  split at h
  ·rename_i i hi
   obtain⟨hmem,hfree⟩:=firstQ_mem hi
   split at h
   ·rename_i o j ho hj
    have hom:o∈ops.toList:=by simpa using Array.mem_of_getElem? ho
    have hlt:∀ t,o.dst=some t→t < n:=λt ht=>dsts_mem ht _ hb hom
    obtain⟨u,y,g1,g2,g3⟩:=evPu_ok (σ:=σ) (k:=λL=>evP P cl true vs r e kk (mkP P ops js (keepL K (dsts ops.toList) []) f (listed.setIfInBounds i true) (cons o loc)) L σ) hF h
    refine wpAnyH_take (v:=y) ho hns hfree (by rw [hrd];simpa using hmem) (λc a w hq=>(hP _ _ _ hq).elim) (g3.imp (λ⟨h1,h2⟩=>⟨h1,λw _=>h2 w⟩) id) hp ?_
    exact evP_ok hcl hn hb hns hP hr1 hQ f _ _ _ σ φ _ w hle (hF.push hlt g2) (idxOf_cons_mem hl (dst_mem hom)) (same_dst hom (λ_ h=>h) hS y) hr hx hp g1
   ·cases h
  ·refine wpAnyH_all hrd (by simp) λi hi=>?_
   obtain⟨o,j,ho,h1⟩:=mkA_ok (by simp) h i hi
   have hom:o∈ops.toList:=by simpa using Array.mem_of_getElem? ho
   have hlt:∀ t,o.dst=some t→t < n:=λt ht=>dsts_mem ht _ hb hom
   have h2:evS P cl true vs (compS P ops loc o j) L e σ (λL σ=>holds σ r (evP P cl true vs r e kk (mkP P ops js (keepL K (dsts ops.toList) []) f (listed.setIfInBounds i true) (cons o loc)) L σ))=.ok:=h1
   unfold wpOp
   rw [ho]
   simp only []
   rcases evS_ok hcl hF hr h2 with⟨hw,hO⟩ | ⟨hw,h3⟩
   ·rw [if_pos hw]
    refine .inl (op_wp hO λy w' hpost=>?_)
    obtain⟨φ',v,σ',g1,g2,g3,g4,g5⟩:=hpost
    obtain⟨g6,g7⟩:=holds_ok g2 (hle.trans g1) hr1 g5
    exact⟨g6,evP_ok hcl hn hb hns hP hr1 hQ f _ _ _ σ' φ' _ w' (hle.trans g1) ((hF.mono g1).push hlt g3) (idxOf_cons_mem hl (dst_mem hom)) (same_dst hom (λ_ h=>h) hS y) g2 (hx.trans g4) g6 g7⟩
   ·rw [if_neg (by simp [hw])]
    obtain⟨g6,g7⟩:=holds_ok hr hle hr1 h3
    exact⟨g6,evP_ok hcl hn hb hns hP hr1 hQ f _ _ _ σ φ _ w hle (hF.push hlt (show dec φ (.t [])=some undef from rfl)) (idxOf_cons_mem hl (dst_mem hom)) (same_dst hom (λ_ h=>h) hS _) hr hx g6 g7⟩
theorem mkT_ok (hcl:ClOK P Hd w0 cl) (hn:n < 4000) (hb:bltAll n (dsts ops.toList)=true) (hns:Region.noSelect ops=true) (hP:∀ c a w,¬ Q (.panic c) a w) (hr1:∀ q∈r,PledgeAt φ₀ q w1) (hQ:∀ φ' e' σ' a' w',φ₀.le φ'→Fr n K φ' [] [] e' a'→(∀ q,q ∉ (keepL K (dsts ops.toList) []).map path→e'.getp q=e.getp q)→Rel P Hd w0 φ' σ' w'→Ext σ₀ σ'→Same (dsts ops.toList) a₀ a'→kk e' σ'=.ok→Q .normal a' w') {not:List Nat} {φ:Phi} {σ:H D} {w:World} (hle:φ₀.le φ) (hr:Rel P Hd w0 φ σ w) {σ1:H D} (hr':Rel P Hd w0 φ σ1 w) (hx:Ext σ₀ σ1) (hp:∀ q∈r,PledgeAt φ₀ q w):∀ (f:Nat) (listed:Array Bool) (loc:List (Option Nat)) (L L':Lc) (r0:Pg) (a:Act),Fr n K φ loc L e a→(∀ t j,idxOf t loc 0=some j→t∈dsts ops.toList)→Same (dsts ops.toList) a₀ a →
  (∀ k:Lc→Pg→R,evT P e σ (mkT P not ops js (keepL K (dsts ops.toList) []) f listed loc).1 L r0 k=k L' r)→evP P cl true vs r e kk (mkT P not ops js (keepL K (dsts ops.toList) []) f listed loc).2 L' σ1=.ok→wpAnyH P .any ops Q (λw=>∀ q∈r,PledgeAt φ₀ q w) f listed a w
 | 0,listed,loc,L,L',r0,a,hF,hl,hS,ht,h=>by
  unfold mkT at ht h
  have:L=L':=by
   classical
   have:=ht λl _=>if l=L' then .ok else .no 0
   simp only [if_true] at this
   have h1:(if L=L' then R.ok else R.no 0)=.ok:=this
   split at h1
   ·assumption
   ·cases h1
  subst this
  exact evP_ok (js:=js) hcl hn hb hns hP hr1 hQ 0 listed loc L σ1 φ a w hle hF hl hS hr' hx hp h
 | f + 1,listed,loc,L,L',r0,a,hF,hl,hS,ht,h=>by
  have same:∀ {M:Lc→Pg→R},True:=trivial
  unfold mkT at ht h
  split at h
  ·rename_i hrd
   have:L=L':=by
    rw [hrd] at ht
    classical
    have:=ht λl _=>if l=L' then .ok else .no 0
    simp only [if_true] at this
    have h1:(if L=L' then R.ok else R.no 0)=.ok:=this
    split at h1
    ·assumption
    ·cases h1
   subst this
   obtain⟨e',h1,h2,h3⟩:=hF.close hn hb hl (show keepE L (keepOf loc _) e (λe=>kk e σ1)=.ok from h)
   exact wpAnyH_done hrd (hQ φ e' σ1 a w hle h2 h3 hr' hx hS h1) _
  rename_i i₀ l hrd
  rw [hrd] at ht
  simp only at ht
  cases hi:firstQ (takeS P not) ops listed (i₀::l) with
  | some i =>
   rw [hi] at ht h
   simp only at ht h
   obtain⟨hmem,hfree⟩:=firstQ_mem hi
   cases ho:ops[i]? with
   | none=>rw [ho] at h;cases h
   | some o =>
    cases hj:js[i]? with
    | none=>rw [ho,hj] at h;cases h
    | some j =>
     rw [ho,hj] at ht h
     simp only at ht h
     have hom:o∈ops.toList:=by simpa using Array.mem_of_getElem? ho
     have hlt:∀ t,o.dst=some t→t < n:=λt ht=>dsts_mem ht _ hb hom
     obtain⟨L1,r1,t1,t2⟩:=evTk_step ht
     obtain⟨rr,e1,_⟩:=evT_valid hr t2
     classical
     have hk:=t1 λl x=>if l=L1∧x=r1 then .ok else .no 0
     simp only [and_self,if_true] at hk
     obtain⟨u,y,r2,g1,g2,g3⟩:=evTk_ok hF hr hk
     obtain⟨eL,er⟩:=ite_ok g1
     subst er
     rw [← eL] at t2
     refine wpAnyH_take (v:=y) ho hns hfree (by rw [hrd];simpa using hmem) (λc a w hq=>(hP _ _ _ hq).elim) (g3.imp (λ⟨h1,h2⟩=>⟨h1,λw' hw'=>h2 w' λq hq=>(hw' q (by rw [e1];exact List.mem_append.2 (.inr hq))).mono hle⟩) id) hp ?_
     exact mkT_ok hcl hn hb hns hP hr1 hQ hle hr hr' hx hp f _ _ _ L' r2 _ (hF.push hlt g2) (idxOf_cons_mem hl (dst_mem hom)) (same_dst hom (λ_ h=>h) hS y) t2 h
  | none =>
   rw [hi] at ht h
   simp only at ht h
   have:L=L':=by
    classical
    have:=ht λl _=>if l=L' then .ok else .no 0
    simp only [if_true] at this
    have h1:(if L=L' then R.ok else R.no 0)=.ok:=this
    split at h1
    ·assumption
    ·cases h1
   subst this
   exact evP_ok (js:=js) hcl hn hb hns hP hr1 hQ (f + 1) listed loc L σ1 φ a w hle hF hl hS hr' hx hp h
end
end
section
variable {D:Type} {P:Program} {Hd:D→Loc→View→Prop} {w0:Base} {vs:List Vid} {n:Nat} {K:List Nat} {ops:Array Oper} {e:E}
theorem new_ok {σ:H D} {k:List Vid→H D→R} (h:σ.new k=.ok):∃ σn,(∀ v,σn.look v=σ.look v)∧σn.log=[]∧k σ.log σn=.ok:=by
 cases σ with
 | mk t nx lg=>exact⟨.mk t nx [],λ_=>rfl,rfl,h⟩
theorem old_ok {σ:H D} {l:List Vid} {k:H D→R} (h:σ.old l k=.ok):∃ σn,(∀ v,σn.look v=σ.look v)∧σn.log=σ.log++l∧k σn=.ok:=by
 cases σ with
 | mk t nx lg=>exact⟨.mk t nx (lg++l),λ_=>rfl,rfl,h⟩
theorem and_ok {x y:R} (h:R.and x y=.ok):x=.ok∧y=.ok:=by
 cases x with
 | ok=>exact⟨rfl,h⟩
 | no n=>cases h
theorem Ext.back {σ σn σ1 σ2:H D} (h1:∀ v,σn.look v=σ.look v) (h0:σn.log=[]) (hx:Ext σn σ1) (h2:∀ v,σ2.look v=σ1.look v) (hl:σ2.log=σ1.log++σ.log):Ext σ σ2:=by
 obtain⟨l,e1,e2⟩:=hx
 exact⟨l,by rw [hl,e1,h0];simp,λv hv=>by rw [h2,e2 v hv,h1]⟩
theorem evDraw_ok {cl:Bool→Nat→Hk D} (hcl:ClOK P Hd w0 (cl true)) (hdet:ClDet (cl false)) (hm:P.follows .mixedOrders=true) {Q:Exit→Act→World→Prop} {id:Nat} {φ:Phi} {σ:H D} {a:Act} {w:World} {not:List Nat} {js:Array Nat} {kn:E→H D→R}
  (hn:n < 4000) (hb:bltAll n (dsts ops.toList)=true) (hns:Region.noSelect ops=true) (hP:∀ c a w,¬ Q (.panic c) a w) (hF:Fr n K φ [] [] e a) (hr:Rel P Hd w0 φ σ w)
  (hQ:∀ φ' e' σ' a' w',φ.le φ'→Fr n K φ' [] [] e' a'→Rel P Hd w0 φ' σ' w'→Ext σ σ'→Same (dsts ops.toList) a a'→kn e' σ'=.ok→Q .normal a' w')
  (h:evDraw P cl true vs (mkT P not ops js (keepL K (dsts ops.toList) []) ops.size (Array.replicate ops.size false) []).1 (mkT P not ops js (keepL K (dsts ops.toList) []) ops.size (Array.replicate ops.size false) []).2 e σ kn=.ok):(Code.region id ops true).wp P Q a w:=by
 unfold evDraw at h
 obtain⟨f,⟨L',r,rfl⟩,h1,h2⟩:=(evT_det (κ:=Lc→Pg→R) (p:=λf=>∃ L1 r1,f=λk:Lc→Pg→R=>k L1 r1) (P:=P) (e:=e) (σ:=σ) (L:=[]) (r:=[]) (f:=λL r k=>k L r) λL r=>Det.leaf ⟨L,r,rfl⟩).out h
 obtain⟨rr,e1,e2⟩:=evT_valid hr.drew h2
 have hp:∀ q∈r,PledgeAt φ q w.drew:=λq hq=>e2 q (by rw [e1] at hq;simpa using hq)
 simp only at h1
 refine wp_region_held_drew (S:=λw=>∀ q∈r,PledgeAt φ q w) hm hp λ_=>?_
 split at h1
 ·exact mkT_ok (a₀:=a) (φ₀:=φ) (σ₀:=σ) (w1:=w.drew) hcl hn hb hns hP hp (λφ' e' σ' a' w' g1 g2 _ g3 g4 g5 g6=>hQ φ' e' σ' a' w' g1 g2 g3 g4 g5 g6) (.refl _) hr.drew hr.drew (.refl _) hp _ _ _ _ _ _ _ hF (by intro t j h;cases h) (Same.refl _ _) h2 h1
 ·
  obtain⟨pl,hpl⟩:∃ pl,pl=(mkT P not ops js (keepL K (dsts ops.toList) []) ops.size (Array.replicate ops.size false) []).2:=⟨_,rfl⟩
  rw [← hpl] at h1
  have h1':H.new σ (λlg σn=>evP P (cl false) false vs r e (λe1 σ1=>R.and (evP P (cl true) true vs r e (λe2 σ2=>okIf (both (eEq (keepsOf pl) e2 e1) (hEq σ2 σ1)) 130) pl L' σn) (σ1.old lg λσ1=>kn e1 σ1)) pl L' σn)=.ok:=h1
  obtain⟨σn,n1,n2,n3⟩:=new_ok h1'
  obtain⟨f,⟨e1',σ1,hx1,he1,hk1,rfl⟩,m1,m2⟩:=(evP_det (κ:=E→H D→R) (p:=λf=>∃ e1 σ1,Ext σn σ1∧(∀ x,x ∉ keepsOf pl→e1.getp x=e.getp x)∧(∀ ds,allKeep ds pl→keepsOf pl=ds)∧f=λk=>k e1 σ1)
   hdet (r:=r) (f:=λe σ k=>k e σ) (λe' σ' g1 g2 g3=>Det.leaf ⟨e',σ',g1,g2,g3,rfl⟩)).out n3
  have hds:=hk1 _ (hpl ▸ mkT_keep (P:=P) (ops:=ops) (js:=js) (not:=not) (kp:=keepL K (dsts ops.toList) []) ops.size (Array.replicate ops.size false) [])
  obtain⟨m3,m4⟩:=and_ok m1
  rw [hpl] at m3 hds
  obtain⟨σ2,o1,o2,o3⟩:=old_ok m4
  have hrn:Rel P Hd w0 φ σn w.drew:=hr.drew.same rfl Keeps.refl n1
  refine mkT_ok (a₀:=a) (φ₀:=φ) (σ₀:=σn) (w1:=w.drew) hcl hn hb hns hP hp (λφ' e' σ' a' w' g1 g2 g20 g3 g4 g5 g6=>?_) (.refl _) hr.drew hrn (.refl _) hp _ _ _ _ _ _ _ hF (by intro t j h;cases h) (Same.refl _ _) h2 m3
  obtain⟨q1,q2⟩:=both_ok.1 (okIf_ok g6)
  have hE:∀ q,e1'.getp q=e'.getp q:=λq=>by
   by_cases hq:q∈(keepL K (dsts ops.toList) []).map path
   ·exact (eEq_ok q1 q (by rw [hds];exact hq)).symm
   ·rw [g20 q hq];exact he1 q (by rw [hpl,hds];exact hq)
  have hS:=hEq_ok q2 g4 hx1 n2
  exact hQ φ' e1' σ2 a' w' g1 (g2.congr hE) ((g3.perm hS).same rfl Keeps.refl o1) (Ext.back n1 n2 hx1 o1 o2) g5 o3
def Cont (P:Program) (Hd:D→Loc→View→Prop) (w0:Base) (n:Nat) (K:List Nat) (φ₀:Phi) (σ₀:H D) (k:Kc D) (a:Act) (w:World):Prop:=∃ φ e σ,φ₀.le φ∧Fr n K φ [] [] e a∧Rel P Hd w0 φ σ w∧Ext σ₀ σ∧k e σ=.ok
def PostX (P:Program) (Hd:D→Loc→View→Prop) (w0:Base) (n:Nat) (K:List Nat) (ws:List Nat) (a₀:Act) (φ₀:Phi) (σ₀:H D) (kn:Kc D) (kx:Nat→Kc D) (kr:Kc D):Exit→Act→World→Prop
 | .normal,a,w=>Same ws a₀ a∧Cont P Hd w0 n K φ₀ σ₀ kn a w
 | .exit id,a,w=>Same ws a₀ a∧Cont P Hd w0 n K φ₀ σ₀ (kx id) a w
 | .ret,a,w=>Cont P Hd w0 n K φ₀ σ₀ kr a w
 | _,_,_=>False
variable {φ φ':Phi} {σ σ':H D} {a a':Act} {w w':World} {kn:Kc D} {kx:Nat→Kc D} {kr:Kc D}
theorem Cont.up {k:Kc D} (h:Cont P Hd w0 n K φ' σ' k a w) (hle:φ.le φ') (hx:Ext σ σ'):Cont P Hd w0 n K φ σ k a w:=by
 obtain⟨φ2,e,σ2,h1,h2,h3,h4,h5⟩:=h
 exact⟨φ2,e,σ2,hle.trans h1,h2,h3,hx.trans h4,h5⟩
theorem delE_ok {k:E→R}:∀ {ds:List Vid} {e:E},delE ds e k=.ok→∃ e',k e'=.ok∧(∀ q,q ∉ ds→e'.getp q=e.getp q)∧∀ q∈ds,e'.getp q=none
 | [],e,h=>⟨e,h,λ_ _=>rfl,by simp⟩
 | d::ds,e,h=>by
  obtain⟨e1,h1,h2⟩:=delp_ok (show E.delp d e (λe=>delE ds e k)=.ok from h)
  obtain⟨e2,h3,h4,h5⟩:=delE_ok h2
  refine⟨e2,h3,λq hq=>?_,λq hq=>?_⟩
  ·simp at hq;rw [h4 q hq.2,h1,if_neg hq.1]
  ·by_cases hm:q∈ds
   ·exact h5 q hm
   ·have:q=d:=by rcases List.mem_cons.1 hq with h | h;exact h;exact absurd h hm
    rw [h4 q hm,h1,if_pos this]
end
section
variable {D:Type} {P:Program} {Hd:D→Loc→View→Prop} {w0:Base} {n:Nat} {A:Adv} {fu:Nat} {cl:Bool→Nat→Hk D}
theorem evC_ok (hcl:ClOK P Hd w0 (cl true)) (hdet:ClDet (cl false)) (hm:P.follows .mixedOrders=true) (hn:n < 4000):∀ (c:Code) (e:E) (σ:H D) (kn:Kc D) (kx:Nat→Kc D) (kr:Kc D) (φ:Phi) (a:Act) (w:World),
  codeOk n c=true→Fr n A.kp φ [] [] e a→Rel P Hd w0 φ σ w→evC P fu cl (comp P A c) true e σ kn kx kr=.ok→c.wp P (PostX P Hd w0 n A.kp (asg c) a φ σ kn kx kr) a w:=by
 intro c
 induction c with
 | skip=>intro e σ kn kx kr φ a w hok hF hr h;exact wp_skip ⟨Same.refl _ _,φ,e,σ,.refl _,hF,hr,.refl _,h⟩
 | region id ops d =>
  intro e σ kn kx kr φ a w hok hF hr h
  simp only [codeOk] at hok
  split at hok <;> try (cases hok;done)
  rename_i hb
  cases d with
  | false =>
   have h':evC P fu cl (.reg (countF P ops.toList) (compL P ops (keepL A.kp (dsts ops.toList) []) ops.toList (slots P ops.toList 0) []).1 (compL P ops (keepL A.kp (dsts ops.toList) []) ops.toList (slots P ops.toList 0) []).2) true e σ kn kx kr=.ok:=h
   have fin:∀ (vs:List Vid) (σ1:H D),(∀ v,σ1.look v=σ.look v)→σ1.log=σ.log→evL P (cl true) true vs e (compL P ops (keepL A.kp (dsts ops.toList) []) ops.toList (slots P ops.toList 0) []).1 [] σ1 (λL σ=>keepE L (compL P ops (keepL A.kp (dsts ops.toList) []) ops.toList (slots P ops.toList 0) []).2 e λe=>kn e σ)=.ok →
     (Code.region id ops false).wp P (PostX P Hd w0 n A.kp (asg (.region id ops false)) a φ σ kn kx kr) a w:=by
    intro vs σ1 h1 h2 h3
    exact wp_region_list (evL_ok (all:=dsts ops.toList) (a₀:=a) (φ₀:=φ) (σ₀:=σ) hcl hn hb (λφ' e' σ' a' w' g1 g2 g3 g4 g5 g6=>⟨g5,φ',e',σ',g1,g2,g3,g4,g6⟩) ops.toList 0 [] [] σ1 φ a w (λt h=>h) (Same.refl _ _) hF (by intro t j h;cases h) (hr.same rfl Keeps.refl h1) (Ext.same h1 h2) (.refl _) h3)
   cases hcnt:countF P ops.toList with
   | zero=>rw [hcnt] at h';exact fin [] σ (λ_=>rfl) rfl h'
   | succ m =>
    rw [hcnt] at h'
    obtain⟨vs,σ1,g1,g2,g3⟩:=H.room_ok (show H.room (m + 1) σ (λvs σ=>evL P (cl true) true vs e (compL P ops (keepL A.kp (dsts ops.toList) []) ops.toList (slots P ops.toList 0) []).1 [] σ λL σ=>keepE L (compL P ops (keepL A.kp (dsts ops.toList) []) ops.toList (slots P ops.toList 0) []).2 e λe=>kn e σ)=.ok from h')
    exact fin vs σ1 g1 g2 g3
  | true =>
   have h':evC P fu cl (.draw (countF P ops.toList) (mkT P (A.ld id) ops (slots P ops.toList 0).toArray (keepL A.kp (dsts ops.toList) []) ops.size (Array.replicate ops.size false) []).1 (mkT P (A.ld id) ops (slots P ops.toList 0).toArray (keepL A.kp (dsts ops.toList) []) ops.size (Array.replicate ops.size false) []).2) true e σ kn kx kr=.ok:=h
   have fin:∀ (vs:List Vid) (σ1:H D),(∀ v,σ1.look v=σ.look v)→σ1.log=σ.log→evDraw P cl true vs (mkT P (A.ld id) ops (slots P ops.toList 0).toArray (keepL A.kp (dsts ops.toList) []) ops.size (Array.replicate ops.size false) []).1 (mkT P (A.ld id) ops (slots P ops.toList 0).toArray (keepL A.kp (dsts ops.toList) []) ops.size (Array.replicate ops.size false) []).2 e σ1 kn=.ok →
     (Code.region id ops true).wp P (PostX P Hd w0 n A.kp (asg (.region id ops true)) a φ σ kn kx kr) a w:=by
    intro vs σ1 h1 h2 h3
    exact evDraw_ok hcl hdet hm hn hb hok (λ_ _ _ h=>h) hF (hr.same rfl Keeps.refl h1) (λφ' e' σ' a' w' g1 g2 g3 g4 g5 g6=>⟨g5,φ',e',σ',g1,g2,g3,(Ext.same h1 h2).trans g4,g6⟩) h3
   cases hcnt:countF P ops.toList with
   | zero=>rw [hcnt] at h';exact fin [] σ (λ_=>rfl) rfl h'
   | succ m =>
    rw [hcnt] at h'
    obtain⟨vs,σ1,g1,g2,g3⟩:=H.room_ok (show H.room (m + 1) σ (λvs σ=>evDraw P cl true vs (mkT P (A.ld id) ops (slots P ops.toList 0).toArray (keepL A.kp (dsts ops.toList) []) ops.size (Array.replicate ops.size false) []).1 (mkT P (A.ld id) ops (slots P ops.toList 0).toArray (keepL A.kp (dsts ops.toList) []) ops.size (Array.replicate ops.size false) []).2 e σ kn)=.ok from h')
    exact fin vs σ1 g1 g2 g3
 | seq x y ihx ihy =>
  intro e σ kn kx kr φ a w hok hF hr h
  simp only [codeOk] at hok
  split at hok <;> try (cases hok;done)
  rename_i hx
  have h':evC P fu cl (comp P A x) true e σ (λe σ=>evC P fu cl (comp P A y) true e σ kn kx kr) kx kr=.ok:=h
  refine wp_seq (Code.wp_mono (λex a' w' hp=>?_) (ihx e σ _ kx kr φ a w hx hF hr h'))
  cases ex <;> simp only [Exit.then,PostX] at hp ⊢
  ·obtain⟨hS,φ1,e1,σ1,g1,g2,g3,g4,g5⟩:=hp
   refine Code.wp_mono (λex a'' w'' hp=>?_) (ihy e1 σ1 kn kx kr φ1 a' w' hok g2 g3 g5)
   cases ex <;> simp only [PostX] at hp ⊢
   ·exact⟨(Same.left hS).trans (Same.right hp.1),hp.2.up g1 g4⟩
   ·exact⟨(Same.left hS).trans (Same.right hp.1),hp.2.up g1 g4⟩
   ·exact hp.up g1 g4
  ·exact⟨Same.left hp.1,hp.2⟩
  ·exact hp
 | cond v x y ihx ihy =>
  intro e σ kn kx kr φ a w hok hF hr h
  simp only [codeOk] at hok
  split at hok <;> try (cases hok;done)
  rename_i hx
  obtain⟨u,h1,h2⟩:=getO_ok (show getO (opd [] v) [] e (λc=>c.onB (λc=>iff' c (evC P fu cl (comp P A x) true e σ kn kx kr) (evC P fu cl (comp P A y) true e σ kn kx kr)) 140)=.ok from h)
  obtain⟨b,rfl,h3⟩:=onB_ok h2
  have hv:=dec_b (hF.cx.opd h1)
  refine wp_cond hv ?_
  rcases iff_t h3 with⟨rfl,h4⟩ | ⟨rfl,h4⟩
  ·refine Code.wp_mono (λex a' w' hp=>?_) (ihx e σ kn kx kr φ a w hx hF hr h4)
   cases ex <;> simp only [PostX] at hp ⊢
   ·exact⟨Same.left hp.1,hp.2⟩
   ·exact⟨Same.left hp.1,hp.2⟩
   ·exact hp
  ·refine Code.wp_mono (λex a' w' hp=>?_) (ihy e σ kn kx kr φ a w hok hF hr h4)
   cases ex <;> simp only [PostX] at hp ⊢
   ·exact⟨Same.right hp.1,hp.2⟩
   ·exact⟨Same.right hp.1,hp.2⟩
   ·exact hp
 | block id b ih =>
  intro e σ kn kx kr φ a w hok hF hr h
  simp only [comp] at h
  split at h
  ·have h':evC P fu cl (comp P A b) true e σ kn (λi e σ=>iff' (Nat.beq i id) (kn e σ) (kx i e σ)) kr=.ok:=h
   refine wp_block (Code.wp_mono (λex a' w' hp=>?_) (ih e σ kn _ kr φ a w hok hF hr h'))
   cases ex <;> simp only [Exit.inBlock,PostX] at hp ⊢
   ·exact hp
   ·rename_i id'
    obtain⟨hS,φ1,e1,σ1,g1,g2,g3,g4,g5⟩:=hp
    rcases iff_t g5 with⟨hid,g6⟩ | ⟨hid,g6⟩
    ·rw [if_pos (kB hid)]
     exact⟨hS,φ1,e1,σ1,g1,g2,g3,g4,g6⟩
    ·rw [if_neg (Nat.ne_of_beq_eq_false hid)]
     exact⟨hS,φ1,e1,σ1,g1,g2,g3,g4,g6⟩
   ·exact hp
  ·have h':H.new σ (λlg σ=>evC P fu cl (comp P A b) false e σ (noK 142) (λi e1 σ1=>iff' (Nat.beq i id) (R.and (evC P fu cl (comp P A b) true e σ (noK 142) (λi e2 σ2=>iff' (Nat.beq i id) (okIf (hEq σ2 σ1) 144) (R.no 143)) (noK 145)) (σ1.old lg λσ1=>delE ((asg b).map path) e λe=>kn e σ1)) (R.no 143)) (noK 145))=.ok:=h
   obtain⟨σn,n1,n2,n3⟩:=new_ok h'
   obtain⟨f,⟨i1,e1,σ1,hx1,rfl⟩,m1,_⟩:=(evC_det (κ:=Nat→Kc D) (p:=λf=>∃ i e1 σ1,Ext σn σ1∧f=λkx=>kx i e1 σ1) (P:=P) (fu:=fu) (cl:=cl) hdet (comp P A b) (e:=e) (σ:=σn) (fn:=λ_ _ _=>R.no 142) (fx:=λi e σ kx=>kx i e σ) (fr:=λ_ _ _=>R.no 145)
    (λ_ _ _=>Det.no) (λi e' σ' hx=>Det.leaf ⟨i,e',σ',hx,rfl⟩) (λ_ _ _=>Det.no)).out n3
   obtain⟨_,m2⟩:=iff_ok m1
   obtain⟨m3,m4⟩:=and_ok m2
   obtain⟨σ2,o1,o2,o3⟩:=old_ok m4
   obtain⟨e3,d1,d2,d3⟩:=delE_ok o3
   have hrn:Rel P Hd w0 φ σn w:=hr.same rfl Keeps.refl n1
   refine wp_block (Code.wp_mono (λex a' w' hp=>?_) (ih e σn _ _ _ φ a w hok hF hrn m3))
   cases ex <;> simp only [Exit.inBlock,PostX] at hp ⊢
   ·obtain⟨_,_,_,_,_,_,_,_,g5⟩:=hp;cases g5
   ·rename_i id'
    obtain⟨hS,φ1,e2,σ3,g1,g2,g3,g4,g5⟩:=hp
    obtain⟨hid,g6⟩:=iff_ok g5
    rw [if_pos (kB hid)]
    have hSame:=hEq_ok (okIf_ok g6) g4 hx1 n2
    refine⟨hS,φ1,e3,σ2,g1,⟨g2.size,g2.defers,λt k u h=>(by cases h),λt u ht _ hu=>?_,λt ht hu=>?_⟩,(g3.perm hSame).same rfl Keeps.refl o1,Ext.back n1 n2 hx1 o1 o2,d1⟩
    ·by_cases hq:path t∈(asg b).map path
     ·rw [d3 _ hq] at hu;cases hu
     ·rw [d2 _ hq] at hu
      have hnt:memN t (asg b)=false:=by
       cases hb:memN t (asg b) with
       | false=>rfl
       | true=>exact absurd (List.mem_map.2 ⟨t,memN_iff.1 hb,rfl⟩) hq
      rw [hS t hnt]
      exact dec_mono g1 _ _ (hF.env t u ht rfl hu)
    ·by_cases hq:path t∈(asg b).map path
     ·rw [d3 _ hq] at hu;cases hu
     ·rw [d2 _ hq] at hu;exact hF.eK t ht hu
   ·obtain⟨_,_,_,_,_,_,_,g5⟩:=hp;cases g5
 | loop b ih =>
  intro e σ kn kx kr φ a w hok hF hr h
  have h':loopR fu (λr e σ=>evC P fu cl (comp P A b) true e σ r kx kr) e σ=.ok:=h
  have key:∀ (m:Nat) (e1:E) (σ1:H D) (φ1:Phi) (a1:Act) (w1:World),φ.le φ1→Ext σ σ1→Same (asg b) a a1→Fr n A.kp φ1 [] [] e1 a1→Rel P Hd w0 φ1 σ1 w1→loopR m (λr e σ=>evC P fu cl (comp P A b) true e σ r kx kr) e1 σ1=.ok→LoopAt P b (PostX P Hd w0 n A.kp (asg b) a φ σ kn kx kr) a1 w1:=by
   intro m
   induction m with
   | zero=>intro e1 σ1 φ1 a1 w1 _ _ _ _ _ h;cases h
   | succ m ihm =>
    intro e1 σ1 φ1 a1 w1 hle hx hS hF1 hr1 h
    refine loopAt_step (Code.wp_mono (λex a' w' hp=>?_) (ih e1 σ1 _ kx kr φ1 a1 w1 hok hF1 hr1 h))
    cases ex <;> simp only [Exit.then,PostX] at hp ⊢
    ·obtain⟨hS',φ2,e2,σ2,g1,g2,g3,g4,g5⟩:=hp
     exact ihm e2 σ2 φ2 a' w' (hle.trans g1) (hx.trans g4) (hS.trans hS') g2 g3 g5
    ·exact⟨hS.trans hp.1,hp.2.up hle hx⟩
    ·exact hp.up hle hx
  exact wp_of_loopAt (key fu e σ φ a w (.refl _) (.refl _) (Same.refl _ _) hF hr h')
 | exit id=>intro e σ kn kx kr φ a w hok hF hr h;exact wp_exit ⟨Same.refl _ _,φ,e,σ,.refl _,hF,hr,.refl _,h⟩
 | ret=>intro e σ kn kx kr φ a w hok hF hr h;exact wp_ret ⟨φ,e,σ,.refl _,hF,hr,.refl _,h⟩
 | rangeFunc f ps x y=>intro e σ kn kx kr φ a w hok;cases hok
 | scope b ih=>intro e σ kn kx kr φ a w hok;cases hok
 | label l=>intro e σ kn kx kr φ a w hok;cases hok
 | goto l=>intro e σ kn kx kr φ a w hok;cases hok
 | refuse l=>intro e σ kn kx kr φ a w hok;cases hok
end
section
variable {D:Type} {P:Program} {Hd:D→Loc→View→Prop} {w0:Base} {n:Nat} {K:List Nat} {φ:Phi} {σ:H D} {e:E} {a:Act} {w:World}
theorem resL_ok (hF:Fr n K φ [] [] e a) (hr:Rel P Hd w0 φ σ w):∀ {l:List ResultVar} {k:List V→R},resL e σ (l.map (compR P)) k=.ok→∃ us ys,(l.mapM (resOf a.tmps)).run P w=.ok ys w∧decs φ us=some ys∧k us=.ok
 | [],k,h=>⟨[],[],rfl,rfl,h⟩
 | r::l,k,h=>by
  have h':resV (compR P r) e σ (λv=>resL e σ (l.map (compR P)) λvs=>k (v::vs))=.ok:=h
  have fin:∀ {u:V} {y:Value},dec φ u=some y→(resOf a.tmps r).run P w=.ok y w→resL e σ (l.map (compR P)) (λvs=>k (u::vs))=.ok→∃ us ys,((r::l).mapM (resOf a.tmps)).run P w=.ok ys w∧decs φ us=some ys∧k us=.ok:=by
   intro u y h1 h2 h3
   obtain⟨us,ys,g1,g2,g3⟩:=resL_ok hF hr h3
   refine⟨u::us,y::ys,?_,decs_cons h1 g2,g3⟩
   simp only [List.mapM_cons,Sem.run_bind,h2,Result.andThen_ok,g1,Sem.run_pure]
  cases r with
  | tmp t =>
   have hc:compR P (.tmp t)=match Nat.blt t 4000 with | true=>.tmp (path t) | false=>.bad:=rfl
   rw [hc] at h'
   cases hb:Nat.blt t 4000 with
   | false=>rw [hb] at h';cases h'
   | true =>
    rw [hb] at h'
    obtain⟨u,h1,h2⟩:=orE_ok (show orE (e.getp (path t)) (λv=>resL e σ (l.map (compR P)) λvs=>k (v::vs)) 150=.ok from h')
    exact fin (hF.env t u (by simpa using hb) rfl h1) (by simp [resOf]) h2
  | cell c t =>
   have hc:compR P (.cell c t)=match P.underlying t,sizeC P t,Nat.blt c 4000 with | some u,some n,true=>.cell (path c) n (isAggD u) | _,_,_=>.bad:=rfl
   rw [hc] at h'
   cases hu:P.underlying t with
   | none=>rw [hu] at h';cases h'
   | some ud =>
    cases hs:sizeC P t with
    | none=>rw [hu,hs] at h';cases h'
    | some m =>
     cases hb:Nat.blt c 4000 with
     | false=>rw [hu,hs,hb] at h';cases h'
     | true =>
      rw [hu,hs,hb] at h'
      simp only at h'
      obtain⟨x,h1,h2⟩:=orE_ok (show orE (e.getp (path c)) (λx=>match isAggD ud with | true=>vLdA m x σ (λv=>resL e σ (l.map (compR P)) λvs=>k (v::vs)) | false=>vLd x σ (λv=>resL e σ (l.map (compR P)) λvs=>k (v::vs))) 151=.ok from h')
      have hx:=hF.env c x (by simpa using hb) rfl h1
      obtain⟨inf,hi,hin⟩:=sizeC_ok hs
      cases hag:isAggD ud with
      | true =>
       rw [hag] at h2
       obtain⟨v,off,ex,m',cc,ty,sz,uu,ll,rfl,g1,gA,g2,g3,g4⟩:=vLdA_ok h2
       obtain⟨L0,cs0,_,_,hc0⟩:=hr.cells g1
       obtain⟨ad,ys,e1,e2,e3,e4,e5⟩:=cells_list hr g1 g2 (g3 hc0.has) hx
       refine fin (u:=uu) (y:=.agg ys.toArray) (gA.of e2 e4) ?_ g4
       have hl:=run_loadCells (P:=P) e5
       rw [e3] at hl
       simp only [resOf,e1,asAddr,Sem.run_bind,Sem.run_pure,Result.andThen_ok,loadVar,run_isAgg' w hu,hag,run_sizeOf' w hi,hin,if_true]
       simp [hl]
      | false =>
       rw [hag] at h2
       obtain⟨v,off,ex,m',cc,ty,sz,u,rfl,g1,g2,g3⟩:=vLd_ok h2
       obtain⟨ad,z,e1,e2,e3,_,_⟩:=hr.cell g1 g2 hx
       refine fin (u:=u) (y:=z) e3 ?_ g3
       simp [resOf,e1,asAddr,loadVar,run_isAgg' w hu,hag,load,Sem.run,e2]
theorem evRet_ok {fn:Func} {k:V→H D→R} (hF:Fr n K φ [] [] e a) (hr:Rel P Hd w0 φ σ w) (h:evRet (fn.results.toList.map (compR P)) k e σ=.ok):∃ u y,(results fn a.tmps).run P w=.ok y w∧dec φ u=some y∧k u σ=.ok:=by
 obtain⟨us,ys,h1,h2,h3⟩:=resL_ok hF hr (show resL e σ _ _=.ok from h)
 have hres:(results fn a.tmps).run P w=.ok (if h:ys.toArray.size=1 then ys.toArray[0] else .tuple ys.toArray) w:=by
  have e1:results fn a.tmps=(fn.results.mapM (resOf a.tmps) >>= λvs=>pure (if h:vs.size=1 then vs[0] else .tuple vs)):=by
   unfold results
   congr 2
  rw [e1,Array.mapM_eq_mapM_toList]
  simp only [Sem.run_bind,Sem.run_map,h1,Result.andThen_ok,Sem.run_pure]
 rw [hres]
 have hlen:=decs_length h2
 rcases us with _ | ⟨u,_ | ⟨u',us⟩⟩
 ·have:ys=[]:=List.eq_nil_of_length_eq_zero (by simpa using hlen)
  subst this
  exact⟨.t [],_,rfl,rfl,h3⟩
 ·obtain⟨y,m,rfl,d1,d2⟩:=decs_cons_inv h2
  simp [decs] at d2;subst d2
  exact⟨u,y,rfl,d1,h3⟩
 ·obtain⟨y,m,rfl,d1,d2⟩:=decs_cons_inv h2
  obtain⟨y',m',rfl,d3,d4⟩:=decs_cons_inv d2
  refine⟨.t (u::u'::us),.tuple (y::y'::m').toArray,?_,by simp [dec,decs,d1,d3,d4],h3⟩
  rw [dif_neg (by simp)]
theorem args_eq {l:List V} (h:l.length≤64):E.args l=T3.ofA l:=by
 have h2:T2.ofL l=T2.ofA l:=by
  unfold T2.ofL T2.ofA E8.tab
  simp only [T1.ofL_eq,dropL_eq,Nat.reduceMul,List.drop_zero]
 have h3:(Bool.rec (motive:=λ_=>T2 V) (T2.ofL l) ⟨T1.ofL l,T1.nil,T1.nil,T1.nil,T1.nil,T1.nil,T1.nil,T1.nil⟩ (Nat.ble (lenL l) 8):T2 V)=T2.ofA l:=by
  cases hb:Nat.ble (lenL l) 8 with
  | false=>exact h2
  | true =>
   rw [lenL_eq] at hb
   have hb:l.length≤8:=Nat.le_of_ble_eq_true hb
   show (⟨T1.ofL l,T1.nil,T1.nil,T1.nil,T1.nil,T1.nil,T1.nil,T1.nil⟩:T2 V)=_
   unfold T2.ofA E8.tab
   simp only [T1.ofL_eq,Nat.reduceMul,List.drop_zero]
   rw [List.drop_eq_nil_of_le (i:=8) hb,List.drop_eq_nil_of_le (i:=16) (by omega),List.drop_eq_nil_of_le (i:=24) (by omega),List.drop_eq_nil_of_le (i:=32) (by omega),List.drop_eq_nil_of_le (i:=40) (by omega),List.drop_eq_nil_of_le (i:=48) (by omega),List.drop_eq_nil_of_le (i:=56) (by omega)]
   rfl
 unfold E.args
 rw [h3]
 unfold T3.ofA E8.tab
 simp only [Nat.reduceMul,List.drop_zero]
 rw [List.drop_eq_nil_of_le (i:=64) h,List.drop_eq_nil_of_le (i:=128) (by omega),List.drop_eq_nil_of_le (i:=192) (by omega),List.drop_eq_nil_of_le (i:=256) (by omega),List.drop_eq_nil_of_le (i:=320) (by omega),List.drop_eq_nil_of_le (i:=384) (by omega),List.drop_eq_nil_of_le (i:=448) (by omega)]
 rw [T2.nil_eq]
theorem argE_ok {np:Nat} {l:List V} {k:E→R} (h:argE np l k=.ok) (_:np < 4000):l.length=np∧∃ e,k e=.ok∧∀ t,t < 4000→e.getp (path t)=l[t]?:=by
 obtain⟨h1,h2⟩:=iff_ok h
 simp only [Bool.and_eq_true] at h1
 have h3:=kB h1.1
 rw [lenL_eq] at h3
 have h4:np≤64:=Nat.le_of_ble_eq_true h1.2
 refine⟨h3,_,h2,λt _=>?_⟩
 rw [args_eq (by omega)]
 show Bool.rec (motive:=λ_=>Option V) none (T3.get t (T3.ofA l)) (Nat.blt t 512)=_
 cases hb:Nat.blt t 512 with
 | false=>have:=blt_false hb;show none=_;rw [List.getElem?_eq_none (by omega)]
 | true =>
  have:t < 512:=by simpa using hb
  show T3.get t (T3.ofA l)=_
  rw [T3.get_ofA,Nat.mod_eq_of_lt this]
def FxOK (P:Program) (Hd:D→Loc→View→Prop) (w0:Base) (F:Nat) (h:Fx D):Prop:=∀ (fu:Nat) (cl:Bool→Nat→Hk D),ClOK P Hd w0 (cl true)→ClDet (cl false)→∀ (l:List V) (σ:H D) (k:V→H D→R) (φ:Phi) (w:World) (vs:List Value),Rel P Hd w0 φ σ w→decs φ l=some vs→h fu cl true l σ k=.ok →
 enters P F=true∧Calls P F vs.toArray w λe w''=>∃ v,e=.returned v∧Post P Hd w0 φ σ k v w''
theorem evFn_ok {A:Nat→Adv} {F:Nat} (hm:P.follows .mixedOrders=true) (hen:enters P F=true):FxOK P Hd w0 F (evFn (D:=D) P A F):=by
 intro fu cl hcl hdet l σ k φ w vs hr hd h
 refine⟨hen,?_⟩
 unfold evFn at h
 cases hfc:fnC P A F with
 | none=>rw [hfc] at h;cases h
 | mk np c rs =>
  rw [hfc] at h
  simp only at h
  unfold fnC at hfc
  split at hfc <;> try (cases hfc;done)
  rename_i fn hf
  split at hfc <;> try (cases hfc;done)
  rename_i c0 hb
  split at hfc <;> try (cases hfc;done)
  rename_i h1 h2 h3
  cases hfc
  simp only [Bool.and_eq_true] at h1
  have hn:fn.ntmps < 4000:=by simpa using h1.1
  have hnp:fn.params.size + fn.nfree≤fn.ntmps:=Nat.le_of_ble_eq_true h1.2
  obtain⟨hl,e,h4,h5⟩:=argE_ok h (by omega)
  have hlen:=decs_length hd
  refine calls_of_wp hf hb ?_
  have h6:evC P fu cl (comp P (A F) c0) true e σ (evRet (fn.results.toList.map (compR P)) k) (λ_=>noK 161) (evRet (fn.results.toList.map (compR P)) k)=.ok:=h4
  have hF:Fr fn.ntmps (A F).kp φ [] [] e { tmps:=vs.toArray++Array.replicate (fn.ntmps - vs.toArray.size) undef,defers:=[] }:=by
   refine⟨by simp;omega,rfl,λt j u h=>(by cases h),λt u ht _ hu=>?_,λt ht hu=>?_⟩
   ·rw [h5 t ht] at hu
    obtain⟨y,g1,g2⟩:=decs_get hd hu
    have hlt:t < vs.length:=(kA g1).1
    simp only [Array.getD_eq_getD_getElem?]
    rw [Array.getElem?_append_left (by simpa using hlt)]
    simp [g1,g2]
   ·rw [h5 t ht] at hu
    have hlt:t < l.length:=by
     rcases Nat.lt_or_ge t l.length with h | h
     ·exact h
     ·rw [List.getElem?_eq_none h] at hu;cases hu
    rw [List.all_eq_true] at h3
    exact h3 t (by simp;omega)
  refine Code.wp_mono (λex a' w' hp=>?_) (evC_ok hcl hdet hm hn c0 e σ _ _ _ φ _ w h2 hF hr h6)
  cases ex <;> simp only [PostX] at hp
  ·obtain⟨_,φ1,e1,σ1,g1,g2,g3,g4,g5⟩:=hp
   obtain⟨u,y,r1,r2,r3⟩:=evRet_ok g2 g3 g5
   exact⟨g2.defers,_,r1,y,rfl,φ1,u,σ1,g1,g3,r2,g4,r3⟩
  ·obtain⟨_,_,_,_,_,_,_,_,g5⟩:=hp;cases g5
  ·obtain⟨φ1,e1,σ1,g1,g2,g3,g4,g5⟩:=hp
   obtain⟨u,y,r1,r2,r3⟩:=evRet_ok g2 g3 g5
   exact⟨g2.defers,_,r1,y,rfl,φ1,u,σ1,g1,g3,r2,g4,r3⟩
theorem evF_ok {T:T4 (Fx D)} {fu:Nat} (hT:∀ F h,T.getp F=some h→FxOK P Hd w0 F h) (hD:∀ q h,T.getp q=some h→FxDet h):∀ fuel,ClOK P Hd w0 (evF T fu fuel true)
 | 0=>λ_ _ _ _ _ _ _ _ _ h=>by cases h
 | fuel + 1=>λF l σ k φ w vs hr hd h=>by
  obtain⟨h1,h2⟩:=iff_ok (show iff' (Nat.blt F 4096) (orE (T.getp F) (λh=>h fu (evF T fu fuel) true l σ k) (10000 + F)) (R.no 161)=.ok from h)
  obtain⟨g,h3,h4⟩:=orE_ok h2
  exact hT F g h3 fu (evF T fu fuel) (evF_ok hT hD fuel) (evF_det hD fuel) l σ k φ w vs hr hd h4
theorem up_eq {α:Type} (d:D8) (f:α→α) (c:E8 α):E8.up d f c=E8.upd d c (f (E8.get d c)):=by cases c;cases d <;> rfl
theorem insT_eq (x:Fx D) (i:Nat) (t:T4 (Fx D)):insT x i t=T4.set (some x) i t:=by
 unfold insT
 simp only [up_eq]
 rfl
theorem tabL_ok:∀ {l:List (Nat × Fx D)} {q:Nat} {h:Fx D},(∀ p∈l,p.1 < 4096)→(tabL l).getp q=some h→∃ p∈l,q=p.1∧h=p.2
 | [],q,h,_,hh=>by
  have h1:(Bool.rec (motive:=λ_=>Option (Fx D)) none (T4.get q T4.nil) (Nat.blt q 4096):Option (Fx D))=some h:=hh
  have h0:∀ q,T4.get q (T4.nil:T4 (Fx D))=none:=λq=>by rw [T4.nil_eq,T4.get_ofA];simp
  cases hb:Nat.blt q 4096 with
  | false=>rw [hb] at h1;cases h1
  | true=>rw [hb] at h1;rw [h0] at h1;cases h1
 | p::l,q,h,hl,hh=>by
  have hp:=hl p (by simp)
  have h1:(Bool.rec (motive:=λ_=>Option (Fx D)) none (T4.get q (insT p.2 p.1 (tabL l))) (Nat.blt q 4096):Option (Fx D))=some h:=hh
  cases hb:Nat.blt q 4096 with
  | false=>rw [hb] at h1;cases h1
  | true =>
   have hq':q < 4096:=by simpa using hb
   rw [hb] at h1
   have h1:T4.get q (insT p.2 p.1 (tabL l))=some h:=h1
   rw [insT_eq,T4.get_set,Nat.mod_eq_of_lt hq',Nat.mod_eq_of_lt hp] at h1
   by_cases hq:q=p.1
   ·rw [if_pos hq] at h1;cases h1;exact⟨p,by simp,hq,rfl⟩
   ·rw [if_neg hq] at h1
    obtain⟨p',g1,g2⟩:=tabL_ok (l:=l) (q:=q) (λp hp=>hl p (by simp [hp])) (by show Bool.rec (motive:=λ_=>Option (Fx D)) none (T4.get q (tabL l)) (Nat.blt q 4096)=_;rw [hb];exact h1)
    exact⟨p',by simp [g1],g2⟩
theorem evF_tab {l:List (Nat × Fx D)} {fu:Nat} (hl:∀ p∈l,p.1 < 4096∧FxOK P Hd w0 p.1 p.2∧FxDet p.2) (fuel:Nat):ClOK P Hd w0 (evF (tabL l) fu fuel true):=by
 refine evF_ok (λF h hh=>?_) (λq h hh=>?_) fuel
 ·obtain⟨p,g1,g2,g3⟩:=tabL_ok (λp hp=>(hl p hp).1) hh
  subst g2 g3
  exact (hl p g1).2.1
 ·obtain⟨p,g1,_,g3⟩:=tabL_ok (λp hp=>(hl p hp).1) hh
  subst g3
  exact (hl p g1).2.2
end
def isPre:List Nat→List Nat→Bool
 | [],_=>true
 | a::l,b::m=>match Nat.beq (a % 256) (b % 256) with | true=>isPre l m | false=>false
 | _::_,[]=>false
def cutL (sep:Nat):List Nat→List Nat→Option (List Nat × List Nat)
 | [],_=>none
 | a::l,acc=>match Nat.beq (a % 256) (sep % 256) with | true=>some (acc.reverse,l) | false=>cutL sep l (a::acc)
def splitL (sep:Nat):List Nat→List Nat→List (List Nat)
 | [],acc=>[acc.reverse]
 | a::l,acc=>match Nat.beq (a % 256) (sep % 256) with | true=>acc.reverse::splitL sep l [] | false=>splitL sep l (a::acc)
def digitsL:Nat→Nat→List Nat→List Nat
 | 0,_,acc=>acc
 | f + 1,n,acc=>match Nat.blt n 10 with | true=>(48 + n)::acc | false=>digitsL f (n / 10) ((48 + n % 10)::acc)
def itoaL (n:Nat):List Nat:=digitsL 20 n []
section
variable {D:Type}
def hkCut:Hk D:=λargs σ k=>match args with
 | [.s s,.s [c]]=>iff' (Nat.blt (List.length s) 1000000) (match cutL c s [] with
  | some (a,b)=>k (.t [.s a,.s b,.b true]) σ
  | none=>k (.t [.s s,.s [],.b false]) σ) (.no 300)
 | _=>.no 300
def hkCutPrefix:Hk D:=λargs σ k=>match args with
 | [.s s,.s p]=>match isPre p s with
  | true=>k (.t [.s (s.drop p.length),.b true]) σ
  | false=>k (.t [.s s,.b false]) σ
 | _=>.no 301
def hkHasPrefix:Hk D:=λargs σ k=>match args with
 | [.s s,.s p]=>k (.b (isPre p s)) σ
 | _=>.no 302
def hkSplit (ty:Nat):Hk D:=λargs σ k=>match args with
 | [.s s,.s [c]]=>iff' (Nat.blt (List.length s) 1000000) (H.room 1 σ λvs σ=>fL (List.length (splitL c s [])) λn=>mkRow (vAt 0 vs) ((splitL c s []).map V.s) ty 1 σ λσ=>k (.sl (vAt 0 vs) 0 n (.ex n)) σ) (.no 303)
 | _=>.no 303
def idxB (c:Nat):List Nat→Nat→Option Nat
 | [],_=>none
 | a::l,n=>match Nat.beq (a % 256) (c % 256) with | true=>some n | false=>idxB c l (n + 1)
def hkIndexByte:Hk D:=λargs σ k=>match args with
 | [.s s,.i q (.ofNat c)]=>iff' (Nat.beq (kIx q) 4&&Nat.blt c 256) (match idxB c s 0 with
  | some n=>k (.i .i64 (.ofNat n)) σ
  | none=>k (.i .i64 (.negSucc 0)) σ) (.no 312)
 | _=>.no 312
end
def ii (n:Nat):V:=.i .i64 (.ofNat n)
def gE (o:Option V) (k:V→R):R:=orE o k 2
def cE (o:Option V) (a b:R):R:=orE o (λc=>V.onB c (λc=>iff' c a b) 140) 2
def rE (o:Option V) (k:V→R):R:=orE o k 150
def cR (o:Option V) (k:V→R) (m:Nat):R:=orE o k m
def p00 (f:T1 V→Option V→(T1 V→R)→R) (v:V) (e:E) (k:E→R):R:=f e.c0.c0 (some v) λx=>E8.s0 e.c0 x λy=>E8.s0 e y k
def p01 (f:T1 V→Option V→(T1 V→R)→R) (v:V) (e:E) (k:E→R):R:=f e.c0.c1 (some v) λx=>E8.s1 e.c0 x λy=>E8.s0 e y k
def p02 (f:T1 V→Option V→(T1 V→R)→R) (v:V) (e:E) (k:E→R):R:=f e.c0.c2 (some v) λx=>E8.s2 e.c0 x λy=>E8.s0 e y k
def p03 (f:T1 V→Option V→(T1 V→R)→R) (v:V) (e:E) (k:E→R):R:=f e.c0.c3 (some v) λx=>E8.s3 e.c0 x λy=>E8.s0 e y k
def p04 (f:T1 V→Option V→(T1 V→R)→R) (v:V) (e:E) (k:E→R):R:=f e.c0.c4 (some v) λx=>E8.s4 e.c0 x λy=>E8.s0 e y k
def p05 (f:T1 V→Option V→(T1 V→R)→R) (v:V) (e:E) (k:E→R):R:=f e.c0.c5 (some v) λx=>E8.s5 e.c0 x λy=>E8.s0 e y k
def p06 (f:T1 V→Option V→(T1 V→R)→R) (v:V) (e:E) (k:E→R):R:=f e.c0.c6 (some v) λx=>E8.s6 e.c0 x λy=>E8.s0 e y k
def p07 (f:T1 V→Option V→(T1 V→R)→R) (v:V) (e:E) (k:E→R):R:=f e.c0.c7 (some v) λx=>E8.s7 e.c0 x λy=>E8.s0 e y k
def p10 (f:T1 V→Option V→(T1 V→R)→R) (v:V) (e:E) (k:E→R):R:=f e.c1.c0 (some v) λx=>E8.s0 e.c1 x λy=>E8.s1 e y k
def p11 (f:T1 V→Option V→(T1 V→R)→R) (v:V) (e:E) (k:E→R):R:=f e.c1.c1 (some v) λx=>E8.s1 e.c1 x λy=>E8.s1 e y k
def p12 (f:T1 V→Option V→(T1 V→R)→R) (v:V) (e:E) (k:E→R):R:=f e.c1.c2 (some v) λx=>E8.s2 e.c1 x λy=>E8.s1 e y k
def p13 (f:T1 V→Option V→(T1 V→R)→R) (v:V) (e:E) (k:E→R):R:=f e.c1.c3 (some v) λx=>E8.s3 e.c1 x λy=>E8.s1 e y k
def p14 (f:T1 V→Option V→(T1 V→R)→R) (v:V) (e:E) (k:E→R):R:=f e.c1.c4 (some v) λx=>E8.s4 e.c1 x λy=>E8.s1 e y k
def p15 (f:T1 V→Option V→(T1 V→R)→R) (v:V) (e:E) (k:E→R):R:=f e.c1.c5 (some v) λx=>E8.s5 e.c1 x λy=>E8.s1 e y k
def p16 (f:T1 V→Option V→(T1 V→R)→R) (v:V) (e:E) (k:E→R):R:=f e.c1.c6 (some v) λx=>E8.s6 e.c1 x λy=>E8.s1 e y k
def p17 (f:T1 V→Option V→(T1 V→R)→R) (v:V) (e:E) (k:E→R):R:=f e.c1.c7 (some v) λx=>E8.s7 e.c1 x λy=>E8.s1 e y k
def p20 (f:T1 V→Option V→(T1 V→R)→R) (v:V) (e:E) (k:E→R):R:=f e.c2.c0 (some v) λx=>E8.s0 e.c2 x λy=>E8.s2 e y k
def p22 (f:T1 V→Option V→(T1 V→R)→R) (v:V) (e:E) (k:E→R):R:=f e.c2.c2 (some v) λx=>E8.s2 e.c2 x λy=>E8.s2 e y k
def p25 (f:T1 V→Option V→(T1 V→R)→R) (v:V) (e:E) (k:E→R):R:=f e.c2.c5 (some v) λx=>E8.s5 e.c2 x λy=>E8.s2 e y k
def p26 (f:T1 V→Option V→(T1 V→R)→R) (v:V) (e:E) (k:E→R):R:=f e.c2.c6 (some v) λx=>E8.s6 e.c2 x λy=>E8.s2 e y k
def p36 (f:T1 V→Option V→(T1 V→R)→R) (v:V) (e:E) (k:E→R):R:=f e.c3.c6 (some v) λx=>E8.s6 e.c3 x λy=>E8.s3 e y k
def fB {D:Type} (np:Nat) (ret:K D→Kc D) (b:Nat→(Bool→Nat→Hk D)→Bool→Kc D→Kc D):Fx D:=λfu cl md args σ k=>argE np args λe=>bindK (λkr=>b fu cl md kr e σ) (ret k)
section
variable {D:Type} {P:Program} {Hd:D→Loc→View→Prop} {w0:Base} {F:Nat}
theorem FxDet.of {h:Hk D} (hh:∀ (κ:Type) (p:(κ→R)→Prop) (l:List V) (σ:H D) (f:V→H D→κ→R),(∀ u σ',Ext σ σ'→Det p (f u σ'))→Det p (λk=>h l σ (λu σ=>f u σ k))):FxDet (λ_ _ _=>h):=⟨λ_ _ _ κ p l σ f hf=>hh κ p l σ f hf⟩
theorem FxOK.of {h:Hk D} (hen:enters P F=true) (hh:∀ (l:List V) (σ:H D) (k:V→H D→R) (φ:Phi) (w:World) (vs:List Value),Rel P Hd w0 φ σ w→decs φ l=some vs→h l σ k=.ok→Calls P F vs.toArray w λe w''=>∃ v,e=.returned v∧Post P Hd w0 φ σ k v w''):FxOK P Hd w0 F (λ_ _ _=>h) :=
 λ_ _ _ _ l σ k φ w vs hr hd hk=>⟨hen,hh l σ k φ w vs hr hd hk⟩
theorem bytesOf_list (l:List Nat):(bytesOf l).data.toList=l.map UInt8.ofNat:=by simp [bytesOf]
theorem u8_eq (a b:Nat):Nat.beq (a % 256) (b % 256)=(UInt8.ofNat a==UInt8.ofNat b):=by
 rw [nbeq]
 have:(UInt8.ofNat a=UInt8.ofNat b)↔a % 256=b % 256:=by
  constructor
  ·intro h
   have:=congrArg UInt8.toNat h
   simpa using this
  ·intro h
   apply UInt8.toNat_inj.1
   simpa using h
 by_cases h:a % 256=b % 256
 ·rw [this.2 h];simp [h]
 ·have h':¬ UInt8.ofNat a=UInt8.ofNat b:=λe=>h (this.1 e)
  simp [h,h']
theorem isPre_eq:∀ (p s:List Nat),isPre p s=(p.map UInt8.ofNat).isPrefixOf (s.map UInt8.ofNat)
 | [],s=>rfl
 | a::l,[]=>rfl
 | a::l,b::m=>by
  simp only [isPre,List.map_cons,List.isPrefixOf]
  rw [u8_eq,isPre_eq l m]
  cases (UInt8.ofNat a==UInt8.ofNat b) <;> rfl
theorem two_s {φ:Phi} {s p:List Nat} {vs:List Value} (h:decs φ [.s s,.s p]=some vs):vs=[.string (bytesOf s),.string (bytesOf p)]:=by
 obtain⟨y,m,rfl,h1,h2⟩:=decs_cons_inv h
 obtain⟨y',m',rfl,h3,h4⟩:=decs_cons_inv h2
 simp [decs] at h4;subst h4
 rw [dec_s h1,dec_s h3]
theorem hasPrefix_ok (hen:enters P F=true) (hC:∀ (s p:ByteArray) (w:World),Calls P F #[.string s,.string p] w λe w'=>e=.returned (.bool (Lib.hasPrefix s.data.toList p.data.toList))∧w'=w):FxOK P Hd w0 F (λ_ _ _=>(hkHasPrefix:Hk D)):=by
 refine FxOK.of hen λl σ k φ w vs hr hd h=>?_
 unfold hkHasPrefix at h
 split at h <;> try (cases h;done)
 rename_i s p
 have:=two_s hd
 subst this
 refine (hC (bytesOf s) (bytesOf p) w).mono λe w' ⟨h1,h2⟩=>?_
 subst h2
 refine⟨_,h1,Post.pure hr ?_ h⟩
 simp only [dec,Lib.hasPrefix,bytesOf_list,isPre_eq]
theorem hasPrefix_det:FxDet (λ_ _ _=>(hkHasPrefix:Hk D)):=FxDet.of λκ p l σ f hf=>by
 unfold hkHasPrefix
 rcases l with _ | ⟨a,_ | ⟨b,_ | ⟨c,l⟩⟩⟩
 ·exact Det.no
 ·cases a <;> exact Det.no
 ·cases a <;> cases b <;> first | exact Det.no | exact hf _ _ (.refl _)
 ·cases a <;> cases b <;> exact Det.no
theorem cutPrefix_ok (hen:enters P F=true) (hC:∀ (s p:ByteArray) (w:World),Calls P F #[.string s,.string p] w λe w'=>e=.returned (.tuple #[.string ⟨(Lib.trimPrefix s.data.toList p.data.toList).toArray⟩,.bool (Lib.hasPrefix s.data.toList p.data.toList)])∧w'=w):FxOK P Hd w0 F (λ_ _ _=>(hkCutPrefix:Hk D)):=by
 refine FxOK.of hen λl σ k φ w vs hr hd h=>?_
 unfold hkCutPrefix at h
 split at h <;> try (cases h;done)
 rename_i s p
 have:=two_s hd
 subst this
 refine (hC (bytesOf s) (bytesOf p) w).mono λe w' ⟨h1,h2⟩=>?_
 subst h2
 split at h
 ·rename_i hp
  refine⟨_,h1,Post.pure hr ?_ h⟩
  rw [isPre_eq] at hp
  simp only [dec,decs,Lib.hasPrefix,Lib.trimPrefix,bytesOf_list,hp,if_true,Option.bind_some,Option.map_some,Option.some.injEq,List.length_map]
  simp [bytesOf]
 ·rename_i hp
  refine⟨_,h1,Post.pure hr ?_ h⟩
  rw [isPre_eq] at hp
  simp only [dec,decs,Lib.hasPrefix,Lib.trimPrefix,bytesOf_list,hp,Option.bind_some,Option.map_some,Option.some.injEq]
  simp [bytesOf]
theorem cutPrefix_det:FxDet (λ_ _ _=>(hkCutPrefix:Hk D)):=FxDet.of λκ p l σ f hf=>by
 unfold hkCutPrefix
 rcases l with _ | ⟨a,_ | ⟨b,_ | ⟨c,l⟩⟩⟩
 ·exact Det.no
 ·cases a <;> exact Det.no
 ·cases a <;> cases b <;> try exact Det.no
  rename_i s q
  show Det p (λk=>match isPre q s with | true=>f (.t [.s (s.drop q.length),.b true]) σ k | false=>f (.t [.s s,.b false]) σ k)
  cases isPre q s
  ·exact hf _ _ (.refl _)
  ·exact hf _ _ (.refl _)
 ·cases a <;> cases b <;> exact Det.no
end
section
variable {D:Type} {P:Program} {Hd:D→Loc→View→Prop} {w0:Base} {F:Nat}
theorem cutL_ok (c:Nat):∀ (s acc:List Nat),match cutL c s acc with
  | some (a,b)=>∃ i:Nat,Lib.index (s.map UInt8.ofNat) [UInt8.ofNat c]=i∧a=acc.reverse++s.take i∧b=s.drop (i + 1)∧i < s.length
  | none=>Lib.index (s.map UInt8.ofNat) [UInt8.ofNat c]=-1
 | [],acc=>rfl
 | x::l,acc=>by
  unfold cutL
  cases hb:Nat.beq (x % 256) (c % 256) with
  | true =>
   rw [u8_eq] at hb
   have hx:UInt8.ofNat x=UInt8.ofNat c:=beq_iff_eq.1 hb
   refine⟨0,?_,by simp,by simp,by simp⟩
   simp [Lib.index,List.isPrefixOf,hx]
  | false =>
   rw [u8_eq] at hb
   have hx:¬ (UInt8.ofNat c=UInt8.ofNat x):=λe=>by rw [e] at hb;simp at hb
   have ih:=cutL_ok c l (x::acc)
   have hidx:Lib.index ((x::l).map UInt8.ofNat) [UInt8.ofNat c]=if Lib.index (l.map UInt8.ofNat) [UInt8.ofNat c]==-1 then -1 else Lib.index (l.map UInt8.ofNat) [UInt8.ofNat c] + 1:=by
    simp [Lib.index,List.isPrefixOf,hx]
   show match cutL c l (x::acc) with
    | some (a,b)=>∃ i:Nat,Lib.index ((x::l).map UInt8.ofNat) [UInt8.ofNat c]=i∧a=acc.reverse++(x::l).take i∧b=(x::l).drop (i + 1)∧i < (x::l).length
    | none=>Lib.index ((x::l).map UInt8.ofNat) [UInt8.ofNat c]=-1
   rw [hidx]
   cases hc:cutL c l (x::acc) with
   | none=>rw [hc] at ih;simp only at ih ⊢;rw [ih];rfl
   | some p =>
    rw [hc] at ih
    obtain⟨i,h1,h2,h3,h4⟩:=ih
    refine⟨i + 1,?_,?_,?_,by simp;omega⟩
    ·rw [h1,if_neg (by intro h;have:=beq_iff_eq.1 h;omega)];rfl
    ·rw [h2];simp
    ·rw [h3];simp
theorem Rel.cell0 {φ:Phi} {σ:H D} {w:World} (hr:Rel P Hd w0 φ σ w) {m:Int} (hm:w0.w.cell? ⟨0,0,none⟩=some (.int .i64 m)∧¬ w0.M 0):w.cell? ⟨0,0,none⟩=some (.int .i64 m):=by
 obtain⟨hm,hM⟩:=hm
 have h0:∃ o,w0.w.heap[0]?=some o:=by
  cases h:w0.w.heap[0]? with
  | some o=>exact⟨o,rfl⟩
  | none=>simp [World.cell?,h] at hm
 obtain⟨o,ho⟩:=h0
 have:=hr.keeps.blk ho hM
 simp only [World.cell?,ho,this] at hm ⊢
 exact hm
theorem Rel.drewN {φ:Phi} {σ:H D} {w:World} (hr:Rel P Hd w0 φ σ w) (n:Nat):Rel P Hd w0 φ σ (w.drewN n):=hr.same rfl ⟨rfl,rfl,rfl,Nat.le_refl _,λ_ _ _=>rfl⟩ λ_=>rfl
theorem cut_ok {m:Int} (hm:w0.w.cell? ⟨0,0,none⟩=some (.int .i64 m)∧¬ w0.M 0) (hen:enters P F=true)
  (hC:∀ (s sep:ByteArray) (m:Int) (w:World),s.size < 4294967281→w.cell? ⟨0,0,none⟩=some (.int .i64 m)→Calls P F #[.string s,.string sep] w λe w'=>e=.returned (.tuple #[.string ⟨(Lib.cut s.data.toList sep.data.toList).1.toArray⟩,.string ⟨(Lib.cut s.data.toList sep.data.toList).2.1.toArray⟩,.bool (Lib.cut s.data.toList sep.data.toList).2.2])∧∃ n,w'=w.drewN n) :
  FxOK P Hd w0 F (λ_ _ _=>(hkCut:Hk D)):=by
 refine FxOK.of hen λl σ k φ w vs hr hd h=>?_
 unfold hkCut at h
 split at h <;> try (cases h;done)
 rename_i s c
 have:=two_s hd
 subst this
 obtain⟨hb,h⟩:=iff_ok h
 have hb:s.length < 1000000:=by simpa using hb
 refine (hC (bytesOf s) (bytesOf [c]) m w (by rw [bytesOf_size];omega) (hr.cell0 hm)).mono λe w' ⟨h1,n,h2⟩=>?_
 subst h2
 have hcut:=cutL_ok c s []
 have hc1:(bytesOf [c]).data.toList=[UInt8.ofNat c]:=by rw [bytesOf_list];rfl
 rw [bytesOf_list,hc1] at h1
 split at h
 ·rename_i a b hc
  rw [hc] at hcut
  obtain⟨i,g1,g2,g3,g4⟩:=hcut
  refine⟨_,h1,Post.pure (hr.drewN n) ?_ h⟩
  unfold Lib.cut
  rw [g1,if_pos (by omega)]
  simp only [dec,decs,g2,g3,Option.bind_some,Option.map_some,Option.some.injEq]
  simp [bytesOf]
 ·rename_i hc
  rw [hc] at hcut
  refine⟨_,h1,Post.pure (hr.drewN n) ?_ h⟩
  unfold Lib.cut
  simp only at hcut
  rw [hcut,if_neg (by decide)]
  simp only [dec,decs,Option.bind_some,Option.map_some,Option.some.injEq]
  simp [bytesOf]
theorem cut_det:FxDet (λ_ _ _=>(hkCut:Hk D)):=FxDet.of λκ p l σ f hf=>by
 have key:∀ (s:List Nat) (c:Nat),Det p (λk=>iff' (Nat.blt (List.length s) 1000000) (match cutL c s [] with
   | some (a,b)=>f (.t [.s a,.s b,.b true]) σ k
   | none=>f (.t [.s s,.s [],.b false]) σ k) (.no 300)):=λs c=>Det.iff (λ_=>by
  cases cutL c s [] with
  | none=>exact hf _ _ (.refl _)
  | some q=>exact hf _ _ (.refl _)) λ_=>Det.no
 unfold hkCut
 rcases l with _ | ⟨a,_ | ⟨b,_ | ⟨c,l⟩⟩⟩
 ·exact Det.no
 ·cases a <;> exact Det.no
 ·cases a <;> try exact Det.no
  cases b <;> try exact Det.no
  rename_i s q
  rcases q with _ | ⟨c,_ | ⟨d,q⟩⟩
  ·exact Det.no
  ·exact key s c
  ·exact Det.no
 ·cases a <;> cases b <;> first | exact Det.no | (rename_i s q;rcases q with _ | ⟨c,_ | ⟨d,q⟩⟩ <;> exact Det.no)
theorem digits_ok:∀ (f n:Nat) (acc:List Nat),n < 10 ^ (f + 1)→(digitsL (f + 1) n acc).map UInt8.ofNat=Lib.decDigits n++acc.map UInt8.ofNat:=by
 have small:∀ (f n:Nat) (acc:List Nat),n < 10→(digitsL (f + 1) n acc).map UInt8.ofNat=Lib.decDigits n++acc.map UInt8.ofNat:=by
  intro f n acc hn
  have:Nat.blt n 10=true:=by simpa using hn
  unfold digitsL
  rw [this,Lib.decDigits,dif_pos hn];rfl
 intro f
 induction f with
 | zero=>intro n acc h;exact small 0 n acc (by simpa using h)
 | succ f ih =>
  intro n acc h
  by_cases hn:n < 10
  ·exact small _ n acc hn
  ·have hb:Nat.blt n 10=false:=by
    cases hb:Nat.blt n 10 with
    | false=>rfl
    | true=>exact absurd (by simpa using hb) hn
   rw [Lib.decDigits,dif_neg hn]
   show (match Nat.blt n 10 with | true=>(48 + n)::acc | false=>digitsL (f + 1) (n / 10) ((48 + n % 10)::acc)).map UInt8.ofNat=_
   rw [hb]
   show (digitsL (f + 1) (n / 10) ((48 + n % 10)::acc)).map UInt8.ofNat=_
   rw [ih (n / 10) _ (by rw [Nat.pow_succ] at h;omega)]
   simp
end
theorem splitL_cut (c:Nat):∀ (s acc:List Nat),splitL c s acc=match cutL c s acc with
  | none=>[acc.reverse++s]
  | some (a,b)=>a::splitL c b []
 | [],acc=>by simp [splitL,cutL]
 | x::l,acc=>by
  have e1:splitL c (x::l) acc=match Nat.beq (x % 256) (c % 256) with | true=>acc.reverse::splitL c l [] | false=>splitL c l (x::acc):=rfl
  have e2:cutL c (x::l) acc=match Nat.beq (x % 256) (c % 256) with | true=>some (acc.reverse,l) | false=>cutL c l (x::acc):=rfl
  rw [e1,e2]
  cases Nat.beq (x % 256) (c % 256) with
  | true=>rfl
  | false =>
   simp only
   rw [splitL_cut c l (x::acc)]
   cases cutL c l (x::acc) with
   | none=>simp
   | some p=>rfl
theorem splitL_ok (c:Nat):∀ (f:Nat) (s:List Nat),s.length < f→(splitL c s []).map (·.map UInt8.ofNat)=Lib.splitK [UInt8.ofNat c] 0 (Lib.countFrom [UInt8.ofNat c] f (s.map UInt8.ofNat)) (s.map UInt8.ofNat)∧(splitL c s []).length=Lib.countFrom [UInt8.ofNat c] f (s.map UInt8.ofNat) + 1:=by
 intro f
 induction f with
 | zero=>intro s h;omega
 | succ f ih =>
  intro s h
  have hc:=cutL_ok c s []
  rw [splitL_cut]
  cases hcut:cutL c s [] with
  | none =>
   rw [hcut] at hc
   simp only at hc
   rw [Lib.countFrom,hc]
   simp [Lib.splitK]
  | some p =>
   rw [hcut] at hc
   obtain⟨i,h1,h2,h3,h4⟩:=hc
   have hlen:p.2.length < f:=by rw [h3];simp;omega
   obtain⟨g1,g2⟩:=ih p.2 hlen
   have hd:(s.map UInt8.ofNat).drop (((i:Int)).toNat + [UInt8.ofNat c].length)=p.2.map UInt8.ofNat:=by rw [h3];simp [List.map_drop]
   have hne:¬ ((i:Int)==-1)=true:=λe=>by have:=beq_iff_eq.1 e;omega
   rw [Lib.countFrom,h1,if_neg hne,hd,Nat.add_comm 1]
   refine⟨?_,?_⟩
   ·rw [Lib.splitK,h1,if_neg hne,hd,← g1]
    simp only [List.map_cons,h2]
    simp [List.map_take]
   ·simp only [List.length_cons,g2]
section
variable {D:Type} {P:Program} {Hd:D→Loc→View→Prop} {w0:Base} {F ty:Nat}
theorem map_bytes {l:List ByteArray} {m:List (List Nat)} (h:l.map (·.data.toList)=m.map (·.map UInt8.ofNat)):l=m.map bytesOf:=by
 induction l generalizing m with
 | nil=>cases m with | nil=>rfl | cons _ _=>simp at h
 | cons a l ih =>
  cases m with
  | nil=>simp at h
  | cons b m =>
   simp only [List.map_cons,List.cons.injEq] at h
   rw [List.map_cons,ih h.2]
   congr 1
   exact ba_ext (by rw [h.1,bytesOf_list])
theorem decs_strs {φ:Phi}:∀ m:List (List Nat),decs φ (m.map V.s)=some ((m.map bytesOf).map Value.string)
 | []=>rfl
 | a::m=>decs_cons rfl (decs_strs m)
theorem split_ok {m:Int} (hm:w0.w.cell? ⟨0,0,none⟩=some (.int .i64 m)∧¬ w0.M 0) (hen:enters P F=true)
  (hC:∀ (s sep:ByteArray) (m:Int) (w:World),s.size < 4294967281→w.cell? ⟨0,0,none⟩=some (.int .i64 m)→1≤sep.size→Calls P F #[.string s,.string sep] w λe w' =>
   e=.returned (.slice (some ⟨w.heap.size,0,none⟩) (Lib.countB s sep + 1) (Lib.countB s sep + 1))∧w'=w.alloc (.cells ((Lib.splitB sep 0 (Lib.countB s sep) s).map Value.string).toArray ty)) :
  FxOK P Hd w0 F (λ_ _ _=>(hkSplit ty:Hk D)):=by
 refine FxOK.of hen λl σ k φ w vs hr hd h=>?_
 unfold hkSplit at h
 split at h <;> try (cases h;done)
 rename_i s c
 have:=two_s hd
 subst this
 obtain⟨hb,h9⟩:=iff_ok h
 have hb:s.length < 1000000:=by simpa using hb
 obtain⟨vv,σ1,g1,g2,g3⟩:=H.room_ok (show H.room 1 σ (λvs σ=>fL (List.length (splitL c s [])) λn=>mkRow (vAt 0 vs) ((splitL c s []).map V.s) ty 1 σ λσ=>k (.sl (vAt 0 vs) 0 n (.ex n)) σ)=.ok from h9)
 rw [fL_eq] at g3
 have hc1:(bytesOf [c]).data.toList=[UInt8.ofNat c]:=by rw [bytesOf_list];rfl
 obtain⟨k1,k2⟩:=splitL_ok c (s.length + 1) s (by omega)
 have hcnt:Lib.countB (bytesOf s) (bytesOf [c])=Lib.countFrom [UInt8.ofNat c] (s.length + 1) (s.map UInt8.ofNat):=by
  show Lib.count (bytesOf s).data.toList (bytesOf [c]).data.toList=_
  rw [hc1,bytesOf_list]
  unfold Lib.count
  rw [List.length_map]
 have hpieces:Lib.splitB (bytesOf [c]) 0 (Lib.countB (bytesOf s) (bytesOf [c])) (bytesOf s)=(splitL c s []).map bytesOf:=by
  apply map_bytes
  rw [Lib.splitB_data,hc1,bytesOf_list,hcnt,k1]
 refine (hC (bytesOf s) (bytesOf [c]) m w (by rw [bytesOf_size];omega) (hr.cell0 hm) (by rw [bytesOf_size];exact Nat.le_refl _)).mono λe w' ⟨h1,h2⟩=>?_
 rw [hpieces] at h2
 rw [hcnt,← k2] at h1
 subst h2
 have hr1:Rel P Hd w0 φ σ1 w:=hr.same rfl Keeps.refl g1
 obtain⟨φ',σ',d1,d2,d3,d4,d5⟩:=mkRow_ok (cells:=(((splitL c s []).map bytesOf).map Value.string).toArray) hr1 g3 (by simpa using decs_strs (φ:=φ) (splitL c s [])) (by
  intro x hx
  simp only [List.mem_map] at hx
  obtain⟨y,_,rfl⟩:=hx
  rfl)
 refine⟨_,h1,φ',_,σ',d1,d3,by rw [dec_sl_mk d2 (by simp [capOf])];rfl,(Ext.same g1 g2).trans d4,d5⟩
theorem split_det:FxDet (λ_ _ _=>(hkSplit ty:Hk D)):=FxDet.of λκ p l σ f hf=>by
 have key:∀ (s:List Nat) (c:Nat),Det p (λk=>iff' (Nat.blt (List.length s) 1000000) (H.room 1 σ λvs σ=>fL (List.length (splitL c s [])) λn=>mkRow (vAt 0 vs) ((splitL c s []).map V.s) ty 1 σ λσ=>f (.sl (vAt 0 vs) 0 n (.ex n)) σ k) (.no 303)):=λs c=>Det.iff (λ_=>room_det (f:=λvs σ k=>fL (List.length (splitL c s [])) λn=>mkRow (vAt 0 vs) ((splitL c s []).map V.s) ty 1 σ λσ=>f (.sl (vAt 0 vs) 0 n (.ex n)) σ k) λvs σ1 h1=>Det.fL (f:=λn k=>mkRow (vAt 0 vs) ((splitL c s []).map V.s) ty 1 σ1 λσ=>f (.sl (vAt 0 vs) 0 n (.ex n)) σ k) (Det.mkRow λσ2 h2=>hf _ σ2 (h1.trans h2))) λ_=>Det.no
 unfold hkSplit
 rcases l with _ | ⟨a,_ | ⟨b,_ | ⟨c,l⟩⟩⟩
 ·exact Det.no
 ·cases a <;> exact Det.no
 ·cases a <;> try exact Det.no
  cases b <;> try exact Det.no
  rename_i s q
  rcases q with _ | ⟨c,_ | ⟨d,q⟩⟩
  ·exact Det.no
  ·exact key s c
  ·exact Det.no
 ·cases a <;> cases b <;> first | exact Det.no | (rename_i s q;rcases q with _ | ⟨c,_ | ⟨d,q⟩⟩ <;> exact Det.no)
end
theorem idxB_ok (c:Nat):∀ (s:List Nat) (n:Nat),match idxB c s n with
  | some m=>∃ i:Nat,m=n + i∧Lib.indexByte (s.map UInt8.ofNat) (UInt8.ofNat c)=i
  | none=>Lib.indexByte (s.map UInt8.ofNat) (UInt8.ofNat c)=-1
 | [],n=>rfl
 | x::l,n=>by
  have e:idxB c (x::l) n=match Nat.beq (x % 256) (c % 256) with | true=>some n | false=>idxB c l (n + 1):=rfl
  rw [e]
  have hi:Lib.indexByte ((x::l).map UInt8.ofNat) (UInt8.ofNat c)=if UInt8.ofNat x==UInt8.ofNat c then 0 else if Lib.indexByte (l.map UInt8.ofNat) (UInt8.ofNat c)==-1 then -1 else Lib.indexByte (l.map UInt8.ofNat) (UInt8.ofNat c) + 1:=rfl
  rw [hi,u8_eq]
  cases hb:(UInt8.ofNat x==UInt8.ofNat c) with
  | true=>exact⟨0,rfl,rfl⟩
  | false =>
   have ih:=idxB_ok c l (n + 1)
   simp only [Bool.false_eq_true,if_false]
   cases hx:idxB c l (n + 1) with
   | none=>rw [hx] at ih;simp only at ih ⊢;rw [ih];rfl
   | some m =>
    rw [hx] at ih
    obtain⟨i,h1,h2⟩:=ih
    refine⟨i + 1,by omega,?_⟩
    rw [h2,if_neg (by intro h;have:=beq_iff_eq.1 h;omega)];rfl
section
variable {D:Type} {P:Program} {Hd:D→Loc→View→Prop} {w0:Base} {F:Nat}
theorem indexByte_ok (hen:enters P F=true) (hC:∀ (s:ByteArray) (c:Int) (w:World),Calls P F #[.string s,.int .u8 c] w λe w'=>e=.returned (.int .i64 (Lib.indexByte s.data.toList c.toNat.toUInt8))∧w'=w):FxOK P Hd w0 F (λ_ _ _=>(hkIndexByte:Hk D)):=by
 refine FxOK.of hen λl σ k φ w vs hr hd h=>?_
 unfold hkIndexByte at h
 split at h <;> try (cases h;done)
 rename_i s q c
 obtain⟨y,m,rfl,h1,h2⟩:=decs_cons_inv hd
 obtain⟨y',m',rfl,h3,h4⟩:=decs_cons_inv h2
 simp [decs] at h4;subst h4
 obtain⟨hb,h9⟩:=iff_ok h
 simp only [Bool.and_eq_true] at hb
 have hq:q=.u8:=kIx_eq (b:=.u8) hb.1
 subst hq
 rw [dec_s h1,dec_i h3]
 refine (hC (bytesOf s) (Int.ofNat c) w).mono λe w' ⟨g1,g2⟩=>?_
 subst g2
 have hi:=idxB_ok c s 0
 have g3:Lib.indexByte (bytesOf s).data.toList (Int.ofNat c).toNat.toUInt8=Lib.indexByte (s.map UInt8.ofNat) (UInt8.ofNat c):=by rw [bytesOf_list];rfl
 rw [g3] at g1
 split at h9
 ·rename_i n hn
  rw [hn] at hi
  obtain⟨i,e1,e2⟩:=hi
  rw [e2] at g1
  exact⟨_,g1,Post.pure hr (by rw [e1,Nat.zero_add];rfl) h9⟩
 ·rename_i hn
  rw [hn] at hi
  simp only at hi
  rw [hi] at g1
  exact⟨_,g1,Post.pure hr rfl h9⟩
theorem indexByte_det:FxDet (λ_ _ _=>(hkIndexByte:Hk D)):=FxDet.of λκ p l σ f hf=>by
 have key:∀ (s:List Nat) (q:IntKind) (c:Nat),Det p (λk=>iff' (Nat.beq (kIx q) 4&&Nat.blt c 256) (match idxB c s 0 with
  | some n=>f (.i .i64 (.ofNat n)) σ k
  | none=>f (.i .i64 (.negSucc 0)) σ k) (.no 312)):=λs q c=>Det.iff (λ_=>by cases idxB c s 0 <;> exact hf _ _ (.refl _)) λ_=>Det.no
 unfold hkIndexByte
 rcases l with _ | ⟨a,_ | ⟨b,_ | ⟨c,l⟩⟩⟩
 ·exact Det.no
 ·cases a <;> exact Det.no
 ·cases a <;> try exact Det.no
  cases b <;> try exact Det.no
  rename_i s q c
  cases c with
  | ofNat c=>exact key s q c
  | negSucc c=>exact Det.no
 ·cases a <;> cases b <;> first | exact Det.no | (rename_i s q c;cases c <;> exact Det.no)
end
inductive Bd where
 | cells (ex:Bool) (n:Nat) (l:List V) (ty sz:Nat)
 | map (kT:Nat) (ks:KS) (es:List (V × V)) (ver:Nat)
def rowIs (c:Tr V) (l:List V) (i:Nat):Bool :=
 List.rec (motive:=λ_=>Nat→Bool) (λ_=>true) (λx _ ih i=>Option.rec (motive:=λ_=>Bool) false (λu=>both (vEq u x) (ih (Nat.succ i))) (c.get i)) l i
def esIs:List (V × V)→List (V × V)→Bool
 | [],[]=>true
 | p::l,q::m=>both (vEq p.1 q.1) (both (vEq p.2 q.2) (esIs l m))
 | _,_=>false
section
variable {D:Type}
def Bd.is (d:Bd) (b:Blk D):Bool:=match d,b with
 | .cells ex n l ty sz,.cells ex' n' c ty' sz'=>both (ex==ex') (both (Nat.beq n n') (both (Nat.beq ty ty') (both (Nat.beq sz sz') (both (Nat.beq (lenL l) n) (rowIs c l 0)))))
 | .map kT ks es _,.map kT' ks' es' _=>both (Nat.beq kT kT') (both (ksSame ks ks') (esIs es es'))
 | _,_=>false
def Bd.later (d:Bd) (b:Blk D):Bool:=match d,b with
 | .cells _ _ _ _ _,.cells _ _ _ _ _=>true
 | .map kT ks _ ver,.map kT' ks' _ ver'=>both (Nat.beq kT kT') (both (ksSame ks ks') (Nat.blt ver' ver))
 | _,_=>false
def Bd.make (d:Bd) (k:Blk D→R):R:=match d with
 | .cells ex n l ty sz=>trOf l λc=>k (.cells ex n c ty sz)
 | .map kT ks es ver=>k (.map kT ks es ver)
end
structure Memo where
 args:List V
 nx:Nat
 pre:List (Nat × Bd × Bd)
 new:List (Nat × Bd)
 v:V
 nx':Nat
section
variable {D:Type}
def H.nxt (σ:H D) (k:Nat→R):R:=H.rec (motive:=λ_=>R) (λ_ nx _=>k nx) σ
def H.setNx (σ:H D) (n:Nat):H D:=H.rec (motive:=λ_=>H D) (λh _ lg=>.mk h n lg) σ
def preIs (l:List (Nat × Bd × Bd)) (σ:H D) (k:R):R :=
 List.rec (motive:=λ_=>R) k (λp _ ih=>σ.get p.1 λb=>iff' (both (p.2.1.is b) (p.2.2.later b)) ih (.no 400)) l
def putAll (l:List (Nat × Bd)) (σ:H D) (k:H D→R):R :=
 List.rec (motive:=λ_=>H D→R) k (λp _ ih σ=>p.2.make λb=>σ.put p.1 b ih) l σ
def addAll (l:List (Nat × Bd)) (σ:H D) (k:H D→R):R :=
 List.rec (motive:=λ_=>H D→R) k (λp _ ih σ=>p.2.make λb=>σ.add p.1 b ih) l σ
def allAre (l:List (Nat × Bd)) (σ:H D) (k:R):R :=
 List.rec (motive:=λ_=>R) k (λp _ ih=>σ.get p.1 λb=>iff' (p.2.is b) ih (.no 401)) l
def Memo.pre1 (m:Memo):List (Nat × Bd):=m.pre.map λp=>(p.1,p.2.1)
def Memo.pre2 (m:Memo):List (Nat × Bd):=m.pre.map λp=>(p.1,p.2.2)
def hkMemo (m:Memo):Hk D:=λargs σ k =>
 iff' (vEqs args m.args) (preIs m.pre σ (putAll m.pre2 σ λσ=>addAll m.new σ λσ=>k m.v (σ.setNx m.nx'))) (.no 402)
def hkMemos (ms:List Memo) (other:Hk D):Hk D:=λargs σ k =>
 σ.nxt λn=>List.rec (motive:=λ_=>R) (other args σ k) (λm _ ih=>iff' (Nat.beq m.nx n) (hkMemo m args σ k) ih) ms
def Memo.run (m:Memo) (T:T4 (Fx D)) (fu fuel F:Nat):R :=
 addAll m.pre1 (.mk T5.nil m.nx []) λσ=>evF T fu fuel true F m.args σ λv σ=>iff' (vEq v m.v) (allAre m.pre2 σ (allAre m.new σ .ok)) (.no 403)
end
mutual
def clV (S:List Nat):V→Bool
 | .p v _=>memN v S
 | .sl v _ _ _=>memN v S
 | .se v _ _ _ _=>memN v S
 | .m v=>memN v S
 | .f _ a c=>both (clVs S a) (clVs S c)
 | .q _ x=>clV S x
 | .a l=>clVs S l
 | .t l=>clVs S l
 | .w _ _=>false
 | _=>true
 termination_by structural x=>x
def clVs (S:List Nat):List V→Bool
 | []=>true
 | x::l=>both (clV S x) (clVs S l)
 termination_by structural x=>x
end
def clE (S:List Nat):List (V × V)→Bool
 | []=>true
 | p::l=>both (clV S p.1) (both (clV S p.2) (clE S l))
def Bd.cl (S:List Nat):Bd→Bool
 | .cells _ _ l _ _=>clVs S l
 | .map _ _ es _=>clE S es
def clB (S:List Nat):List (Nat × Bd)→Bool
 | []=>true
 | p::l=>both (p.2.cl S) (clB S l)
def Bd.size (d:Bd):Bool:=match d with
 | .cells _ n l _ _=>Nat.beq (lenL l) n
 | .map _ _ _ _=>true
def szB:List (Nat × Bd)→Bool
 | []=>true
 | p::l=>both p.2.size (szB l)
def nodupB:List Nat→Bool
 | []=>true
 | x::l=>both (Bool.rec (motive:=λ_=>Bool) true false (memN x l)) (nodupB l)
def Memo.dom (m:Memo):List Nat:=m.pre.map (·.1)
def Memo.dom' (m:Memo):List Nat:=m.pre.map (·.1)++m.new.map (·.1)
def Memo.closed (m:Memo):Bool :=
 both (clVs m.dom m.args) (both (clB m.dom m.pre1) (both (clV m.dom' m.v) (both (clB m.dom' m.pre2) (both (clB m.dom' m.new) (both (nodupB m.dom') (both (szB m.pre1) (both (szB m.pre2) (szB m.new))))))))
def Phi.on (φ:Phi) (S:List Nat):Phi:=λv=>Bool.rec (motive:=λ_=>Option Loc) none (φ v) (memN v S)
theorem Phi.on_le (φ:Phi) (S:List Nat):(φ.on S).le φ:=λv L h=>by
 unfold Phi.on at h
 cases hb:memN v S with
 | false=>rw [hb] at h;cases h
 | true=>rw [hb] at h;exact h
theorem Phi.on_eq {φ:Phi} {S:List Nat} {v:Nat} (h:memN v S=true):φ.on S v=φ v:=by unfold Phi.on;rw [h]
theorem cl_agree {φ φ':Phi} {S:List Nat} (hφ:∀ v,memN v S=true→∀ L,φ v=some L→φ' v=some L):(∀ (x:V) (y:Value),clV S x=true→dec φ x=some y→dec φ' x=some y)∧∀ (l:List V) (m:List Value),clVs S l=true→decs φ l=some m→decs φ' l=some m:=by
 have key:∀ (x:V),(∀ y,clV S x=true→dec φ x=some y→dec φ' x=some y):=by
  intro x
  refine V.rec (motive_1:=λx=>∀ y,clV S x=true→dec φ x=some y→dec φ' x=some y) (motive_2:=λl=>∀ m,clVs S l=true→decs φ l=some m→decs φ' l=some m)
   ?_ ?_ ?_ ?_ ?_ ?_ ?_ ?_ ?_ ?_ ?_ ?_ ?_ ?_ ?_ ?_ ?_ ?_ ?_ x
  ·intro b y _ h;simpa [dec] using h
  ·intro k n y _ h;simpa [dec] using h
  ·intro l y _ h;simpa [dec] using h
  ·intro v o y hc h
   simp only [dec,Option.map_eq_some_iff] at h ⊢
   obtain⟨L,h1,h2⟩:=h
   exact⟨L,hφ v hc L h1,h2⟩
  ·intro y _ h;simpa [dec] using h
  ·intro v o n c y hc h
   simp only [dec,Option.bind_eq_some_iff] at h ⊢
   obtain⟨L,h1,h2⟩:=h
   exact⟨L,hφ v hc L h1,h2⟩
  ·intro v o r p s y hc h
   simp only [dec,Option.map_eq_some_iff] at h ⊢
   obtain⟨L,h1,h2⟩:=h
   exact⟨L,hφ v hc L h1,h2⟩
  ·intro y _ h;simpa [dec] using h
  ·intro v y hc h
   simp only [dec,Option.map_eq_some_iff] at h ⊢
   obtain⟨L,h1,h2⟩:=h
   exact⟨L,hφ v hc L h1,h2⟩
  ·intro y _ h;simpa [dec] using h
  ·intro F a c iha ihc y hc h
   obtain⟨c1,c2⟩:=both_ok.1 (show both (clVs S a) (clVs S c)=true from hc)
   simp only [dec,Option.bind_eq_some_iff,Option.map_eq_some_iff] at h ⊢
   obtain⟨a',h1,c',h2,h3⟩:=h
   exact⟨a',iha _ c1 h1,c',ihc _ c2 h2,h3⟩
  ·intro y _ h;simpa [dec] using h
  ·intro t x ih y hc h
   simp only [dec,Option.map_eq_some_iff] at h ⊢
   obtain⟨x',h1,h2⟩:=h
   exact⟨x',ih _ hc h1,h2⟩
  ·intro y _ h;simpa [dec] using h
  ·intro l ih y hc h
   simp only [dec,Option.map_eq_some_iff] at h ⊢
   obtain⟨x',h1,h2⟩:=h
   exact⟨x',ih _ hc h1,h2⟩
  ·intro l ih y hc h
   simp only [dec,Option.map_eq_some_iff] at h ⊢
   obtain⟨x',h1,h2⟩:=h
   exact⟨x',ih _ hc h1,h2⟩
  ·intro f n ih y hc h;cases (show false=true from hc)
  ·intro m _ h;simpa [decs] using h
  ·intro x l ihx ihl m hc h
   obtain⟨c1,c2⟩:=both_ok.1 (show both (clV S x) (clVs S l)=true from hc)
   obtain⟨y,m',rfl,h1,h2⟩:=decs_cons_inv h
   exact decs_cons (ihx _ c1 h1) (ihl _ c2 h2)
 refine⟨key,λl=>?_⟩
 induction l with
 | nil=>intro m _ h;simpa [decs] using h
 | cons x l ih =>
  intro m hc h
  obtain⟨c1,c2⟩:=both_ok.1 (show both (clV S x) (clVs S l)=true from hc)
  obtain⟨y,m',rfl,h1,h2⟩:=decs_cons_inv h
  exact decs_cons (key x _ c1 h1) (ih _ c2 h2)
theorem clVs_get {S:List Nat}:∀ {l:List V} {i:Nat} {x:V},clVs S l=true→l[i]?=some x→clV S x=true
 | [],i,x,_,h=>by simp at h
 | y::l,i,x,hc,h=>by
  obtain⟨c1,c2⟩:=both_ok.1 (show both (clV S y) (clVs S l)=true from hc)
  cases i with
  | zero=>simp at h;subst h;exact c1
  | succ i=>simp at h;exact clVs_get c2 h
theorem clE_mem {S:List Nat}:∀ {l:List (V × V)},clE S l=true→∀ p∈l,clV S p.1=true∧clV S p.2=true
 | [],_,p,hp=>by cases hp
 | q::l,hc,p,hp=>by
  obtain⟨c1,c2⟩:=both_ok.1 (show both (clV S q.1) (both (clV S q.2) (clE S l))=true from hc)
  obtain⟨c2,c3⟩:=both_ok.1 c2
  rcases List.mem_cons.1 hp with rfl | hp
  ·exact⟨c1,c2⟩
  ·exact clE_mem c3 p hp
theorem clB_mem {S:List Nat}:∀ {l:List (Nat × Bd)},clB S l=true→∀ p∈l,p.2.cl S=true
 | [],_,p,hp=>by cases hp
 | q::l,hc,p,hp=>by
  obtain⟨c1,c2⟩:=both_ok.1 (show both (q.2.cl S) (clB S l)=true from hc)
  rcases List.mem_cons.1 hp with rfl | hp
  ·exact c1
  ·exact clB_mem c2 p hp
theorem szB_mem:∀ {l:List (Nat × Bd)},szB l=true→∀ p∈l,p.2.size=true
 | [],_,p,hp=>by cases hp
 | q::l,hc,p,hp=>by
  obtain⟨c1,c2⟩:=both_ok.1 (show both q.2.size (szB l)=true from hc)
  rcases List.mem_cons.1 hp with rfl | hp
  ·exact c1
  ·exact szB_mem c2 p hp
theorem nodupB_ok:∀ {l:List Nat},nodupB l=true→l.Nodup
 | [],_=>.nil
 | x::l,h=>by
  obtain⟨h1,h2⟩:=both_ok.1 (show both (Bool.rec (motive:=λ_=>Bool) true false (memN x l)) (nodupB l)=true from h)
  refine List.nodup_cons.2 ⟨λhm=>?_,nodupB_ok h2⟩
  rw [memN_iff.2 hm] at h1;cases h1
section
variable {D:Type} {P:Program} {Hd:D→Loc→View→Prop} {w0 w1:Base} {φ φ':Phi} {σ σ':H D} {w:World}
theorem rowIs_ok {c:Tr V}:∀ {l:List V} {i:Nat},rowIs c l i=true→∀ j,j < l.length→c.get (i + j)=l[j]?
 | [],i,_,j,hj=>by simp at hj
 | x::l,i,h,j,hj=>by
  have h':Option.rec (motive:=λ_=>Bool) false (λu=>both (vEq u x) (rowIs c l (Nat.succ i))) (c.get i)=true:=h
  cases hc:c.get i with
  | none=>rw [hc] at h';cases h'
  | some u =>
   rw [hc] at h'
   obtain⟨h1,h2⟩:=both_ok.1 (show both (vEq u x) (rowIs c l (Nat.succ i))=true from h')
   cases j with
   | zero=>simpa [vEq_ok _ _ h1] using hc
   | succ j =>
    rw [show i + (j + 1)=Nat.succ i + j from by omega]
    simpa using rowIs_ok h2 j (by simpa using hj)
theorem esIs_ok:∀ {l m:List (V × V)},esIs l m=true→l=m
 | [],[],_=>rfl
 | [],_::_,h=>by cases h
 | _::_,[],h=>by cases h
 | p::l,q::m,h=>by
  obtain⟨h1,h2⟩:=both_ok.1 (show both (vEq p.1 q.1) (both (vEq p.2 q.2) (esIs l m))=true from h)
  obtain⟨h2,h3⟩:=both_ok.1 h2
  rw [esIs_ok h3,Prod.ext (vEq_ok _ _ h1) (vEq_ok _ _ h2)]
def Bd.Of (d:Bd) (b:Blk D):Prop:=match d with
 | .cells ex n l ty sz=>l.length=n∧∃ c,b=.cells ex n c ty sz∧∀ j,j < n→c.get j=l[j]?
 | .map kT ks es _=>∃ ver,b=.map kT ks es ver
def Bd.Mk (d:Bd) (b:Blk D):Prop:=match d with
 | .cells ex n l ty sz=>l.length=n∧∃ c,b=.cells ex n c ty sz∧∀ j,c.get j=l[j]?
 | .map kT ks es ver=>b=.map kT ks es ver
theorem Bd.make_ok {d:Bd} {k:Blk D→R} (hs:d.size=true) (h:d.make k=.ok):∃ b,d.Mk b∧k b=.ok:=by
 cases d with
 | cells ex n l ty sz =>
  obtain⟨c,h1,h2⟩:=trOf_ok (show trOf l (λc=>k (.cells ex n c ty sz))=.ok from h)
  have hs:Nat.beq (lenL l) n=true:=hs
  rw [lenL_eq] at hs
  exact⟨_,⟨kB hs,c,rfl,h1⟩,h2⟩
 | map=>exact⟨_,rfl,h⟩
theorem Bd.is_ok {d:Bd} {b:Blk D} (h:d.is b=true):d.Of b:=by
 cases d with
 | cells ex n l ty sz =>
  cases b <;> simp only [Bd.is] at h <;> try (cases h;done)
  obtain⟨h1,h⟩:=both_ok.1 h
  obtain⟨h2,h⟩:=both_ok.1 h
  obtain⟨h3,h⟩:=both_ok.1 h
  obtain⟨h4,h⟩:=both_ok.1 h
  obtain⟨h5,h6⟩:=both_ok.1 h
  rw [lenL_eq] at h5
  have h5:=kB h5
  refine⟨h5,_,by rw [beq_iff_eq.1 h1,kB h2,kB h3,kB h4],λj hj=>?_⟩
  have:=rowIs_ok h6 j (by omega)
  simpa using this
 | map kT ks es ver =>
  cases b <;> simp only [Bd.is] at h <;> try (cases h;done)
  obtain⟨h1,h⟩:=both_ok.1 h
  obtain⟨h2,h3⟩:=both_ok.1 h
  exact⟨_,by rw [kB h1,ksSame_ok h2,esIs_ok h3]⟩
theorem Bd.Of.live {d:Bd} {b:Blk D} (h:d.Of b):Live b:=by
 cases d with
 | cells=>obtain⟨_,c,rfl,_⟩:=h;trivial
 | map=>obtain⟨_,rfl⟩:=h;trivial
theorem MapAt'.agree {ks:KS} {arr:Array MapEntry} {clock:Nat} {es:List (V × V)} (h:MapAt' φ ks arr clock es) (h1:∀ p∈es,∀ y,dec φ p.1=some y→dec φ' p.1=some y) (h2:∀ p∈es,∀ y,dec φ p.2=some y→dec φ' p.2=some y):MapAt' φ' ks arr clock es :=
 ⟨h.st,h.size,h.shape,λe he=>let ⟨p,hp,a,b⟩:=h.to_ e he;⟨p,hp,h1 p hp _ a,h2 p hp _ b⟩,
  λp hp=>let ⟨e,he,a,b⟩:=h.of p hp;⟨e,he,h1 p hp _ a,h2 p hp _ b⟩,
  h.nd.imp_of_mem λ{p q} hp hq hpq a ha ha'=>by
   obtain⟨e1,_,b1,_⟩:=h.of p hp
   obtain⟨e2,_,b2,_⟩:=h.of q hq
   have c1:=h1 p hp _ b1
   have c2:=h1 q hq _ b2
   rw [ha] at c1;rw [ha'] at c2
   cases c1
   exact hpq _ b1 (by rw [b2];exact c2.symm)⟩
theorem Bd.move {d:Bd} {b b':Blk D} {S:List Nat} {L:Loc} (hd:d.Of b) (hd':d.Mk b') (hc:d.cl S=true) (hφ:∀ v,memN v S=true→∀ L,φ v=some L→φ' v=some L) (hN:w0.New L.blk→w1.New L.blk)
  (h:BlkOK P Hd w0 σ φ w L b):BlkOK P Hd w1 σ' φ' w L b':=by
 obtain⟨a1,a2⟩:=cl_agree hφ
 cases d with
 | cells ex n l ty sz =>
  obtain⟨hl,c,rfl,e1⟩:=hd
  obtain⟨_,c',rfl,e2⟩:=hd'
  obtain⟨h1,cs,h2⟩:=h
  refine⟨hN h1,cs,⟨h2.at_,λj x hx=>?_,λj hj=>by rw [e2,kC (by omega)];rfl,h2.full,h2.open_⟩⟩
  have hj:j < n:=by
   rw [e2] at hx
   rw [← hl];exact (kA hx).1
  rw [e2,← e1 j hj] at hx
  obtain⟨b0,y,b1,b2,b3⟩:=h2.get j x hx
  exact⟨b0,y,a1 x y (clVs_get hc (by rw [← e1 j hj];exact hx)) b1,b2,b3⟩
 | map kT ks es ver =>
  obtain⟨v1,rfl⟩:=hd
  obtain rfl:=hd'
  obtain⟨h1,h2,arr,clock,h3,h4⟩:=h
  exact⟨hN h1,h2,arr,clock,h3,h4.agree (λp hp y=>a1 _ y (clE_mem hc p hp).1) λp hp y=>a1 _ y (clE_mem hc p hp).2⟩
theorem putAll_ok:∀ {l:List (Nat × Bd)} {σ:H D} {k:H D→R},(∀ p∈l,p.2.size=true)→(l.map (·.1)).Nodup→putAll l σ k=.ok →
  ∃ σ',(∀ p∈l,∃ b,σ'.look p.1=some b∧p.2.Mk b)∧(∀ v,v ∉ l.map (·.1)→σ'.look v=σ.look v)∧Ext σ σ'∧k σ'=.ok
 | [],σ,k,_,_,h=>⟨σ,by simp,λ_ _=>rfl,.refl _,h⟩
 | p::l,σ,k,hs,hn,h=>by
  obtain⟨n1,n2⟩:=List.nodup_cons.1 (show (p.1::l.map (·.1)).Nodup from hn)
  obtain⟨b,hb,h1⟩:=Bd.make_ok (hs p (by simp)) (show p.2.make (λb=>σ.put p.1 b λσ=>putAll l σ k)=.ok from h)
  obtain⟨σ1,g1,g2,g3⟩:=H.put_ok h1
  obtain⟨σ2,e1,e2,e3,e4⟩:=putAll_ok (λq hq=>hs q (by simp [hq])) n2 g3
  refine⟨σ2,λq hq=>?_,λv hv=>?_,(Ext.put g1 g2).trans e3,e4⟩
  ·rcases List.mem_cons.1 hq with rfl | hq
   ·exact⟨b,by rw [e2 _ n1,g1,if_pos rfl],hb⟩
   ·exact e1 q hq
  ·simp only [List.map_cons,List.mem_cons,not_or] at hv
   rw [e2 v hv.2,g1,if_neg hv.1]
theorem addAll_ok:∀ {l:List (Nat × Bd)} {σ:H D} {k:H D→R},(∀ p∈l,p.2.size=true)→(l.map (·.1)).Nodup→addAll l σ k=.ok →
  ∃ σ',(∀ p∈l,σ.look p.1=none∧∃ b,σ'.look p.1=some b∧p.2.Mk b)∧(∀ v,v ∉ l.map (·.1)→σ'.look v=σ.look v)∧Ext σ σ'∧k σ'=.ok
 | [],σ,k,_,_,h=>⟨σ,by simp,λ_ _=>rfl,.refl _,h⟩
 | p::l,σ,k,hs,hn,h=>by
  obtain⟨n1,n2⟩:=List.nodup_cons.1 (show (p.1::l.map (·.1)).Nodup from hn)
  obtain⟨b,hb,h1⟩:=Bd.make_ok (hs p (by simp)) (show p.2.make (λb=>σ.add p.1 b λσ=>addAll l σ k)=.ok from h)
  obtain⟨g0,σ1,g1,g2,g3⟩:=H.add_ok h1
  obtain⟨σ2,e1,e2,e3,e4⟩:=addAll_ok (λq hq=>hs q (by simp [hq])) n2 g3
  refine⟨σ2,λq hq=>?_,λv hv=>?_,(Ext.put g1 g2).trans e3,e4⟩
  ·rcases List.mem_cons.1 hq with rfl | hq
   ·exact⟨g0,b,by rw [e2 _ n1,g1,if_pos rfl],hb⟩
   ·obtain⟨a1,a2⟩:=e1 q hq
    refine⟨?_,a2⟩
    have hne:q.1≠p.1:=λe=>n1 (by rw [← e];exact List.mem_map_of_mem hq)
    rw [g1,if_neg hne] at a1
    exact a1
  ·simp only [List.map_cons,List.mem_cons,not_or] at hv
   rw [e2 v hv.2,g1,if_neg hv.1]
theorem allAre_ok:∀ {l:List (Nat × Bd)} {σ:H D} {k:R},allAre l σ k=.ok→(∀ p∈l,∃ b,σ.look p.1=some b∧p.2.Of b)∧k=.ok
 | [],σ,k,h=>⟨by simp,h⟩
 | p::l,σ,k,h=>by
  obtain⟨b,h1,h2⟩:=H.get_ok (show σ.get p.1 (λb=>iff' (p.2.is b) (allAre l σ k) (.no 401))=.ok from h)
  obtain⟨h3,h4⟩:=iff_ok h2
  obtain⟨e1,e2⟩:=allAre_ok h4
  refine⟨λq hq=>?_,e2⟩
  rcases List.mem_cons.1 hq with rfl | hq
  ·exact⟨b,h1,Bd.is_ok h3⟩
  ·exact e1 q hq
theorem preIs_ok:∀ {l:List (Nat × Bd × Bd)} {σ:H D} {k:R},preIs l σ k=.ok→(∀ p∈l,∃ b,σ.look p.1=some b∧p.2.1.Of b∧p.2.2.later b=true)∧k=.ok
 | [],σ,k,h=>⟨by simp,h⟩
 | p::l,σ,k,h=>by
  obtain⟨b,h1,h2⟩:=H.get_ok (show σ.get p.1 (λb=>iff' (both (p.2.1.is b) (p.2.2.later b)) (preIs l σ k) (.no 400))=.ok from h)
  obtain⟨h3,h4⟩:=iff_ok h2
  obtain⟨h3,h5⟩:=both_ok.1 h3
  obtain⟨e1,e2⟩:=preIs_ok h4
  refine⟨λq hq=>?_,e2⟩
  rcases List.mem_cons.1 hq with rfl | hq
  ·exact⟨b,h1,Bd.is_ok h3,h5⟩
  ·exact e1 q hq
theorem look_nil (n v:Nat):(H.mk T5.nil n []:H D).look v=none:=by
 show Bool.rec (motive:=λ_=>Option (Blk D)) none (T5.get v T5.nil) (Nat.blt v 32768)=none
 have h0:T5.get v (T5.nil:T5 (Blk D))=none:=by
  have:(T5.nil:T5 (Blk D))=T5.ofA []:=by unfold T5.nil T5.ofA E8.tab E8.all;simp only [List.drop_nil,T4.nil_eq]
  rw [this,T5.get_ofA];simp
 rw [h0];cases Nat.blt v 32768 <;> rfl
theorem memo_ok {T:T4 (Fx D)} {fu fuel F:Nat} {m:Memo} (hen:enters P F=true) (hc:m.closed=true) (hrun:m.run T fu fuel F=.ok) {G:Base→Prop} (hT:∀ B,G B→ClOK P Hd B (evF T fu fuel true))
  (hG:∀ φ σ w M,Rel P Hd w0 φ σ w→(∀ b,M b→w0.New b)→G ⟨w,M⟩):FxOK P Hd w0 F (λ_ _ _=>(hkMemo m:Hk D)):=by
 refine FxOK.of hen λl σ k φ w vs hr hd h=>?_
 obtain⟨e1,h1⟩:=iff_ok (show iff' (vEqs l m.args) (preIs m.pre σ (putAll m.pre2 σ λσ=>addAll m.new σ λσ=>k m.v (σ.setNx m.nx'))) (.no 402)=.ok from h)
 have:=vEqs_ok _ _ e1;subst this
 obtain⟨c1,hc⟩:=both_ok.1 hc
 obtain⟨c2,hc⟩:=both_ok.1 hc
 obtain⟨c3,hc⟩:=both_ok.1 hc
 obtain⟨c4,hc⟩:=both_ok.1 hc
 obtain⟨c5,hc⟩:=both_ok.1 hc
 obtain⟨c6,hc⟩:=both_ok.1 hc
 obtain⟨c7,hc⟩:=both_ok.1 hc
 obtain⟨c8,c9⟩:=both_ok.1 hc
 have hnd:=nodupB_ok c6
 have hf1:m.pre1.map (·.1)=m.dom:=by simp [Memo.pre1,Memo.dom,List.map_map,Function.comp_def]
 have hf2:m.pre2.map (·.1)=m.dom:=by simp [Memo.pre2,Memo.dom,List.map_map,Function.comp_def]
 have hnd1:m.dom.Nodup:=(List.nodup_append.1 hnd).1
 have hnd2:(m.new.map (·.1)).Nodup:=(List.nodup_append.1 hnd).2.1
 have hdis:∀ a∈m.dom,a ∉ m.new.map (·.1):=λa ha hb=>(List.nodup_append.1 hnd).2.2 a ha a hb rfl
 obtain⟨hpre,h2⟩:=preIs_ok h1
 obtain⟨σ1,p1,p2,p3,h3⟩:=putAll_ok (szB_mem c8) (by rw [hf2];exact hnd1) h2
 obtain⟨σ2,q1,q2,q3,h4⟩:=addAll_ok (szB_mem c9) hnd2 h3
 rw [hf2] at p2
 have hlk:∀ v,(σ2.setNx m.nx').look v=σ2.look v:=λv=>by cases σ2;rfl
 have hlg:(σ2.setNx m.nx').log=σ2.log:=by cases σ2;rfl
 generalize hσ':σ2.setNx m.nx'=σ' at h4 hlk hlg
 have hmem:∀ {p:Nat × Bd × Bd},p∈m.pre→p.1∈m.dom:=λhp=>List.mem_map_of_mem hp
 have lk_new:∀ p∈m.new,∃ b,σ'.look p.1=some b∧p.2.Mk b∧σ.look p.1=none:=λp hp=>by
  obtain⟨a1,b,a2,a3⟩:=q1 p hp
  refine⟨b,by rw [hlk];exact a2,a3,?_⟩
  rw [← p2 p.1 λhh=>hdis _ hh (List.mem_map_of_mem hp)];exact a1
 have lk_pre:∀ p∈m.pre,∃ b,σ'.look p.1=some b∧p.2.2.Mk b:=λp hp=>by
  obtain⟨b,a2,a3⟩:=p1 (p.1,p.2.2) (List.mem_map.2 ⟨p,hp,rfl⟩)
  exact⟨b,by rw [hlk,q2 _ (hdis _ (hmem hp))];exact a2,a3⟩
 have lk_old:∀ v,v ∉ m.dom→v ∉ m.new.map (·.1)→σ'.look v=σ.look v:=λv hv hv'=>by rw [hlk,q2 v hv',p2 v hv]
 have hext:Ext σ σ':=(p3.trans q3).trans (Ext.same hlk hlg)
 obtain⟨σa,a1,a2,a3,h5⟩:=addAll_ok (szB_mem c7) (by rw [hf1];exact hnd1) (show addAll m.pre1 (.mk T5.nil m.nx []) _=.ok from hrun)
 rw [hf1] at a2
 have hφp:∀ p∈m.pre,∃ b L,σ.look p.1=some b∧p.2.1.Of b∧φ p.1=some L∧BlkOK P Hd w0 σ φ w L b:=λp hp=>by
  obtain⟨b,g1,g2,_⟩:=hpre p hp
  obtain⟨L,g3,g4⟩:=hr.live g1 g2.live
  exact⟨b,L,g1,g2,g3,g4⟩
 have hM:∀ b,(∃ p∈m.pre,∃ L,φ p.1=some L∧L.blk=b)→w0.New b:=by
  rintro b ⟨p,hp,L,g1,rfl⟩
  obtain⟨b',L',g2,g3,g4,g5⟩:=hφp p hp
  rw [g1] at g4;cases g4
  exact g5.ge g3.live
 have hdom:∀ v,σa.look v=none∨∃ p∈m.pre,p.1=v:=λv=>by
  by_cases hv:v∈m.dom
  ·obtain⟨p,hp,rfl⟩:=List.mem_map.1 hv
   exact .inr ⟨p,hp,rfl⟩
  ·exact .inl (by rw [a2 v hv,look_nil])
 have ra:Rel P Hd ⟨w,λb=>∃ p∈m.pre,∃ L,φ p.1=some L∧L.blk=b⟩ (φ.on m.dom) σa w:=by
  refine⟨Keeps.refl,λv hv=>?_,λv b hv _=>?_,λv v' b b' L L' g1 g2 g3 g4 g5 g6 g7=>?_⟩
  ·unfold Phi.on
   cases hb:memN v m.dom with
   | false=>rfl
   | true =>
    obtain⟨p,hp,rfl⟩:=List.mem_map.1 (memN_iff.1 hb)
    obtain⟨_,b,g2,_⟩:=a1 (p.1,p.2.1) (List.mem_map.2 ⟨p,hp,rfl⟩)
    rw [hv] at g2;cases g2
  ·rcases hdom v with hn | ⟨p,hp,rfl⟩
   ·rw [hn] at hv;cases hv
   ·obtain⟨_,b1,g2,g3⟩:=a1 (p.1,p.2.1) (List.mem_map.2 ⟨p,hp,rfl⟩)
    rw [hv] at g2;cases g2
    obtain⟨b0,L,e1,e2,e3,e4⟩:=hφp p hp
    refine⟨L,by rw [Phi.on_eq (memN_iff.2 (hmem hp))];exact e3,?_⟩
    exact Bd.move e2 g3 (clB_mem c2 (p.1,p.2.1) (List.mem_map.2 ⟨p,hp,rfl⟩)) (λv hv L hL=>by rw [Phi.on_eq hv];exact hL) (λ_=>.inl ⟨p,hp,L,e3,rfl⟩) e4
  ·rcases hdom v with hn | ⟨p,hp,rfl⟩
   ·rw [hn] at g1;cases g1
   ·rcases hdom v' with hn | ⟨p',hp',rfl⟩
    ·rw [hn] at g3;cases g3
    ·obtain⟨d,M,e1,e2,e3,_⟩:=hφp p hp
     obtain⟨d',M',f1,f2,f3,_⟩:=hφp p' hp'
     exact hr.inj _ _ d d' L L' e1 e2.live f1 f2.live (Phi.on_le _ _ _ _ g5) (Phi.on_le _ _ _ _ g6) g7
 obtain⟨_,hcalls⟩:=hT _ (hG φ σ w _ hr hM) F m.args σa _ _ w vs ra ((cl_agree λv hv L hL=>by rw [Phi.on_eq hv];exact hL).2 _ _ c1 hd) h5
 refine hcalls.mono λe w' ⟨y,he,φ1,v1,σs,hle1,hr1,hdv,_,hk1⟩=>⟨y,he,?_⟩
 obtain⟨g1,hk2⟩:=iff_ok hk1
 have:=vEq_ok _ _ g1;subst this
 obtain⟨b1,hk3⟩:=allAre_ok hk2
 obtain⟨b2,_⟩:=allAre_ok hk3
 clear hk1 hk2 hk3
 let φ2:Phi:=λv=>match φ v with
  | some L=>some L
  | none=>Bool.rec (motive:=λ_=>Option Loc) none (φ1 v) (memN v (m.new.map (·.1)))
 have hle:φ.le φ2:=λv L hL=>by show (match φ v with | some L=>some L | none=>_)=some L;rw [hL]
 have f2new:∀ p∈m.new,φ2 p.1=φ1 p.1:=λp hp=>by
  obtain⟨_,_,_,g⟩:=lk_new p hp
  show (match φ p.1 with | some L=>some L | none=>_)=_
  rw [hr.gone _ g]
  show Bool.rec (motive:=λ_=>Option Loc) none (φ1 p.1) (memN p.1 (m.new.map (·.1)))=_
  rw [memN_iff.2 (List.mem_map_of_mem hp)]
 have f1pre:∀ p∈m.pre,∀ L,φ p.1=some L→φ1 p.1=some L:=λp hp L hL=>hle1 _ _ (by rw [Phi.on_eq (memN_iff.2 (hmem hp))];exact hL)
 have hag:∀ v,memN v m.dom'=true→∀ L,φ1 v=some L→φ2 v=some L:=λv hv L hL=>by
  rcases List.mem_append.1 (memN_iff.1 hv) with hv | hv
  ·obtain⟨p,hp,rfl⟩:=List.mem_map.1 hv
   obtain⟨_,L',_,_,g,_⟩:=hφp p hp
   have:=f1pre p hp L' g
   rw [hL] at this;cases this
   exact hle _ _ g
  ·obtain⟨p,hp,rfl⟩:=List.mem_map.1 hv
   rw [f2new p hp];exact hL
 have hold2:∀ v L,v ∉ m.new.map (·.1)→φ2 v=some L→φ v=some L:=λv L hv hL=>by
  have hL':(match φ v with | some L=>some L | none=>Bool.rec (motive:=λ_=>Option Loc) none (φ1 v) (memN v (m.new.map (·.1))))=some L:=hL
  cases hφ:φ v with
  | some L'=>rw [hφ] at hL';exact hL'
  | none =>
   rw [hφ] at hL'
   cases hb:memN v (m.new.map (·.1)) with
   | false=>rw [hb] at hL';cases hL'
   | true=>exact absurd (memN_iff.1 hb) hv
 have hin:∀ v,(v∈m.dom∨v∈m.new.map (·.1))→∃ (d:Bd) (b bs:Blk D) (L:Loc),σ'.look v=some b∧d.Mk b∧σs.look v=some bs∧d.Of bs∧d.cl m.dom'=true∧φ1 v=some L∧φ2 v=some L∧BlkOK P Hd ⟨w,λb=>∃ p∈m.pre,∃ L,φ p.1=some L∧L.blk=b⟩ σs φ1 w' L bs:=by
  rintro v (hv | hv)
  ·obtain⟨p,hp,rfl⟩:=List.mem_map.1 hv
   obtain⟨b,g1,g2⟩:=lk_pre p hp
   obtain⟨bs,g3,g4⟩:=b1 (p.1,p.2.2) (List.mem_map.2 ⟨p,hp,rfl⟩)
   obtain⟨L,g5,g6⟩:=hr1.live g3 g4.live
   exact⟨p.2.2,b,bs,L,g1,g2,g3,g4,clB_mem c4 (p.1,p.2.2) (List.mem_map.2 ⟨p,hp,rfl⟩),g5,hag _ (memN_iff.2 (List.mem_append.2 (.inl hv))) L g5,g6⟩
  ·obtain⟨p,hp,rfl⟩:=List.mem_map.1 hv
   obtain⟨b,g1,g2,_⟩:=lk_new p hp
   obtain⟨bs,g3,g4⟩:=b2 p hp
   obtain⟨L,g5,g6⟩:=hr1.live g3 g4.live
   exact⟨p.2,b,bs,L,g1,g2,g3,g4,clB_mem c5 p hp,g5,hag _ (memN_iff.2 (List.mem_append.2 (.inr hv))) L g5,g6⟩
 have hlt:∀ {v b L},σ.look v=some b→Live b→φ v=some L→L.blk < w.heap.size:=λhv hl hL=>by
  obtain⟨L',g1,g2⟩:=hr.live hv hl
  rw [hL] at g1;cases g1
  obtain⟨o,ho⟩:=g2.some hl
  exact lt_of_some ho
 have hnot:∀ {v b L},v ∉ m.dom→σ.look v=some b→Live b→φ v=some L→¬ ∃ p∈m.pre,∃ L',φ p.1=some L'∧L'.blk=L.blk:=by
  rintro v b L hv hb hl hL ⟨p,hp,L',g1,g2⟩
  obtain⟨b0,L0,e1,e2,e3,_⟩:=hφp p hp
  rw [g1] at e3;cases e3
  exact hv (by rw [← hr.inj p.1 v b0 b L' L e1 e2.live hb hl g1 hL g2];exact hmem hp)
 refine⟨φ2,_,σ',hle,?_,(cl_agree hag).1 _ _ c3 hdv,hext,h4⟩
 refine hr.step (Ch:=λb=>∃ p∈m.pre,∃ L,φ p.1=some L∧L.blk=b) hle hr1.keeps ?_ ?_ ?_ ?_ ?_ ?_
 ·rintro b _ ⟨p,hp,L,g1,g2⟩
  obtain⟨b0,L0,e1,e2,e3,_⟩:=hφp p hp
  exact⟨p.1,b0,L,e1,e2.live,g1,g2⟩
 ·intro v hv
  by_cases h1:v∈m.dom∨v∈m.new.map (·.1)
  ·obtain⟨_,b,_,_,g,_⟩:=hin v h1
   rw [hv] at g;cases g
  ·have h1':v ∉ m.dom∧v ∉ m.new.map (·.1):=⟨λh=>h1 (.inl h),λh=>h1 (.inr h)⟩
   cases hf:φ2 v with
   | none=>rfl
   | some L =>
    have:=hold2 v L h1'.2 hf
    rw [hr.gone v (by rw [← lk_old v h1'.1 h1'.2];exact hv)] at this;cases this
 ·intro v b L hv hl hL
  by_cases h1:v∈m.dom∨v∈m.new.map (·.1)
  ·obtain⟨d,b0,bs,L0,g1,g2,g3,g4,g5,g6,g7,g8⟩:=hin v h1
   rw [hL] at g7;cases g7
   rcases g8.ge g4.live with⟨p,hp,L1,e1,e2⟩ | e
   ·obtain⟨b2,L2,f1,f2,f3,_⟩:=hφp p hp
    exact .inl ⟨p.1,b2,L1,f1,f2.live,e1,e2⟩
   ·exact .inr e
  ·have h1':v ∉ m.dom∧v ∉ m.new.map (·.1):=⟨λh=>h1 (.inl h),λh=>h1 (.inr h)⟩
   exact .inl ⟨v,b,L,by rw [← lk_old v h1'.1 h1'.2];exact hv,hl,hold2 v L h1'.2 hL,rfl⟩
 ·intro v v' b b' L L' hv hl hv' hl' hL hL' hb
  have mix:∀ {v v' b' L L'},(v∈m.dom∨v∈m.new.map (·.1))→¬ (v'∈m.dom∨v'∈m.new.map (·.1))→φ2 v=some L→σ'.look v'=some b'→Live b'→φ2 v'=some L'→L.blk=L'.blk→False:=by
   intro v v' b' L L' h1 h2 hL hv' hl' hL' hb
   have h2':v' ∉ m.dom∧v' ∉ m.new.map (·.1):=⟨λh=>h2 (.inl h),λh=>h2 (.inr h)⟩
   obtain⟨d,b0,bs,L0,g1,g2,g3,g4,g5,g6,g7,g8⟩:=hin v h1
   rw [hL] at g7;cases g7
   have o1:=hold2 v' L' h2'.2 hL'
   rw [lk_old v' h2'.1 h2'.2] at hv'
   rcases g8.ge g4.live with⟨p,hp,L1,e1,e2⟩ | e
   ·exact hnot h2'.1 hv' hl' o1 ⟨p,hp,L1,e1,e2.trans hb⟩
   ·have:=hlt hv' hl' o1
    have e:w.heap.size≤L.blk:=e
    omega
  by_cases h1:v∈m.dom∨v∈m.new.map (·.1)
  ·by_cases h2:v'∈m.dom∨v'∈m.new.map (·.1)
   ·obtain⟨d,b0,bs,L0,g1,g2,g3,g4,g5,g6,g7,g8⟩:=hin v h1
    obtain⟨d',b0',bs',L0',e1,e2,e3,e4,e5,e6,e7,e8⟩:=hin v' h2
    rw [hL] at g7;cases g7
    rw [hL'] at e7;cases e7
    exact hr1.inj v v' bs bs' L L' g3 g4.live e3 e4.live g6 e6 hb
   ·exact (mix h1 h2 hL hv' hl' hL' hb).elim
  ·by_cases h2:v'∈m.dom∨v'∈m.new.map (·.1)
   ·exact (mix h2 h1 hL' hv hl hL hb.symm).elim
   ·have h1':v ∉ m.dom∧v ∉ m.new.map (·.1):=⟨λh=>h1 (.inl h),λh=>h1 (.inr h)⟩
    have h2':v' ∉ m.dom∧v' ∉ m.new.map (·.1):=⟨λh=>h2 (.inl h),λh=>h2 (.inr h)⟩
    exact hr.inj v v' b b' L L' (by rw [← lk_old v h1'.1 h1'.2];exact hv) hl (by rw [← lk_old v' h2'.1 h2'.2];exact hv') hl' (hold2 v L h1'.2 hL) (hold2 v' L' h2'.2 hL') hb
 ·intro v b hv hd'
  by_cases h1:v∈m.dom∨v∈m.new.map (·.1)
  ·obtain⟨d,b0,bs,L0,g1,g2,g3,g4,g5,g6,g7,g8⟩:=hin v h1
   rw [hv] at g1;cases g1
   refine .inr ⟨L0,g7,Bd.move g4 g2 g5 hag (λhN=>?_) g8⟩
   rcases hN with hN | hN
   ·exact hM _ hN
   ·exact Base.new_of hr.keeps hN
  ·have h1':v ∉ m.dom∧v ∉ m.new.map (·.1):=⟨λh=>h1 (.inl h),λh=>h1 (.inr h)⟩
   rw [lk_old v h1'.1 h1'.2] at hv
   exact .inl ⟨hv,λL hL hl=>hnot h1'.1 hv hl hL⟩
 ·intro mm kT ks es ver hm
  by_cases h1:mm∈m.dom
  ·obtain⟨p,hp,rfl⟩:=List.mem_map.1 h1
   obtain⟨b0,g1,_,g3⟩:=hpre p hp
   rw [hm] at g1;cases g1
   obtain⟨b,g4,g5⟩:=lk_pre p hp
   cases hd2:p.2.2 with
   | cells=>rw [hd2] at g3;cases g3
   | map kT2 ks2 es2 ver2 =>
    rw [hd2] at g3 g5
    obtain⟨t1,t2⟩:=both_ok.1 (show both (Nat.beq kT2 kT) (both (ksSame ks2 ks) (Nat.blt ver ver2))=true from g3)
    obtain⟨t2,t3⟩:=both_ok.1 t2
    obtain rfl:=g5
    rw [kB t1,ksSame_ok t2] at g4
    exact .inr ⟨es2,ver2,g4,by simpa using t3⟩
  ·by_cases h2:mm∈m.new.map (·.1)
   ·obtain⟨p,hp,rfl⟩:=List.mem_map.1 h2
    obtain⟨_,_,_,g⟩:=lk_new p hp
    rw [hm] at g;cases g
   ·exact .inl ⟨by rw [lk_old mm h1 h2];exact hm,λL hL=>hnot h1 hm trivial hL⟩
end
section
variable {D:Type} {P:Program} {Hd:D→Loc→View→Prop} {w0:Base} {F:Nat}
def hkClone:Hk D:=λargs σ k=>match args with
 | [.nm]=>k .nm σ
 | [.m v]=>σ.get v λb=>b.onM (λkT ks es _=>H.room 1 σ λvs σ=>σ.add (vAt 0 vs) (.map kT ks es 0) λσ=>k (.m (vAt 0 vs)) σ) 902
 | _=>.no 905
theorem one_m {φ:Phi} {v:Nat} {vs:List Value} (h:decs φ [.m v]=some vs):∃ M,φ v=some M∧vs=[.map (some M.blk)]:=by
 obtain⟨y,m,rfl,h1,h2⟩:=decs_cons_inv h
 simp [decs] at h2;subst h2
 obtain⟨M,hM,e⟩:=dec_m h1
 exact⟨M,hM,by rw [e]⟩
theorem one_nm {φ:Phi} {vs:List Value} (h:decs φ [.nm]=some vs):vs=[.map none]:=by
 obtain⟨y,m,rfl,h1,h2⟩:=decs_cons_inv h
 simp [decs] at h2;subst h2
 have:y=.map none:=by simpa [dec] using h1.symm
 rw [this]
theorem clone_ok (hen:enters P F=true) (h0:∀ (w:World),Calls P F #[.map none] w λe w'=>e=.returned (.map none)∧w'=w)
  (h1:∀ (b:Nat) (es:Array MapEntry) (clock:Nat) (w:World),w.heap[b]?=some (.map es clock)→Calls P F #[.map (some b)] w λe w'=>e=.returned (.map (some w.heap.size))∧w'=w.alloc (.map es clock)) :
  FxOK P Hd w0 F (λ_ _ _=>(hkClone:Hk D)):=by
 refine FxOK.of hen λl σ k φ w vs hr hd h=>?_
 unfold hkClone at h
 split at h
 ·have:=one_nm hd
  subst this
  refine (h0 w).mono λe w' ⟨a1,a2⟩=>?_
  subst a2
  exact⟨_,a1,Post.pure hr (by simp [dec]) h⟩
 ·rename_i v
  obtain⟨M,hM,rfl⟩:=one_m hd
  obtain⟨b,h3,h4⟩:=H.get_ok h
  obtain⟨kT,ks,es,ver,rfl,h5⟩:=onMp_ok h4
  obtain⟨vv,σ1,g1,g2,g3⟩:=H.room_ok h5
  obtain⟨L,hL,hge,hks,arr,clock,hat,hA⟩:=hr.live h3 trivial
  rw [hM] at hL;cases hL
  refine (h1 M.blk arr clock w hat).mono λe w' ⟨a1,a2⟩=>?_
  subst a2
  have hr1:Rel P Hd w0 φ σ1 w:=hr.same rfl Keeps.refl g1
  obtain⟨k1,σ',k2,k3,k4⟩:=H.add_ok g3
  have hle:=Phi.with_le (L:=⟨w.heap.size,0,0⟩) (hr1.gone _ k1)
  refine⟨_,a1,φ.with (vAt 0 vv) ⟨w.heap.size,0,0⟩,_,σ',hle,?_,by simp [dec,Phi.with_eq],(Ext.same g1 g2).trans (Ext.put k2 k3),k4⟩
  exact hr1.new k1 (newAt w _) k2 ⟨Base.new_of hr.keeps (Nat.le_refl _),hks,arr,clock,(newAt w _).at_,hA.mono hle⟩
 ·cases h
theorem clone_det:FxDet (λ_ _ _=>(hkClone:Hk D)):=FxDet.of λκ p l σ f hf=>by
 unfold hkClone
 rcases l with _ | ⟨a,_ | ⟨b,l⟩⟩
 ·exact Det.no
 ·cases a <;> try exact Det.no
  ·rename_i v
   exact Det.get (f:=λb k=>b.onM (λkT ks es _=>H.room 1 σ λvs σ=>σ.add (vAt 0 vs) (.map kT ks es 0) λσ=>f (.m (vAt 0 vs)) σ k) 902) λb _=>Det.onMp (f:=λkT ks es _ k=>H.room 1 σ λvs σ=>σ.add (vAt 0 vs) (.map kT ks es 0) λσ=>f (.m (vAt 0 vs)) σ k) λkT ks es _=>room_det (f:=λvs σ k=>σ.add (vAt 0 vs) (.map kT ks es 0) λσ=>f (.m (vAt 0 vs)) σ k) λvs σ1 e1=>Det.add (f:=λσ k=>f (.m (vAt 0 vs)) σ k) λσ2 e2=>hf _ σ2 (e1.trans e2)
  ·exact hf _ _ (.refl _)
 ·cases a <;> exact Det.no
end
section
variable {D:Type} {P:Program} {Hd:D→Loc→View→Prop} {w0:Base} {φ φ':Phi} {σ σ':H D} {w w':World}
theorem Rel.newG (h:Rel P Hd w0 φ σ w) {v:Vid} {b':Blk D} {L:Loc} (hv:σ.look v=none) (hge:w.heap.size≤L.blk) (hk:Keeps No w w') (hσ:∀ v',σ'.look v'=if v'=v then some b' else σ.look v')
  (hb:BlkOK P Hd w0 σ' (φ.with v L) w' L b'):Rel P Hd w0 (φ.with v L) σ' w':=by
 have hne:∀ {u c},σ.look u=some c→u≠v:=by rintro u c hu rfl;rw [hv] at hu;cases hu
 have hlt:∀ {u c M},σ.look u=some c→Live c→φ u=some M→M.blk < w.heap.size:=by
  intro u c M hu hc hM
  obtain⟨M',h1,h2⟩:=h.live hu hc
  rw [hM] at h1;cases h1
  obtain⟨o,ho⟩:=h2.some hc
  exact lt_of_some ho
 refine h.step (Ch:=No) (Phi.with_le (h.gone v hv)) hk (λ_ _ h=>h.elim) (λu hu=>?_) (λu c M hu hc hM=>?_) (λu u' c c' M M' h1 h2 h3 h4 h5 h6 h7=>?_) (λu c hu hd=>?_) (λm kT ks es ver hm'=>?_)
 ·rw [hσ] at hu
  by_cases huv:u=v
  ·rw [if_pos huv] at hu;cases hu
  ·rw [if_neg huv] at hu;simp [Phi.with,huv,h.gone u hu]
 ·rw [hσ] at hu
  by_cases huv:u=v
  ·subst huv;rw [Phi.with_eq] at hM;cases hM;exact .inr (hge)
  ·rw [if_neg huv] at hu
   simp only [Phi.with,if_neg huv] at hM
   exact .inl ⟨u,c,M,hu,hc,hM,rfl⟩
 ·rw [hσ] at h1 h3
  by_cases huv:u=v
  ·by_cases huv':u'=v
   ·rw [huv,huv']
   ·subst huv
    rw [if_neg huv'] at h3
    simp only [Phi.with,if_neg huv'] at h6
    rw [Phi.with_eq] at h5;cases h5
    have:=hlt h3 h4 h6
    rw [← h7] at this;omega
  ·rw [if_neg huv] at h1
   simp only [Phi.with,if_neg huv] at h5
   by_cases huv':u'=v
   ·subst huv'
    rw [Phi.with_eq] at h6;cases h6
    have:=hlt h1 h2 h5
    rw [h7] at this;omega
   ·rw [if_neg huv'] at h3
    simp only [Phi.with,if_neg huv'] at h6
    exact h.inj u u' c c' M M' h1 h2 h3 h4 h5 h6 h7
 ·rw [hσ] at hu
  by_cases huv:u=v
  ·subst huv;rw [if_pos rfl] at hu;cases hu;exact .inr ⟨L,Phi.with_eq,hb⟩
  ·rw [if_neg huv] at hu;exact .inl ⟨hu,λ_ _ _ h=>h⟩
 ·exact .inl ⟨by rw [hσ,if_neg (hne hm')];exact hm',λ_ _ h=>h⟩
theorem row_open {ty sz n cap:Nat} {g:Nat} {l:List V} {xs:List Value} {cur:Array Value} {v:Vid} {k:V→H D→R} (hr:Rel P Hd w0 φ σ w) (h:newOpen v l n ty sz σ k=.ok) (hd:decs φ l=some xs) (h1:∀ x∈xs,oneCell x=true) (hl:xs.length=n * sz) (h0:0 < sz)
  (hge:w.heap.size≤g) (hk:Keeps No w w') (hg:w'.heap[g]?=some (.cells cur ty (0,0))) (hc:n≤cap) (hs:cur.size=cap * sz) (ht:cur.toList.take (n * sz)=xs) :
  Post P Hd w0 φ σ k (.slice (some ⟨g,0,none⟩) n cap) w':=by
 obtain⟨c,h2,h3⟩:=trOf_ok h
 rw [fL_eq] at h3
 obtain⟨k1,σ',k2,k3,k4⟩:=H.add_ok h3
 have hle:=Phi.with_le (L:=⟨g,0,cap⟩) (hr.gone _ k1)
 have hlen:=decs_length hd
 refine⟨φ.with v ⟨g,0,cap⟩,_,σ',hle,?_,by rw [dec_sl_mk (Phi.with_eq) (by simpa [capOf] using hc)];simp [capOf],Ext.put k2 k3,k4⟩
 refine hr.newG k1 hge hk k2 ⟨Base.new_of hr.keeps hge,cur,⟨hg,λi u hu=>?_,λi hi=>?_,(λhe=>by cases he),λ_=>?_⟩⟩
 ·rw [h2] at hu
  obtain⟨y,a1,a2⟩:=decs_get hd hu
  have hi:=(kA a1).1
  have hm:l.length=n * sz:=by omega
  refine⟨show i < n * sz by omega,y,dec_mono hle _ _ a2,?_,h1 y (kD a1)⟩
  rw [← ht,List.getElem?_take] at a1
  rw [if_pos (by omega)] at a1
  simpa using a1
 ·have hi:i < n * sz:=hi
  rw [h2,kC (by omega)];rfl
 ·exact⟨h0,Nat.mul_le_mul_right _ hc,λ_=>by simp [hs]⟩
end
def insI (x:Nat):List Nat→List Nat
 | []=>[x]
 | y::l=>match Nat.ble x y with | true=>x::y::l | false=>y::insI x l
def sortI:List Nat→List Nat
 | []=>[]
 | x::l=>insI x (sortI l)
def keysN:List (V × V)→Option (List Nat)
 | []=>some []
 | p::l=>match p.1,p.2 with
  | .i q (.ofNat n),.b _=>match Nat.beq (kIx q) 3&&Nat.ble n 1000000,keysN l with
   | true,some r=>some (n::r)
   | _,_=>none
  | _,_=>none
section
variable {D:Type} {P:Program} {Hd:D→Loc→View→Prop} {w0:Base} {F:Nat} {φ:Phi}
def hkSrt (ty:Nat):Hk D:=λargs σ k=>match args with
 | [.nm]=>k .ns σ
 | [.m v]=>σ.get v λb=>b.onM (λ_ _ es _=>orE (keysN es) (λl=>List.rec (motive:=λ_=>R) (k .ns σ) (λ_ _ _=>H.room 1 σ λvs σ=>fL (lenL l) λn=>newOpen (vAt 0 vs) ((sortI l).map λn=>.i .i64 (.ofNat n)) n ty 1 σ k) l) 901) 902
 | _=>.no 900
theorem insI_perm (x:Nat):∀ l:List Nat,(insI x l).Perm (x::l)
 | []=>.refl _
 | y::l=>by
  unfold insI
  split
  ·exact .refl _
  ·exact ((insI_perm x l).cons y).trans (.swap x y l)
theorem sortI_perm:∀ l:List Nat,(sortI l).Perm l
 | []=>.refl _
 | x::l=>(insI_perm x _).trans ((sortI_perm l).cons x)
theorem insI_rising (x:Nat):∀ {l:List Nat},l.Pairwise (·≤·)→(insI x l).Pairwise (·≤·)
 | [],_=>by simp [insI]
 | y::l,h=>by
  unfold insI
  obtain⟨h1,h2⟩:=List.pairwise_cons.1 h
  split
  ·rename_i hb
   have hb:=Nat.le_of_ble_eq_true hb
   refine List.pairwise_cons.2 ⟨λz hz=>?_,h⟩
   rcases List.mem_cons.1 hz with rfl | hz
   ·exact hb
   ·exact Nat.le_trans hb (h1 z hz)
  ·rename_i hb
   have hb:y≤x:=by
    rcases Nat.le_total x y with h | h
    ·rw [Nat.ble_eq_true_of_le h] at hb;cases hb
    ·exact h
   refine List.pairwise_cons.2 ⟨λz hz=>?_,insI_rising x h2⟩
   rcases List.mem_cons.1 ((insI_perm x l).mem_iff.1 hz) with rfl | hz
   ·exact hb
   ·exact h1 z hz
theorem sortI_rising:∀ l:List Nat,(sortI l).Pairwise (·≤·)
 | []=>.nil
 | x::l=>insI_rising x (sortI_rising l)
theorem keysN_ok:∀ {es:List (V × V)} {l:List Nat},keysN es=some l→l.length=es.length∧(∀ n,n∈l↔∃ p∈es,p.1=.i .i64 (.ofNat n))∧(∀ p∈es,∃ n b,p.1=.i .i64 (.ofNat n)∧p.2=.b b∧n≤1000000)∧l=es.map (λp=>match p.1 with | .i _ (.ofNat n)=>n | _=>0)
 | [],l,h=>by cases h;simp
 | p::es,l,h=>by
  unfold keysN at h
  split at h <;> try (cases h;done)
  rename_i q n b h1 h2
  split at h <;> try (cases h;done)
  rename_i r hb hr
  cases h
  simp only [Bool.and_eq_true] at hb
  have hq:q=.i64:=kIx_eq (hb.1:Nat.beq (kIx q) (kIx .i64)=true)
  subst hq
  obtain⟨e1,e2,e3,e4⟩:=keysN_ok hr
  refine⟨by simp [e1],λm=>?_,λp' hp=>?_,by simp [h1,e4]⟩
  ·rw [List.mem_cons,e2]
   constructor
   ·rintro (rfl | ⟨p',hp,e⟩)
    ·exact⟨p,by simp,h1⟩
    ·exact⟨p',by simp [hp],e⟩
   ·rintro⟨p',hp,e⟩
    rcases List.mem_cons.1 hp with rfl | hp
    ·rw [h1] at e;cases e;exact .inl rfl
    ·exact .inr ⟨p',hp,e⟩
  ·rcases List.mem_cons.1 hp with rfl | hp
   ·exact⟨n,b,h1,h2,Nat.le_of_ble_eq_true hb.2⟩
   ·exact e3 p' hp
theorem Rel.keep {σ:H D} {w w':World} (h:Rel P Hd w0 φ σ w) (hk:Keeps No w w'):Rel P Hd w0 φ σ w' :=
 h.step (Ch:=No) (Phi.le.refl _) hk (λ_ _ h=>h.elim) (λv hv=>h.gone v hv) (λv b L hv hl hL=>.inl ⟨v,b,L,hv,hl,hL,rfl⟩)
  (λv v' b b' L L' h1 h2 h3 h4=>h.inj v v' b b' L L' h1 h2 h3 h4) (λv b hv _=>.inl ⟨hv,λ_ _ _ h=>h⟩)
  (λm kT ks es ver hm=>.inl ⟨hm,λ_ _ h=>h⟩)
theorem rising_same:∀ {l l':List Int},l.Pairwise (· < ·)→l'.Pairwise (· < ·)→(∀ k,k∈l↔k∈l')→l=l'
 | [],[],_,_,_=>rfl
 | [],b::l',_,_,h=>by have:=(h b).2 (by simp);simp at this
 | a::l,[],_,_,h=>by have:=(h a).1 (by simp);simp at this
 | a::l,b::l',h1,h2,h=>by
  rw [List.pairwise_cons] at h1 h2
  have hab:a=b:=by
   rcases List.mem_cons.1 ((h a).1 (by simp)) with h3 | h3
   ·exact h3
   ·rcases List.mem_cons.1 ((h b).2 (by simp)) with h4 | h4
    ·exact h4.symm
    ·have:=h2.1 a h3;have:=h1.1 b h4;omega
  subst hab
  rw [rising_same h1.2 h2.2 λk=>?_]
  have:=h k
  simp only [List.mem_cons] at this
  constructor
  ·intro hk
   rcases this.1 (.inr hk) with rfl | h5
   ·have:=h1.1 _ hk;omega
   ·exact h5
  ·intro hk
   rcases this.2 (.inr hk) with rfl | h5
   ·have:=h2.1 _ hk;omega
   ·exact h5
theorem srt_ok {ty:Nat} (hen:enters P F=true) (h0:∀ (w:World),Calls P F #[.map none] w λe w'=>e=.returned (.slice none 0 0)∧Keeps No w w')
  (hC:∀ (b:Nat) (arr:Array MapEntry) (clock:Nat) (w:World),w.heap[b]?=some (.map arr clock)→MapKept.Stamped arr clock→(∀ e∈arr.toList,∃ (n:Nat) (c:Bool),e.key=.int .i64 (Int.ofNat n)∧e.val=.bool c∧n≤1000000) →
   Calls P F #[.map (some b)] w λe w'=>∃ (v:Value) (ss:List Int),e=.returned v∧ss.Pairwise (· < ·)∧(∀ k,k∈ss↔∃ e∈arr.toList,e.key=.int .i64 k)∧(v=.slice none 0 0↔ss=[])∧Keeps No w w'∧w'.ownsRow w.heap.size ty 1 v ss.length (ss.map λk=>.int .i64 k)) :
  FxOK P Hd w0 F (λ_ _ _=>(hkSrt ty:Hk D)):=by
 refine FxOK.of hen λl σ k φ w vs hr hd h=>?_
 unfold hkSrt at h
 split at h
 ·have:=one_nm hd
  subst this
  refine (h0 w).mono λe w' ⟨a1,a2⟩=>?_
  exact⟨_,a1,φ,_,σ,.refl _,hr.keep a2,by simp [dec],.refl _,h⟩
 ·rename_i v
  obtain⟨M,hM,rfl⟩:=one_m hd
  obtain⟨b,h3,h4⟩:=H.get_ok h
  obtain⟨kT,ks,es,ver,rfl,h5⟩:=onMp_ok h4
  obtain⟨ns,h6,h7⟩:=orE_ok h5
  obtain⟨L,hL,hge,hks,arr,clock,hat,hA⟩:=hr.live h3 trivial
  rw [hM] at hL;cases hL
  obtain⟨n1,n2,n3,n4⟩:=keysN_ok h6
  have hkey:∀ e∈arr.toList,∃ (n:Nat) (c:Bool),e.key=.int .i64 (Int.ofNat n)∧e.val=.bool c∧n≤1000000:=λe he=>by
   obtain⟨p,hp,d1,d2⟩:=hA.to_ e he
   obtain⟨n,c,e1,e2,e3⟩:=n3 p hp
   rw [e1] at d1;rw [e2] at d2
   exact⟨n,c,dec_i d1,dec_b d2,e3⟩
  refine (hC M.blk arr clock w hat hA.st hkey).mono λe w' ⟨v1,ss,a1,a2,a3,a4,a5,a6⟩=>?_
  have hnd:ns.Nodup:=by
   rw [n4,List.Nodup,List.pairwise_map]
   refine hA.nd.imp_of_mem λ{p q} hp hq hne he=>?_
   obtain⟨n,_,e1,_⟩:=n3 p hp
   obtain⟨m,_,e2,_⟩:=n3 q hq
   rw [e1,e2] at he
   simp only at he
   subst he
   exact hne (.int .i64 (Int.ofNat n)) (by rw [e1];rfl) (by rw [e2];rfl)
  have hss:ss=(sortI ns).map Int.ofNat:=by
   refine rising_same a2 ?_ λz=>?_
   ·rw [List.pairwise_map]
    have hs2:(sortI ns).Nodup:=(sortI_perm ns).nodup_iff.2 hnd
    exact ((sortI_rising ns).and hs2).imp λ{x y} ⟨h1,h2⟩=>by
     have h2:x≠y:=h2
     show (x:Int) < (y:Int)
     omega
   ·rw [a3,List.mem_map]
    constructor
    ·rintro⟨e,he,hz⟩
     obtain⟨p,hp,d1,_⟩:=hA.to_ e he
     obtain⟨n,c,e1,_⟩:=n3 p hp
     rw [e1] at d1
     have:=dec_i d1
     rw [hz] at this
     cases this
     exact⟨n,(sortI_perm ns).mem_iff.2 ((n2 n).2 ⟨p,hp,e1⟩),rfl⟩
    ·rintro⟨n,hn,rfl⟩
     obtain⟨p,hp,e1⟩:=(n2 n).1 ((sortI_perm ns).mem_iff.1 hn)
     obtain⟨e,he,d1,_⟩:=hA.of p hp
     rw [e1] at d1
     exact⟨e,he,dec_i d1⟩
  subst hss
  cases ns with
  | nil =>
   obtain rfl:v1=.slice none 0 0:=a4.2 rfl
   exact⟨_,a1,φ,_,σ,.refl _,hr.keep a5,by simp [dec],.refl _,h7⟩
  | cons n0 ns =>
   obtain⟨vv,σ1,g1,g2,g3⟩:=H.room_ok (show H.room 1 σ (λvs σ=>fL (lenL (n0::ns)) λn=>newOpen (vAt 0 vs) ((sortI (n0::ns)).map λn=>.i .i64 (.ofNat n)) n ty 1 σ k)=.ok from h7)
   rw [fL_eq,lenL_eq] at g3
   have hln:(sortI (n0::ns)).length=(n0::ns).length:=(sortI_perm _).length_eq
   have hr1:Rel P Hd w0 φ σ1 w:=hr.same rfl Keeps.refl g1
   obtain⟨b1,b2⟩:=a6
   rcases b2 with⟨_,b2⟩ | ⟨g,cap,cur,rfl,c1,c2,c3,c4,c5,c6⟩
   ·simp [hln] at b2
   ·have hlen2:((sortI (n0::ns)).map Int.ofNat).length=(n0::ns).length:=by simpa using hln
    rw [hlen2] at a1 c3 c6 b1
    refine⟨_,a1,?_⟩
    obtain⟨φ',u,σ',d1,d2,d3,d4,d5⟩:=row_open (xs:=((sortI (n0::ns)).map Int.ofNat).map λk=>Value.int .i64 k) hr1 g3 (by
     refine decs_mk (by simp) λi x hx=>?_
     simp only [List.getElem?_map,Option.map_eq_some_iff] at hx
     obtain⟨n,hn,rfl⟩:=hx
     exact⟨.int .i64 (Int.ofNat n),by simp [hn],rfl⟩) (by
     intro x hx
     simp only [List.mem_map] at hx
     obtain⟨y,_,rfl⟩:=hx
     rfl) (by simpa using hln) (by omega) c1 a5 c2 c3 (by simpa using c5) (by simpa using c6)
    exact⟨φ',u,σ',d1,d2,d3,(Ext.same g1 g2).trans d4,d5⟩
 ·cases h
theorem srt_det {ty:Nat}:FxDet (λ_ _ _=>(hkSrt ty:Hk D)):=FxDet.of λκ p l σ f hf=>by
 unfold hkSrt
 rcases l with _ | ⟨a,_ | ⟨b,l⟩⟩
 ·exact Det.no
 ·cases a <;> try exact Det.no
  ·rename_i v
   refine Det.get (f:=λb k=>b.onM (λ_ _ es _=>orE (keysN es) (λl=>List.rec (motive:=λ_=>R) (f .ns σ k) (λ_ _ _=>H.room 1 σ λvs σ=>fL (lenL l) λn=>newOpen (vAt 0 vs) ((sortI l).map λn=>.i .i64 (.ofNat n)) n ty 1 σ λu σ=>f u σ k) l) 901) 902) λb _=>?_
   refine Det.onMp (f:=λ_ _ es _ k=>orE (keysN es) (λl=>List.rec (motive:=λ_=>R) (f .ns σ k) (λ_ _ _=>H.room 1 σ λvs σ=>fL (lenL l) λn=>newOpen (vAt 0 vs) ((sortI l).map λn=>.i .i64 (.ofNat n)) n ty 1 σ λu σ=>f u σ k) l) 901) λ_ _ es _=>?_
   refine Det.orE (f:=λl k=>List.rec (motive:=λ_=>R) (f .ns σ k) (λ_ _ _=>H.room 1 σ λvs σ=>fL (lenL l) λn=>newOpen (vAt 0 vs) ((sortI l).map λn=>.i .i64 (.ofNat n)) n ty 1 σ λu σ=>f u σ k) l) λl _=>?_
   cases l with
   | nil=>exact hf _ _ (.refl _)
   | cons x l=>exact room_det (f:=λvs σ k=>fL (lenL (x::l)) λn=>newOpen (vAt 0 vs) ((sortI (x::l)).map λn=>.i .i64 (.ofNat n)) n ty 1 σ λu σ=>f u σ k) λvs σ1 e1=>Det.fL (f:=λn k=>newOpen (vAt 0 vs) ((sortI (x::l)).map λn=>.i .i64 (.ofNat n)) n ty 1 σ1 λu σ=>f u σ k) (dNewOpen λu σ2 e2=>hf u σ2 (e1.trans e2))
  ·exact hf _ _ (.refl _)
 ·cases a <;> exact Det.no
end
section
variable {D:Type} {P:Program} {Hd:D→Loc→View→Prop} {w0:Base} {κ:Type} {p:(κ→R)→Prop}
theorem Det.make {d:Bd} {f:Blk D→κ→R} (h:∀ b,Det p (f b)):Det p (λk=>d.make λb=>f b k):=by
 cases d with
 | cells ex n l ty sz=>exact Det.trOf (f:=λc k=>f (.cells ex n c ty sz) k) λc=>h _
 | map kT ks es ver=>exact h _
theorem preIs_det {f:κ→R} (h:Det p f) {σ:H D}:∀ {l:List (Nat × Bd × Bd)},Det p (λk=>preIs l σ (f k))
 | []=>h
 | q::l=>Det.get (f:=λb k=>iff' (both (q.2.1.is b) (q.2.2.later b)) (preIs l σ (f k)) (.no 400)) λb _=>Det.iff (f:=λk=>preIs l σ (f k)) (λ_=>preIs_det h) (λ_=>Det.no)
theorem putAll_det:∀ {l:List (Nat × Bd)} {σ:H D} {f:H D→κ→R},(∀ σ',Ext σ σ'→Det p (f σ'))→Det p (λk=>putAll l σ λσ=>f σ k)
 | [],σ,f,h=>h σ (.refl _)
 | q::l,σ,f,h=>Det.make (f:=λb k=>σ.put q.1 b λσ=>putAll l σ λσ=>f σ k) λb=>Det.put (f:=λσ k=>putAll l σ λσ=>f σ k) λσ1 e1=>putAll_det λσ2 e2=>h σ2 (e1.trans e2)
theorem addAll_det:∀ {l:List (Nat × Bd)} {σ:H D} {f:H D→κ→R},(∀ σ',Ext σ σ'→Det p (f σ'))→Det p (λk=>addAll l σ λσ=>f σ k)
 | [],σ,f,h=>h σ (.refl _)
 | q::l,σ,f,h=>Det.make (f:=λb k=>σ.add q.1 b λσ=>addAll l σ λσ=>f σ k) λb=>Det.add (f:=λσ k=>addAll l σ λσ=>f σ k) λσ1 e1=>addAll_det λσ2 e2=>h σ2 (e1.trans e2)
theorem hkMemo_det {m:Memo} {l:List V} {σ:H D} {f:V→H D→κ→R} (hf:∀ u σ',Ext σ σ'→Det p (f u σ')):Det p (λk=>(hkMemo m:Hk D) l σ λu σ=>f u σ k) :=
 Det.iff (f:=λk=>preIs m.pre σ (putAll m.pre2 σ λσ=>addAll m.new σ λσ=>f m.v (σ.setNx m.nx') k)) (λ_=>preIs_det (f:=λk=>putAll m.pre2 σ λσ=>addAll m.new σ λσ=>f m.v (σ.setNx m.nx') k)
  (putAll_det (f:=λσ k=>addAll m.new σ λσ=>f m.v (σ.setNx m.nx') k) λσ1 e1=>addAll_det (f:=λσ k=>f m.v (σ.setNx m.nx') k) λσ2 e2=>hf _ _ ((e1.trans e2).trans (Ext.same (λv=>by cases σ2;rfl) (by cases σ2;rfl))))) (λ_=>Det.no)
theorem memos_det {ms:List Memo}:FxDet (λ_ _ _=>(hkMemos ms (λ_ _ _=>.no 404):Hk D)):=FxDet.of λκ p l σ f hf=>by
 unfold hkMemos
 cases σ with
 | mk h nx lg =>
  show Det p (λk=>List.rec (motive:=λ_=>R) (.no 404) (λm _ ih=>iff' (Nat.beq m.nx nx) ((hkMemo m:Hk D) l (.mk h nx lg) λu σ=>f u σ k) ih) ms)
  induction ms with
  | nil=>exact Det.no
  | cons m ms ih=>exact Det.iff (f:=λk=>(hkMemo m:Hk D) l (.mk h nx lg) λu σ=>f u σ k) (λ_=>hkMemo_det hf) (λ_=>ih)
theorem memos_ok {F:Nat} (hen:enters P F=true):∀ {ms:List Memo},(∀ m∈ms,FxOK P Hd w0 F (λ_ _ _=>(hkMemo m:Hk D)))→FxOK P Hd w0 F (λ_ _ _=>(hkMemos ms (λ_ _ _=>.no 404):Hk D)):=by
 intro ms hm
 intro fu cl h1 h2 l σ k φ w vs hr hd h
 cases σ with
 | mk hh nx lg =>
  have h:List.rec (motive:=λ_=>R) (.no 404) (λm _ ih=>iff' (Nat.beq m.nx nx) ((hkMemo m:Hk D) l (.mk hh nx lg) k) ih) ms=.ok:=h
  induction ms with
  | nil=>cases h
  | cons m ms ih =>
   have h:iff' (Nat.beq m.nx nx) ((hkMemo m:Hk D) l (.mk hh nx lg) k) (List.rec (motive:=λ_=>R) (.no 404) (λm _ ih=>iff' (Nat.beq m.nx nx) ((hkMemo m:Hk D) l (.mk hh nx lg) k) ih) ms)=.ok:=h
   cases hb:Nat.beq m.nx nx with
   | true=>rw [hb] at h;exact hm m (by simp) fu cl h1 h2 l _ k φ w vs hr hd h
   | false=>rw [hb] at h;exact ih (λm' h'=>hm m' (by simp [h'])) h h
end
def Stays (B:Base) (X:World→Prop):Prop:=∀ w',Keeps B.M B.w w'→X w'
section
variable {D:Type} {P:Program} {Hd:D→Loc→View→Prop} {w0:Base} {F:Nat} {φ:Phi} {σ:H D} {w:World} {M:Nat→Prop} {X:World→Prop}
theorem Rel.stays (hr:Rel P Hd w0 φ σ w) (hX:Stays w0 X):X w:=hX w hr.keeps
theorem Rel.staysM (hr:Rel P Hd w0 φ σ w) (hM:∀ b,M b→w0.New b) (hX:Stays w0 X):Stays ⟨w,M⟩ X:=λw' hk=>by
 refine hX w' (hr.keeps.then hk λi hi hm=>?_)
 rcases hM i hm with h | h
 ·exact h
 ·have:w0.w.heap.size≤i:=h
  omega
theorem Rel.cellM {m:Int} (hr:Rel P Hd w0 φ σ w) (hM:∀ b,M b→w0.New b) (hm:w0.w.cell? ⟨0,0,none⟩=some (.int .i64 m)∧¬ w0.M 0):(Base.mk w M).w.cell? ⟨0,0,none⟩=some (.int .i64 m)∧¬ (Base.mk w M).M 0:=by
 refine⟨hr.cell0 hm,λh0=>?_⟩
 rcases hM 0 h0 with h | h
 ·exact hm.2 h
 ·have h1:=hm.1
  have:w0.w.heap.size=0:=Nat.le_zero.1 h
  have:w0.w.heap[0]?=none:=Array.getElem?_eq_none (by omega)
  simp [World.cell?,this] at h1
def hkItoaN:Hk D:=λargs σ k=>match args with
 | [.i q (.ofNat n)]=>iff' (Nat.beq (kIx q) 3&&Nat.blt n 1000000) (k (.s (itoaL n)) σ) (.no 389)
 | [.i q (.negSucc n)]=>iff' (Nat.beq (kIx q) 3&&Nat.blt n 999999) (k (.s (45::itoaL (n + 1))) σ) (.no 388)
 | _=>.no 306
theorem itoaN_ok (hX:Stays w0 X) (hen:enters P F=true) (hC:∀ (n:Int) (w:World),X w→-1000000 < n→n < 1000000→Calls P F #[.int .i64 n] w λe w'=>e=.returned (.string ⟨(Lib.itoa n).toArray⟩)∧Keeps No w w'):FxOK P Hd w0 F (λ_ _ _=>(hkItoaN:Hk D)):=by
 refine FxOK.of hen λl σ k φ w vs hr hd h=>?_
 unfold hkItoaN at h
 split at h <;> try (cases h;done)
 ·rename_i q n
  obtain⟨y,m,rfl,h1,h2⟩:=decs_cons_inv hd
  simp [decs] at h2;subst h2
  obtain⟨hb,h9⟩:=iff_ok h
  simp only [Bool.and_eq_true] at hb
  have hq:q=.i64:=kIx_eq (b:=.i64) hb.1
  subst hq
  have hn:n < 1000000:=by simpa using hb.2
  rw [dec_i h1]
  refine (hC n w (hr.stays hX) (by omega) (by omega)).mono λe w' ⟨g1,g2⟩=>?_
  refine⟨_,g1,φ,_,σ,.refl _,hr.keep g2,?_,.refl _,h9⟩
  have:=digits_ok 19 n [] (by omega)
  simp only [dec,Option.some.injEq,itoaL,bytesOf]
  simp only [List.map_nil,List.append_nil] at this
  rw [this,Lib.itoa,if_neg (by omega)];rfl
 ·rename_i q n
  obtain⟨y,m,rfl,h1,h2⟩:=decs_cons_inv hd
  simp [decs] at h2;subst h2
  obtain⟨hb,h9⟩:=iff_ok h
  simp only [Bool.and_eq_true] at hb
  have hq:q=.i64:=kIx_eq (b:=.i64) hb.1
  subst hq
  have hn:n < 999999:=by simpa using hb.2
  rw [dec_i h1]
  refine (hC (.negSucc n) w (hr.stays hX) (by omega) (by omega)).mono λe w' ⟨g1,g2⟩=>?_
  refine⟨_,g1,φ,_,σ,.refl _,hr.keep g2,?_,.refl _,h9⟩
  have:=digits_ok 19 (n + 1) [] (by omega)
  simp only [dec,Option.some.injEq,itoaL,bytesOf,List.map_cons]
  simp only [List.map_nil,List.append_nil] at this
  rw [this,Lib.itoa,if_pos (Int.negSucc_lt_zero n)];rfl
theorem itoaN_det:FxDet (λ_ _ _=>(hkItoaN:Hk D)):=FxDet.of λκ p l σ f hf=>by
 unfold hkItoaN
 rcases l with _ | ⟨a,_ | ⟨b,l⟩⟩
 ·exact Det.no
 ·cases a <;> try exact Det.no
  rename_i q n
  cases n with
  | ofNat n=>exact Det.iff (f:=λk=>f (.s (itoaL n)) σ k) (λ_=>hf _ _ (.refl _)) (λ_=>Det.no)
  | negSucc n=>exact Det.iff (f:=λk=>f (.s (45::itoaL (n + 1))) σ k) (λ_=>hf _ _ (.refl _)) (λ_=>Det.no)
 ·cases a with
  | i q n=>cases n <;> exact Det.no
  | _=>exact Det.no
end
structure RecS (α:Type) where
 k:Nat
 enc:α→List Value
 toV:α→List V
 ofV:V→Option α
 lt:α→α→Bool
structure RecS.Ok {α:Type} (S:RecS α):Prop where
 len:∀ x,(S.enc x).length=S.k
 one:∀ x,∀ v∈S.enc x,oneCell v=true
 k0:0 < S.k
 dec:∀ φ x,decs φ (S.toV x)=some (S.enc x)
 of:∀ φ u x,S.ofV u=some x→Go.Ev.dec φ u=some (.agg (S.enc x).toArray)
 inj:∀ x y,S.enc x=S.enc y→x=y
 irr:∀ x,S.lt x x=false
 tr:∀ x y z,S.lt y x=false→S.lt z y=false→S.lt z x=false
 tot:∀ x y,S.lt x y=false→S.lt y x=false→x=y
 asym:∀ x y,S.lt x y=true→S.lt y x=false
section
variable {α:Type} (S:RecS α)
def insA (x:α):List α→List α
 | []=>[x]
 | y::l=>match S.lt y x with | true=>y::insA x l | false=>x::y::l
def sortA:List α→List α
 | []=>[]
 | x::l=>insA S x (sortA l)
def keysA:List (V × V)→Option (List α)
 | []=>some []
 | p::l=>match S.ofV p.1,keysA l with
  | some x,some r=>some (x::r)
  | _,_=>none
def flatA:List α→List V
 | []=>[]
 | x::l=>S.toV x++flatA l
variable {D:Type}
def hkSF (K1 g ty:Nat):Hk D:=λargs σ k=>match args with
 | [.f a [] [.p v 0],.f b [] []]=>iff' (Nat.beq a K1&&Nat.beq b g) (σ.cells v λex _ c _ _=>iff' ex (orE (c.get 0) (λm=>m.onM (λv=>σ.get v λb=>b.onM (λ_ _ es _=>orE (keysA S es) (λl=>iff' (Nat.blt (lenL l) 1000000) (List.rec (motive:=λ_=>R) (k .ns σ) (λ_ _ _=>H.room 1 σ λvs σ=>fL (lenL l) λn=>newOpen (vAt 0 vs) (flatA S (sortA S l)) n ty S.k σ k) l) (.no 937)) 931) 932) 933) 938) (.no 939)) (.no 936)
 | _=>.no 930
variable {S}
theorem insA_perm (x:α):∀ l:List α,(insA S x l).Perm (x::l)
 | []=>.refl _
 | y::l=>by
  unfold insA
  split
  ·exact ((insA_perm x l).cons y).trans (.swap x y l)
  ·exact .refl _
theorem sortA_perm:∀ l:List α,(sortA S l).Perm l
 | []=>.refl _
 | x::l=>(insA_perm x _).trans ((sortA_perm l).cons x)
theorem insA_rising (hS:S.Ok) (x:α):∀ {l:List α},l.Pairwise (λa b=>S.lt b a=false)→(insA S x l).Pairwise (λa b=>S.lt b a=false)
 | [],_=>by simp [insA]
 | y::l,h=>by
  unfold insA
  obtain⟨h1,h2⟩:=List.pairwise_cons.1 h
  split
  ·rename_i hb
   refine List.pairwise_cons.2 ⟨λz hz=>?_,insA_rising hS x h2⟩
   rcases List.mem_cons.1 ((insA_perm x l).mem_iff.1 hz) with rfl | hz
   ·exact hS.asym _ _ hb
   ·exact h1 z hz
  ·rename_i hb
   refine List.pairwise_cons.2 ⟨λz hz=>?_,h⟩
   rcases List.mem_cons.1 hz with rfl | hz
   ·exact hb
   ·exact hS.tr _ _ _ hb (h1 z hz)
theorem sortA_rising (hS:S.Ok):∀ l:List α,(sortA S l).Pairwise (λa b=>S.lt b a=false)
 | []=>.nil
 | x::l=>insA_rising hS x (sortA_rising hS l)
theorem sortA_merge (hS:S.Ok) {l l':List α} (h:l.Perm l'):sortA S l=l'.mergeSort λx y=>!S.lt y x:=by
 refine List.Perm.eq_of_pairwise (le:=λa b=>S.lt b a=false) (λa b _ _ h1 h2=>hS.tot _ _ h2 h1) (sortA_rising hS l) ?_ ((sortA_perm l).trans (h.trans (List.mergeSort_perm l' _).symm))
 have:=List.pairwise_mergeSort (le:=λx y=>!S.lt y x) (λa b c h1 h2=>by simp only [Bool.not_eq_true'] at *;exact hS.tr _ _ _ h1 h2) (λa b=>by
  cases h:S.lt b a with
  | false=>rfl
  | true=>simp [hS.asym _ _ h]) l'
 exact this.imp λh=>by simpa using h
theorem keysA_ok:∀ {es:List (V × V)} {l:List α},keysA S es=some l→l.length=es.length∧(∀ x,x∈l↔∃ p∈es,S.ofV p.1=some x)∧(∀ p∈es,∃ x∈l,S.ofV p.1=some x)∧es.map (λp=>S.ofV p.1)=l.map some
 | [],l,h=>by cases h;simp
 | p::es,l,h=>by
  unfold keysA at h
  split at h <;> try (cases h;done)
  rename_i x r h1 hr
  cases h
  obtain⟨e1,e2,e3,e4⟩:=keysA_ok hr
  refine⟨by simp [e1],λy=>?_,λp' hp=>?_,by simp [h1,e4]⟩
  ·rw [List.mem_cons,e2]
   constructor
   ·rintro (rfl | ⟨p',hp,e⟩)
    ·exact⟨p,by simp,h1⟩
    ·exact⟨p',by simp [hp],e⟩
   ·rintro⟨p',hp,e⟩
    rcases List.mem_cons.1 hp with rfl | hp
    ·rw [h1] at e;cases e;exact .inl rfl
    ·exact .inr ⟨p',hp,e⟩
  ·rcases List.mem_cons.1 hp with rfl | hp
   ·exact⟨x,by simp,h1⟩
   ·obtain⟨y,hy,e⟩:=e3 p' hp
    exact⟨y,by simp [hy],e⟩
theorem flatA_dec (hS:S.Ok) (φ:Phi):∀ l:List α,decs φ (flatA S l)=some (l.flatMap S.enc)
 | []=>rfl
 | x::l=>by
  rw [List.flatMap_cons]
  exact decs_append (hS.dec φ x) (flatA_dec hS φ l)
theorem flat_len (hS:S.Ok):∀ l:List α,(l.flatMap S.enc).length=l.length * S.k
 | []=>by simp
 | x::l=>by rw [List.flatMap_cons,List.length_append,hS.len,flat_len hS l,List.length_cons,Nat.succ_mul];omega
theorem list_of {β γ:Type} {f:β→γ} {l:List γ} (h:∀ y∈l,∃ x,f x=y):∃ xs:List β,l=xs.map f:=by
 induction l with
 | nil=>exact⟨[],rfl⟩
 | cons y l ih =>
  obtain⟨x,rfl⟩:=h y (by simp)
  obtain⟨xs,rfl⟩:=ih λz hz=>h z (by simp [hz])
  exact⟨x::xs,rfl⟩
variable {P:Program} {Hd:D→Loc→View→Prop} {w0:Base} {F:Nat} {φ:Phi}
theorem sf_ok (hS:S.Ok) {K1 g ty:Nat} (hen:enters P F=true)
  (hC:∀ (a:Nat) (b:Nat) (arr:Array MapEntry) (clock:Nat) (w:World) (ys:List α),w.cell? ⟨a,0,none⟩=some (.map (some b))→w.heap[b]?=some (.map arr clock)→MapKept.Stamped arr clock→arr.toList.map (·.key)=ys.map (λx=>.agg (S.enc x).toArray)→ys.length < 1000000 →
   Calls P F #[.func (.func K1) #[] #[.pointer (some ⟨a,0,none⟩)],.func (.func g) #[] #[]] w λe w'=>∃ v:Value,e=.returned v∧(v=.slice none 0 0↔ys=[])∧Keeps No w w'∧w'.ownsRow w.heap.size ty S.k v ys.length ((ys.mergeSort λx y=>!S.lt y x).flatMap S.enc)) :
  FxOK P Hd w0 F (λ_ _ _=>(hkSF S K1 g ty:Hk D)):=by
 refine FxOK.of hen λl σ k φ w vs hr hd h=>?_
 unfold hkSF at h
 split at h <;> try (cases h;done)
 rename_i a v b
 obtain⟨hb0,h0⟩:=iff_ok h
 simp only [Bool.and_eq_true] at hb0
 obtain⟨hb1,hb2⟩:=hb0
 have ha:a=K1:=kB hb1
 have hb:b=g:=kB hb2
 subst ha
 subst hb
 obtain⟨ex,n,c,tyc,szc,h1,h01⟩:=H.cells_ok h0
 obtain⟨hex,h02⟩:=iff_ok h01
 obtain⟨u,h2,h3⟩:=orE_ok h02
 obtain⟨L,cs,hL,hnew,hcs⟩:=hr.cells h1
 have hb0:L.base=0:=(hcs.full hex).2
 obtain⟨_,y,hy,hcy,_⟩:=hcs.get _ _ h2
 obtain⟨m,rfl,h4⟩:=onM_ok h3
 obtain⟨M,hM,rfl⟩:=dec_m hy
 obtain⟨bl,h5,h6⟩:=H.get_ok h4
 obtain⟨kT,ks,es,ver,rfl,h7⟩:=onMp_ok h6
 obtain⟨xs,h8,h9⟩:=orE_ok h7
 obtain⟨hlen,h10⟩:=iff_ok h9
 rw [lenL_eq] at hlen
 have hlen:xs.length < 1000000:=by simpa using hlen
 obtain⟨L',hL',hge,hks,arr,clock,hat,hA⟩:=hr.live h5 trivial
 rw [hM] at hL';cases hL'
 obtain⟨n1,n2,n3,n4⟩:=keysA_ok h8
 have hkey:∀ y∈arr.toList.map (·.key),∃ x,Value.agg (S.enc x).toArray=y:=by
  intro y hy
  obtain⟨e,he,rfl⟩:=List.mem_map.1 hy
  obtain⟨p,hp,d1,_⟩:=hA.to_ e he
  obtain⟨x,_,e1⟩:=n3 p hp
  exact⟨x,by have:=hS.of φ _ _ e1;rw [d1] at this;exact (Option.some.inj this).symm⟩
 obtain⟨ys,hys⟩:=list_of hkey
 have hyl:ys.length=xs.length:=by
  have h1:=congrArg List.length hys
  simp only [List.length_map,Array.length_toList] at h1
  rw [← h1,hA.size,n1]
 have hst:=(MapKept.stamped_iff arr clock).1 hA.st
 have hperm:xs.Perm ys:=by
  refine (List.perm_ext_iff_of_nodup ?_ ?_).2 λx=>?_
  ·have:(xs.map some).Nodup:=by
    rw [← n4,List.Nodup,List.pairwise_map]
    refine hA.nd.imp_of_mem λ{p q} hp hq hne he=>?_
    obtain⟨x,_,e1⟩:=n3 p hp
    rw [e1] at he
    exact hne _ (hS.of φ _ _ e1) (hS.of φ _ _ he.symm)
   rw [List.Nodup,List.pairwise_map] at this
   exact this.imp λh e=>h (by rw [e])
  ·have:(ys.map λx=>Value.agg (S.enc x).toArray).Nodup:=by rw [← hys,List.Nodup,List.pairwise_map];exact hst.2.2
   rw [List.Nodup,List.pairwise_map] at this
   exact this.imp λh e=>h (by rw [e])
  ·have hmem:x∈ys↔∃ e∈arr.toList,e.key=.agg (S.enc x).toArray:=by
    constructor
    ·intro hx
     have:Value.agg (S.enc x).toArray∈arr.toList.map (·.key):=by rw [hys];exact List.mem_map_of_mem hx
     obtain⟨e,he,h⟩:=List.mem_map.1 this
     exact⟨e,he,h⟩
    ·rintro⟨e,he,h⟩
     have:Value.agg (S.enc x).toArray∈ys.map λx=>Value.agg (S.enc x).toArray:=by rw [← hys,← h];exact List.mem_map_of_mem he
     obtain⟨x',hx',h'⟩:=List.mem_map.1 this
     have:x'=x:=hS.inj _ _ (by simpa using h')
     rw [← this];exact hx'
   rw [n2,hmem]
   constructor
   ·rintro⟨p,hp,e1⟩
    obtain⟨e,he,d1,_⟩:=hA.of p hp
    have:=hS.of φ _ _ e1
    rw [d1] at this
    exact⟨e,he,Option.some.inj this⟩
   ·rintro⟨e,he,h⟩
    obtain⟨p,hp,d1,_⟩:=hA.to_ e he
    obtain⟨x',_,e1⟩:=n3 p hp
    have:=hS.of φ _ _ e1
    rw [d1,h] at this
    have:x=x':=hS.inj _ _ (by simpa using this)
    subst this
    exact⟨p,hp,e1⟩
 have hvs:vs=[.func (.func a) #[] #[.pointer (some ⟨L.blk,0,none⟩)],.func (.func b) #[] #[]]:=by
  simp [decs,dec,hL,hb0] at hd
  exact hd.symm
 subst hvs
 have hcell:w.cell? ⟨L.blk,0,none⟩=some (.map (some M.blk)):=by
  have:=hcs.at_
  simp only [World.cell?,this]
  simpa [hb0] using hcy
 refine (hC L.blk M.blk arr clock w ys hcell hat hA.st hys (by omega)).mono λe w' ⟨v1,a1,a4,a5,a6⟩=>?_
 rw [hyl] at a6
 rw [← sortA_merge hS hperm] at a6
 cases xs with
 | nil =>
  obtain rfl:ys=[]:=List.eq_nil_of_length_eq_zero (by simpa using hyl)
  obtain rfl:v1=.slice none 0 0:=a4.2 rfl
  exact⟨_,a1,φ,_,σ,.refl _,hr.keep a5,by simp [dec],.refl _,h10⟩
 | cons x0 xs =>
  obtain⟨vv,σ1,g1,g2,g3⟩:=H.room_ok (show H.room 1 σ (λvs σ=>fL (lenL (x0::xs)) λn=>newOpen (vAt 0 vs) (flatA S (sortA S (x0::xs))) n ty S.k σ k)=.ok from h10)
  rw [fL_eq,lenL_eq] at g3
  have hln:(sortA S (x0::xs)).length=(x0::xs).length:=(sortA_perm _).length_eq
  have hr1:Rel P Hd w0 φ σ1 w:=hr.same rfl Keeps.refl g1
  obtain⟨b1,b2⟩:=a6
  rcases b2 with⟨_,b2⟩ | ⟨gg,cap,cur,rfl,c1,c2,c3,c4,c5,c6⟩
  ·simp at b2
  ·refine⟨_,a1,?_⟩
   obtain⟨φ',u,σ',d1,d2,d3,d4,d5⟩:=row_open hr1 g3 (flatA_dec hS φ _) (by
    intro x hx
    obtain⟨y,_,hy⟩:=List.mem_flatMap.1 hx
    exact hS.one y x hy) (by rw [flat_len hS,hln]) hS.k0 c1 a5 c2 c3 c5 c6
   exact⟨φ',u,σ',d1,d2,d3,(Ext.same g1 g2).trans d4,d5⟩
end
section
variable {D:Type} {α:Type} {S:RecS α}
theorem sf_det {K1 g ty:Nat}:FxDet (λ_ _ _=>(hkSF S K1 g ty:Hk D)):=FxDet.of λκ p l σ f hf=>by
 unfold hkSF
 split
 ·rename_i a v b
  refine Det.iff (f:=λk=>σ.cells v λex _ c _ _=>iff' ex (orE (c.get 0) (λm=>m.onM (λv=>σ.get v λb=>b.onM (λ_ _ es _=>orE (keysA S es) (λl=>iff' (Nat.blt (lenL l) 1000000) (List.rec (motive:=λ_=>R) (f .ns σ k) (λ_ _ _=>H.room 1 σ λvs σ=>fL (lenL l) λn=>newOpen (vAt 0 vs) (flatA S (sortA S l)) n ty S.k σ λu σ=>f u σ k) l) (.no 937)) 931) 932) 933) 938) (.no 939)) (λ_=>?_) (λ_=>Det.no)
  refine Det.cells (f:=λex _ c _ _ k=>iff' ex (orE (c.get 0) (λm=>m.onM (λv=>σ.get v λb=>b.onM (λ_ _ es _=>orE (keysA S es) (λl=>iff' (Nat.blt (lenL l) 1000000) (List.rec (motive:=λ_=>R) (f .ns σ k) (λ_ _ _=>H.room 1 σ λvs σ=>fL (lenL l) λn=>newOpen (vAt 0 vs) (flatA S (sortA S l)) n ty S.k σ λu σ=>f u σ k) l) (.no 937)) 931) 932) 933) 938) (.no 939)) λex _ c _ _=>?_
  refine Det.iff (f:=λk=>orE (c.get 0) (λm=>m.onM (λv=>σ.get v λb=>b.onM (λ_ _ es _=>orE (keysA S es) (λl=>iff' (Nat.blt (lenL l) 1000000) (List.rec (motive:=λ_=>R) (f .ns σ k) (λ_ _ _=>H.room 1 σ λvs σ=>fL (lenL l) λn=>newOpen (vAt 0 vs) (flatA S (sortA S l)) n ty S.k σ λu σ=>f u σ k) l) (.no 937)) 931) 932) 933) 938) (λ_=>?_) (λ_=>Det.no)
  refine Det.orE (f:=λ(m:V) k=>m.onM (λv=>σ.get v λb=>b.onM (λ_ _ es _=>orE (keysA S es) (λl=>iff' (Nat.blt (lenL l) 1000000) (List.rec (motive:=λ_=>R) (f .ns σ k) (λ_ _ _=>H.room 1 σ λvs σ=>fL (lenL l) λn=>newOpen (vAt 0 vs) (flatA S (sortA S l)) n ty S.k σ λu σ=>f u σ k) l) (.no 937)) 931) 932) 933) λm _=>?_
  refine Det.onM (f:=λv k=>σ.get v λb=>b.onM (λ_ _ es _=>orE (keysA S es) (λl=>iff' (Nat.blt (lenL l) 1000000) (List.rec (motive:=λ_=>R) (f .ns σ k) (λ_ _ _=>H.room 1 σ λvs σ=>fL (lenL l) λn=>newOpen (vAt 0 vs) (flatA S (sortA S l)) n ty S.k σ λu σ=>f u σ k) l) (.no 937)) 931) 932) λv=>?_
  refine Det.get (f:=λb k=>b.onM (λ_ _ es _=>orE (keysA S es) (λl=>iff' (Nat.blt (lenL l) 1000000) (List.rec (motive:=λ_=>R) (f .ns σ k) (λ_ _ _=>H.room 1 σ λvs σ=>fL (lenL l) λn=>newOpen (vAt 0 vs) (flatA S (sortA S l)) n ty S.k σ λu σ=>f u σ k) l) (.no 937)) 931) 932) λb _=>?_
  refine Det.onMp (f:=λ_ _ es _ k=>orE (keysA S es) (λl=>iff' (Nat.blt (lenL l) 1000000) (List.rec (motive:=λ_=>R) (f .ns σ k) (λ_ _ _=>H.room 1 σ λvs σ=>fL (lenL l) λn=>newOpen (vAt 0 vs) (flatA S (sortA S l)) n ty S.k σ λu σ=>f u σ k) l) (.no 937)) 931) λ_ _ es _=>?_
  refine Det.orE (f:=λl k=>iff' (Nat.blt (lenL l) 1000000) (List.rec (motive:=λ_=>R) (f .ns σ k) (λ_ _ _=>H.room 1 σ λvs σ=>fL (lenL l) λn=>newOpen (vAt 0 vs) (flatA S (sortA S l)) n ty S.k σ λu σ=>f u σ k) l) (.no 937)) λl _=>?_
  refine Det.iff (f:=λk=>List.rec (motive:=λ_=>R) (f .ns σ k) (λ_ _ _=>H.room 1 σ λvs σ=>fL (lenL l) λn=>newOpen (vAt 0 vs) (flatA S (sortA S l)) n ty S.k σ λu σ=>f u σ k) l) (λ_=>?_) (λ_=>Det.no)
  cases l with
  | nil=>exact hf _ _ (.refl _)
  | cons x l=>exact room_det (f:=λvs σ k=>fL (lenL (x::l)) λn=>newOpen (vAt 0 vs) (flatA S (sortA S (x::l))) n ty S.k σ λu σ=>f u σ k) λvs σ1 e1=>Det.fL (f:=λn k=>newOpen (vAt 0 vs) (flatA S (sortA S (x::l))) n ty S.k σ1 λu σ=>f u σ k) (dNewOpen λu σ2 e2=>hf u σ2 (e1.trans e2))
 ·exact Det.no
end
def cmpI (a b:Int):Int:=if a < b then -1 else if b < a then 1 else 0
def or3 (a b c:Int):Int:=if a≠0 then a else if b≠0 then b else c
abbrev I3:=Int × Int × Int
def cf3 (x y:I3):Int:=or3 (cmpI x.1 y.1) (cmpI x.2.1 y.2.1) (cmpI x.2.2 y.2.2)
def lt3 (x y:I3):Bool:=Bool.rec (motive:=λ_=>Bool) (Bool.rec (motive:=λ_=>Bool) false (Bool.rec (motive:=λ_=>Bool) (Bool.rec (motive:=λ_=>Bool) false (ilt x.2.2 y.2.2) (ieq x.2.1 y.2.1)) true (ilt x.2.1 y.2.1)) (ieq x.1 y.1)) true (ilt x.1 y.1)
def ofV3:V→Option I3
 | .a [.i q a,.i r b,.i s c]=>match Nat.beq (kIx q) 3&&Nat.beq (kIx r) 3&&Nat.beq (kIx s) 3 with | true=>some (a,b,c) | false=>none
 | _=>none
def S3:RecS I3:=⟨3,λx=>[.int .i64 x.1,.int .i64 x.2.1,.int .i64 x.2.2],λx=>[.i .i64 x.1,.i .i64 x.2.1,.i .i64 x.2.2],ofV3,lt3⟩
abbrev B1:=Bool × Int
def cfB (x y:B1):Int:=if x.1≠y.1 then (if y.1 then -1 else 1) else cmpI x.2 y.2
def ltB (x y:B1):Bool:=Bool.rec (motive:=λ_=>Bool) (Bool.rec (motive:=λ_=>Bool) (ilt x.2 y.2) true y.1) (Bool.rec (motive:=λ_=>Bool) false (ilt x.2 y.2) y.1) x.1
def ofVB:V→Option B1
 | .a [.b a,.i r b]=>match Nat.beq (kIx r) 3 with | true=>some (a,b) | false=>none
 | _=>none
def SB:RecS B1:=⟨2,λx=>[.bool x.1,.int .i64 x.2],λx=>[.b x.1,.i .i64 x.2],ofVB,ltB⟩
theorem lt3_iff (x y:I3):lt3 x y=true↔x.1 < y.1∨(x.1=y.1∧(x.2.1 < y.2.1∨(x.2.1=y.2.1∧x.2.2 < y.2.2))):=by
 have h:lt3 x y=(decide (x.1 < y.1)||(decide (x.1=y.1)&&(decide (x.2.1 < y.2.1)||(decide (x.2.1=y.2.1)&&decide (x.2.2 < y.2.2))))):=by
  unfold lt3
  have hq:∀ a b:Int,ieq a b=decide (a=b):=λa b=>by rw [ieq_eq];rfl
  rw [ilt_eq,ilt_eq,ilt_eq,hq,hq]
  cases decide (x.1 < y.1) <;> cases decide (x.1=y.1) <;> cases decide (x.2.1 < y.2.1) <;> cases decide (x.2.1=y.2.1) <;> rfl
 rw [h]
 simp only [Bool.or_eq_true,Bool.and_eq_true,decide_eq_true_eq]
theorem cmpI_neg (a b:Int):cmpI a b < 0↔a < b:=by unfold cmpI;split <;> (try split) <;> simp <;> omega
theorem cmpI_zero (a b:Int):cmpI a b=0↔a=b:=by unfold cmpI;split <;> (try split) <;> simp <;> omega
theorem lt3_eq (x y:I3):lt3 x y=decide (cf3 x y < 0):=by
 rw [Bool.eq_iff_iff,lt3_iff,decide_eq_true_eq]
 have h1:=cmpI_neg x.1 y.1
 have h2:=cmpI_neg x.2.1 y.2.1
 have h3:=cmpI_neg x.2.2 y.2.2
 have h4:=cmpI_zero x.1 y.1
 have h5:=cmpI_zero x.2.1 y.2.1
 unfold cf3 or3
 generalize cmpI x.1 y.1=a at *
 generalize cmpI x.2.1 y.2.1=b at *
 generalize cmpI x.2.2 y.2.2=c at *
 split
 ·omega
 ·split <;> omega
theorem ltB_iff (x y:B1):ltB x y=true↔(x.1=false∧y.1=true)∨(x.1=y.1∧x.2 < y.2):=by
 obtain⟨a,x⟩:=x
 obtain⟨b,y⟩:=y
 cases a <;> cases b <;> simp [ltB,ilt_eq]
theorem ltB_eq (x y:B1):ltB x y=decide (cfB x y < 0):=by
 rw [Bool.eq_iff_iff,ltB_iff,decide_eq_true_eq]
 obtain⟨a,x⟩:=x
 obtain⟨b,y⟩:=y
 have:=cmpI_neg x y
 cases a <;> cases b <;> simp [cfB,this]
theorem S3_ok:S3.Ok where
 len _:=rfl
 one x v hv:=by simp [S3] at hv;rcases hv with rfl | rfl | rfl <;> rfl
 k0:=by decide
 dec φ x:=rfl
 of φ u x h:=by
  unfold S3 ofV3 at h
  simp only at h
  split at h <;> try (cases h;done)
  rename_i q a r b s c
  split at h <;> try (cases h;done)
  rename_i hb
  cases h
  simp only [Bool.and_eq_true] at hb
  have h1:q=.i64:=kIx_eq (b:=.i64) hb.1.1
  have h2:r=.i64:=kIx_eq (b:=.i64) hb.1.2
  have h3:s=.i64:=kIx_eq (b:=.i64) hb.2
  subst h1 h2 h3
  rfl
 inj x y h:=by
  simp [S3] at h
  exact Prod.ext h.1 (Prod.ext h.2.1 h.2.2)
 irr x:=by
  show lt3 x x=false
  rw [← Bool.not_eq_true,lt3_iff];omega
 tr x y z h1 h2:=by
  have h1:lt3 y x=false:=h1
  have h2:lt3 z y=false:=h2
  show lt3 z x=false
  rw [← Bool.not_eq_true,lt3_iff] at *;omega
 tot x y h1 h2:=by
  have h1:lt3 x y=false:=h1
  have h2:lt3 y x=false:=h2
  rw [← Bool.not_eq_true,lt3_iff] at h1 h2
  have:x.1=y.1∧x.2.1=y.2.1∧x.2.2=y.2.2:=by omega
  exact Prod.ext this.1 (Prod.ext this.2.1 this.2.2)
 asym x y h1:=by
  have h1:lt3 x y=true:=h1
  show lt3 y x=false
  rw [← Bool.not_eq_true];rw [lt3_iff] at *;omega
theorem SB_ok:SB.Ok where
 len _:=rfl
 one x v hv:=by simp [SB] at hv;rcases hv with rfl | rfl <;> rfl
 k0:=by decide
 dec φ x:=rfl
 of φ u x h:=by
  unfold SB ofVB at h
  simp only at h
  split at h <;> try (cases h;done)
  rename_i a r b
  split at h <;> try (cases h;done)
  rename_i hb
  cases h
  have h2:r=.i64:=kIx_eq (b:=.i64) hb
  subst h2
  rfl
 inj x y h:=by
  simp [SB] at h
  exact Prod.ext h.1 h.2
 irr x:=by
  show ltB x x=false
  rw [← Bool.not_eq_true,ltB_iff];simp
 tr x y z h1 h2:=by
  have h1:ltB y x=false:=h1
  have h2:ltB z y=false:=h2
  show ltB z x=false
  rw [← Bool.not_eq_true,ltB_iff] at *
  obtain⟨a,x⟩:=x
  obtain⟨b,y⟩:=y
  obtain⟨c,z⟩:=z
  cases a <;> cases b <;> cases c <;> simp at * <;> omega
 tot x y h1 h2:=by
  have h1:ltB x y=false:=h1
  have h2:ltB y x=false:=h2
  rw [← Bool.not_eq_true,ltB_iff] at h1 h2
  obtain⟨a,x⟩:=x
  obtain⟨b,y⟩:=y
  cases a <;> cases b <;> simp at * <;> omega
 asym x y h1:=by
  have h1:ltB x y=true:=h1
  show ltB y x=false
  rw [← Bool.not_eq_true];rw [ltB_iff] at *
  obtain⟨a,x⟩:=x
  obtain⟨b,y⟩:=y
  cases a <;> cases b <;> simp at * <;> omega
end Go.Ev
end
section
namespace Go.Ev
open Go Go.Fk Go.Proofs Go.Shelf Go.RowKit Go.Sort Go.MapKept
def Gr (w w':World):Prop:=∃ q os,w'=grow (w.drewN q) os
theorem Gr.refl (w:World):Gr w w:=⟨0,#[],by rw [grow_empty];rfl⟩
theorem Gr.alloc {w w':World} (h:Gr w w') (o:Obj):Gr w (w'.alloc o):=by
 obtain⟨q,os,rfl⟩:=h
 refine⟨q,os.push o,?_⟩
 simp [grow,World.alloc]
theorem Gr.drew {w w':World} (h:Gr w w'):Gr w w'.drew:=by
 obtain⟨q,os,rfl⟩:=h
 refine⟨q + 1,os,?_⟩
 rfl
theorem Gr.keeps {w w':World} (h:Gr w w'):Keeps No w w':=by
 obtain⟨q,os,rfl⟩:=h
 refine⟨rfl,rfl,rfl,by simp [grow,World.drewN],λb hb _=>?_⟩
 rw [heap_grow_old _ _ (by simpa [World.drewN] using hb)];rfl
theorem drop_flat {α:Type} {enc:α→List Value} {k:Nat} (hk:∀ x,(enc x).length=k):∀ (l:List α) (i c:Nat),i < l.length→c < k→(l.flatMap enc)[i * k + c]?=(l[i]?).bind λx=>(enc x)[c]?
 | [],i,c,h,_=>by simp at h
 | x::l,0,c,h,hc=>by
  rw [List.flatMap_cons,List.getElem?_append_left (by rw [hk];omega)];simp
 | x::l,i + 1,c,h,hc=>by
  rw [List.flatMap_cons,List.getElem?_append_right (by rw [hk,Nat.succ_mul];omega),hk,show (i + 1) * k + c - k=i * k + c by rw [Nat.succ_mul];omega]
  rw [drop_flat hk l i c (by simpa using h) hc];simp
theorem flatK_toList {α:Type} [Inhabited α] {enc:α→List Value} {k:Nat} (hk:∀ x,(enc x).length=k) (h0:0 < k) (l:List α):(flatK enc k l.toArray).toList=l.flatMap enc:=by
 have hlen:∀ l:List α,(l.flatMap enc).length=l.length * k:=by
  intro l
  induction l with
  | nil=>simp
  | cons x l ih=>rw [List.flatMap_cons,List.length_append,hk,ih,List.length_cons,Nat.succ_mul];omega
 apply List.ext_getElem?
 intro t
 by_cases ht:t < l.length * k
 ·have h1:=get_flatK enc k l.toArray t (by simpa using ht)
  have h2:t / k < l.length:=Nat.div_lt_of_lt_mul (by rw [Nat.mul_comm];exact ht)
  have h3:t % k < k:=Nat.mod_lt _ h0
  have h4:=drop_flat hk l (t / k) (t % k) h2 h3
  rw [show t / k * k + t % k=t by rw [Nat.mul_comm];exact Nat.div_add_mod t k] at h4
  rw [h4]
  have h5:t < (flatK enc k l.toArray).size:=by rw [size_flatK];simpa using ht
  rw [getElem!_pos (flatK enc k l.toArray) t h5] at h1
  rw [Array.getElem?_toList,Array.getElem?_eq_getElem h5,h1]
  have h6:(enc l[t / k])[t % k]?=some (enc l[t / k])[t % k]!:=by
   have:t % k < (enc l[t / k]).length:=by rw [hk];exact h3
   rw [kC this,getElem!_pos (enc l[t / k]) (t % k) this]
  have h7:(l.toArray[t / k]!)=l[t / k]:=by rw [getElem!_pos l.toArray (t / k) (by simpa using h2)];simp
  rw [h7,kC h2,Option.bind_some,h6]
 ·rw [List.getElem?_eq_none (by simp;omega),List.getElem?_eq_none (by rw [hlen];omega)]
section
variable {α:Type} [Inhabited α] {S:RecS α} {P:Program} {ρ2:Ren} {cf:α→α→Int} {g SF COL K1 ty:Nat}
theorem sortedFunc_calls (hS:S.Ok) (hlt:∀ x y,S.lt x y=decide (cf x y < 0)) (L6:SlLaysF0.n6 P ρ2)
  (a24:∀ w,(isAgg (ρ2.t 24)).run P w=.ok true w) (z24:∀ w,(Go.sizeOf (ρ2.t 24)).run P w=.ok S.k w)
  (hcol:∀ (a b:Nat) (arr:Array MapEntry) (clock:Nat) (w:World),w.cell? ⟨a,0,none⟩=some (.map (some b))→w.heap[b]?=some (.map arr clock)→Stamped arr clock→(∀ x∈arr.toList.map (·.key),RecV S.k x)→arr.size≤1000000 →
   Calls P COL #[.func (.func K1) #[] #[.pointer (some ⟨a,0,none⟩)]] w λe w'=>∃ (v:Value) (ss:List Value),e=.returned v∧ss.Perm (arr.toList.map (·.key))∧w'.ownsRow w.heap.size ty S.k v ss.length (ss.flatMap vc)∧(v=.slice none 0 0↔ss=[])∧Go.RowKit.Below w.heap.size w w')
  (eg:∀ args w,(callFunc g args).run P w=.ok (.enter g args) w)
  (hcmp:∀ (x y:α) (w:World),Calls P g #[.agg (S.enc x).toArray,.agg (S.enc y).toArray] w λe w'=>e=.returned (.int .i64 (cf x y))∧Gr w w')
  (hbody:∀ (x y:Value) (w:World) (K:Value→World→Prop),Calls P COL #[x] w (λe w1=>∃ r:Sl,e=.returned (.slice r.a r.n r.c)∧Calls P (ρ2.f 6) #[.slice r.a r.n r.c,y] w1 λe2 w2=>e2=.returned (.tuple #[])∧K (.slice r.a r.n r.c) w2)→Calls P SF #[x,y] w λe w'=>∃ v,e=.returned v∧K v w')
  (a b:Nat) (arr:Array MapEntry) (clock:Nat) (w:World) (ys:List α) (ha:w.cell? ⟨a,0,none⟩=some (.map (some b))) (hb:w.heap[b]?=some (.map arr clock)) (hst:Stamped arr clock) (hys:arr.toList.map (·.key)=ys.map (λx=>.agg (S.enc x).toArray)) (hlen:ys.length < 1000000) :
  Calls P SF #[.func (.func K1) #[] #[.pointer (some ⟨a,0,none⟩)],.func (.func g) #[] #[]] w λe w'=>∃ v:Value,e=.returned v∧(v=.slice none 0 0↔ys=[])∧Keeps No w w'∧w'.ownsRow w.heap.size ty S.k v ys.length ((ys.mergeSort λx y=>!S.lt y x).flatMap S.enc):=by
 have hO:SWO (ltOf cf):=by
  have e:∀ x y,ltOf cf x y=S.lt x y:=λx y=>(hlt x y).symm
  refine⟨λx=>by rw [e];exact hS.irr x,λx y z h1 h2=>?_,λx y z h1 h2=>?_⟩
  ·rw [e] at *
   cases h3:S.lt x z with
   | true=>rfl
   | false =>
    have h4:=hS.asym _ _ h2
    have h5:=hS.tr z x y
    cases h6:S.lt x y with
    | false=>rw [h1] at h6;cases h6
    | true =>
     have:=hS.tr y z x h4 h3
     rw [h1] at this;cases this
  ·rw [e] at *
   exact hS.tr z y x h2 h1
 have hT:∀ x y,ltOf cf x y=false→ltOf cf y x=false→x=y:=λx y h1 h2=>hS.tot x y (by rw [hlt];exact h1) (by rw [hlt];exact h2)
 have hsz:arr.size=ys.length:=by
  have:=congrArg List.length hys
  simpa using this
 have hml0:(1000000:Nat)≤maxLen:=by decide
 have hE:∀ x,x∈arr.toList.map (·.key)→RecV S.k x:=λx hx=>by
  rw [hys] at hx
  obtain⟨y,_,rfl⟩:=List.mem_map.1 hx
  refine⟨_,rfl,by simp [hS.len],λu hu=>?_⟩
  exact hS.one y u (by simpa using hu)
 refine (hbody _ _ w (λv w'=>(v=.slice none 0 0↔ys=[])∧Keeps No w w'∧w'.ownsRow w.heap.size ty S.k v ys.length ((ys.mergeSort λx y=>!S.lt y x).flatMap S.enc)) ?_).mono λe w' ⟨v,h1,h2⟩=>⟨v,h1,h2⟩
 refine Calls.mono (hcol a b arr clock w ha hb hst hE (by omega)) ?_
 rintro e w1 ⟨v,ss,rfl,hS1,hrow,hnil,hbel⟩
 rw [hys] at hS1
 obtain⟨zs,hzs⟩:∃ zs:List α,ss=zs.map λx=>Value.agg (S.enc x).toArray:=list_of λy hy=>by
  obtain⟨x,_,e⟩:=List.mem_map.1 (hS1.mem_iff.1 hy)
  exact⟨x,e⟩
 have hzl:zs.length=ys.length:=by have:=hS1.length_eq;rw [hzs] at this;simpa using this
 have hperm:zs.Perm ys:=by
  rw [hzs] at hS1
  have inj:∀ x y:α,(Value.agg (S.enc x).toArray:Value)=.agg (S.enc y).toArray→x=y:=λx y e=>hS.inj x y (by simpa using e)
  have hn1:(ys.map λx=>Value.agg (S.enc x).toArray).Nodup:=by
   rw [← hys,List.Nodup,List.pairwise_map];exact ((stamped_iff arr clock).1 hst).2.2
  have hn2:=hS1.nodup_iff.2 hn1
  rw [List.Nodup,List.pairwise_map] at hn1 hn2
  refine (List.perm_ext_iff_of_nodup (hn2.imp λh e=>h (by rw [e])) (hn1.imp λh e=>h (by rw [e]))).2 λx=>?_
  have:=hS1.mem_iff (a:=Value.agg (S.enc x).toArray)
  simp only [List.mem_map] at this
  constructor
  ·intro hx
   obtain⟨y,hy,e⟩:=this.1 ⟨x,hx,rfl⟩
   rw [← inj _ _ e];exact hy
  ·intro hx
   obtain⟨y,hy,e⟩:=this.2 ⟨x,hx,rfl⟩
   rw [← inj _ _ e];exact hy
 have hflat:ss.flatMap vc=zs.flatMap S.enc:=by
  rw [hzs,List.flatMap_map]
  rfl
 have hmerge:(zs.mergeSort λx y=>!(ltOf cf) y x)=ys.mergeSort λx y=>!S.lt y x:=by
  have e:(λx y=>!(ltOf cf) y x)=λx y=>!S.lt y x:=funext λx=>funext λy=>by rw [hlt];rfl
  rw [e,← sortA_merge hS (List.Perm.refl zs),← sortA_merge hS hperm]
 have hk1:Keeps No w w1:=Keeps.of_below hbel
 rw [hflat,show ss.length=zs.length by rw [hzs];simp] at hrow
 rcases hrow.2 with⟨rfl,hz⟩ | ⟨gb,cap,cur,rfl,hbase,hgb,r1,r2,r3,r4⟩
 ·obtain rfl:zs=[]:=List.eq_nil_of_length_eq_zero hz
  obtain rfl:ys=[]:=List.eq_nil_of_length_eq_zero (by simpa using hzl.symm)
  refine⟨⟨none,0,0⟩,rfl,(AnyF.slices_SortFunc_none L6 none 0 _ w1).mono ?_⟩
  rintro e w2 ⟨rfl,rfl⟩
  refine⟨rfl,by simp,hk1,by simp,.inl ⟨rfl,rfl⟩⟩
 ·have hgl:gb < w1.heap.size:=lt_of_some hgb
  have hH:HoldsK S.enc S.k w1 gb 0 zs.toArray:=by
   intro t ht
   rw [size_flatK] at ht
   have ht:t < zs.length * S.k:=by simpa using ht
   refine⟨?_,by simp [World.frozen?,hgb]⟩
   have h1:(cur.toList.take (zs.length * S.k))[t]?=(zs.flatMap S.enc)[t]?:=by rw [r4]
   rw [List.getElem?_take_of_lt ht] at h1
   have h3:=congrArg (λl=>l[t]?) (flatK_toList hS.len hS.k0 zs)
   simp only [Array.getElem?_toList] at h3
   have h4:t < (flatK S.enc S.k zs.toArray).size:=by rw [size_flatK];simpa using ht
   rw [← h3,Array.getElem?_toList,Array.getElem?_eq_getElem h4] at h1
   simp only [World.cell?,hgb,Nat.zero_add,Option.isSome_none,Bool.false_eq_true,if_false,id]
   rw [h1,getElem!_pos (flatK S.enc S.k zs.toArray) t h4]
  refine⟨⟨some ⟨gb,0,none⟩,zs.length,cap⟩,rfl,?_⟩
  have hc:CmpLays P g #[] S.enc S.k cf gb 0 zs.toArray.size w1:=λm os dk _ x y=>by
   refine (hcmp x y _).mono ?_
   rintro e w' ⟨h1,q,os',h2⟩
   exact⟨h1,q,os',h2⟩
  have hsz2:zs.toArray.size < 4611686018427387904:=by simp only [List.size_toArray];omega
  refine (AnyQ.slices_SortFunc_total L6 S.k a24 z24 S.enc hS.len hS.one cf hO g #[] gb 0 cap zs.toArray w1 eg hc hH hgl hsz2 hT).mono ?_
  rintro e w2 ⟨rfl,nn,os,rfl⟩
  rw [show zs.toArray.toList=zs from rfl,hmerge]
  have hml:(ys.mergeSort λx y=>!S.lt y x).length=zs.length:=by rw [List.length_mergeSort,hzl]
  have hs2:(sortWorldK S.enc S.k w1 gb 0 nn (ys.mergeSort λx y=>!S.lt y x).toArray os).heap[gb]?=some (.cells (putCells id 0 (flatK S.enc S.k (ys.mergeSort λx y=>!S.lt y x).toArray) cur) ty (0,0)):=by
   unfold sortWorldK
   rw [heap_grow_old _ _ (by simpa [putRowK] using hgl)]
   simp [putRowK,putRow,mapBlock,Sort.ahead,Array.getElem?_modify,hgb,onCells]
  have hk2:Keeps (·=gb) w1 (sortWorldK S.enc S.k w1 gb 0 nn (ys.mergeSort λx y=>!S.lt y x).toArray os):=by
   refine⟨rfl,rfl,rfl,by simp [sortWorldK,grow,putRowK,putRow,mapBlock,Sort.ahead],λi hi hne=>?_⟩
   unfold sortWorldK
   rw [heap_grow_old _ _ (by simpa [putRowK] using hi)]
   simp [putRowK,putRow,mapBlock,Sort.ahead,Array.getElem?_modify,Ne.symm hne]
  have hge:∀ i,i < w.heap.size→i=gb→No i:=λi hi hm=>absurd hi (by omega)
  refine⟨rfl,?_,hk1.then hk2 (λi hi hm=>hge i hi hm),?_⟩
  ·constructor
   ·intro h;cases h
   ·rintro rfl
    have:zs=[]:=List.eq_nil_of_length_eq_zero (by simpa using hzl)
    subst this
    have:ss=[]:=by simpa using hzs
    have:=hnil.2 this
    cases this
  ·refine⟨by rw [flat_len hS,List.length_mergeSort],.inr ⟨gb,cap,_,by rw [hzl],hbase,hs2,by omega,r2,by simp [putCells,r3],?_⟩⟩
   apply List.ext_getElem?
   intro t
   have hfl:=flatK_toList hS.len hS.k0 (ys.mergeSort λx y=>!S.lt y x)
   by_cases ht:t < ys.length * S.k
   ·rw [List.getElem?_take_of_lt ht,Array.getElem?_toList]
    have h4:t < (flatK S.enc S.k (ys.mergeSort λx y=>!S.lt y x).toArray).size:=by rw [size_flatK];simpa [List.length_mergeSort] using ht
    rw [← hfl,Array.getElem?_toList]
    have hcs:t < cur.size:=by
     rw [r3]
     have:=Nat.mul_le_mul_right S.k (show ys.length≤cap by omega)
     omega
    have h5:(putCells id 0 (flatK S.enc S.k (ys.mergeSort λx y=>!S.lt y x).toArray) cur)[t]?=some ((flatK S.enc S.k (ys.mergeSort λx y=>!S.lt y x).toArray)[t]!):=by
     simp only [putCells]
     rw [size_flatK] at h4
     simp only [List.size_toArray] at h4
     simp [hcs,h4]
     intro hh;omega
    rw [h5,Array.getElem?_eq_getElem h4,getElem!_pos (flatK S.enc S.k (ys.mergeSort λx y=>!S.lt y x).toArray) t h4]
   ·rw [List.getElem?_take_eq_none (by omega),List.getElem?_eq_none (by rw [flat_len hS,List.length_mergeSort];omega)]
end
end Go.Ev
end
section
namespace Go.Ev
open Go Go.Fk
def isBt (bts:List (Nat × Nat)) (ty n:Nat):Bool:=List.rec (motive:=λ_=>Bool) false (λp _ ih=>Bool.rec (motive:=λ_=>Bool) ih true (Bool.rec (motive:=λ_=>Bool) false (Nat.beq p.2 n) (Nat.beq p.1 ty))) bts
theorem isBt_ok {ty n:Nat}:∀ {bts:List (Nat × Nat)},isBt bts ty n=true→(ty,n)∈bts
 | [],h=>by cases h
 | p::bts,h=>by
  have h:Bool.rec (motive:=λ_=>Bool) (isBt bts ty n) true (Bool.rec (motive:=λ_=>Bool) false (Nat.beq p.2 n) (Nat.beq p.1 ty))=true:=h
  cases h1:Nat.beq p.1 ty with
  | false=>rw [h1] at h;exact .tail _ (isBt_ok h)
  | true =>
   cases h2:Nat.beq p.2 n with
   | false=>rw [h1,h2] at h;exact .tail _ (isBt_ok h)
   | true =>
    have e1:=kB h1
    have e2:=kB h2
    subst e1 e2
    exact .head _
section
variable {D:Type}
def hkCopy (bts:List (Nat × Nat)):Hk D:=λargs σ k=>match args with
 | [x]=>x.onP (λv o=>σ.cells v λex n c ty sz=>iff' (ex&&Nat.beq o 0&&isBt bts ty n)
   (orE (c.get 0) (λ(u:V)=>u.onZ (λkd z=>iff' (Nat.beq kd 0) (iff' z (wrFrom [.p v 0] c 0 λc'=>σ.put v (.cells true n c' ty sz) λσ=>k (.t []) σ)
    (u.onP (λv' o'=>iff' (vidEq v' v&&Nat.beq o' 0) (k (.t []) σ) (.no 320)) 320)) (.no 320)) 320) 320) (.no 320)) 320
 | _=>.no 320
def hkStr (bts:List (Nat × Nat)) (u8:Nat):Hk D:=λargs σ k=>match args with
 | [x]=>x.onP (λv o=>σ.cells v λex n c ty sz=>iff' (ex&&Nat.beq o 0&&isBt bts ty n)
   (orE (c.get 1) (λu=>u.onSlN (k (.s []) σ)
    (λg off m _=>σ.cells g λ_ _ c' ty' sz'=>iff' (Nat.beq ty' u8&&Nat.blt 0 m&&Nat.blt m 100000) (rdFrom c' off m λl=>orE (bytesV l) (λs=>iff' (s.all λb=>Nat.blt b 256) (σ.put g .dead λσ=>k (.s s) σ) (.no 321)) 321) (.no 321)) 321) 321) (.no 321)) 321
 | _=>.no 321
end
section
variable {D:Type} {P:Program} {Hd:D→Loc→View→Prop} {w0:Base} {F u8:Nat} {bts:List (Nat × Nat)} {φ:Phi} {σ σ':H D} {w w':World}
theorem Rel.killUpd (h:Rel P Hd w0 φ σ w) {v:Vid} {ex:Bool} {n:Nat} {c:Tr V} {ty sz:Nat} {L:Loc} (hv:σ.look v=some (.cells ex n c ty sz)) (hL:φ v=some L) (hk:Keeps (·=L.blk) w w') (hσ:∀ v',σ'.look v'=if v'=v then some .dead else σ.look v'):Rel P Hd w0 φ σ' w':=by
 have hof:∀ {u c},σ'.look u=some c→Live c→σ.look u=some c∧u≠v:=by
  intro u c hu hc
  rw [hσ] at hu
  by_cases huv:u=v
  ·rw [if_pos huv] at hu;cases hu;exact hc.elim
  ·rw [if_neg huv] at hu;exact⟨hu,huv⟩
 refine h.step (Ch:=(·=L.blk)) (Phi.le.refl _) hk (λb _ hb=>⟨v,_,L,hv,trivial,hL,hb.symm⟩) (λu hn=>?_) (λu c L' hu hc hL'=>.inl ⟨u,c,L',(hof hu hc).1,hc,hL',rfl⟩) (λu u' c c' M M' h1 h2 h3 h4 h5 h6 h7=>h.inj u u' c c' M M' (hof h1 h2).1 h2 (hof h3 h4).1 h4 h5 h6 h7) (λu c hu hd=>?_) (λm kT ks es ver hm=>?_)
 ·rw [hσ] at hn
  by_cases huv:u=v
  ·rw [if_pos huv] at hn;cases hn
  ·rw [if_neg huv] at hn;exact h.gone u hn
 ·rw [hσ] at hu
  by_cases huv:u=v
  ·rw [if_pos huv] at hu;cases hu;exact absurd rfl hd
  ·rw [if_neg huv] at hu
   exact .inl ⟨hu,λM hM hl he=>huv (h.inj u v c _ M L hu hl hv trivial hM hL he)⟩
 ·have:m≠v:=by rintro rfl;rw [hv] at hm;cases hm
  exact .inl ⟨by rw [hσ,if_neg this];exact hm,λM hM he=>this (h.inj m v _ _ M L hm trivial hv trivial hM hL he)⟩
theorem keeps_freeze {a:Addr} {n:Nat}:Keeps (·=a.block) w (w.freeze a n):=by
 unfold World.freeze
 split
 ·exact (Keeps.refl (w:=w)).no
 ·exact⟨rfl,rfl,rfl,by simp,λb _ hb=>by
   simp only [Array.getElem?_modify]
   rw [if_neg (λe=>hb e.symm)]⟩
theorem copy_ok (hen:enters P F=true)
  (hU:∀ (b:Nat) (w:World),w.cell? ⟨b,0,none⟩=some (.pointer (some ⟨b,0,none⟩))→Calls P F #[.pointer (some ⟨b,0,none⟩)] w λe w'=>e=.returned (.tuple #[])∧w'=w)
  (hN:∀ (ty n b:Nat) (w:World),(ty,n)∈bts→w.cell? ⟨b,0,none⟩=some (.pointer none)→w.shape? b=some (ty,n)→w.frozen? ⟨b,0,none⟩=false→Calls P F #[.pointer (some ⟨b,0,none⟩)] w λe w'=>e=.returned (.tuple #[])∧w'=w.setCell ⟨b,0,none⟩ (.pointer (some ⟨b,0,none⟩))) :
  FxOK P Hd w0 F (λ_ _ _=>(hkCopy bts:Hk D)):=by
 refine FxOK.of hen λl σ k φ w vs hr hd h=>?_
 unfold hkCopy at h
 split at h <;> try (cases h;done)
 rename_i x
 obtain⟨y,m,rfl,h1,h2⟩:=decs_cons_inv hd
 simp [decs] at h2;subst h2
 obtain⟨v,o,rfl,h3⟩:=onP_ok h
 obtain⟨ex,n,c,ty,sz,h4,h5⟩:=H.cells_ok (show σ.cells v _=.ok from h3)
 obtain⟨h6,h7⟩:=iff_ok h5
 simp only [Bool.and_eq_true] at h6
 obtain⟨⟨hex,ho⟩,hbt⟩:=h6
 have ho:=kB ho
 have hbt:=isBt_ok hbt
 subst ho hex
 obtain⟨u,h8,h9⟩:=orE_ok h7
 obtain⟨L,cs,g1,g2,g3⟩:=hr.cells h4
 obtain⟨M,hM,rfl⟩:=dec_p h1
 rw [g1] at hM;cases hM
 obtain⟨e1,e2⟩:=g3.full rfl
 obtain⟨_,y0,d1,d2,_⟩:=g3.get 0 u h8
 rw [e2] at d2 ⊢
 rw [Nat.add_zero] at d2 ⊢
 have hcell:w.cell? ⟨L.blk,0,none⟩=some y0:=cell_of g3.at_ d2
 rcases onZ_ok h9 with⟨rfl,h10⟩ | ⟨⟨v',o',rfl⟩,h10⟩ | ⟨rfl,h10⟩ | ⟨_,h10⟩ | ⟨rfl,h10⟩ | ⟨_,h10⟩
 ·obtain⟨_,h11⟩:=iff_ok h10
  obtain⟨_,h11⟩:True∧wrFrom [.p v 0] c 0 (λc'=>σ.put v (.cells true n c' ty sz) λσ=>k (.t []) σ)=.ok:=⟨trivial,h11⟩
  obtain⟨c',h12,h13⟩:=wrFrom_ok h11
  obtain⟨σ',h14,h15,h16⟩:=H.put_ok h13
  have hy0:y0=.pointer none:=by simpa [dec] using d1.symm
  subst hy0
  refine (hN ty n L.blk w hbt hcell (by simp [World.shape?,g3.at_,e1]) (by simp [World.frozen?,g3.at_])).mono λe w' ⟨a1,a2⟩=>?_
  subst a2
  have hu:=upd_setCell (off:=0) (v:=.pointer (some ⟨L.blk,0,none⟩)) g3.at_
  have hwr:(wr (L.base + 0) [Value.pointer (some ⟨L.blk,0,none⟩)] cs.toList).toArray=cs.setIfInBounds 0 (.pointer (some ⟨L.blk,0,none⟩)):=by
   rw [e2]
   apply Array.ext'
   show cs.toList.set 0 _=_
   simp
  have hd1:decs φ [V.p v 0]=some [Value.pointer (some ⟨L.blk,0,none⟩)]:=by simp [decs,dec,g1,e2]
  refine⟨_,a1,φ,.t [],σ',.refl _,wr_cells (off:=0) hr h4 g1 g2 g3 hd1 (λx hx=>by simp at hx;subst hx;rfl) (by have:=(g3.get 0 _ h8).1;simp;omega) h12 (by rw [hwr];exact hu) h14,rfl,Ext.put h14 h15,h16⟩
 ·obtain⟨_,h11⟩:=iff_ok h10
  obtain⟨h13,h14⟩:=iff_ok (show iff' (vidEq v' v&&Nat.beq o' 0) (k (.t []) σ) (.no 320)=.ok from h11)
  simp only [Bool.and_eq_true] at h13
  have e3:=vidEq_ok.1 h13.1
  have e4:=kB h13.2
  subst e3 e4
  have hy0:y0=.pointer (some ⟨L.blk,0,none⟩):=by
   have:=d1
   simp only [dec,g1,Option.map_some,Option.some.injEq] at this
   rw [← this,e2]
  subst hy0
  exact (hU L.blk w hcell).mono λe w' ⟨a1,a2⟩=>by subst a2;exact⟨_,a1,Post.pure hr rfl h14⟩
 all_goals (obtain⟨h11,_⟩:=iff_ok h10;cases h11)
theorem copy_det:FxDet (λ_ _ _=>(hkCopy bts:Hk D)):=FxDet.of λκ p l σ f hf=>by
 unfold hkCopy
 rcases l with _ | ⟨a,_ | ⟨b,l⟩⟩
 ·exact Det.no
 ·refine Det.onP (f:=λv o k=>σ.cells v λex n c ty sz=>iff' (ex&&Nat.beq o 0&&isBt bts ty n)
   (orE (c.get 0) (λ(u:V)=>u.onZ (λkd z=>iff' (Nat.beq kd 0) (iff' z (wrFrom [.p v 0] c 0 λc'=>σ.put v (.cells true n c' ty sz) λσ=>f (.t []) σ k)
    (u.onP (λv' o'=>iff' (vidEq v' v&&Nat.beq o' 0) (f (.t []) σ k) (.no 320)) 320)) (.no 320)) 320) 320) (.no 320)) λv o=>Det.cells (f:=λex n c ty sz k=>iff' (ex&&Nat.beq o 0&&isBt bts ty n)
   (orE (c.get 0) (λ(u:V)=>u.onZ (λkd z=>iff' (Nat.beq kd 0) (iff' z (wrFrom [.p v 0] c 0 λc'=>σ.put v (.cells true n c' ty sz) λσ=>f (.t []) σ k)
    (u.onP (λv' o'=>iff' (vidEq v' v&&Nat.beq o' 0) (f (.t []) σ k) (.no 320)) 320)) (.no 320)) 320) 320) (.no 320)) λex n c ty sz=>Det.iff (λ_=>?_) λ_=>Det.no
  refine Det.orE (f:=λ(u:V) k=>u.onZ (λkd z=>iff' (Nat.beq kd 0) (iff' z (wrFrom [.p v 0] c 0 λc'=>σ.put v (.cells true n c' ty sz) λσ=>f (.t []) σ k)
    (u.onP (λv' o'=>iff' (vidEq v' v&&Nat.beq o' 0) (f (.t []) σ k) (.no 320)) 320)) (.no 320)) 320) λu _=>Det.onZ (f:=λkd z k=>iff' (Nat.beq kd 0) (iff' z (wrFrom [.p v 0] c 0 λc'=>σ.put v (.cells true n c' ty sz) λσ=>f (.t []) σ k)
    (u.onP (λv' o'=>iff' (vidEq v' v&&Nat.beq o' 0) (f (.t []) σ k) (.no 320)) 320)) (.no 320)) λkd z=>Det.iff (λ_=>Det.iff (λ_=>?_) λ_=>?_) λ_=>Det.no
  ·exact Det.wrFrom (f:=λc' k=>σ.put v (.cells true n c' ty sz) λσ=>f (.t []) σ k) λc'=>Det.put (f:=λσ k=>f (.t []) σ k) λσ' hσ=>hf _ σ' hσ
  ·exact Det.onP (f:=λv' o' k=>iff' (vidEq v' v&&Nat.beq o' 0) (f (.t []) σ k) (.no 320)) λv' o'=>Det.iff (λ_=>hf _ _ (.refl _)) λ_=>Det.no
 ·exact Det.no
theorem str_ok (hen:enters P F=true)
  (hN:∀ (b:Nat) (w:World),w.cell? ⟨b,1,none⟩=some (.slice none 0 0)→Calls P F #[.pointer (some ⟨b,0,none⟩)] w λe w'=>e=.returned (.string ⟨#[]⟩)∧w'=w.drew)
  (hR:∀ (b g off cap:Nat) (l:List UInt8) (cur:Array Value) (w:World),w.cell? ⟨b,1,none⟩=some (.slice (some ⟨g,off,none⟩) l.length cap)→w.heap[g]?=some (.cells cur u8 (0,0))→l≠[]→l.length≤cap→l.length≤maxLen→off + l.length≤cur.size →
   (∀ (j:Nat) x,l[j]?=some x→w.cell? ((⟨g,off,none⟩:Addr).add j)=some (.int .u8 x.toNat))→Calls P F #[.pointer (some ⟨b,0,none⟩)] w λe w'=>e=.returned (.string ⟨l.toArray⟩)∧w'=w.drew.freeze ⟨g,off,none⟩ l.length) :
  FxOK P Hd w0 F (λ_ _ _=>(hkStr bts u8:Hk D)):=by
 refine FxOK.of hen λl σ k φ w vs hr hd h=>?_
 unfold hkStr at h
 split at h <;> try (cases h;done)
 rename_i x
 obtain⟨y,m,rfl,h1,h2⟩:=decs_cons_inv hd
 simp [decs] at h2;subst h2
 obtain⟨v,o,rfl,h3⟩:=onP_ok h
 obtain⟨ex,n,c,ty,sz,h4,h5⟩:=H.cells_ok (show σ.cells v _=.ok from h3)
 obtain⟨h6,h7⟩:=iff_ok h5
 simp only [Bool.and_eq_true] at h6
 obtain⟨⟨hex,ho⟩,hbt⟩:=h6
 have ho:=kB ho
 have hbt:=isBt_ok hbt
 subst ho hex
 obtain⟨u,h8,h9⟩:=orE_ok h7
 obtain⟨L,cs,g1,g2,g3⟩:=hr.cells h4
 obtain⟨M,hM,rfl⟩:=dec_p h1
 rw [g1] at hM;cases hM
 obtain⟨e1,e2⟩:=g3.full rfl
 obtain⟨_,y1,d1,d2,_⟩:=g3.get 1 u h8
 rw [e2] at d2 ⊢
 rw [Nat.zero_add] at d2
 have hcs:∀ {z},y1=z→w.cell? ⟨L.blk,1,none⟩=some z:=by
  rintro z rfl
  exact cell_of g3.at_ d2
 rcases onSlN_ok h9 with⟨rfl,h10⟩ | ⟨g,off,m,cp,rfl,h10⟩
 ·have hy:y1=.slice none 0 0:=by simpa [dec] using d1.symm
  exact (hN L.blk w (hcs hy)).mono λe w' ⟨a1,a2⟩=>by subst a2;exact⟨_,a1,Post.pure hr.drew (by simp [dec,bytesOf]) h10⟩
 ·obtain⟨ex',n',c',ty',sz',b1,b2⟩:=H.cells_ok (show σ.cells g _=.ok from h10)
  obtain⟨b3,b4⟩:=iff_ok b2
  simp only [Bool.and_eq_true] at b3
  have hty':=kB b3.1.1
  have hm0:0 < m:=by simpa using b3.1.2
  have hm1:m < 100000:=by simpa using b3.2
  subst hty'
  obtain⟨l,b5,b6,b7⟩:=rdFrom_ok b4
  obtain⟨s,b8,b9⟩:=orE_ok b7
  obtain⟨b10,b11⟩:=iff_ok b9
  obtain⟨σ',b12,b13,b14⟩:=H.put_ok b11
  obtain⟨M,hM,hy,hle⟩:=dec_sl d1
  obtain⟨Lg,cur,f1,f2,f3⟩:=hr.cells b1
  rw [hM] at f1;cases f1
  obtain⟨ad,ys,q1,q2,q3,_,q5⟩:=cells_list hr b1 b5 b6 (y:=.pointer (some ⟨M.blk,M.base + off,none⟩)) (by simp [dec,hM])
  cases q1
  have q6:=bytesV_ok b8 q2
  subst q6
  have hsl:s.length=m:=by simpa using q3
  have hlt:∀ b∈s,b < 256:=λb hb=>by
   have:=List.all_eq_true.1 b10 b hb
   simpa using this
  have hne:s.map UInt8.ofNat≠[]:=by
   intro e;have:=congrArg List.length e;simp at this;subst this;simp at hsl;omega
  have hfin:=hR L.blk M.blk (M.base + off) (capOf M cp) (s.map UInt8.ofNat) cur w (hcs (by rw [hy];simp [hsl])) f3.at_ hne (by simpa [hsl] using hle) ?_ ?_ ?_
  ·refine hfin.mono λe w' ⟨a1,a2⟩=>?_
   subst a2
   refine⟨_,a1,φ,.s s,σ',.refl _,Rel.killUpd hr.drew b1 hM ?_ b12,by simp [dec,bytesOf],Ext.put b12 b13,b14⟩
   exact keeps_freeze (w:=w.drew) (a:=⟨M.blk,M.base + off,none⟩)
  ·have hmx:maxLen=9223372036854775807:=rfl
   simp [hsl];omega
  ·have hlast:l[m - 1]?=some l[m - 1]:=kC (by omega)
   obtain⟨_,z,_,z2,_⟩:=f3.get (off + (m - 1)) _ (by rw [b6 (m - 1) (by omega)];exact hlast)
   have:=(Array.getElem?_eq_some_iff.1 z2).1
   simp [hsl];omega
  ·intro j x hx
   rw [List.getElem?_map] at hx
   obtain⟨b,hb,rfl⟩:=kE hx
   have:=q5 j (.int .u8 (Int.ofNat b)) (by rw [List.getElem?_map,hb];rfl)
   rw [this]
   have hb2:=hlt b (kD hb)
   have:(UInt8.ofNat b).toNat=b:=by simp [UInt8.toNat_ofNat'];omega
   rw [this];rfl
end
end Go.Ev
namespace Go.Ev
open Go Go.Fk
theorem str_det {D:Type} {bts:List (Nat × Nat)} {u8:Nat}:FxDet (λ_ _ _=>(hkStr bts u8:Hk D)):=FxDet.of λκ p l σ f hf=>by
 unfold hkStr
 rcases l with _ | ⟨a,_ | ⟨b,l⟩⟩
 ·exact Det.no
 ·refine Det.onP (f:=λv o k=>σ.cells v λex n c ty sz=>iff' (ex&&Nat.beq o 0&&isBt bts ty n)
   (orE (c.get 1) (λ(u:V)=>u.onSlN (f (.s []) σ k)
    (λg off m _=>σ.cells g λ_ _ c' ty' sz'=>iff' (Nat.beq ty' u8&&Nat.blt 0 m&&Nat.blt m 100000) (rdFrom c' off m λl=>orE (bytesV l) (λs=>iff' (s.all λb=>Nat.blt b 256) (σ.put g .dead λσ=>f (.s s) σ k) (.no 321)) 321) (.no 321)) 321) 321) (.no 321)) λv o=>?_
  refine Det.cells (f:=λex n c ty sz k=>iff' (ex&&Nat.beq o 0&&isBt bts ty n)
   (orE (c.get 1) (λ(u:V)=>u.onSlN (f (.s []) σ k)
    (λg off m _=>σ.cells g λ_ _ c' ty' sz'=>iff' (Nat.beq ty' u8&&Nat.blt 0 m&&Nat.blt m 100000) (rdFrom c' off m λl=>orE (bytesV l) (λs=>iff' (s.all λb=>Nat.blt b 256) (σ.put g .dead λσ=>f (.s s) σ k) (.no 321)) 321) (.no 321)) 321) 321) (.no 321)) λex n c ty sz=>Det.iff (λ_=>?_) λ_=>Det.no
  refine Det.orE (f:=λ(u:V) k=>u.onSlN (f (.s []) σ k)
    (λg off m _=>σ.cells g λ_ _ c' ty' sz'=>iff' (Nat.beq ty' u8&&Nat.blt 0 m&&Nat.blt m 100000) (rdFrom c' off m λl=>orE (bytesV l) (λs=>iff' (s.all λb=>Nat.blt b 256) (σ.put g .dead λσ=>f (.s s) σ k) (.no 321)) 321) (.no 321)) 321) λu _=>?_
  refine Det.onSlN (g:=λk=>f (.s []) σ k) (f:=λg off m _ k=>σ.cells g λ_ _ c' ty' sz'=>iff' (Nat.beq ty' u8&&Nat.blt 0 m&&Nat.blt m 100000) (rdFrom c' off m λl=>orE (bytesV l) (λs=>iff' (s.all λb=>Nat.blt b 256) (σ.put g .dead λσ=>f (.s s) σ k) (.no 321)) 321) (.no 321)) (hf _ _ (.refl _)) λg off m _=>?_
  refine Det.cells (f:=λ_ _ c' ty' sz' k=>iff' (Nat.beq ty' u8&&Nat.blt 0 m&&Nat.blt m 100000) (rdFrom c' off m λl=>orE (bytesV l) (λs=>iff' (s.all λb=>Nat.blt b 256) (σ.put g .dead λσ=>f (.s s) σ k) (.no 321)) 321) (.no 321)) λ_ _ c' ty' sz'=>Det.iff (λ_=>?_) λ_=>Det.no
  refine Det.rdFrom (f:=λl k=>orE (bytesV l) (λs=>iff' (s.all λb=>Nat.blt b 256) (σ.put g .dead λσ=>f (.s s) σ k) (.no 321)) 321) λl=>Det.orE (f:=λs k=>iff' (s.all λb=>Nat.blt b 256) (σ.put g .dead λσ=>f (.s s) σ k) (.no 321)) λs _=>Det.iff (λ_=>?_) λ_=>Det.no
  exact Det.put (f:=λσ k=>f (.s s) σ k) λσ' hσ=>hf _ σ' hσ
 ·exact Det.no
end Go.Ev
end
end
