/-
  A part of the proof: what the functions of the program come to, read off the model: no premise of its own, no axiom. Blank space is spared. By an AI agent.
-/
import Derived.Test.YtihllmhdjbomjaaGreatDoorA6
import Derived.Lib.Strings
import Derived.Lib.IndexMore
import Derived.Lib.ItoaNum
import Derived.Deep.Draws
import Derived.Lib.Split
import Derived.Lib.Join
import Derived.Test.YtihllmhdjbomjaaGreatDoorA5
import Derived.Shelf.Strings.BuilderX
import Derived.Shelf.RegionOpenPlain
import Derived.Lib.Walk
import Derived.Lib.Builder
import Derived.Lib.UnsafeStr
import Derived.WalkKit
import Derived.Laws.Externs
import Derived.Test.YtihllmhdjbomjaaGreatDoorProg
set_option linter.all false
set_option maxRecDepth 100000
noncomputable section
section
namespace Go.Ev
open Go Go.Fk
def Det {κ:Type} (p:(κ→R)→Prop) (m:κ→R):Prop:=(∃ f,p f∧∀ k,m k=f k)∨∃ n,∀ k,m k=.no n
section
variable {κ:Type} {p:(κ→R)→Prop} {x:V} {n:Nat}
theorem Det.leaf {f:κ→R} (h:p f):Det p f:=.inl ⟨f,h,λ_=>rfl⟩
theorem Det.no:Det p (λ_=>R.no n):=.inr ⟨n,λ_=>rfl⟩
theorem Det.iff {b:Bool} {f g:κ→R} (hf:b=true→Det p f) (hg:b=false→Det p g):Det p (λk=>iff' b (f k) (g k)):=by
 cases b with
 | true=>exact hf rfl
 | false=>exact hg rfl
theorem Det.orE {α:Type} {o:Option α} {f:α→κ→R} (h:∀ a,o=some a→Det p (f a)):Det p (λk=>orE o (λa=>f a k) n):=by
 cases o with
 | some a=>exact h a rfl
 | none=>exact .no
theorem Det.opt {α:Type} {o:Option α} {g:κ→R} {f:α→κ→R} (h0:Det p g) (h:∀ a,o=some a→Det p (f a)):Det p (λk=>Option.rec (motive:=λ_=>R) (g k) (λa=>f a k) o):=by
 cases o with
 | some a=>exact h a rfl
 | none=>exact h0
theorem Det.fN {m:Nat} {f:Nat→κ→R} (h:Det p (f m)):Det p (λk=>fN m (λa=>f a k)):=by
 have:(λk=>Ev.fN m (λa=>f a k))=f m:=by funext k;rw [fN_eq]
 rw [this];exact h
theorem Det.onB {f:Bool→κ→R} (h:∀ b,Det p (f b)):Det p (λk=>x.onB (λb=>f b k) n):=by cases x <;> first | exact h _ | exact .no
theorem Det.onI {f:IntKind→Int→κ→R} (h:∀ a b,Det p (f a b)):Det p (λk=>x.onI (λa b=>f a b k) n):=by cases x <;> first | exact h _ _ | exact .no
theorem Det.onS {f:List Nat→κ→R} (h:∀ b,Det p (f b)):Det p (λk=>x.onS (λb=>f b k) n):=by cases x <;> first | exact h _ | exact .no
theorem Det.onP {f:Vid→Nat→κ→R} (h:∀ a b,Det p (f a b)):Det p (λk=>x.onP (λa b=>f a b k) n):=by cases x <;> first | exact h _ _ | exact .no
theorem Det.onSl {f:Vid→Nat→Nat→Cp→κ→R} (h:∀ a b c d,Det p (f a b c d)):Det p (λk=>x.onSl (λa b c d=>f a b c d k) n):=by cases x <;> first | exact h _ _ _ _ | exact .no
theorem Det.onM {f:Vid→κ→R} (h:∀ b,Det p (f b)):Det p (λk=>x.onM (λb=>f b k) n):=by cases x <;> first | exact h _ | exact .no
theorem Det.onMO {f:Option Vid→κ→R} (h:∀ b,Det p (f b)):Det p (λk=>x.onMO (λb=>f b k) n):=by cases x <;> first | exact h _ | exact .no
theorem Det.onF {f:Nat→List V→List V→κ→R} (h:∀ a b c,Det p (f a b c)):Det p (λk=>x.onF (λa b c=>f a b c k) n):=by cases x <;> first | exact h _ _ _ | exact .no
theorem Det.onQ {f:Nat→V→κ→R} (h:∀ a b,Det p (f a b)):Det p (λk=>x.onQ (λa b=>f a b k) n):=by cases x <;> first | exact h _ _ | exact .no
theorem Det.onA {f:List V→κ→R} (h:∀ b,Det p (f b)):Det p (λk=>x.onA (λb=>f b k) n):=by cases x <;> first | exact h _ | exact .no
theorem Det.onT {f:List V→κ→R} (h:∀ b,Det p (f b)):Det p (λk=>x.onT (λb=>f b k) n):=by cases x <;> first | exact h _ | exact .no
theorem Det.onNil {f:V→κ→R} (h:∀ b,Det p (f b)):Det p (λk=>x.onNil (λb=>f b k) n):=by cases x <;> first | exact h _ | exact .no
theorem Det.onLen {f:Nat→Nat→κ→R} {g:Vid→κ→R} (h:∀ a b,Det p (f a b)) (h':∀ v,Det p (g v)):Det p (λk=>x.onLen (λa b=>f a b k) (λv=>g v k) n):=by cases x <;> first | exact h _ _ | exact h' _ | exact .no
theorem Det.onG {f:Bool→κ→R} {g:κ→R} (h:∀ b,Det p (f b)) (h':Det p g):Det p (λk=>x.onG (λb=>f b k) (g k) n):=by cases x <;> first | exact h _ | exact h' | exact .no
theorem Det.onZ {f:Nat→Bool→κ→R} (h:∀ a b,Det p (f a b)):Det p (λk=>x.onZ (λa b=>f a b k) n):=by cases x <;> first | exact h _ _ | exact .no
theorem Det.onApp {f:Vid→Nat→Nat→Cp→κ→R} {g:κ→R} (h':Det p g) (h:∀ a b c d,Det p (f a b c d)):Det p (λk=>x.onApp (g k) (λa b c d=>f a b c d k) n):=by cases x <;> first | exact h _ _ _ _ | exact h' | exact .no
theorem Det.onSlN {f:Vid→Nat→Nat→Cp→κ→R} {g:κ→R} (h':Det p g) (h:∀ a b c d,Det p (f a b c d)):Det p (λk=>x.onSlN (g k) (λa b c d=>f a b c d k) n):=by cases x <;> first | exact h _ _ _ _ | exact h' | exact .no
theorem Det.onRd {f:Vid→Nat→Nat→κ→R} {g:κ→R} {q:List Nat→κ→R} (h':Det p g) (h:∀ a b c,Det p (f a b c)) (hq:∀ l,Det p (q l)):Det p (λk=>x.onRd (g k) (λa b c=>f a b c k) (λl=>q l k) n):=by cases x <;> first | exact h _ _ _ | exact h' | exact hq _ | exact .no
theorem Det.asI {f:Nat→κ→R} (h:∀ b,Det p (f b)):Det p (λk=>asI x (λb=>f b k)):=by
 refine Det.onI (f:=λ_ n k=>Int.rec (motive:=λ_=>R) (λi=>f i k) (λ_=>R.no 37) n) λa b=>?_
 cases b with
 | ofNat i=>exact h i
 | negSucc i=>exact .no
theorem Det.cp {c:Cp} {f g:Nat→κ→R} (h:∀ c,Det p (f c)) (h':∀ c,Det p (g c)):Det p (λk=>Cp.rec (motive:=λ_=>R) (λc=>f c k) (λc=>g c k) c):=by
 cases c with
 | ex c=>exact h c
 | re c=>exact h' c
theorem Det.optI {o:Option V} {d:Nat} {f:Nat→κ→R} (h:∀ b,Det p (f b)):Det p (λk=>optI o d (λb=>f b k)):=by
 cases o with
 | none=>exact h d
 | some y=>exact Det.asI h
end
section
variable {D:Type} {κ:Type} {p:(κ→R)→Prop} {n:Nat} {σ:H D} {v:Vid} {b:Blk D}
theorem Det.onC {f:Bool→Nat→Tr V→Nat→Nat→κ→R} (h:∀ a b c d e,Det p (f a b c d e)):Det p (λk=>b.onC (λa b c d e=>f a b c d e k) n):=by cases b <;> first | exact h _ _ _ _ _ | exact .no
theorem Det.onMp {f:Nat→KS→List (V × V)→Nat→κ→R} (h:∀ a b c d,Det p (f a b c d)):Det p (λk=>b.onM (λa b c d=>f a b c d k) n):=by cases b <;> first | exact h _ _ _ _ | exact .no
theorem Det.onIt {f:Vid→Nat→List V→List (V × V)→κ→R} (h:∀ a b c d,Det p (f a b c d)):Det p (λk=>b.onI (λa b c d=>f a b c d k) n):=by cases b <;> first | exact h _ _ _ _ | exact .no
theorem Det.get {f:Blk D→κ→R} (h:∀ b,σ.look v=some b→Det p (f b)):Det p (λk=>σ.get v (λb=>f b k)):=by
 cases σ
 exact Det.orE h
theorem Det.cells {f:Bool→Nat→Tr V→Nat→Nat→κ→R} (h:∀ a b c d e,Det p (f a b c d e)):Det p (λk=>σ.cells v (λa b c d e=>f a b c d e k)):=Det.get λb _=>Det.onC h
theorem putp_ret {α:Type} {x:α}:∀ (q:Vid) (t:Tr α),∃ t',∀ k,Tr.putp x q t k=k t'
 | [],t=>by cases t <;> exact⟨_,λ_=>rfl⟩
 | a::q,t=>by
  cases t with
  | e=>exact⟨_,λ_=>rfl⟩
  | n w c0 c1 c2 c3 =>
   cases a
   ·obtain⟨t',h⟩:=putp_ret (x:=x) q c0;exact⟨_,λk=>h _⟩
   ·obtain⟨t',h⟩:=putp_ret (x:=x) q c1;exact⟨_,λk=>h _⟩
   ·obtain⟨t',h⟩:=putp_ret (x:=x) q c2;exact⟨_,λk=>h _⟩
   ·obtain⟨t',h⟩:=putp_ret (x:=x) q c3;exact⟨_,λk=>h _⟩
theorem delp_ret {α:Type}:∀ (q:Vid) (t:Tr α),∃ t',∀ k,Tr.delp q t k=k t'
 | [],t=>by cases t <;> exact⟨_,λ_=>rfl⟩
 | a::q,t=>by
  cases t with
  | e=>exact⟨_,λ_=>rfl⟩
  | n w c0 c1 c2 c3 =>
   cases a
   ·obtain⟨t',h⟩:=delp_ret q c0;exact⟨_,λk=>h _⟩
   ·obtain⟨t',h⟩:=delp_ret q c1;exact⟨_,λk=>h _⟩
   ·obtain⟨t',h⟩:=delp_ret q c2;exact⟨_,λk=>h _⟩
   ·obtain⟨t',h⟩:=delp_ret q c3;exact⟨_,λk=>h _⟩
theorem Det.put {f:H D→κ→R} (h:∀ σ',Ext σ σ'→Det p (f σ')):Det p (λk=>σ.put v b (λσ=>f σ k)):=by
 cases σ with
 | mk t nx lg =>
  obtain⟨t',ht⟩:=putp_ret (x:=b) v t
  have e:∀ k,H.put (.mk t nx lg) v b k=k (.mk t' nx (v::lg)):=λk=>ht _
  have:Ext (.mk t nx lg) (.mk t' nx (v::lg)):=by
   classical
   obtain⟨t2,g1,g2⟩:=putp_ok (x:=b) (p:=v) (t:=t) (k:=λt2=>if t2=t' then .ok else .no 0) (by rw [ht];simp)
   split at g2
   ·rename_i h;subst h;exact⟨[v],rfl,λv' hv=>by show t2.getp v'=t.getp v';rw [g1,if_neg (by simpa using hv)]⟩
   ·cases g2
  rcases h _ this with⟨f',hp,hf⟩ | ⟨m,hf⟩
  ·exact .inl ⟨f',hp,λk=>(e _).trans (hf k)⟩
  ·exact .inr ⟨m,λk=>(e _).trans (hf k)⟩
theorem Det.add {f:H D→κ→R} (h:∀ σ',Ext σ σ'→Det p (f σ')):Det p (λk=>σ.add v b (λσ=>f σ k)):=by
 cases hv:σ.look v with
 | some b' =>
  refine .inr ⟨6,λk=>?_⟩
  cases σ with
  | mk t nx lg =>
   show Option.rec (motive:=λ_=>R) _ (λ_=>R.no 6) (t.getp v)=_
   rw [show t.getp v=some b' from hv]
 | none =>
  have:(λk=>σ.add v b (λσ=>f σ k))=λk=>σ.put v b (λσ=>f σ k):=by
   funext k
   cases σ with
   | mk t nx lg =>
    show Option.rec (motive:=λ_=>R) _ (λ_=>R.no 6) (t.getp v)=_
    rw [show t.getp v=none from hv]
    rfl
  rw [this]
  exact Det.put h
theorem Det.tput {x:V} {t:Tr V} {i:Nat} {f:Tr V→κ→R} (h:∀ t',Det p (f t')):Det p (λk=>Tr.put x t i (λt=>f t k)):=by
 unfold Tr.put
 cases Nat.blt i 1099511627776 with
 | false=>exact .no
 | true =>
  obtain⟨t',ht⟩:=putp_ret (x:=x) (digs 20 i) t
  have:(λk=>Tr.putp x (digs 20 i) t (λt=>f t k))=f t':=funext λk=>ht _
  show Det p (λk=>Tr.putp x (digs 20 i) t (λt=>f t k))
  rw [this];exact h t'
theorem Det.rdFrom {c:Tr V}:∀ {m off:Nat} {f:List V→κ→R},(∀ l,Det p (f l))→Det p (λk=>rdFrom c off m (λl=>f l k))
 | 0,off,f,h=>h []
 | m + 1,off,f,h=>Det.orE (f:=λv k=>Ev.fN (Nat.succ off) λo=>Ev.rdFrom c o m λl=>f (v::l) k) λv _=>Det.fN (f:=λo k=>Ev.rdFrom c o m λl=>f (v::l) k) (Det.rdFrom λl=>h _)
theorem Det.wrFrom:∀ {l:List V} {c:Tr V} {off:Nat} {f:Tr V→κ→R},(∀ t,Det p (f t))→Det p (λk=>wrFrom l c off (λt=>f t k))
 | [],c,off,f,h=>h c
 | u::l,c,off,f,h=>Det.tput (f:=λc' k=>Ev.fN (Nat.succ off) λo=>Ev.wrFrom l c' o λt=>f t k) λc'=>Det.fN (f:=λo k=>Ev.wrFrom l c' o λt=>f t k) (Det.wrFrom h)
theorem Det.trOf {l:List V} {f:Tr V→κ→R} (h:∀ t,Det p (f t)):Det p (λk=>trOf l (λt=>f t k)):=Det.wrFrom h
theorem Det.mkRow {l:List V} {ty sz:Nat} {f:H D→κ→R} (h:∀ σ',Ext σ σ'→Det p (f σ')):Det p (λk=>mkRow v l ty sz σ (λσ=>f σ k)) :=
 Det.trOf (f:=λc k=>Ev.fN (List.length l) λn=>σ.add v (.cells true n c ty sz) λσ=>f σ k) λc=>Det.fN (f:=λn k=>σ.add v (.cells true n c ty sz) λσ=>f σ k) (Det.add h)
theorem Det.laid:∀ {ps:List (Nat × Nat)} {xs:List V} {c:Tr V} {f:Tr V→κ→R},(∀ t,Det p (f t))→Det p (λk=>laid ps xs c (λt=>f t k))
 | [],xs,c,f,h=>h c
 | q::ps,[],c,f,h=>.no
 | q::ps,x::xs,c,f,h=>Det.iff (f:=λk=>Ev.wrFrom (cellsV x) c q.1 λc=>Ev.laid ps xs c λt=>f t k) (λ_=>Det.wrFrom (f:=λc k=>Ev.laid ps xs c λt=>f t k) λt=>Det.laid h) (λ_=>.no)
theorem Det.kpEq {q:KP} {x y:V} {f g:κ→R} (hf:Det p f) (hg:Det p g):Det p (λk=>kpEq q x y (f k) (g k)):=by
 cases q with
 | int q=>exact Det.onI (f:=λκ a k=>y.onI (λκ' b=>iff' (Nat.beq (kIx κ) (kIx q)&&Nat.beq (kIx κ') (kIx q)) (iff' (ieq a b) (f k) (g k)) (R.no 63)) 63) λa b=>Det.onI (f:=λκ' c k=>iff' (Nat.beq (kIx a) (kIx q)&&Nat.beq (kIx κ') (kIx q)) (iff' (ieq b c) (f k) (g k)) (R.no 63)) λc d=>Det.iff (f:=λk=>iff' (ieq b d) (f k) (g k)) (λ_=>Det.iff (λ_=>hf) (λ_=>hg)) (λ_=>.no)
 | str=>exact Det.onS (f:=λa k=>y.onS (λb=>iff' (seq' a b) (f k) (g k)) 63) λa=>Det.onS (f:=λb k=>iff' (seq' a b) (f k) (g k)) λb=>Det.iff (λ_=>hf) (λ_=>hg)
 | bool=>exact Det.onB (f:=λa k=>y.onB (λb=>iff' (a==b) (f k) (g k)) 63) λa=>Det.onB (f:=λb k=>iff' (a==b) (f k) (g k)) λb=>Det.iff (λ_=>hf) (λ_=>hg)
theorem Det.kpsEq {f g:κ→R} (hf:Det p f) (hg:Det p g):∀ {q:List KP} {xs ys:List V},Det p (λk=>kpsEq q xs ys (f k) (g k))
 | [],[],[]=>hf
 | [],[],_::_=>.no
 | [],_::_,_=>.no
 | q::l,[],_=>.no
 | q::l,x::xs,[]=>.no
 | q::l,x::xs,y::ys=>Det.kpEq (f:=λk=>Ev.kpsEq l xs ys (f k) (g k)) (Det.kpsEq hf hg) hg
theorem Det.keyEq {ks:KS} {x y:V} {f g:κ→R} (hf:Det p f) (hg:Det p g):Det p (λk=>keyEq ks x y (f k) (g k)):=by
 cases ks with
 | p q=>exact Det.kpEq hf hg
 | s q=>exact Det.onA (f:=λxs k=>y.onA (λys=>Ev.kpsEq q xs ys (f k) (g k)) 63) λxs=>Det.onA (f:=λys k=>Ev.kpsEq q xs ys (f k) (g k)) λys=>Det.kpsEq hf hg
theorem Det.find {ks:KS} {x:V} {f:κ→R} {g:V→κ→R} (hf:Det p f) (hg:∀ v,Det p (g v)):∀ {es:List (V × V)},Det p (λk=>find ks es x (f k) (λv=>g v k))
 | []=>hf
 | q::es=>Det.keyEq (f:=g q.2) (g:=λk=>Ev.find ks es x (f k) (λv=>g v k)) (hg _) (Det.find hf hg)
theorem Det.putM {ks:KS} {x y:V}:∀ {es:List (V × V)} {f:List (V × V)→κ→R},(∀ l,Det p (f l))→Det p (λk=>putM ks es x y (λl=>f l k))
 | [],f,h=>h _
 | q::es,f,h=>Det.keyEq (f:=f ((x,y)::es)) (g:=λk=>Ev.putM ks es x y (λl=>f (q::l) k)) (h _) (Det.putM λl=>h _)
end
section
variable {D:Type} {κ:Type} {p:(κ→R)→Prop}
theorem dEqn {neg:Bool} {ek:EK} {x y:V} {f:V→κ→R} (h:∀ u,Det p (f u)):Det p (λk=>vEqn neg ek x y λu=>f u k):=by
  cases ek
  all_goals
   skip
  unfold vEqn eqV
  repeat' (first
   | exact h _
   | exact h _ _ ‹_›
   | exact h _ _ (.refl _)
   | exact Det.no
   | refine Det.asI λ_=>?_
   | refine Det.optI λ_=>?_
   | refine Det.onI λ_ _=>?_
   | refine Det.onB λ_=>?_
   | refine Det.onS λ_=>?_
   | refine Det.onP λ_ _=>?_
   | refine Det.onSl λ_ _ _ _=>?_
   | refine Det.onM λ_=>?_
   | refine Det.onMO λ_=>?_
   | refine Det.onA λ_=>?_
   | refine Det.onT λ_=>?_
   | refine Det.onNil λ_=>?_
   | refine Det.onLen (λ_ _=>?_) λ_=>?_
   | refine Det.onZ λ_ _=>?_
   | refine Det.onApp ?_ λ_ _ _ _=>?_
   | refine Det.onSlN ?_ λ_ _ _ _=>?_
   | refine Det.onRd ?_ (λ_ _ _=>?_) λ_=>?_
   | refine Det.cells λ_ _ _ _ _=>?_
   | refine Det.get λ_ _=>?_
   | refine Det.onMp λ_ _ _ _=>?_
   | refine Det.onIt λ_ _ _ _=>?_
   | refine Det.orE λ_ _=>?_
   | refine Det.opt ?_ λ_ _=>?_
   | refine Det.cp (λ_=>?_) λ_=>?_
   | refine Det.fN ?_
   | refine Det.rdFrom λ_=>?_
   | refine Det.wrFrom λ_=>?_
   | refine Det.trOf λ_=>?_
   | refine Det.laid λ_=>?_
   | refine Det.keyEq ?_ ?_
   | refine Det.find ?_ λ_=>?_
   | refine Det.putM λ_=>?_
   | refine Det.iff (λ_=>?_) λ_=>?_)
theorem dBinI {op:BinOp} {q:IntKind} {a b:Int} {f:V→κ→R} (h:∀ u,Det p (f u)):Det p (λk=>binI op q a b λu=>f u k):=by
  cases op
  all_goals
   first
   | exact h _
   | exact Det.no
   | exact Det.iff (λ_=>h _) (λ_=>h _)
   | exact Det.iff (λ_=>Det.no) (λ_=>h _)
theorem dBin {op:BinOp} {x y:V} {f:V→κ→R} (h:∀ u,Det p (f u)):Det p (λk=>vBin op x y λu=>f u k):=by
  unfold vBin
  repeat' (first
   | exact h _
   | exact h _ _ ‹_›
   | exact h _ _ (.refl _)
   | exact Det.no
   | exact dBinI h
   | refine Det.asI λ_=>?_
   | refine Det.optI λ_=>?_
   | refine Det.onI λ_ _=>?_
   | refine Det.onB λ_=>?_
   | refine Det.onS λ_=>?_
   | refine Det.onP λ_ _=>?_
   | refine Det.onSl λ_ _ _ _=>?_
   | refine Det.onM λ_=>?_
   | refine Det.onMO λ_=>?_
   | refine Det.onA λ_=>?_
   | refine Det.onT λ_=>?_
   | refine Det.onNil λ_=>?_
   | refine Det.onLen (λ_ _=>?_) λ_=>?_
   | refine Det.onZ λ_ _=>?_
   | refine Det.onApp ?_ λ_ _ _ _=>?_
   | refine Det.onSlN ?_ λ_ _ _ _=>?_
   | refine Det.onRd ?_ (λ_ _ _=>?_) λ_=>?_
   | refine Det.cells λ_ _ _ _ _=>?_
   | refine Det.get λ_ _=>?_
   | refine Det.onMp λ_ _ _ _=>?_
   | refine Det.onIt λ_ _ _ _=>?_
   | refine Det.orE λ_ _=>?_
   | refine Det.opt ?_ λ_ _=>?_
   | refine Det.cp (λ_=>?_) λ_=>?_
   | refine Det.fN ?_
   | refine Det.rdFrom λ_=>?_
   | refine Det.wrFrom λ_=>?_
   | refine Det.trOf λ_=>?_
   | refine Det.laid λ_=>?_
   | refine Det.keyEq ?_ ?_
   | refine Det.find ?_ λ_=>?_
   | refine Det.putM λ_=>?_
   | refine Det.iff (λ_=>?_) λ_=>?_)
theorem pureAll:(∀ ⦃x:V⦄ ⦃σ:H D⦄ ⦃f:V→κ→R⦄,(∀ u,Det p (f u))→Det p (λk=>vLd x σ λu=>f u k)) ∧
  (∀ ⦃n:Nat⦄ ⦃x:V⦄ ⦃σ:H D⦄ ⦃f:V→κ→R⦄,(∀ u,Det p (f u))→Det p (λk=>vLdA n x σ λu=>f u k)) ∧
  (∀ ⦃x:V⦄ ⦃f:V→κ→R⦄,(∀ u,Det p (f u))→Det p (λk=>vNil x λu=>f u k)) ∧
  (∀ ⦃x y:V⦄ ⦃f:V→κ→R⦄,(∀ u,Det p (f u))→Det p (λk=>vShl x y λu=>f u k)) ∧
  (∀ ⦃x y:V⦄ ⦃f:V→κ→R⦄,(∀ u,Det p (f u))→Det p (λk=>vShr x y λu=>f u k)) ∧
  (∀ ⦃x y:V⦄ ⦃f:V→κ→R⦄,(∀ u,Det p (f u))→Det p (λk=>vCat x y λu=>f u k)) ∧
  (∀ ⦃x:V⦄ ⦃f:V→κ→R⦄,(∀ u,Det p (f u))→Det p (λk=>vNot x λu=>f u k)) ∧
  (∀ ⦃x:V⦄ ⦃f:V→κ→R⦄,(∀ u,Det p (f u))→Det p (λk=>vNeg x λu=>f u k)) ∧
  (∀ ⦃x:V⦄ ⦃f:V→κ→R⦄,(∀ u,Det p (f u))→Det p (λk=>vCpl x λu=>f u k)) ∧
  (∀ ⦃x:V⦄ ⦃f:V→κ→R⦄,(∀ u,Det p (f u))→Det p (λk=>vS2S x λu=>f u k)) ∧
  (∀ ⦃off:Nat⦄ ⦃x:V⦄ ⦃f:V→κ→R⦄,(∀ u,Det p (f u))→Det p (λk=>vFA off x λu=>f u k)) ∧
  (∀ ⦃agg:Bool⦄ ⦃off n:Nat⦄ ⦃x:V⦄ ⦃f:V→κ→R⦄,(∀ u,Det p (f u))→Det p (λk=>vFld agg off n x λu=>f u k)) ∧
  (∀ ⦃sz:Nat⦄ ⦃x i:V⦄ ⦃f:V→κ→R⦄,(∀ u,Det p (f u))→Det p (λk=>vIA sz x i λu=>f u k)) ∧
  (∀ ⦃len sz:Nat⦄ ⦃x i:V⦄ ⦃f:V→κ→R⦄,(∀ u,Det p (f u))→Det p (λk=>vIAA len sz x i λu=>f u k)) ∧
  (∀ ⦃x i:V⦄ ⦃f:V→κ→R⦄,(∀ u,Det p (f u))→Det p (λk=>vIS x i λu=>f u k)) ∧
  (∀ ⦃agg:Bool⦄ ⦃len sz:Nat⦄ ⦃x i:V⦄ ⦃f:V→κ→R⦄,(∀ u,Det p (f u))→Det p (λk=>vIV agg len sz x i λu=>f u k)) ∧
  (∀ ⦃j:Nat⦄ ⦃x:V⦄ ⦃f:V→κ→R⦄,(∀ u,Det p (f u))→Det p (λk=>vExt j x λu=>f u k)) ∧
  (∀ ⦃kd:Nat⦄ ⦃x:V⦄ ⦃σ:H D⦄ ⦃f:V→κ→R⦄,(∀ u,Det p (f u))→Det p (λk=>vLen kd x σ λu=>f u k)) ∧
  (∀ ⦃lo hi:Option V⦄ ⦃x:V⦄ ⦃f:V→κ→R⦄,(∀ u,Det p (f u))→Det p (λk=>vSlS lo hi x λu=>f u k)) ∧
  (∀ ⦃sz:Nat⦄ ⦃lo hi:Option V⦄ ⦃x:V⦄ ⦃f:V→κ→R⦄,(∀ u,Det p (f u))→Det p (λk=>vSl sz lo hi x λu=>f u k)) ∧
  (∀ ⦃sz:Nat⦄ ⦃lo:Option V⦄ ⦃hi mx x:V⦄ ⦃f:V→κ→R⦄,(∀ u,Det p (f u))→Det p (λk=>vSl3 sz lo hi mx x λu=>f u k)) ∧
  (∀ ⦃len sz:Nat⦄ ⦃lo hi:Option V⦄ ⦃x:V⦄ ⦃f:V→κ→R⦄,(∀ u,Det p (f u))→Det p (λk=>vSlA len sz lo hi x λu=>f u k)) ∧
  (∀ ⦃kT:Nat⦄ ⦃ks:KS⦄ ⦃z:V⦄ ⦃ok:Bool⦄ ⦃m i:V⦄ ⦃σ:H D⦄ ⦃f:V→κ→R⦄,(∀ u,Det p (f u))→Det p (λk=>vLook kT ks z ok m i σ λu=>f u k)) ∧
  (∀ ⦃mx:Bool⦄ ⦃x y:V⦄ ⦃f:V→κ→R⦄,(∀ u,Det p (f u))→Det p (λk=>vMM mx x y λu=>f u k)) ∧
  (∀ ⦃q:IntKind⦄ ⦃x:V⦄ ⦃f:V→κ→R⦄,(∀ u,Det p (f u))→Det p (λk=>vConv q x λu=>f u k)) ∧
  (∀ ⦃x:V⦄ ⦃σ:H D⦄ ⦃f:V→κ→R⦄,(∀ u,Det p (f u))→Det p (λk=>vB2S x σ λu=>f u k)) ∧
  (∀ ⦃x:V⦄ ⦃σ:H D⦄ ⦃f:V→κ→R⦄,(∀ u,Det p (f u))→Det p (λk=>vEnt x σ λu=>f u k)):=by
  refine⟨?_,?_,?_,?_,?_,?_,?_,?_,?_,?_,?_,?_,?_,?_,?_,?_,?_,?_,?_,?_,?_,?_,?_,?_,?_,?_,?_⟩ <;> intros <;> rename_i h <;> (first | unfold vLd | unfold vLdA | unfold vNil | unfold vShl | unfold vShr | unfold vCat | unfold vNot | unfold vNeg | unfold vCpl | unfold vS2S | unfold vFA | unfold vFld partV | unfold vIA | unfold vIAA | unfold vIS | unfold vIV partV | unfold vExt | unfold vLen | unfold vSlS | unfold vSl slOf | unfold vSl3 | unfold vSlA | unfold vLook fin | unfold vMM | unfold vConv | unfold vB2S | unfold vEnt onIter)
  all_goals
   repeat' (first
   | exact h _
   | exact h _ _ ‹_›
   | exact h _ _ (.refl _)
   | exact Det.no
   | refine Det.asI λ_=>?_
   | refine Det.optI λ_=>?_
   | refine Det.onI λ_ _=>?_
   | refine Det.onB λ_=>?_
   | refine Det.onS λ_=>?_
   | refine Det.onP λ_ _=>?_
   | refine Det.onSl λ_ _ _ _=>?_
   | refine Det.onM λ_=>?_
   | refine Det.onMO λ_=>?_
   | refine Det.onA λ_=>?_
   | refine Det.onT λ_=>?_
   | refine Det.onNil λ_=>?_
   | refine Det.onLen (λ_ _=>?_) λ_=>?_
   | refine Det.onZ λ_ _=>?_
   | refine Det.onApp ?_ λ_ _ _ _=>?_
   | refine Det.onSlN ?_ λ_ _ _ _=>?_
   | refine Det.onRd ?_ (λ_ _ _=>?_) λ_=>?_
   | refine Det.cells λ_ _ _ _ _=>?_
   | refine Det.get λ_ _=>?_
   | refine Det.onMp λ_ _ _ _=>?_
   | refine Det.onIt λ_ _ _ _=>?_
   | refine Det.orE λ_ _=>?_
   | refine Det.opt ?_ λ_ _=>?_
   | refine Det.cp (λ_=>?_) λ_=>?_
   | refine Det.fN ?_
   | refine Det.rdFrom λ_=>?_
   | refine Det.wrFrom λ_=>?_
   | refine Det.trOf λ_=>?_
   | refine Det.laid λ_=>?_
   | refine Det.keyEq ?_ ?_
   | refine Det.find ?_ λ_=>?_
   | refine Det.putM λ_=>?_
   | refine Det.iff (λ_=>?_) λ_=>?_)
def dLd:=(pureAll (D:=D) (κ:=κ) (p:=p)).1
def dLdA:=(pureAll (D:=D) (κ:=κ) (p:=p)).2.1
def dNil:=(pureAll (D:=Unit) (κ:=κ) (p:=p)).2.2.1
def dShl:=(pureAll (D:=Unit) (κ:=κ) (p:=p)).2.2.2.1
def dShr:=(pureAll (D:=Unit) (κ:=κ) (p:=p)).2.2.2.2.1
def dCat:=(pureAll (D:=Unit) (κ:=κ) (p:=p)).2.2.2.2.2.1
def dNot:=(pureAll (D:=Unit) (κ:=κ) (p:=p)).2.2.2.2.2.2.1
def dNeg:=(pureAll (D:=Unit) (κ:=κ) (p:=p)).2.2.2.2.2.2.2.1
def dCpl:=(pureAll (D:=Unit) (κ:=κ) (p:=p)).2.2.2.2.2.2.2.2.1
def dS2S:=(pureAll (D:=Unit) (κ:=κ) (p:=p)).2.2.2.2.2.2.2.2.2.1
def dFA:=(pureAll (D:=Unit) (κ:=κ) (p:=p)).2.2.2.2.2.2.2.2.2.2.1
def dFld:=(pureAll (D:=Unit) (κ:=κ) (p:=p)).2.2.2.2.2.2.2.2.2.2.2.1
def dIA:=(pureAll (D:=Unit) (κ:=κ) (p:=p)).2.2.2.2.2.2.2.2.2.2.2.2.1
def dIAA:=(pureAll (D:=Unit) (κ:=κ) (p:=p)).2.2.2.2.2.2.2.2.2.2.2.2.2.1
def dIS:=(pureAll (D:=Unit) (κ:=κ) (p:=p)).2.2.2.2.2.2.2.2.2.2.2.2.2.2.1
def dIV:=(pureAll (D:=Unit) (κ:=κ) (p:=p)).2.2.2.2.2.2.2.2.2.2.2.2.2.2.2.1
def dExt:=(pureAll (D:=Unit) (κ:=κ) (p:=p)).2.2.2.2.2.2.2.2.2.2.2.2.2.2.2.2.1
def dLen:=(pureAll (D:=D) (κ:=κ) (p:=p)).2.2.2.2.2.2.2.2.2.2.2.2.2.2.2.2.2.1
def dSlS:=(pureAll (D:=Unit) (κ:=κ) (p:=p)).2.2.2.2.2.2.2.2.2.2.2.2.2.2.2.2.2.2.1
def dSl:=(pureAll (D:=Unit) (κ:=κ) (p:=p)).2.2.2.2.2.2.2.2.2.2.2.2.2.2.2.2.2.2.2.1
def dSl3:=(pureAll (D:=Unit) (κ:=κ) (p:=p)).2.2.2.2.2.2.2.2.2.2.2.2.2.2.2.2.2.2.2.2.1
def dSlA:=(pureAll (D:=Unit) (κ:=κ) (p:=p)).2.2.2.2.2.2.2.2.2.2.2.2.2.2.2.2.2.2.2.2.2.1
def dLook:=(pureAll (D:=D) (κ:=κ) (p:=p)).2.2.2.2.2.2.2.2.2.2.2.2.2.2.2.2.2.2.2.2.2.2.1
def dMM:=(pureAll (D:=Unit) (κ:=κ) (p:=p)).2.2.2.2.2.2.2.2.2.2.2.2.2.2.2.2.2.2.2.2.2.2.2.1
def dConv:=(pureAll (D:=Unit) (κ:=κ) (p:=p)).2.2.2.2.2.2.2.2.2.2.2.2.2.2.2.2.2.2.2.2.2.2.2.2.1
def dB2S:=(pureAll (D:=D) (κ:=κ) (p:=p)).2.2.2.2.2.2.2.2.2.2.2.2.2.2.2.2.2.2.2.2.2.2.2.2.2.1
def dEnt:=(pureAll (D:=D) (κ:=κ) (p:=p)).2.2.2.2.2.2.2.2.2.2.2.2.2.2.2.2.2.2.2.2.2.2.2.2.2.2
theorem heapAll:(∀ ⦃z:List V⦄ ⦃ty:Nat⦄ ⦃v:Vid⦄ ⦃σ:H D⦄ ⦃f:V→H D→κ→R⦄,(∀ u σ',Ext σ σ'→Det p (f u σ'))→Det p (λk=>vNew z ty v σ λu σ=>f u σ k)) ∧
  (∀ ⦃ty:Nat⦄ ⦃v:Vid⦄ ⦃x:V⦄ ⦃σ:H D⦄ ⦃f:V→H D→κ→R⦄,(∀ u σ',Ext σ σ'→Det p (f u σ'))→Det p (λk=>vBox ty v x σ λu σ=>f u σ k)) ∧
  (∀ ⦃z:List V⦄ ⦃n:Nat⦄ ⦃ps:List (Nat × Nat)⦄ ⦃xs:List V⦄ ⦃σ:H D⦄ ⦃f:V→H D→κ→R⦄,(∀ u σ',Ext σ σ'→Det p (f u σ'))→Det p (λk=>vBuild z n ps xs σ λu σ=>f u σ k)) ∧
  (∀ ⦃z:List V⦄ ⦃ty sz len n:Nat⦄ ⦃ps:List (Nat × Nat)⦄ ⦃v:Vid⦄ ⦃xs:List V⦄ ⦃σ:H D⦄ ⦃f:V→H D→κ→R⦄,(∀ u σ',Ext σ σ'→Det p (f u σ'))→Det p (λk=>vBSl z ty sz len n ps v xs σ λu σ=>f u σ k)) ∧
  (∀ ⦃z:List V⦄ ⦃ty sz bytes:Nat⦄ ⦃v:Vid⦄ ⦃l c:V⦄ ⦃σ:H D⦄ ⦃f:V→H D→κ→R⦄,(∀ u σ',Ext σ σ'→Det p (f u σ'))→Det p (λk=>vMkS z ty sz bytes v l c σ λu σ=>f u σ k)) ∧
  (∀ ⦃kT:Nat⦄ ⦃ks:KS⦄ ⦃v:Vid⦄ ⦃σ:H D⦄ ⦃f:V→H D→κ→R⦄,(∀ u σ',Ext σ σ'→Det p (f u σ'))→Det p (λk=>vMkM kT ks v σ λu σ=>f u σ k)) ∧
  (∀ ⦃v:Vid⦄ ⦃x:V⦄ ⦃σ:H D⦄ ⦃f:V→H D→κ→R⦄,(∀ u σ',Ext σ σ'→Det p (f u σ'))→Det p (λk=>vRng v x σ λu σ=>f u σ k)):=by
  refine⟨?_,?_,?_,?_,?_,?_,?_⟩ <;> intros <;> rename_i h <;> (first | unfold vNew | unfold vBox | unfold vBuild | unfold vBSl | unfold vMkS | unfold vMkM | unfold vRng)
  all_goals
   repeat' (first
   | exact h _
   | exact h _ _ ‹_›
   | exact h _ _ (.refl _)
   | exact Det.no
   | refine Det.mkRow λ_ _=>?_
   | refine Det.add λ_ _=>?_
   | refine Det.put λ_ _=>?_
   | refine Det.asI λ_=>?_
   | refine Det.optI λ_=>?_
   | refine Det.onI λ_ _=>?_
   | refine Det.onB λ_=>?_
   | refine Det.onS λ_=>?_
   | refine Det.onP λ_ _=>?_
   | refine Det.onSl λ_ _ _ _=>?_
   | refine Det.onM λ_=>?_
   | refine Det.onMO λ_=>?_
   | refine Det.onA λ_=>?_
   | refine Det.onT λ_=>?_
   | refine Det.onNil λ_=>?_
   | refine Det.onLen (λ_ _=>?_) λ_=>?_
   | refine Det.onZ λ_ _=>?_
   | refine Det.onApp ?_ λ_ _ _ _=>?_
   | refine Det.onSlN ?_ λ_ _ _ _=>?_
   | refine Det.onRd ?_ (λ_ _ _=>?_) λ_=>?_
   | refine Det.cells λ_ _ _ _ _=>?_
   | refine Det.get λ_ _=>?_
   | refine Det.onMp λ_ _ _ _=>?_
   | refine Det.onIt λ_ _ _ _=>?_
   | refine Det.orE λ_ _=>?_
   | refine Det.opt ?_ λ_ _=>?_
   | refine Det.cp (λ_=>?_) λ_=>?_
   | refine Det.fN ?_
   | refine Det.rdFrom λ_=>?_
   | refine Det.wrFrom λ_=>?_
   | refine Det.trOf λ_=>?_
   | refine Det.laid λ_=>?_
   | refine Det.keyEq ?_ ?_
   | refine Det.find ?_ λ_=>?_
   | refine Det.putM λ_=>?_
   | refine Det.iff (λ_=>?_) λ_=>?_)
def dNew:=(heapAll (D:=D) (κ:=κ) (p:=p)).1
def dBox:=(heapAll (D:=D) (κ:=κ) (p:=p)).2.1
def dBuild:=(heapAll (D:=D) (κ:=κ) (p:=p)).2.2.1
def dBSl:=(heapAll (D:=D) (κ:=κ) (p:=p)).2.2.2.1
def dMkS:=(heapAll (D:=D) (κ:=κ) (p:=p)).2.2.2.2.1
def dMkM:=(heapAll (D:=D) (κ:=κ) (p:=p)).2.2.2.2.2.1
def dRng:=(heapAll (D:=D) (κ:=κ) (p:=p)).2.2.2.2.2.2
theorem memAll:(∀ ⦃n:Nat⦄ ⦃x y:V⦄ ⦃σ:H D⦄ ⦃f:H D→κ→R⦄,(∀ σ',Ext σ σ'→Det p (f σ'))→Det p (λk=>vSt n x y σ λσ=>f σ k)) ∧
  (∀ ⦃kT:Nat⦄ ⦃ks:KS⦄ ⦃m i x:V⦄ ⦃σ:H D⦄ ⦃f:H D→κ→R⦄,(∀ σ',Ext σ σ'→Det p (f σ'))→Det p (λk=>vPutM kT ks m i x σ λσ=>f σ k)):=by
  refine⟨?_,?_⟩ <;> intros <;> rename_i h <;> (first | unfold vSt | unfold vPutM)
  all_goals
   repeat' (first
   | exact h _
   | exact h _ _ ‹_›
   | exact h _ _ (.refl _)
   | exact Det.no
   | exact h _ ‹_›
   | refine Det.put λ_ _=>?_
   | refine Det.asI λ_=>?_
   | refine Det.optI λ_=>?_
   | refine Det.onI λ_ _=>?_
   | refine Det.onB λ_=>?_
   | refine Det.onS λ_=>?_
   | refine Det.onP λ_ _=>?_
   | refine Det.onSl λ_ _ _ _=>?_
   | refine Det.onM λ_=>?_
   | refine Det.onMO λ_=>?_
   | refine Det.onA λ_=>?_
   | refine Det.onT λ_=>?_
   | refine Det.onNil λ_=>?_
   | refine Det.onLen (λ_ _=>?_) λ_=>?_
   | refine Det.onZ λ_ _=>?_
   | refine Det.onApp ?_ λ_ _ _ _=>?_
   | refine Det.onSlN ?_ λ_ _ _ _=>?_
   | refine Det.onRd ?_ (λ_ _ _=>?_) λ_=>?_
   | refine Det.cells λ_ _ _ _ _=>?_
   | refine Det.get λ_ _=>?_
   | refine Det.onMp λ_ _ _ _=>?_
   | refine Det.onIt λ_ _ _ _=>?_
   | refine Det.orE λ_ _=>?_
   | refine Det.opt ?_ λ_ _=>?_
   | refine Det.cp (λ_=>?_) λ_=>?_
   | refine Det.fN ?_
   | refine Det.rdFrom λ_=>?_
   | refine Det.wrFrom λ_=>?_
   | refine Det.trOf λ_=>?_
   | refine Det.laid λ_=>?_
   | refine Det.keyEq ?_ ?_
   | refine Det.find ?_ λ_=>?_
   | refine Det.putM λ_=>?_
   | refine Det.iff (λ_=>?_) λ_=>?_)
def dSt:=(memAll (D:=D) (κ:=κ) (p:=p)).1
def dPutM:=(memAll (D:=D) (κ:=κ) (p:=p)).2
end
section
variable {D:Type} {κ:Type} {p:(κ→R)→Prop} {σ:H D}
theorem dNewOpen {v:Vid} {l:List V} {need ty sz:Nat} {f:V→H D→κ→R} (h:∀ u σ',Ext σ σ'→Det p (f u σ')):Det p (λk=>newOpen v l need ty sz σ λu σ=>f u σ k) :=
 Det.trOf (f:=λc k=>Ev.fN (Nat.mul need sz) λn=>σ.add v (.cells false n c ty sz) λσ=>f (.sl v 0 need (.re 0)) σ k) λc=>Det.fN (f:=λn k=>σ.add v (.cells false n c ty sz) λσ=>f (.sl v 0 need (.re 0)) σ k) (Det.add λσ' hσ=>h _ σ' hσ)
theorem dRdSl {sz:Nat} {x:V} {f:Nat→List V→κ→R} (h:∀ n l,Det p (f n l)):Det p (λk=>rdSl sz x σ λn l=>f n l k):=by
 unfold rdSl
 refine Det.onRd (h _ _) (λ_ _ _=>Det.cells λ_ _ _ _ _=>Det.rdFrom λ_=>h _ _) λ_=>Det.iff (λ_=>h _ _) λ_=>Det.no
theorem dApp {ty sz bytes:Nat} {v:Vid} {s x:V} {f:V→H D→κ→R} (h:∀ u σ',Ext σ σ'→Det p (f u σ')):Det p (λk=>vApp ty sz bytes v s x σ λu σ=>f u σ k):=by
 unfold vApp
 refine dRdSl λm l=>?_
 refine Det.iff (λ_=>?_) (λ_=>Det.no)
 refine Det.onApp (Det.iff (λ_=>h _ _ (.refl _)) λ_=>dNewOpen h) λw off n c=>?_
 refine Det.cells λex known t ty' sz'=>Det.iff (λ_=>?_) λ_=>Det.no
 refine Det.fN (Det.cp (λc=>?_) λr=>?_)
 ·exact Det.iff (λ_=>Det.iff (λ_=>Det.wrFrom λ_=>Det.put λσ' hσ=>h _ σ' hσ) λ_=>Det.no) λ_=>Det.rdFrom λ_=>dNewOpen h
 ·refine Det.iff (λ_=>Det.no) λ_=>Det.iff (λ_=>?_) λ_=>Det.no
  exact Det.iff (λ_=>Det.iff (λ_=>Det.wrFrom λ_=>Det.put λσ' hσ=>h _ σ' hσ) λ_=>Det.no) λ_=>Det.rdFrom λ_=>Det.put λσ1 h1=>dNewOpen λu σ' hσ=>h u σ' (h1.trans hσ)
theorem dIter {x:V} {f:Vid→Vid→Nat→List V→List (V × V)→κ→R} (h:∀ a b c d e,Det p (f a b c d e)):Det p (λk=>onIter x σ λa b c d e=>f a b c d e k):=by
 unfold onIter
 exact Det.onP λv off=>Det.iff (λ_=>Det.get λb _=>Det.onIt λm ver last rest=>Det.get λb' _=>Det.onMp λ_ _ _ ver'=>Det.iff (λ_=>h _ _ _ _ _) λ_=>Det.no) λ_=>Det.no
theorem dNxt {x:V} {f:V→H D→κ→R} (h:∀ u σ',Ext σ σ'→Det p (f u σ')):Det p (λk=>vNxt false x σ λu σ=>f u σ k):=by
 unfold vNxt
 refine dIter λv m ver last rest=>?_
 cases rest with
 | nil=>exact Det.put λσ' hσ=>h _ σ' hσ
 | cons q l=>exact Det.put (f:=λσ k=>f (.t [.b true,q.1,q.2]) σ k) λσ' hσ=>h _ σ' hσ
theorem vK_det (o:OK) (vs:List V) (v:Vid) (σ:H D) {f:V→H D→κ→R} (h:∀ u σ',Ext σ σ'→Det p (f u σ')):Det p (λk=>vK o vs v σ (λu σ=>f u σ k)):=by
 have h0:=λu=>h u σ (.refl _)
 cases o
 case new =>
  rcases vs with _ | ⟨a,vs⟩
  all_goals first | exact Det.no | exact dNew h
 case mkm =>
  rcases vs with _ | ⟨a,vs⟩
  all_goals first | exact Det.no | exact dMkM h
 case mv =>
  rcases vs with _ | ⟨a,_ | ⟨b,vs⟩⟩
  all_goals first | exact Det.no | exact h0 a
 case ld =>
  rcases vs with _ | ⟨a,_ | ⟨b,vs⟩⟩
  all_goals first | exact Det.no | exact dLd h0
 case ldA =>
  rcases vs with _ | ⟨a,_ | ⟨b,vs⟩⟩
  all_goals first | exact Det.no | exact dLdA h0
 case nil =>
  rcases vs with _ | ⟨a,_ | ⟨b,vs⟩⟩
  all_goals first | exact Det.no | exact dNil h0
 case not =>
  rcases vs with _ | ⟨a,_ | ⟨b,vs⟩⟩
  all_goals first | exact Det.no | exact dNot h0
 case neg =>
  rcases vs with _ | ⟨a,_ | ⟨b,vs⟩⟩
  all_goals first | exact Det.no | exact dNeg h0
 case cpl =>
  rcases vs with _ | ⟨a,_ | ⟨b,vs⟩⟩
  all_goals first | exact Det.no | exact dCpl h0
 case fa =>
  rcases vs with _ | ⟨a,_ | ⟨b,vs⟩⟩
  all_goals first | exact Det.no | exact dFA h0
 case fld =>
  rcases vs with _ | ⟨a,_ | ⟨b,vs⟩⟩
  all_goals first | exact Det.no | exact dFld h0
 case ext =>
  rcases vs with _ | ⟨a,_ | ⟨b,vs⟩⟩
  all_goals first | exact Det.no | exact dExt h0
 case len =>
  rcases vs with _ | ⟨a,_ | ⟨b,vs⟩⟩
  all_goals first | exact Det.no | exact dLen h0
 case box =>
  rcases vs with _ | ⟨a,_ | ⟨b,vs⟩⟩
  all_goals first | exact Det.no | exact dBox h
 case mki =>
  rcases vs with _ | ⟨a,_ | ⟨b,vs⟩⟩
  all_goals first | exact Det.no | exact h0 _
 case conv =>
  rcases vs with _ | ⟨a,_ | ⟨b,vs⟩⟩
  all_goals first | exact Det.no | exact dConv h0
 case b2s =>
  rcases vs with _ | ⟨a,_ | ⟨b,vs⟩⟩
  all_goals first | exact Det.no | exact dB2S h0
 case s2s =>
  rcases vs with _ | ⟨a,_ | ⟨b,vs⟩⟩
  all_goals first | exact Det.no | exact dS2S h0
 case rng =>
  rcases vs with _ | ⟨a,_ | ⟨b,vs⟩⟩
  all_goals first | exact Det.no | exact dRng h
 case ent =>
  rcases vs with _ | ⟨a,_ | ⟨b,vs⟩⟩
  all_goals first | exact Det.no | exact dEnt h0
 case st =>
  rcases vs with _ | ⟨a,_ | ⟨b,_ | ⟨c,vs⟩⟩⟩
  all_goals first | exact Det.no | exact dSt (λσ hσ=>h _ σ hσ)
 case eq =>
  rcases vs with _ | ⟨a,_ | ⟨b,_ | ⟨c,vs⟩⟩⟩
  all_goals first | exact Det.no | exact dEqn h0
 case bin =>
  rcases vs with _ | ⟨a,_ | ⟨b,_ | ⟨c,vs⟩⟩⟩
  all_goals first | exact Det.no | exact dBin h0
 case shl =>
  rcases vs with _ | ⟨a,_ | ⟨b,_ | ⟨c,vs⟩⟩⟩
  all_goals first | exact Det.no | exact dShl h0
 case shr =>
  rcases vs with _ | ⟨a,_ | ⟨b,_ | ⟨c,vs⟩⟩⟩
  all_goals first | exact Det.no | exact dShr h0
 case cat =>
  rcases vs with _ | ⟨a,_ | ⟨b,_ | ⟨c,vs⟩⟩⟩
  all_goals first | exact Det.no | exact dCat h0
 case ia =>
  rcases vs with _ | ⟨a,_ | ⟨b,_ | ⟨c,vs⟩⟩⟩
  all_goals first | exact Det.no | exact dIA h0
 case iaa =>
  rcases vs with _ | ⟨a,_ | ⟨b,_ | ⟨c,vs⟩⟩⟩
  all_goals first | exact Det.no | exact dIAA h0
 case is =>
  rcases vs with _ | ⟨a,_ | ⟨b,_ | ⟨c,vs⟩⟩⟩
  all_goals first | exact Det.no | exact dIS h0
 case iv =>
  rcases vs with _ | ⟨a,_ | ⟨b,_ | ⟨c,vs⟩⟩⟩
  all_goals first | exact Det.no | exact dIV h0
 case mks =>
  rcases vs with _ | ⟨a,_ | ⟨b,_ | ⟨c,vs⟩⟩⟩
  all_goals first | exact Det.no | exact dMkS h
 case look =>
  rcases vs with _ | ⟨a,_ | ⟨b,_ | ⟨c,vs⟩⟩⟩
  all_goals first | exact Det.no | exact dLook h0
 case app =>
  rcases vs with _ | ⟨a,_ | ⟨b,_ | ⟨c,vs⟩⟩⟩
  all_goals first | exact Det.no | exact dApp h
 case mm =>
  rcases vs with _ | ⟨a,_ | ⟨b,_ | ⟨c,vs⟩⟩⟩
  all_goals first | exact Det.no | exact dMM h0
 case putm =>
  rcases vs with _ | ⟨a,_ | ⟨b,_ | ⟨c,_ | ⟨d,vs⟩⟩⟩⟩
  all_goals first | exact Det.no | exact dPutM (λσ hσ=>h _ σ hσ)
 case build=>exact dBuild h
 case bsl=>exact dBSl h
 case mkf=>exact h0 _
 case slS lo hi =>
  cases lo <;> cases hi
  ·rcases vs with _ | ⟨a,_ | ⟨b,vs⟩⟩
   all_goals first | exact Det.no | exact dSlS h0
  ·rcases vs with _ | ⟨a,_ | ⟨b,_ | ⟨c,vs⟩⟩⟩
   all_goals first | exact Det.no | exact dSlS h0
  ·rcases vs with _ | ⟨a,_ | ⟨b,_ | ⟨c,vs⟩⟩⟩
   all_goals first | exact Det.no | exact dSlS h0
  ·rcases vs with _ | ⟨a,_ | ⟨b,_ | ⟨c,_ | ⟨d,vs⟩⟩⟩⟩
   all_goals first | exact Det.no | exact dSlS h0
 case sl sz lo hi =>
  cases lo <;> cases hi
  ·rcases vs with _ | ⟨a,_ | ⟨b,vs⟩⟩
   all_goals first | exact Det.no | exact dSl h0
  ·rcases vs with _ | ⟨a,_ | ⟨b,_ | ⟨c,vs⟩⟩⟩
   all_goals first | exact Det.no | exact dSl h0
  ·rcases vs with _ | ⟨a,_ | ⟨b,_ | ⟨c,vs⟩⟩⟩
   all_goals first | exact Det.no | exact dSl h0
  ·rcases vs with _ | ⟨a,_ | ⟨b,_ | ⟨c,_ | ⟨d,vs⟩⟩⟩⟩
   all_goals first | exact Det.no | exact dSl h0
 case slA len sz lo hi =>
  cases lo <;> cases hi
  ·rcases vs with _ | ⟨a,_ | ⟨b,vs⟩⟩
   all_goals first | exact Det.no | exact dSlA h0
  ·rcases vs with _ | ⟨a,_ | ⟨b,_ | ⟨c,vs⟩⟩⟩
   all_goals first | exact Det.no | exact dSlA h0
  ·rcases vs with _ | ⟨a,_ | ⟨b,_ | ⟨c,vs⟩⟩⟩
   all_goals first | exact Det.no | exact dSlA h0
  ·rcases vs with _ | ⟨a,_ | ⟨b,_ | ⟨c,_ | ⟨d,vs⟩⟩⟩⟩
   all_goals first | exact Det.no | exact dSlA h0
 case sl3 sz lo =>
  cases lo
  ·rcases vs with _ | ⟨a,_ | ⟨b,_ | ⟨c,_ | ⟨d,vs⟩⟩⟩⟩
   all_goals first | exact Det.no | exact dSl3 h0
  ·rcases vs with _ | ⟨a,_ | ⟨b,_ | ⟨c,_ | ⟨d,_ | ⟨e,vs⟩⟩⟩⟩⟩
   all_goals first | exact Det.no | exact dSl3 h0
end
section
variable {D:Type} {κ:Type} {p:(κ→R)→Prop} {σ:H D} {L:Lc} {e:E} {P:Program} {cl:Nat→Hk D} {v:Vid} {vs:List Vid}
def ClDet (cl:Nat→Hk D):Prop:=∀ (κ:Type) (p:(κ→R)→Prop) (F:Nat) (l:List V) (σ:H D) (f:V→H D→κ→R),(∀ u σ',Ext σ σ'→Det p (f u σ'))→Det p (λk=>cl F l σ (λu σ=>f u σ k))
theorem noCl_det:ClDet (noCl:Nat→Hk D):=λ_ _ _ _ _ _ _=>Det.no
theorem dGetO {x:Opd} {f:V→κ→R} (h:∀ u,opdV x L e=some u→Det p (f u)):Det p (λk=>getO x L e (λu=>f u k)):=by
 cases x with
 | l j=>exact Det.orE (f:=f) h
 | t q=>exact Det.orE (f:=f) h
 | c v=>exact h v rfl
 | bad=>exact Det.no
theorem dGetL:∀ {l:List Opd} {f:List V→κ→R},(∀ us,Det p (f us))→Det p (λk=>getL l L e (λu=>f u k))
 | [],f,h=>h []
 | x::l,f,h=>dGetO (f:=λu k=>getL l L e λus=>f (u::us) k) λu _=>dGetL λus=>h (u::us)
theorem evO_det (hcl:ClDet cl) {o:O} {f:V→H D→κ→R} (h:∀ u σ',Ext σ σ'→Det p (f u σ')):Det p (λk=>evO P cl false v o L e σ (λu σ=>f u σ k)):=by
 cases o with
 | op o args=>exact dGetL (f:=λvs k=>vK o vs v σ (λu σ=>f u σ k)) λus=>vK_det o us v σ h
 | pick c a b=>exact dGetO (f:=λc k=>c.onB (λc=>iff' c (getO a L e λv=>f v σ k) (getO b L e λv=>f v σ k)) 10) λc _=>Det.onB λc=>Det.iff (λ_=>dGetO (f:=λv k=>f v σ k) λu _=>h u σ (.refl _)) (λ_=>dGetO (f:=λv k=>f v σ k) λu _=>h u σ (.refl _))
 | call F args=>exact dGetL (f:=λl k=>cl F l σ (λu σ=>f u σ k)) λus=>hcl _ _ F us σ f h
 | callv g args=>exact dGetO (f:=λg k=>getL args L e λl=>g.onF (λF a c=>cl F ((a++l)++c) σ (λu σ=>f u σ k)) 101) λg _=>dGetL (f:=λl k=>g.onF (λF a c=>cl F ((a++l)++c) σ (λu σ=>f u σ k)) 101) λl=>Det.onF λF a c=>hcl _ _ F _ σ f h
 | inv name x args=>exact dGetO (f:=λx k=>getL args L e λl=>x.onQ (λt y=>orE (methF P t name) (λF=>cl F (y::l) σ (λu σ=>f u σ k)) 102) 103) λx _=>dGetL (f:=λl k=>x.onQ (λt y=>orE (methF P t name) (λF=>cl F (y::l) σ (λu σ=>f u σ k)) 102) 103) λl=>Det.onQ λt y=>Det.orE (f:=λF k=>cl F (y::l) σ (λu σ=>f u σ k)) λF _=>hcl _ _ F _ σ f h
 | nxt x=>exact dGetO (f:=λx k=>vNxt false x σ (λu σ=>f u σ k)) λx _=>dNxt h
 | bad n=>exact Det.no
theorem dGuard {g:Opd × Bool} {yes no:κ→R} (hy:Det p yes) (hn:Det p no):Det p (λk=>guarded g L e (yes k) (no k)):=by
 unfold guarded
 refine dGetO (f:=λy k=>y.onG (λy=>match g.2 with | true=>iff' y (yes k) (no k) | false=>iff' y (no k) (yes k)) (no k) 110) λy _=>Det.onG (f:=λy k=>match g.2 with | true=>iff' y (yes k) (no k) | false=>iff' y (no k) (yes k)) (λb=>?_) hn
 cases g.2
 ·exact Det.iff (λ_=>hn) λ_=>hy
 ·exact Det.iff (λ_=>hy) λ_=>hn
theorem evS_det (hcl:ClDet cl) {s:S} {f:Lc→H D→κ→R} (h:∀ L' σ',Ext σ σ'→Det p (f L' σ')):Det p (λk=>evS P cl false vs s L e σ (λL σ=>f L σ k)):=by
 unfold evS
 cases s.g with
 | none=>exact evO_det hcl (f:=λv σ k=>f (push s.d v L) σ k) λu σ' hσ=>h _ σ' hσ
 | some g =>
  exact dGuard (yes:=λk=>evO P cl false (vAt s.j vs) s.o L e σ λv σ=>f (push s.d v L) σ k) (no:=λk=>f (push s.d (.t []) L) σ k) (evO_det hcl (f:=λv σ k=>f (push s.d v L) σ k) λu σ' hσ=>h _ σ' hσ) (h _ _ (.refl _))
theorem evL_det (hcl:ClDet cl):∀ {l:List S} {L:Lc} {σ:H D} {f:Lc→H D→κ→R},(∀ L' σ',Ext σ σ'→Det p (f L' σ'))→Det p (λk=>evL P cl false vs e l L σ (λL σ=>f L σ k))
 | [],L,σ,f,h=>h _ _ (.refl _)
 | s::l,L,σ,f,h=>evS_det hcl (f:=λL σ k=>evL P cl false vs e l L σ (λL σ=>f L σ k)) λL' σ' hσ=>evL_det hcl λL2 σ2 h2=>h L2 σ2 (hσ.trans h2)
theorem putp_both {α:Type} {x:α} (q:Vid) (t:Tr α):∃ t',(∀ k,Tr.putp x q t k=k t')∧∀ q',t'.getp q'=if q'=q then some x else t.getp q':=by
 obtain⟨t',ht⟩:=putp_ret (x:=x) q t
 classical
 obtain⟨t2,g1,g2⟩:=putp_ok (x:=x) (p:=q) (t:=t) (k:=λt2=>if t2=t' then .ok else .no 0) (by rw [ht];simp)
 split at g2
 ·rename_i h;subst h;exact⟨t2,ht,g1⟩
 ·cases g2
theorem keepE_det:∀ {kp:Kp} {e:E} {f:E→κ→R},(∀ e',(∀ q,q ∉ kp.map (·.2)→e'.getp q=e.getp q)→Det p (f e'))→Det p (λk=>keepE L kp e (λe=>f e k))
 | [],e,f,h=>h e λ_ _=>rfl
 | a::l,e,f,h=>dGetO (f:=λv k=>Tr.putp v a.2 e λe=>keepE L l e (λe=>f e k)) λv _=>by
  obtain⟨t',h1,h2⟩:=putp_both (x:=v) a.2 e
  have:(λk=>Tr.putp v a.2 e λe=>keepE L l e (λe=>f e k))=λk=>keepE L l t' (λe=>f e k):=funext λk=>h1 _
  show Det p (λk=>Tr.putp v a.2 e λe=>keepE L l e (λe=>f e k))
  rw [this]
  refine keepE_det λe' he=>h e' λq hq=>?_
  simp at hq
  rw [he q (by simpa using hq.2),h2,if_neg hq.1]
theorem evPu_det {o:O} {f:V→κ→R} (h:∀ u,Det p (f u)):Det p (λk=>evPu P o L e σ (λu=>f u k)):=by
 unfold evPu
 cases pureO o with
 | true=>exact evO_det noCl_det (f:=λu _ k=>f u k) λu _ _=>h u
 | false=>exact Det.no
theorem evTO_det {o:O} {r:Pg} {f:V→Pg→κ→R} (h:∀ u r,Det p (f u r)):Det p (λk=>evTO P o L e σ r (λu r=>f u r k)):=by
 have other:Det p (λk=>match pureO o with | true=>evO P noCl false [] o L e σ λv _=>f v r k | false=>R.no 106):=by
  cases pureO o with
  | true=>exact evO_det noCl_det (f:=λu _ k=>f u r k) λu _ _=>h u r
  | false=>exact Det.no
 unfold evTO
 split
 ·exact dGetO (f:=λx k=>vLdP x σ r λu r=>f u r k) λx _=>Det.onP λv off=>Det.cells λ_ _ c _ _=>Det.orE (f:=λu k=>f u ((v,off,u)::r) k) λu _=>h _ _
 ·exact dGetO (f:=λx k=>vLdAP _ x σ r λu r=>f u r k) λx _=>Det.onP λv off=>Det.cells λ_ _ c _ _=>Det.rdFrom (f:=λl k=>f (.a l) (pgs v off l r) k) λl=>h _ _
 ·exact other
theorem evT_det:∀ {l:List S} {L:Lc} {r:Pg} {f:Lc→Pg→κ→R},(∀ L r,Det p (f L r))→Det p (λk=>evT P e σ l L r (λL r=>f L r k))
 | [],L,r,f,h=>h _ _
 | s::l,L,r,f,h=>by
  show Det p (λk=>evTk P s L e σ r λL r=>evT P e σ l L r (λL r=>f L r k))
  unfold evTk
  cases s.g with
  | none=>exact evTO_det (f:=λv r k=>evT P e σ l (push s.d v L) r (λL r=>f L r k)) λu r=>evT_det h
  | some g=>exact dGuard (yes:=λk=>evTO P s.o L e σ r λv r=>evT P e σ l (push s.d v L) r (λL r=>f L r k)) (no:=λk=>evT P e σ l (push s.d (.t []) L) r (λL r=>f L r k)) (evTO_det (f:=λv r k=>evT P e σ l (push s.d v L) r (λL r=>f L r k)) λu r=>evT_det h) (evT_det h)
theorem holds_det {f:κ→R} (h:Det p f):∀ {r:Pg},Det p (λk=>holds σ r (f k))
 | []=>h
 | q::r=>Det.cells (f:=λ_ _ c _ _ k=>orE (c.get q.2.1) (λu=>iff' (vEq u q.2.2) (holds σ r (f k)) (R.no 122)) 123) λ_ _ c _ _=>Det.orE (f:=λu k=>iff' (vEq u q.2.2) (holds σ r (f k)) (R.no 122)) λu _=>Det.iff (λ_=>holds_det h) λ_=>Det.no
def allKeep (ds:List Vid):Pl→Prop
 | .done kp=>kp.map (·.2)=ds
 | .bad=>True
 | .take _ q=>allKeep ds q
 | .eff _ q=>allKeep ds q
 | .alt q q'=>allKeep ds q∧allKeep ds q'
theorem evP_det (hcl:ClDet cl) {r:Pg}:∀ {q:Pl} {L:Lc} {σ:H D} {f:E→H D→κ→R},(∀ e' σ',Ext σ σ'→(∀ x,x ∉ keepsOf q→e'.getp x=e.getp x)→(∀ ds,allKeep ds q→keepsOf q=ds)→Det p (f e' σ'))→Det p (λk=>evP P cl false vs r e (λe σ=>f e σ k) q L σ)
 | .done kp,L,σ,f,h=>keepE_det (f:=λe k=>f e σ k) λe' he=>h e' σ (.refl _) he λds hd=>hd
 | .bad,L,σ,f,h=>Det.no
 | .take s q,L,σ,f,h=>by
  have key:∀ v,Det p (λk=>evP P cl false vs r e (λe σ=>f e σ k) q (push s.d v L) σ):=λv=>evP_det hcl λe' σ' h1 h2 h3=>h e' σ' h1 h2 h3
  show Det p (λk=>match s.g with
   | none=>evPu P s.o L e σ λv=>evP P cl false vs r e (λe σ=>f e σ k) q (push s.d v L) σ
   | some g=>bindK (λj=>guarded g L e (evPu P s.o L e σ λv=>j v) (j (.t []))) (λv=>evP P cl false vs r e (λe σ=>f e σ k) q (push s.d v L) σ))
  cases s.g with
  | none=>exact evPu_det (f:=λv k=>evP P cl false vs r e (λe σ=>f e σ k) q (push s.d v L) σ) key
  | some g=>exact dGuard (yes:=λk=>evPu P s.o L e σ λv=>evP P cl false vs r e (λe σ=>f e σ k) q (push s.d v L) σ) (no:=λk=>evP P cl false vs r e (λe σ=>f e σ k) q (push s.d (.t []) L) σ) (evPu_det (f:=λv k=>evP P cl false vs r e (λe σ=>f e σ k) q (push s.d v L) σ) key) (key _)
 | .eff s q,L,σ,f,h=>evS_det hcl (f:=λL σ k=>holds σ r (evP P cl false vs r e (λe σ=>f e σ k) q L σ)) λL' σ' hσ=>holds_det (f:=λk=>evP P cl false vs r e (λe σ=>f e σ k) q L' σ') (evP_det hcl λe' σ2 h1 h2 h3=>h e' σ2 (hσ.trans h1) h2 h3)
 | .alt q q',L,σ,f,h=>evP_det hcl (q:=q) λe' σ' h1 h2 h3=>h e' σ' h1 h2 λds hd=>h3 ds hd.1
theorem evDraw_det {cl:Bool→Nat→Hk D} (hcl:ClDet (cl false)) {l:List S} {q:Pl} {f:E→H D→κ→R} (h:∀ e' σ',Ext σ σ'→Det p (f e' σ')):Det p (λk=>evDraw P cl false vs l q e σ (λe σ=>f e σ k)):=by
 unfold evDraw
 refine evT_det (f:=λL r k=>match lone q with
  | true=>evP P (cl false) false vs r e (λe σ=>f e σ k) q L σ
  | false=>mergeR (keepsOf q) false σ (λmd σ k=>evP P (cl md) md vs r e k q L σ) (λe σ=>f e σ k)) λL r=>?_
 cases lone q with
 | true=>exact evP_det hcl λe' σ' h1 _ _=>h e' σ' h1
 | false=>exact evP_det hcl λe' σ' h1 _ _=>h e' σ' h1
theorem delE_ret:∀ (ds:List Vid) (e:E),∃ e',∀ k,delE ds e k=k e'
 | [],e=>⟨e,λ_=>rfl⟩
 | q::ds,e=>by
  obtain⟨e1,h1⟩:=delp_ret q e
  obtain⟨e2,h2⟩:=delE_ret ds e1
  exact⟨e2,λk=>(h1 _).trans (h2 k)⟩
theorem delE_det {ds:List Vid} {e:E} {f:E→κ→R} (h:∀ e',Det p (f e')):Det p (λk=>delE ds e (λe=>f e k)):=by
 obtain⟨e',he⟩:=delE_ret ds e
 have:(λk=>delE ds e (λe=>f e k))=f e':=funext λk=>he _
 rw [this];exact h e'
theorem room_det {n:Nat} {f:List Vid→H D→κ→R} (h:∀ vs σ',Ext σ σ'→Det p (f vs σ')):Det p (λk=>H.room n σ (λvs σ=>f vs σ k)):=by
 cases σ with
 | mk t nx lg =>
  have:∀ n m l,∃ l' m',∀ k:List Vid→H D→R,(Nat.rec (motive:=λ_=>Vid→List Vid→R) (λm l=>k l (.mk t m lg)) (λ_ ih m l=>ih (next m) (m::l)) n:Vid→List Vid→R) m l=k l' (.mk t m' lg):=by
   intro n
   induction n with
   | zero=>intro m l;exact⟨l,m,λ_=>rfl⟩
   | succ n ih=>intro m l;exact ih _ _
  obtain⟨l',m',hl⟩:=this n nx []
  have e:(λk=>H.room n (.mk t nx lg) (λvs σ=>f vs σ k))=f l' (.mk t m' lg):=funext λk=>hl (λvs σ=>f vs σ k)
  rw [e]
  exact h _ _ (Ext.same (λ_=>rfl) rfl)
theorem evC_det {fu:Nat} {cl:Bool→Nat→Hk D} (hcl:ClDet (cl false)):∀ (c:C) {e:E} {σ:H D} {fn:E→H D→κ→R} {fx:Nat→E→H D→κ→R} {fr:E→H D→κ→R},(∀ e' σ',Ext σ σ'→Det p (fn e' σ'))→(∀ i e' σ',Ext σ σ'→Det p (fx i e' σ'))→(∀ e' σ',Ext σ σ'→Det p (fr e' σ')) →
  Det p (λk=>evC P fu cl c false e σ (λe σ=>fn e σ k) (λi e σ=>fx i e σ k) (λe σ=>fr e σ k))
 | .skip,e,σ,fn,fx,fr,hn,hx,hr=>hn _ _ (.refl _)
 | .reg n l kp,e,σ,fn,fx,fr,hn,hx,hr=>by
  cases n with
  | zero=>exact evL_det hcl (f:=λL σ k=>keepE L kp e λe=>fn e σ k) λL' σ' hσ=>keepE_det (f:=λe k=>fn e σ' k) λe' _=>hn e' σ' hσ
  | succ n=>exact room_det (n:=n + 1) (f:=λvs σ k=>evL P (cl false) false vs e l [] σ λL σ=>keepE L kp e λe=>fn e σ k) λvs σ1 h1=>evL_det hcl (f:=λL σ k=>keepE L kp e λe=>fn e σ k) λL' σ' hσ=>keepE_det (f:=λe k=>fn e σ' k) λe' _=>hn e' σ' (h1.trans hσ)
 | .draw n l q,e,σ,fn,fx,fr,hn,hx,hr=>by
  cases n with
  | zero=>exact evDraw_det hcl hn
  | succ n=>exact room_det (n:=n + 1) (f:=λvs σ k=>evDraw P cl false vs l q e σ λe σ=>fn e σ k) λvs σ1 h1=>evDraw_det hcl λe' σ' hσ=>hn e' σ' (h1.trans hσ)
 | .seq a b,e,σ,fn,fx,fr,hn,hx,hr=>evC_det hcl a (fn:=λe σ k=>evC P fu cl b false e σ (λe σ=>fn e σ k) (λi e σ=>fx i e σ k) (λe σ=>fr e σ k)) (λe1 σ1 h1=>evC_det hcl b (λe' σ' h=>hn e' σ' (h1.trans h)) (λi e' σ' h=>hx i e' σ' (h1.trans h)) (λe' σ' h=>hr e' σ' (h1.trans h))) hx hr
 | .cond c a b,e,σ,fn,fx,fr,hn,hx,hr=>dGetO (f:=λc k=>c.onB (λc=>iff' c (evC P fu cl a false e σ (λe σ=>fn e σ k) (λi e σ=>fx i e σ k) (λe σ=>fr e σ k)) (evC P fu cl b false e σ (λe σ=>fn e σ k) (λi e σ=>fx i e σ k) (λe σ=>fr e σ k))) 140) λc _=>Det.onB λc=>Det.iff (λ_=>evC_det hcl a hn hx hr) λ_=>evC_det hcl b hn hx hr
 | .block id b,e,σ,fn,fx,fr,hn,hx,hr=>evC_det hcl b (fx:=λi e σ k=>iff' (Nat.beq i id) (fn e σ k) (fx i e σ k)) hn (λi e' σ' h=>Det.iff (λ_=>hn e' σ' h) λ_=>hx i e' σ' h) hr
 | .mrg id ds b,e,σ,fn,fx,fr,hn,hx,hr=>evC_det hcl b (fn:=λ_ _ _=>R.no 142) (fx:=λi e1 σ1 k=>iff' (Nat.beq i id) (delE ds e λe=>fn e σ1 k) (R.no 143)) (fr:=λ_ _ _=>R.no 145) (λ_ _ _=>Det.no) (λi e' σ' h=>Det.iff (λ_=>delE_det (f:=λe k=>fn e σ' k) λe2=>hn e2 σ' h) λ_=>Det.no) (λ_ _ _=>Det.no)
 | .loop b,e,σ,fn,fx,fr,hn,hx,hr=>by
  have:∀ n e1 σ1,Ext σ σ1→Det p (λk=>loopR n (λr e σ=>evC P fu cl b false e σ r (λi e σ=>fx i e σ k) (λe σ=>fr e σ k)) e1 σ1):=by
   intro n
   induction n with
   | zero=>intro e1 σ1 h1;exact Det.no
   | succ n ih=>intro e1 σ1 h1;exact evC_det hcl b (fn:=λe σ k=>loopR n (λr e σ=>evC P fu cl b false e σ r (λi e σ=>fx i e σ k) (λe σ=>fr e σ k)) e σ) (λe' σ' h=>ih e' σ' (h1.trans h)) (λi e' σ' h=>hx i e' σ' (h1.trans h)) (λe' σ' h=>hr e' σ' (h1.trans h))
  exact this fu e σ (.refl _)
 | .exit id,e,σ,fn,fx,fr,hn,hx,hr=>hx _ _ _ (.refl _)
 | .ret,e,σ,fn,fx,fr,hn,hx,hr=>hr _ _ (.refl _)
 | .bad n,e,σ,fn,fx,fr,hn,hx,hr=>Det.no
theorem resL_det:∀ {rs:List RV} {f:List V→κ→R},(∀ vs,Det p (f vs))→Det p (λk=>resL e σ rs (λvs=>f vs k))
 | [],f,h=>h []
 | r::l,f,h=>by
  have key:∀ v,Det p (λk=>resL e σ l λvs=>f (v::vs) k):=λv=>resL_det λvs=>h (v::vs)
  show Det p (λk=>resV r e σ λv=>resL e σ l λvs=>f (v::vs) k)
  cases r with
  | tmp q=>exact Det.orE (f:=λv k=>resL e σ l λvs=>f (v::vs) k) λv _=>key v
  | cell q n agg =>
   cases agg
   ·exact Det.orE (o:=e.getp q) (n:=151) (f:=λx k=>vLd x σ λv=>resL e σ l λvs=>f (v::vs) k) λx _=>dLd (f:=λv k=>resL e σ l λvs=>f (v::vs) k) key
   ·exact Det.orE (o:=e.getp q) (n:=151) (f:=λx k=>vLdA n x σ λv=>resL e σ l λvs=>f (v::vs) k) λx _=>dLdA (f:=λv k=>resL e σ l λvs=>f (v::vs) k) key
  | bad=>exact Det.no
theorem evRet_det {rs:List RV} {f:V→H D→κ→R} (h:∀ u,Det p (f u σ)):Det p (λk=>evRet rs (λu σ=>f u σ k) e σ):=by
 unfold evRet
 refine resL_det (f:=λvs k=>match vs with | [v]=>f v σ k | vs=>f (.t vs) σ k) λvs=>?_
 split
 ·exact h _
 ·exact h _
theorem argE_det {np:Nat} {l:List V} {f:E→κ→R} (h:∀ e,Det p (f e)):Det p (λk=>argE np l (λe=>f e k)):=by
 have key:∀ (l:List V) (i:Nat) (e:E),Det p (λk=>(List.rec (motive:=λ_=>Nat→E→(E→R)→R) (λ_ e k=>k e) (λv _ ih i e k=>Tr.putp v (digs 20 i) e λe=>ih (Nat.succ i) e k) l:Nat→E→(E→R)→R) i e (λe=>f e k)):=by
  intro l
  induction l with
  | nil=>intro i e;exact h e
  | cons v l ih =>
   intro i e
   obtain⟨e',he⟩:=putp_ret (x:=v) (digs 20 i) e
   have:=ih (Nat.succ i) e'
   refine cast (congrArg (Det p) (funext λk=>?_)) this
   exact (he (λe=>(List.rec (motive:=λ_=>Nat→E→(E→R)→R) (λ_ e k=>k e) (λv _ ih i e k=>Tr.putp v (digs 20 i) e λe=>ih (Nat.succ i) e k) l:Nat→E→(E→R)→R) (Nat.succ i) e (λe=>f e k))).symm
 exact Det.iff (λ_=>key l 0 .e) λ_=>Det.no
structure FxDet (h:Fx D):Prop where
 det:∀ (fu:Nat) (cl:Bool→Nat→Hk D),ClDet (cl false)→∀ (κ:Type) (p:(κ→R)→Prop) (l:List V) (σ:H D) (f:V→H D→κ→R),(∀ u σ',Ext σ σ'→Det p (f u σ'))→Det p (λk=>h fu cl false l σ (λu σ=>f u σ k))
theorem evFn_det {A:Nat→Adv} {F:Nat}:FxDet (evFn (D:=D) P A F):=⟨λfu cl hcl κ p l σ f h=>by
 unfold evFn
 cases fnC P A F with
 | none=>exact Det.no
 | mk np c rs =>
  refine argE_det (f:=λe k=>evC P fu cl c false e σ (evRet rs λu σ=>f u σ k) (λ_=>noK 161) (evRet rs λu σ=>f u σ k)) λe=>?_
  have hr:∀ e' σ',Ext σ σ'→Det p (λk=>evRet rs (λu σ=>f u σ k) e' σ'):=λe' σ' hσ=>evRet_det λu=>h u σ' hσ
  exact evC_det hcl c (fn:=λe σ k=>evRet rs (λu σ=>f u σ k) e σ) (fx:=λ_ _ _ _=>R.no 161) (fr:=λe σ k=>evRet rs (λu σ=>f u σ k) e σ) hr (λ_ _ _ _=>Det.no) hr⟩
theorem evF_det {T:Tr (Fx D)} {fu:Nat} (hT:∀ q h,T.getp q=some h→FxDet h):∀ fuel,ClDet (evF T fu fuel false)
 | 0=>λ_ _ _ _ _ _ _=>Det.no
 | fuel + 1=>λκ p F l σ f h=>Det.iff (λ_=>Det.orE (f:=λh k=>h fu (evF T fu fuel) false l σ (λu σ=>f u σ k)) λg hg=>(hT _ g hg).det fu _ (evF_det hT fuel) κ p l σ f h) λ_=>Det.no
end
theorem both_and {a b:Bool} (h:both a b=true):a=true∧b=true:=both_ok.1 h
theorem seq2_ok:∀ {a b:List Nat},seq'' a b=true→a=b
 | [],[],_=>rfl
 | [],_::_,h=>by cases h
 | _::_,[],h=>by cases h
 | a::l,b::m,h=>by
  simp only [seq''] at h
  split at h <;> try (cases h;done)
  rename_i hb
  rw [kB hb,seq2_ok h]
theorem cpEq_ok {a b:Cp} (h:cpEq a b=true):a=b:=by
 cases a <;> cases b <;> first | (rw [kB (show Nat.beq _ _=true from h)]) | cases h
mutual
theorem vEq_ok:∀ (x y:V),vEq x y=true→x=y
 | .b x,y,h=>by
  cases y <;> simp only [vEq] at h <;> try (cases h;done)
  rw [beq_iff_eq.1 h]
 | .i k a,y,h=>by
  cases y <;> simp only [vEq] at h <;> try (cases h;done)
  split at h <;> try (cases h;done)
  rename_i hk
  rw [ieq_eq] at h
  rw [kIx_eq hk,beq_iff_eq.1 h]
 | .s a,y,h=>by
  cases y <;> simp only [vEq] at h <;> try (cases h;done)
  rw [seq2_ok h]
 | .p v o,y,h=>by
  cases y <;> simp only [vEq] at h <;> try (cases h;done)
  split at h <;> try (cases h;done)
  rename_i hv
  rw [vidEq_ok.1 hv,kB h]
 | .np,y,h=>by cases y <;> simp only [vEq] at h <;> first | rfl | (cases h;done)
 | .sl v o n c,y,h=>by
  cases y <;> simp only [vEq] at h <;> try (cases h;done)
  split at h <;> try (cases h;done)
  rename_i h1 h2 h3 h4
  rw [vidEq_ok.1 h1,kB h2,kB h3,cpEq_ok h4]
 | .se v o r q s,y,h=>by
  cases y <;> simp only [vEq] at h <;> try (cases h;done)
  split at h <;> try (cases h;done)
  rename_i h1 h2 h3 h4 h5
  rw [vidEq_ok.1 h1,kB h2,kB h3,kB h4,kB h5]
 | .ns,y,h=>by cases y <;> simp only [vEq] at h <;> first | rfl | (cases h;done)
 | .m v,y,h=>by
  cases y <;> simp only [vEq] at h <;> try (cases h;done)
  rw [vidEq_ok.1 h]
 | .nm,y,h=>by cases y <;> simp only [vEq] at h <;> first | rfl | (cases h;done)
 | .f F a c,y,h=>by
  cases y <;> simp only [vEq] at h <;> try (cases h;done)
  split at h <;> try (cases h;done)
  rename_i h1 h2 h3
  rw [kB h1,vEqs_ok _ _ h2,vEqs_ok _ _ h3]
 | .nf,y,h=>by cases y <;> simp only [vEq] at h <;> first | rfl | (cases h;done)
 | .q t x,y,h=>by
  cases y <;> simp only [vEq] at h <;> try (cases h;done)
  split at h <;> try (cases h;done)
  rename_i h1
  rw [kB h1,vEq_ok _ _ h]
 | .nq,y,h=>by cases y <;> simp only [vEq] at h <;> first | rfl | (cases h;done)
 | .a l,y,h=>by
  cases y <;> simp only [vEq] at h <;> try (cases h;done)
  rw [vEqs_ok _ _ h]
 | .t l,y,h=>by
  cases y <;> simp only [vEq] at h <;> try (cases h;done)
  rw [vEqs_ok _ _ h]
theorem vEqs_ok:∀ (x y:List V),vEqs x y=true→x=y
 | [],y,h=>by cases y <;> simp only [vEqs] at h <;> first | rfl | (cases h;done)
 | x::l,y,h=>by
  cases y <;> simp only [vEqs] at h <;> try (cases h;done)
  split at h <;> try (cases h;done)
  rename_i h1
  rw [vEq_ok _ _ h1,vEqs_ok _ _ h]
end
theorem oEq_ok {x y:Option V} (h:oEq x y=true):x=y:=by
 cases x <;> cases y <;> first | rfl | (cases (show false=true from h);done) | (rw [vEq_ok _ _ (show vEq _ _=true from h)])
theorem trEq_ok:∀ (c c':Tr V),trEq c c'=true→c=c'
 | .e,.e,_=>rfl
 | .e,.n ..,h=>by cases (show false=true from h)
 | .n ..,.e,h=>by cases (show false=true from h)
 | .n v a b c d,.n v' a' b' c' d',h=>by
  obtain⟨h1,h⟩:=both_and (show both (oEq v v') (both (trEq a a') (both (trEq b b') (both (trEq c c') (trEq d d'))))=true from h)
  obtain⟨h2,h⟩:=both_and h
  obtain⟨h3,h⟩:=both_and h
  obtain⟨h4,h5⟩:=both_and h
  rw [oEq_ok h1,trEq_ok _ _ h2,trEq_ok _ _ h3,trEq_ok _ _ h4,trEq_ok _ _ h5]
theorem kpSame_ok {x y:KP} (h:kpSame x y=true):x=y:=by
 cases x <;> cases y <;> first | rfl | (rw [kIx_eq (show Nat.beq (kIx _) (kIx _)=true from h)]) | cases h
theorem kpsSame_ok:∀ {x y:List KP},kpsSame x y=true→x=y
 | [],[],_=>rfl
 | [],_::_,h=>by cases h
 | _::_,[],h=>by cases h
 | x::l,y::m,h=>by
  simp only [kpsSame] at h
  split at h <;> try (cases h;done)
  rename_i hb
  rw [kpSame_ok hb,kpsSame_ok h]
theorem ksSame_ok {x y:KS} (h:ksSame x y=true):x=y:=by
 cases x <;> cases y <;> first | (rw [kpSame_ok (show kpSame _ _=true from h)]) | (rw [kpsSame_ok (show kpsSame _ _=true from h)]) | cases h
theorem memKV_ok {x y:V}:∀ {m:List (V × V)},memKV x y m=true→(x,y)∈m
 | [],h=>by cases (show false=true from h)
 | q::m,h=>by
  have h':Bool.rec (motive:=λ_=>Bool) (memKV x y m) (vEq y q.2) (vEq x q.1)=true:=h
  cases h1:vEq x q.1 with
  | false=>rw [h1] at h';exact List.mem_cons_of_mem _ (memKV_ok h')
  | true =>
   rw [h1] at h'
   have e1:=vEq_ok _ _ h1
   have e2:=vEq_ok _ _ (show vEq y q.2=true from h')
   subst e1 e2
   simp
theorem esEq_ok:∀ {l m:List (V × V)},esEq l m=true→∀ p∈l,p∈m
 | [],m,_,p,hp=>by cases hp
 | q::l,m,h,p,hp=>by
  obtain⟨h1,h2⟩:=both_and (show both (memKV q.1 q.2 m) (esEq l m)=true from h)
  cases hp with
  | head=>exact memKV_ok h1
  | tail _ hp=>exact esEq_ok h2 p hp
section
variable {D:Type}
def BSame (b b':Blk D):Prop:=b=b'∨∃ kT ks es es' ver,b=.map kT ks es ver∧b'=.map kT ks es' ver∧es.length=es'.length∧(∀ p∈es,p∈es')∧∀ p∈es',p∈es
def OSame:Option (Blk D)→Option (Blk D)→Prop
 | none,none=>True
 | some b,some b'=>BSame b b'
 | _,_=>False
theorem OSame.refl (x:Option (Blk D)):OSame x x:=by cases x;trivial;exact .inl rfl
theorem OSame.of_eq {x y:Option (Blk D)} (h:x=y):OSame x y:=h ▸ OSame.refl x
theorem blkEq_ok {b b':Blk D} (h:blkEq b b'=true):BSame b b':=by
 cases b <;> cases b' <;> simp only [blkEq] at h <;> try (cases h;done)
 ·obtain⟨h1,h⟩:=both_and h
  obtain⟨h2,h⟩:=both_and h
  obtain⟨h3,h⟩:=both_and h
  obtain⟨h4,h5⟩:=both_and h
  rw [beq_iff_eq.1 h1,kB h2,kB h3,kB h4,trEq_ok _ _ h5]
  exact .inl rfl
 ·obtain⟨h1,h⟩:=both_and h
  obtain⟨h2,h⟩:=both_and h
  obtain⟨h3,h⟩:=both_and h
  obtain⟨h4,h⟩:=both_and h
  obtain⟨h5,h6⟩:=both_and h
  rw [kB h1,ksSame_ok h2,kB h3]
  exact .inr ⟨_,_,_,_,_,rfl,rfl,kB h4,esEq_ok h5,esEq_ok h6⟩
 ·exact .inl rfl
theorem logEq_ok {h h':Tr (Blk D)}:∀ {l:List Vid},logEq l h h'=true→∀ v∈l,OSame (h.getp v) (h'.getp v)
 | [],_,v,hv=>by cases hv
 | u::l,hl,v,hv=>by
  have h1:Option.rec (motive:=λ_=>Bool) false (λb=>Option.rec (motive:=λ_=>Bool) false (λb'=>both (blkEq b b') (logEq l h h')) (h'.getp u)) (h.getp u)=true:=hl
  cases e1:h.getp u with
  | none=>rw [e1] at h1;cases h1
  | some b =>
   cases e2:h'.getp u with
   | none=>rw [e1,e2] at h1;cases h1
   | some b' =>
    rw [e1,e2] at h1
    obtain⟨h3,h4⟩:=both_and (show both (blkEq b b') (logEq l h h')=true from h1)
    cases hv with
    | head=>rw [e1,e2];exact blkEq_ok h3
    | tail _ hv=>exact logEq_ok h4 v hv
theorem hEq_ok {σ0 σ σ':H D} (h:hEq σ σ'=true) (h1:Ext σ0 σ) (h2:Ext σ0 σ') (h0:σ0.log=[]):∀ v,OSame (σ.look v) (σ'.look v):=by
 obtain⟨l1,e1,f1⟩:=h1
 obtain⟨l2,e2,f2⟩:=h2
 intro v
 cases σ with
 | mk t nx lg =>
 cases σ' with
 | mk t' nx' lg' =>
 obtain⟨_,h⟩:=both_and (show both (vidEq nx nx') (both (logEq lg t t') (logEq lg' t t'))=true from h)
 obtain⟨h3,h4⟩:=both_and h
 have e1':lg=l1:=by have:lg=l1++σ0.log:=e1;rw [this,h0];simp
 have e2':lg'=l2:=by have:lg'=l2++σ0.log:=e2;rw [this,h0];simp
 subst e1' e2'
 by_cases m1:v∈lg
 ·exact logEq_ok h3 v m1
 ·by_cases m2:v∈lg'
  ·exact logEq_ok h4 v m2
  ·exact OSame.of_eq ((f1 v m1).trans (f2 v m2).symm)
theorem eEq_ok {e e':E}:∀ {ds:List Vid},eEq ds e e'=true→∀ q∈ds,e.getp q=e'.getp q
 | [],_,q,hq=>by cases hq
 | d::ds,h,q,hq=>by
  have h1:Option.rec (motive:=λ_=>Bool) false (λu=>Option.rec (motive:=λ_=>Bool) false (λu'=>both (vEq u u') (eEq ds e e')) (e'.getp d)) (e.getp d)=true:=h
  cases e1:e.getp d with
  | none=>rw [e1] at h1;cases h1
  | some u =>
   cases e2:e'.getp d with
   | none=>rw [e1,e2] at h1;cases h1
   | some u' =>
    rw [e1,e2] at h1
    obtain⟨h3,h4⟩:=both_and (show both (vEq u u') (eEq ds e e')=true from h1)
    cases hq with
    | head=>rw [e1,e2,vEq_ok _ _ h3]
    | tail _ hq=>exact eEq_ok h4 q hq
theorem perm_of {α:Type}:∀ {l m:List α},l.Nodup→(∀ p∈l,p∈m)→m.length=l.length→l.Perm m
 | [],m,_,_,h=>by
  have:m=[]:=List.eq_nil_of_length_eq_zero (by simpa using h)
  subst this;exact .refl _
 | a::l,m,hn,hs,h=>by
  obtain⟨l1,l2,rfl⟩:=List.append_of_mem (hs a (by simp))
  obtain⟨h1,h2⟩:=List.nodup_cons.1 hn
  have:=perm_of (l:=l) (m:=l1++l2) h2 (λp hp=>by
   have:=hs p (by simp [hp])
   rcases List.mem_append.1 this with h | h
   ·simp [h]
   ·rcases List.mem_cons.1 h with rfl | h
    ·exact absurd hp h1
    ·simp [h]) (by simp at h ⊢;omega)
  exact (List.Perm.cons a this).trans List.perm_middle.symm
variable {P:Program} {Hd:D→Loc→View→Prop} {w0:World} {φ:Phi} {σ σ':H D} {w:World}
theorem MapAt'.perm {ks:KS} {arr:Array MapEntry} {clock:Nat} {es es':List (V × V)} (h:MapAt' φ ks arr clock es) (hl:es.length=es'.length) (h1:∀ p∈es,p∈es') (h2:∀ p∈es',p∈es):MapAt' φ ks arr clock es':=by
 refine⟨h.st,h.size.trans hl,λp hp=>h.shape p (h2 p hp),λe he=>let ⟨p,hp,a⟩:=h.to_ e he;⟨p,h1 p hp,a⟩,λp hp=>h.of p (h2 p hp),?_⟩
 have hnd:es.Nodup:=h.nd.imp_of_mem λ{p q} hp hq hpq e=>by
  subst e
  obtain⟨e,_,b,_⟩:=h.of p hp
  exact hpq _ b b
 exact ((perm_of hnd h1 hl.symm).pairwise_iff (λ{p q} hpq a ha hb=>hpq a hb ha)).1 h.nd
theorem Rel.perm (h:Rel P Hd w0 φ σ w) (hs:∀ v,OSame (σ.look v) (σ'.look v)):Rel P Hd w0 φ σ' w:=by
 have back:∀ {v b'},σ'.look v=some b'→∃ b,σ.look v=some b∧BSame b b':=by
  intro v b' hv
  have:=hs v
  rw [hv] at this
  cases hb:σ.look v with
  | none=>rw [hb] at this;exact this.elim
  | some b=>rw [hb] at this;exact⟨b,rfl,this⟩
 have live:∀ {b b':Blk D},BSame b b'→Live b'→Live b:=by
  rintro b b' (rfl | ⟨_,_,_,_,_,rfl,rfl,_⟩) h
  ·exact h
  ·trivial
 refine⟨h.keeps,λv hv=>h.gone v ?_,λv b' hv hd=>?_,λv v' b b' L L' h1 h2 h3 h4 h5 h6 h7=>?_⟩
 ·have:=hs v
  rw [hv] at this
  cases hb:σ.look v with
  | none=>rfl
  | some b=>rw [hb] at this;exact this.elim
 ·obtain⟨b,hb,hS⟩:=back hv
  rcases hS with rfl | ⟨kT,ks,es,es',ver,rfl,rfl,hl,g1,g2⟩
  ·obtain⟨L,hL,hB⟩:=h.blk v b hb hd
   refine⟨L,hL,?_⟩
   cases b with
   | cells=>exact hB
   | map=>exact hB
   | iter m vr la re =>
    obtain⟨a1,a2,Lm,since,seen,st,a3,a4,kT,ks,es,ver',a5,a6,a7⟩:=hB
    have:=hs m
    rw [a5] at this
    cases hm:σ'.look m with
    | none=>rw [hm] at this;exact this.elim
    | some bm =>
     rw [hm] at this
     rcases this with rfl | ⟨kT',ks',es1,es',ver1,e1,rfl,_⟩
     ·exact⟨a1,a2,Lm,since,seen,st,a3,a4,kT,ks,es,ver',hm,a6,a7⟩
     ·cases e1;exact⟨a1,a2,Lm,since,seen,st,a3,a4,kT,ks,es',ver',hm,a6,a7⟩
   | opq d =>
    obtain⟨Hv,b1,b2,b3⟩:=hB
    refine⟨Hv,b1,b2,λi ob hi v' b' L' c1 c2 c3=>?_⟩
    obtain⟨b0,d1,d2⟩:=back c1
    exact b3 i ob hi v' b0 L' d1 (live d2 c2) c3
   | dead=>exact absurd rfl hd
  ·obtain⟨L,hL,a1,a2,arr,clock,a3,a4⟩:=h.blk v _ hb (by simp)
   exact⟨L,hL,a1,a2,arr,clock,a3,a4.perm hl g1 g2⟩
 ·obtain⟨c,d1,d2⟩:=back h1
  obtain⟨c',d3,d4⟩:=back h3
  exact h.inj v v' c c' L L' d1 (live d2 h2) d3 (live d4 h4) h5 h6 h7
end
theorem path_inj {s t:Nat} (hs:s < 4000) (ht:t < 4000) (h:path s=path t):s=t:=digs_inj 20 s t (by omega) (by omega) h
theorem memN_iff {t:Nat}:∀ {l:List Nat},memN t l=true↔t∈l
 | []=>by simp [memN]
 | s::l=>by
  simp only [memN]
  cases hb:Nat.beq s t with
  | true=>have:=kB hb;subst this;simp
  | false =>
   have hne:s≠t:=λe=>by subst e;simp at hb
   simp only [memN_iff (l:=l),List.mem_cons]
   exact⟨.inr,λh=>h.resolve_left λe=>hne e.symm⟩
theorem idxOf_shift (t:Nat):∀ (l:List (Option Nat)) (n:Nat),idxOf t l n=(idxOf t l 0).map (· + n)
 | [],n=>rfl
 | none::l,n=>by
  simp only [idxOf]
  rw [idxOf_shift t l (n + 1),idxOf_shift t l 1]
  cases idxOf t l 0 <;> simp;omega
 | some s::l,n=>by
  simp only [idxOf]
  cases hb:Nat.beq s t with
  | true=>simp
  | false =>
   simp only
   rw [idxOf_shift t l (n + 1),idxOf_shift t l 1]
   cases idxOf t l 0 <;> simp;omega
structure Fr (n:Nat) (K:List Nat) (φ:Phi) (loc:List (Option Nat)) (L:Lc) (e:E) (a:Act):Prop where
 size:a.tmps.size=n
 defers:a.defers=[]
 tmp:∀ t k u,idxOf t loc 0=some k→nth k L=some u→dec φ u=some (a.tmps.getD t undef)
 env:∀ t u,t < 4000→idxOf t loc 0=none→e.getp (path t)=some u→dec φ u=some (a.tmps.getD t undef)
 eK:∀ t,t < 4000→(e.getp (path t)).isSome=true→memN t K=true
section
variable {n:Nat} {K:List Nat} {φ φ':Phi} {loc:List (Option Nat)} {L:Lc} {e:E} {a:Act}
theorem Fr.mono (h:Fr n K φ loc L e a) (hle:φ.le φ'):Fr n K φ' loc L e a :=
 ⟨h.size,h.defers,λt k u h1 h2=>dec_mono hle _ _ (h.tmp t k u h1 h2),λt u h1 h2 h3=>dec_mono hle _ _ (h.env t u h1 h2 h3),h.eK⟩
theorem Fr.cx (h:Fr n K φ loc L e a):Cx φ loc L e a.eval:=by
 refine⟨λt u hu=>?_,λ_=>rfl,λ_=>rfl⟩
 unfold tmpO at hu
 cases hi:idxOf t loc 0 with
 | some k=>rw [hi] at hu;exact h.tmp t k u hi hu
 | none =>
  rw [hi] at hu
  simp only at hu
  cases hb:Nat.blt t 4000 with
  | false=>rw [hb] at hu;cases hu
  | true=>rw [hb] at hu;exact h.env t u (by simpa using hb) hi hu
theorem Fr.push (h:Fr n K φ loc L e a) {o:Oper} (hd:∀ t,o.dst=some t→t < n) {v:V} {y:Value} (hv:dec φ v=some y):Fr n K φ (cons o loc) (push (match o.dst with | some _=>true | none=>false) v L) e (a.put o.dst y):=by
 unfold cons
 cases ho:o.dst with
 | none=>exact h
 | some d =>
  have hdn:=hd d ho
  show Fr n K φ (some d::loc) (v::L) e (a.put (some d) y)
  have hs:=h.size
  have hset:(a.put (some d) y).tmps.getD d undef=y:=by simp [Act.put,Array.getD_eq_getD_getElem?,hs,hdn]
  refine⟨by simp [Act.put,h.size],by simp [Act.put,h.defers],λt k u h1 h2=>?_,λt u h1 h2 h3=>?_,h.eK⟩
  ·simp only [idxOf] at h1
   cases hb:Nat.beq d t with
   | true =>
    have:=kB hb
    subst this
    rw [hb] at h1;cases h1
    simp [nth_eq] at h2
    subst h2
    rw [hset];exact hv
   | false =>
    have hne:t≠d:=λe=>by subst e;simp at hb
    rw [hb] at h1
    simp only at h1
    rw [idxOf_shift] at h1
    obtain⟨k',h4,rfl⟩:=kE h1
    rw [getD_put hne]
    exact h.tmp t k' u h4 h2
  ·simp only [idxOf] at h2
   cases hb:Nat.beq d t with
   | true=>rw [hb] at h2;cases h2
   | false =>
    have hne:t≠d:=λe=>by subst e;simp at hb
    rw [hb] at h2
    simp only at h2
    rw [idxOf_shift] at h2
    rw [getD_put hne]
    exact h.env t u h1 (by simpa using h2) h3
theorem keepL_mem {K:List Nat} {t:Nat}:∀ {l acc:List Nat},t∈keepL K l acc↔t∈acc∨(t∈l∧memN t K=true)
 | [],acc=>by simp [keepL]
 | s::l,acc=>by
  unfold keepL
  split
  ·rename_i h1 h2
   rw [keepL_mem]
   constructor
   ·rintro (h | ⟨h,h'⟩)
    ·rcases List.mem_cons.1 h with rfl | h
     ·exact .inr ⟨by simp,h1⟩
     ·exact .inl h
    ·exact .inr ⟨by simp [h],h'⟩
   ·rintro (h | ⟨h,h'⟩)
    ·exact .inl (by simp [h])
    ·rcases List.mem_cons.1 h with rfl | h
     ·exact .inl (by simp)
     ·exact .inr ⟨h,h'⟩
  ·rename_i h1
   rw [keepL_mem]
   constructor
   ·rintro (h | ⟨h,h'⟩)
    ·exact .inl h
    ·exact .inr ⟨by simp [h],h'⟩
   ·rintro (h | ⟨h,h'⟩)
    ·exact .inl h
    ·rcases List.mem_cons.1 h with rfl | h
     ·cases h2:memN t acc with
      | true=>exact .inl (memN_iff.1 h2)
      | false=>exact (h1 h' h2).elim
     ·exact .inr ⟨h,h'⟩
theorem keepE_ok:∀ {ts:List Nat} {e:E} {k:E→R},Fr n K φ loc L e a→(∀ t∈ts,t < 4000∧memN t K=true)→keepE L (keepOf loc ts) e k=.ok →
  ∃ e',k e'=.ok∧Fr n K φ loc L e' a∧(∀ t∈ts,∀ u,e'.getp (path t)=some u→dec φ u=some (a.tmps.getD t undef))∧∀ q,q ∉ ts.map path→e'.getp q=e.getp q
 | [],e,k,hF,_,h=>⟨e,h,hF,by simp,λ_ _=>rfl⟩
 | s::ts,e,k,hF,hts,h=>by
  obtain⟨hs,hsK⟩:=hts s (by simp)
  obtain⟨v,h1,h2⟩:=getO_ok (show getO (tmpO loc s) L e (λv=>Tr.putp v (path s) e λe=>keepE L (keepOf loc ts) e k)=.ok from h)
  have hv:dec φ v=some (a.tmps.getD s undef):=hF.cx.tmp s v h1
  obtain⟨e1,h3,h4⟩:=putp_ok h2
  have hF1:Fr n K φ loc L e1 a:=by
   refine⟨hF.size,hF.defers,hF.tmp,λt u ht hi hu=>?_,λt ht hu=>?_⟩
   ·rw [h3] at hu
    by_cases e0:path t=path s
    ·rw [if_pos e0] at hu;cases hu
     have:=path_inj ht hs e0
     subst this;exact hv
    ·rw [if_neg e0] at hu;exact hF.env t u ht hi hu
   ·rw [h3] at hu
    by_cases e0:path t=path s
    ·have:=path_inj ht hs e0
     subst this;exact hsK
    ·rw [if_neg e0] at hu;exact hF.eK t ht hu
  obtain⟨e2,g1,g2,g3,g4⟩:=keepE_ok hF1 (λt ht=>hts t (by simp [ht])) h4
  have g4':∀ t,t < 4000→t ∉ ts→e2.getp (path t)=e1.getp (path t):=λt ht hm=>g4 _ (by
   intro hh
   obtain⟨s',hs',he⟩:=List.mem_map.1 hh
   have:=path_inj (hts s' (by simp [hs'])).1 ht he
   subst this;exact hm hs')
  refine⟨e2,g1,g2,λt ht u hu=>?_,λq hq=>?_⟩
  ·by_cases hm:t∈ts
   ·exact g3 t hm u hu
   ·have:t=s:=by rcases List.mem_cons.1 ht with h | h;exact h;exact absurd h hm
    subst this
    rw [g4' t hs hm,h3,if_pos rfl] at hu
    cases hu;exact hv
  ·rw [List.map_cons,List.mem_cons,not_or] at hq
   rw [g4 q hq.2,h3,if_neg hq.1]
theorem Fr.close {all:List Nat} {k:E→R} (h:Fr n K φ loc L e a) (hn:n < 4000) (hb:bltAll n all=true) (hl:∀ t j,idxOf t loc 0=some j→t∈all) (hk:keepE L (keepOf loc (keepL K all [])) e k=.ok) :
  ∃ e',k e'=.ok∧Fr n K φ [] [] e' a∧∀ q,q ∉ (keepL K all []).map path→e'.getp q=e.getp q:=by
 have hlt:∀ t∈all,t < n:=by
  have:∀ l:List Nat,bltAll n l=true→∀ t∈l,t < n:=by
   intro l
   induction l with
   | nil=>intro _ t ht;cases ht
   | cons s l ih =>
    intro hb t ht
    obtain⟨h1,h2⟩:=bltAll_cons hb
    rcases List.mem_cons.1 ht with rfl | ht
    ·exact h1
    ·exact ih h2 t ht
  exact this all hb
 obtain⟨e',h1,h2,h3,h4⟩:=keepE_ok h (λt ht=>by
  rcases keepL_mem.1 ht with h | ⟨h,h'⟩
  ·cases h
  ·exact⟨Nat.lt_trans (hlt t h) hn,h'⟩) hk
 refine⟨e',h1,⟨h.size,h.defers,λt k u hi=>(by cases hi),λt u ht _ hu=>?_,h2.eK⟩,h4⟩
 by_cases hm:t∈keepL K all []
 ·exact h3 t hm u hu
 ·have hK:=h2.eK t ht (by rw [hu];rfl)
  cases hi:idxOf t loc 0 with
  | none=>exact h2.env t u ht hi hu
  | some j=>exact absurd (keepL_mem.2 (.inr ⟨hl t j hi,hK⟩)) hm
theorem Fr.congr {e':E} (h:Fr n K φ loc L e a) (he:∀ q,e'.getp q=e.getp q):Fr n K φ loc L e' a :=
 ⟨h.size,h.defers,h.tmp,λt u h1 h2 h3=>h.env t u h1 h2 (by rw [← he];exact h3),λt h1 h2=>h.eK t h1 (by rw [← he];exact h2)⟩
end
section
variable {D:Type} {P:Program} {Hd:D→Loc→View→Prop} {w0:World} {w:World} {φ:Phi} {loc:List (Option Nat)} {L:Lc} {e:E} {a:Act} {o:Oper} {σ:H D} {cl:Nat→Hk D} {v:Vid} {vs:List Vid} {n:Nat} {K:List Nat} {ops:Array Oper}
def Gd (g:Option (Opd × Bool)) (L:Lc) (e:E) (yes no:R):Prop:=match g with
 | none=>yes=.ok
 | some g=>guarded g L e yes no=.ok
theorem guard_ok {g:Option (Opd × Bool)} {j:Nat} {yes no:R} (hF:Fr n K φ loc L e a) (hg:(compS P ops loc o j).g=g) (h:Gd g L e yes no) :
  (Region.wanted o (yielded ops a.tmps)=true∧yes=.ok)∨(Region.wanted o (yielded ops a.tmps)=false∧no=.ok):=by
 have hg':(match o.guard with
   | none=>none
   | some (i,b)=>match (ops[i]?).bind (·.dst) with
    | some t=>some (tmpO loc t,b)
    | none=>some (.bad,b))=g:=hg
 cases hgd:o.guard with
 | none =>
  rw [hgd] at hg'
  subst hg'
  exact .inl ⟨by simp [Region.wanted,hgd],h⟩
 | some ib =>
  obtain⟨i,b⟩:=ib
  rw [hgd] at hg'
  simp only at hg'
  cases hd:(ops[i]?).bind (·.dst) with
  | none =>
   rw [hd] at hg'
   subst hg'
   obtain⟨u,h1,_⟩:=getO_ok (show getO Opd.bad L e _=.ok from h)
   cases h1
  | some t =>
   rw [hd] at hg'
   subst hg'
   have h3:guarded (tmpO loc t,b) L e yes no=.ok:=h
   obtain⟨u,h1,h2⟩:=getO_ok (show getO (tmpO loc t) L e _=.ok from h3)
   have hv:dec φ u=some (a.tmps.getD t undef):=hF.cx.tmp t u h1
   have hy:yielded ops a.tmps i=match a.tmps.getD t undef with | .bool c=>some c | _=>none:=by
    unfold yielded
    rw [hd]
    simp only [Option.bind_some]
    rw [Array.getD_eq_getD_getElem?]
    cases a.tmps[t]? with
    | none=>rfl
    | some x=>cases x <;> rfl
   rcases onG_ok h2 with⟨c,rfl,h3⟩ | ⟨l,rfl,h3⟩
   ·have:=dec_b hv
    rw [this] at hy
    simp only at hy
    have hw:Region.wanted o (yielded ops a.tmps)=(c==b):=by simp [Region.wanted,hgd,hy]
    rw [hw]
    cases b <;> cases c <;> first | exact .inl ⟨rfl,h3⟩ | exact .inr ⟨rfl,h3⟩
   ·obtain⟨m,_,e1⟩:=dec_t hv
    rw [e1] at hy
    simp only at hy
    exact .inr ⟨by simp [Region.wanted,hgd,hy],h3⟩
theorem evS_ok {j:Nat} {k:Lc→H D→R} (hcl:ClOK P Hd w0 cl) (hF:Fr n K φ loc L e a) (hr:Rel P Hd w0 φ σ w) (h:evS P cl true vs (compS P ops loc o j) L e σ k=.ok) :
  (Region.wanted o (yielded ops a.tmps)=true∧OpOK P Hd w0 φ σ w a.eval o (λv σ=>k (push (match o.dst with | some _=>true | none=>false) v L) σ)) ∨
  (Region.wanted o (yielded ops a.tmps)=false∧k (push (match o.dst with | some _=>true | none=>false) (.t []) L) σ=.ok):=by
 have h':Gd (compS P ops loc o j).g L e (evO P cl true (vAt j vs) (compOp P loc o) L e σ λv σ=>k (push (match o.dst with | some _=>true | none=>false) v L) σ) (k (push (match o.dst with | some _=>true | none=>false) (.t []) L) σ):=by
  unfold evS at h
  unfold Gd
  split at h
  ·rename_i hg;rw [hg];exact h
  ·rename_i g hg;rw [hg];exact h
 have h':=guard_ok hF rfl h'
 rcases h' with⟨h1,h2⟩ | h1
 ·exact .inl ⟨h1,evO_ok hcl hF.cx hr h2⟩
 ·exact .inr h1
theorem op_wp {next:Act→World→Prop} {Q:Exit→Act→World→Prop} {k:V→H D→R} (h:OpOK P Hd w0 φ σ w a.eval o k) (hk:∀ y w',Post P Hd w0 φ σ k y w'→next (a.put o.dst y) w'):o.wp P a w next Q:=by
 unfold Oper.wp
 exact upon_of_good (P:=P) h hk
theorem slots_cons (o:Oper) (l:List Oper) (j:Nat):∃ j',slots P (o::l) j=j::slots P l j':=by
 simp only [slots]
 cases fresh (compOp P [] o) with
 | true=>exact⟨j + 1,rfl⟩
 | false=>exact⟨j,rfl⟩
theorem idxOf_cons_mem {all:List Nat} (hl:∀ t j,idxOf t loc 0=some j→t∈all) (hd:∀ t,o.dst=some t→t∈all):∀ t j,idxOf t (cons o loc) 0=some j→t∈all:=by
 intro t j h
 unfold cons at h
 cases ho:o.dst with
 | none=>rw [ho] at h;exact hl t j h
 | some d =>
  rw [ho] at h
  simp only [idxOf] at h
  cases hb:Nat.beq d t with
  | true=>have:=kB hb;subst this;exact hd d ho
  | false =>
   rw [hb] at h
   simp only at h
   rw [idxOf_shift] at h
   obtain⟨k',h4,_⟩:=kE h
   exact hl t k' h4
theorem evL_ok {all:List Nat} {Q:Exit→Act→World→Prop} {a₀:Act} {φ₀:Phi} {σ₀:H D} {kk:E→H D→R} (hcl:ClOK P Hd w0 cl) (hn:n < 4000) (hb:bltAll n all=true)
  (hQ:∀ φ' e' σ' a' w',φ₀.le φ'→Fr n K φ' [] [] e' a'→Rel P Hd w0 φ' σ' w'→Ext σ₀ σ'→Same all a₀ a'→kk e' σ'=.ok→Q .normal a' w') :
  ∀ (l:List Oper) (j:Nat) (loc:List (Option Nat)) (L:Lc) (σ:H D) (φ:Phi) (a:Act) (w:World),(∀ t∈dsts l,t∈all)→Same all a₀ a→Fr n K φ loc L e a→(∀ t k,idxOf t loc 0=some k→t∈all)→Rel P Hd w0 φ σ w→Ext σ₀ σ→φ₀.le φ →
   evL P cl true vs e (compL P ops (keepL K all []) l (slots P l j) loc).1 L σ (λL σ=>keepE L (compL P ops (keepL K all []) l (slots P l j) loc).2 e λe=>kk e σ)=.ok→wpList P ops Q l a w
 | [],j,loc,L,σ,φ,a,w,hd,hS,hF,hl,hr,hx,hle,h=>by
  obtain⟨e',h1,h2,_⟩:=hF.close hn hb hl (show keepE L (keepOf loc (keepL K all [])) e (λe=>kk e σ)=.ok from h)
  exact hQ φ e' σ a w hle h2 hr hx hS h1
 | o::l,j,loc,L,σ,φ,a,w,hd,hS,hF,hl,hr,hx,hle,h=>by
  obtain⟨j',hj⟩:=slots_cons (P:=P) o l j
  rw [hj] at h
  have h':evS P cl true vs (compS P ops loc o j) L e σ (λL σ=>evL P cl true vs e (compL P ops (keepL K all []) l (slots P l j') (cons o loc)).1 L σ (λL σ=>keepE L (compL P ops (keepL K all []) l (slots P l j') (cons o loc)).2 e λe=>kk e σ))=.ok:=h
  have hda:∀ t,o.dst=some t→t∈all:=λt ht=>hd t (by rw [dsts_cons,ht];simp)
  have hdl:∀ t∈dsts l,t∈all:=λt ht=>hd t (by
   rw [dsts_cons]
   cases o.dst with
   | none=>exact ht
   | some d=>simp [ht])
  have hlt:∀ t,o.dst=some t→t < n:=by
   intro t ht
   have:∀ l:List Nat,bltAll n l=true→∀ t∈l,t < n:=by
    intro l
    induction l with
    | nil=>intro _ t ht;cases ht
    | cons s l ih =>
     intro hb t ht
     obtain⟨h1,h2⟩:=bltAll_cons hb
     rcases List.mem_cons.1 ht with rfl | ht
     ·exact h1
     ·exact ih h2 t ht
   exact this all hb t (hda t ht)
  have hput:∀ y,Same all a₀ (a.put o.dst y):=λy=>hS.trans λt ht=>by
   cases ho:o.dst with
   | none=>rfl
   | some d =>
    refine getD_put λe=>?_
    subst e
    have:=memN_iff.2 (hda t ho)
    rw [this] at ht;cases ht
  unfold wpList
  rcases evS_ok hcl hF hr h' with⟨hw,hO⟩ | ⟨hw,h2⟩
  ·rw [if_pos hw]
   refine .inl (op_wp hO λy w' hp=>?_)
   obtain⟨φ',v,σ',g1,g2,g3,g4,g5⟩:=hp
   exact evL_ok hcl hn hb hQ l j' _ _ σ' φ' _ w' hdl (hput y) ((hF.mono g1).push hlt g3) (idxOf_cons_mem hl hda) g2 (hx.trans g4) (hle.trans g1) g5
  ·rw [if_neg (by simp [hw])]
   exact evL_ok hcl hn hb hQ l j' _ _ σ φ _ w hdl (hput _) (hF.push hlt (show dec φ (.t [])=some undef from rfl)) (idxOf_cons_mem hl hda) hr hx hle h2
end
section
variable {D:Type} {P:Program} {Hd:D→Loc→View→Prop} {w0:World} {w:World} {φ φ':Phi} {loc:List (Option Nat)} {L:Lc} {e:E} {a:Act} {o:Oper} {σ:H D} {cl:Nat→Hk D} {v:Vid} {vs:List Vid} {n:Nat} {K:List Nat} {ops:Array Oper}
theorem Det.out {κ:Type} {p:(κ→R)→Prop} {m:κ→R} (h:Det p m) {k:κ} (hk:m k=.ok):∃ f,p f∧f k=.ok∧∀ k',m k'=f k':=by
 rcases h with⟨f,h1,h2⟩ | ⟨n,h1⟩
 ·exact⟨f,h1,by rw [← h2];exact hk,h2⟩
 ·rw [h1] at hk;cases hk
def PledgeAt (φ:Phi) (q:Vid × Nat × V) (w:World):Prop:=∃ M y,φ q.1=some M∧dec φ q.2.2=some y∧w.cell? ⟨M.blk,M.base + q.2.1,none⟩=some y
theorem pgs_eq (v:Vid):∀ (l:List V) (off:Nat) (r:Pg),∃ rr,pgs v off l r=rr++r∧(∀ q∈rr,∃ (i:Nat) (x:V),l[i]?=some x∧q=(v,off + i,x))∧∀ (i:Nat) (x:V),l[i]?=some x→(v,off + i,x)∈rr
 | [],off,r=>⟨[],rfl,by simp,by simp⟩
 | y::l,off,r=>by
  obtain⟨rr,h1,h2,h3⟩:=pgs_eq v l (Nat.succ off) r
  refine⟨(v,off,y)::rr,congrArg ((v,off,y)::·) h1,λq hq=>?_,λi x hi=>?_⟩
  ·rcases List.mem_cons.1 hq with rfl | hq
   ·exact⟨0,y,rfl,rfl⟩
   ·obtain⟨i,x,h4,h5⟩:=h2 q hq
    exact⟨i + 1,x,by simpa using h4,by rw [h5];congr 2;omega⟩
  ·cases i with
   | zero=>simp at hi;subst hi;simp
   | succ i =>
    simp at hi
    have:=h3 i x hi
    rw [show Nat.succ off + i=off + (i + 1) from by omega] at this
    simp [this]
theorem evTO_inv {o:O} {r:Pg} {k:V→Pg→R} (h:evTO P o L e σ r k=.ok) :
  (∃ x v off ex m c ty sz u,o=.op .ld [x]∧opdV x L e=some (.p v off)∧σ.look v=some (.cells ex m c ty sz)∧c.get off=some u∧k u ((v,off,u)::r)=.ok) ∨
  (∃ n x v off ex m c ty sz l,o=.op (.ldA n) [x]∧opdV x L e=some (.p v off)∧σ.look v=some (.cells ex m c ty sz)∧l.length=n∧(∀ i,i < n→c.get (off + i)=l[i]?)∧k (.a l) (pgs v off l r)=.ok) ∨
  (pureO o=true∧evO P noCl false [] o L e σ (λv _=>k v r)=.ok):=by
 unfold evTO at h
 split at h
 ·obtain⟨u,h1,h2⟩:=getO_ok h
  obtain⟨v,off,rfl,h3⟩:=onP_ok h2
  obtain⟨ex,m,c,ty,sz,h4,h5⟩:=H.cells_ok h3
  obtain⟨u,h6,h7⟩:=orE_ok h5
  exact .inl ⟨_,v,off,ex,m,c,ty,sz,u,rfl,h1,h4,h6,h7⟩
 ·obtain⟨u,h1,h2⟩:=getO_ok h
  obtain⟨v,off,rfl,h3⟩:=onP_ok h2
  obtain⟨ex,m,c,ty,sz,h4,h5⟩:=H.cells_ok h3
  obtain⟨l,h6,h7,h8⟩:=rdFrom_ok h5
  exact .inr (.inl ⟨_,_,v,off,ex,m,c,ty,sz,l,rfl,h1,h4,h6,h7,h8⟩)
 ·split at h
  ·rename_i hp
   exact .inr (.inr ⟨hp,h⟩)
  ·cases h
theorem pledge_cell (hr:Rel P Hd w0 φ σ w) {ex:Bool} {m:Nat} {c:Tr V} {ty sz off:Nat} {u:V} (h1:σ.look v=some (.cells ex m c ty sz)) (h2:c.get off=some u):PledgeAt φ (v,off,u) w:=by
 obtain⟨M,cs,g1,g2,g3⟩:=hr.cells h1
 obtain⟨_,y,g4,g5,g6⟩:=g3.get _ _ h2
 exact⟨M,y,g1,g4,cell_of g3.at_ g5⟩
theorem evTO_valid (hr:Rel P Hd w0 φ σ w) {o:O} {r r1:Pg} {u:V} (h:∀ k:V→Pg→R,evTO P o L e σ r k=k u r1):∃ rr,r1=rr++r∧∀ q∈rr,PledgeAt φ q w:=by
 classical
 have h':=h λu' r'=>if r'=r1 then .ok else .no 0
 simp only [if_true] at h'
 have key:∀ {r':Pg},(if r'=r1 then R.ok else R.no 0)=R.ok→r'=r1:=λ{r'} h=>by
  split at h
  ·assumption
  ·cases h
 rcases evTO_inv h' with⟨x,v,off,ex,m,c,ty,sz,u',rfl,_,h2,h3,h4⟩ | ⟨n,x,v,off,ex,m,c,ty,sz,l,rfl,_,h2,h3,h4,h5⟩ | ⟨hp,h2⟩
 ·exact⟨[(v,off,u')],(key h4).symm,λq hq=>by simp at hq;subst hq;exact pledge_cell hr h2 h3⟩
 ·obtain⟨rr,g1,g2,_⟩:=pgs_eq v l off r
  refine⟨rr,by rw [← key h5,g1],λq hq=>?_⟩
  obtain⟨i,x',hi,rfl⟩:=g2 q hq
  exact pledge_cell hr h2 (by rw [h4 i (by rw [← h3];exact (kA hi).1),hi])
 ·obtain⟨f,⟨r',hf⟩,h3,_⟩:=(evO_det (κ:=V→Pg→R) (p:=λf=>∃ v,f=λk=>k v r) noCl_det (f:=λv _ k=>k v r) (σ:=σ) (L:=L) (e:=e) (P:=P) (v:=[]) (o:=o) (λu _ _=>Det.leaf ⟨u,rfl⟩)).out (k:=λu' r'=>if r'=r1 then .ok else .no 0) h2
  rw [hf] at h3
  exact⟨[],by rw [← key h3];rfl,by simp⟩
theorem evTk_valid (hr:Rel P Hd w0 φ σ w) {s:S} {L1:Lc} {r r1:Pg} (h:∀ k:Lc→Pg→R,evTk P s L e σ r k=k L1 r1):∃ rr,r1=rr++r∧∀ q∈rr,PledgeAt φ q w:=by
 have one:∀ {m:(V→Pg→R)→R},Det (λf=>∃ u r',f=λk:V→Pg→R=>k u r') m→(∀ k:Lc→Pg→R,m (λv r=>k (push s.d v L) r)=k L1 r1)→(∀ u,(∀ k:V→Pg→R,m k=k u r1)→∃ rr,r1=rr++r∧∀ q∈rr,PledgeAt φ q w)→∃ rr,r1=rr++r∧∀ q∈rr,PledgeAt φ q w:=by
  intro m hd hm hk
  classical
  have h':=hm λ_ r'=>if r'=r1 then .ok else .no 0
  simp only [if_true] at h'
  obtain⟨f,⟨u,r',rfl⟩,h1,h2⟩:=hd.out h'
  have:r'=r1:=by
   have h1:(if r'=r1 then R.ok else R.no 0)=R.ok:=h1
   split at h1
   ·assumption
   ·cases h1
  subst this
  exact hk u h2
 unfold evTk at h
 split at h
 ·refine one (evTO_det (κ:=V→Pg→R) (f:=λu r k=>k u r) λu r=>Det.leaf ⟨u,r,rfl⟩) h λu hu=>evTO_valid hr hu
 ·rename_i g hg
  have hd:Det (λf=>∃ u r',f=λk:V→Pg→R=>k u r') (λk:V→Pg→R=>guarded g L e (evTO P s.o L e σ r λv r=>k v r) (k (.t []) r)):=dGuard (evTO_det (κ:=V→Pg→R) (f:=λu r k=>k u r) λu r=>Det.leaf ⟨u,r,rfl⟩) (Det.leaf ⟨_,_,rfl⟩)
  refine one hd h λu hu=>?_
  unfold guarded at hu
  cases hv:opdV g.1 L e with
  | none =>
   have:=hu λ_ _=>.ok
   obtain⟨u',h1,_⟩:=getO_ok this
   rw [hv] at h1;cases h1
  | some y =>
   have hg':∀ k:V→R,getO g.1 L e k=k y:=by
    intro k
    cases hx:g.1 with
    | l j=>rw [hx] at hv;show orE (nth j L) k 1=_;rw [show nth j L=some y from hv];rfl
    | t q=>rw [hx] at hv;show orE (e.getp q) k 2=_;rw [show e.getp q=some y from hv];rfl
    | c w=>rw [hx] at hv;cases hv;rfl
    | bad=>rw [hx] at hv;cases hv
   simp only [hg'] at hu
   have hok:=hu λ_ _=>.ok
   rcases onG_ok hok with⟨b,rfl,_⟩ | ⟨l,rfl,_⟩
   ·have hu':∀ k:V→Pg→R,(match g.2 with | true=>iff' b (evTO P s.o L e σ r λv r=>k v r) (k (.t []) r) | false=>iff' b (k (.t []) r) (evTO P s.o L e σ r λv r=>k v r))=k u r1:=hu
    have no:(∀ k:V→Pg→R,k (.t []) r=k u r1)→∃ rr,r1=rr++r∧∀ q∈rr,PledgeAt φ q w:=by
     intro hk
     classical
     have h1:=hk λ_ r'=>if r'=r then .ok else .no 0
     simp only [if_true] at h1
     have:r1=r:=by
      have h1:=h1.symm
      split at h1
      ·assumption
      ·cases h1
     exact⟨[],by rw [this];rfl,by simp⟩
    cases hg2:g.2 <;> cases b <;> rw [hg2] at hu'
    ·exact evTO_valid hr hu'
    ·exact no hu'
    ·exact no hu'
    ·exact evTO_valid hr hu'
   ·have hk:∀ k:V→Pg→R,k (.t []) r=k u r1:=hu
    classical
    have h1:=hk λ_ r'=>if r'=r then .ok else .no 0
    simp only [if_true] at h1
    have:r1=r:=by
     have h1:=h1.symm
     split at h1
     ·assumption
     ·cases h1
    exact⟨[],by rw [this];rfl,by simp⟩
theorem evTk_step {s:S} {l:List S} {r r':Pg} {L':Lc} (h:∀ k:Lc→Pg→R,evT P e σ (s::l) L r k=k L' r'):∃ L1 r1,(∀ k:Lc→Pg→R,evTk P s L e σ r k=k L1 r1)∧∀ k:Lc→Pg→R,evT P e σ l L1 r1 k=k L' r':=by
 have hd:Det (λf=>∃ L1 r1,f=λk:Lc→Pg→R=>k L1 r1) (λk:Lc→Pg→R=>evTk P s L e σ r k):=by
  have:=evT_det (κ:=Lc→Pg→R) (p:=λf=>∃ L1 r1,f=λk:Lc→Pg→R=>k L1 r1) (P:=P) (e:=e) (σ:=σ) (l:=[s]) (L:=L) (r:=r) (f:=λL r k=>k L r) λL r=>Det.leaf ⟨L,r,rfl⟩
  exact this
 have hok:evTk P s L e σ r (λL r=>evT P e σ l L r λ_ _=>.ok)=.ok:=h λ_ _=>.ok
 obtain⟨f,⟨L1,r1,rfl⟩,_,h2⟩:=hd.out (k:=λL r=>evT P e σ l L r λ_ _=>.ok) hok
 exact⟨L1,r1,h2,λk=>by rw [← h k];exact (h2 λL r=>evT P e σ l L r k).symm⟩
theorem evT_valid (hr:Rel P Hd w0 φ σ w):∀ {l:List S} {L L':Lc} {r r':Pg},(∀ k:Lc→Pg→R,evT P e σ l L r k=k L' r')→∃ rr,r'=rr++r∧∀ q∈rr,PledgeAt φ q w
 | [],L,L',r,r',h=>by
  classical
  have h1:=h λ_ x=>if x=r' then .ok else .no 0
  simp only [if_true] at h1
  have:r=r':=by
   have h1:(if r=r' then R.ok else R.no 0)=.ok:=h1
   split at h1
   ·assumption
   ·cases h1
  exact⟨[],by rw [this];rfl,by simp⟩
 | s::l,L,L',r,r',h=>by
  obtain⟨L1,r1,h1,h2⟩:=evTk_step h
  obtain⟨rr,g1,g2⟩:=evTk_valid hr h1
  obtain⟨rr',g3,g4⟩:=evT_valid hr h2
  exact⟨rr'++rr,by rw [g3,g1,List.append_assoc],λq hq=>by rcases List.mem_append.1 hq with hq | hq;exact g4 q hq;exact g2 q hq⟩
end
section
variable {D:Type} {P:Program} {Hd:D→Loc→View→Prop} {w0:World} {w:World} {φ φ':Phi} {loc:List (Option Nat)} {L:Lc} {e:E} {a:Act} {o:Oper} {σ:H D} {cl:Nat→Hk D} {v:Vid} {vs:List Vid} {n:Nat} {K:List Nat} {ops:Array Oper}
theorem PledgeAt.mono {q:Vid × Nat × V} (h:PledgeAt φ q w) (hle:φ.le φ'):PledgeAt φ' q w:=by
 obtain⟨M,y,h1,h2,h3⟩:=h
 exact⟨M,y,hle _ _ h1,dec_mono hle _ _ h2,h3⟩
theorem compOp_ld {x:Opd} (h:compOp P loc o=.op .ld [x]):∃ t a ud n,o.op=.load t a∧P.underlying t=some ud∧sizeC P t=some n∧isAggD ud=false∧x=opd loc a:=by
 cases hop:o.op
 case load t a =>
  simp only [compOp,hop] at h
  split at h
  ·rename_i ud n h1 h2
   split at h
   ·cases h
   ·rename_i h3
    cases h
    exact⟨t,a,ud,n,rfl,h1,h2,h3,rfl⟩
  ·cases h
 all_goals
  exfalso
  revert h
  simp only [compOp,hop]
  try (intro h;cases h;done)
  repeat' split
  all_goals (intro h;cases h;done)
theorem compOp_ldA {x:Opd} {m:Nat} (h:compOp P loc o=.op (.ldA m) [x]):∃ t a ud,o.op=.load t a∧P.underlying t=some ud∧sizeC P t=some m∧isAggD ud=true∧x=opd loc a:=by
 cases hop:o.op
 case load t a =>
  simp only [compOp,hop] at h
  split at h
  ·rename_i ud n h1 h2
   split at h
   ·rename_i h3
    cases h
    exact⟨t,a,ud,rfl,h1,h2,h3,rfl⟩
   ·cases h
  ·cases h
 all_goals
  exfalso
  revert h
  simp only [compOp,hop]
  try (intro h;cases h;done)
  repeat' split
  all_goals (intro h;cases h;done)
theorem evTO_ok (hc:Cx φ loc L e a.eval) (hr:Rel P Hd w0 φ σ w) {r:Pg} {k:V→Pg→R} (h:evTO P (compOp P loc o) L e σ r k=.ok) :
  ∃ u y r1,k u r1=.ok∧dec φ u=some y∧∀ w',(∀ q∈r1,PledgeAt φ q w')→(execOp a.eval o).run P w'=.ok (.value y) w':=by
 rcases evTO_inv h with⟨x,v,off,ex,m,c,ty,sz,u,h1,h2,h3,h4,h5⟩ | ⟨m,x,v,off,ex,m',c,ty,sz,l,h1,h2,h3,h4,h5,h6⟩ | ⟨hp,h2⟩
 ·obtain⟨t,ad,ud,nn,ho,ht,hn,hag,rfl⟩:=compOp_ld h1
  obtain⟨M,y,g1,g2,g3⟩:=pledge_cell hr h3 h4
  refine⟨u,y,_,h5,g2,λw' hw=>?_⟩
  obtain⟨M',y',d1,d2,d3⟩:=hw (v,off,u) (by simp)
  simp only at g1 d1 d2 g2 d3
  rw [g1] at d1;cases d1
  rw [g2] at d2;cases d2
  obtain⟨M2,d4,ex'⟩:=dec_p (hc.opd h2)
  rw [g1] at d4;cases d4
  have hx:execOp a.eval o=(do pure (Next.value (← Instr.loadAt t (a.eval ad))):Sem Next):=by simp [execOp,ho]
  rw [hx]
  exact run_v (by rw [ex'];simp [Instr.loadAt,Instr.sureAddr,loadVar,run_isAgg' w' ht,hag,load,Sem.run,d3])
 ·obtain⟨t,ad,ud,ho,ht,hn,hag,rfl⟩:=compOp_ldA h1
  obtain⟨ad',ys,e1,e2,e3,e4,e5⟩:=cells_list hr h3 h4 h5 (hc.opd h2)
  obtain⟨inf,hi,hin⟩:=sizeC_ok hn
  obtain⟨rr,g1,g2,g3⟩:=pgs_eq v l off r
  refine⟨.a l,.agg ys.toArray,_,h6,by simp [dec,e2],λw' hw=>?_⟩
  obtain⟨M2,d4,ex'⟩:=dec_p (hc.opd h2)
  rw [ex'] at e1
  cases e1
  have hcells:∀ (j:Nat) z,ys[j]?=some z→w'.cell? (Addr.add ⟨M2.blk,M2.base + off,none⟩ j)=some z:=by
   intro j z hj
   have hjl:j < l.length:=by rw [← decs_length e2];exact (kA hj).1
   obtain⟨z',f1,f2⟩:=decs_get e2 (kC hjl)
   rw [hj] at f1;cases f1
   obtain⟨M',y',d1,d2,d3⟩:=hw (v,off + j,l[j]) (by rw [g1];exact List.mem_append.2 (.inl (g3 j _ (kC hjl))))
   simp only at d1 d2 d3
   rw [d4] at d1;cases d1
   rw [f2] at d2;cases d2
   rw [add_eq,Nat.add_assoc]
   exact d3
  have hl:=run_loadCells (P:=P) hcells
  rw [e3] at hl
  have hx:execOp a.eval o=(do pure (Next.value (← Instr.loadAt t (a.eval ad))):Sem Next):=by simp [execOp,ho]
  rw [hx]
  exact run_v (by rw [ex'];simp [Instr.loadAt,Instr.sureAddr,loadVar,run_isAgg' w' ht,hag,run_sizeOf' w' hi,hin,hl])
 ·obtain⟨u,y,g1,g2,g3⟩:=pure_ok (k:=λv _=>k v r) hc hp h2
  exact⟨u,y,r,g3,g1,λw' _=>g2 w'⟩
theorem evTk_ok {j:Nat} (hF:Fr n K φ loc L e a) (hr:Rel P Hd w0 φ σ w) {r:Pg} {k:Lc→Pg→R} (h:evTk P (compS P ops loc o j) L e σ r k=.ok) :
  ∃ u y r1,k (push (match o.dst with | some _=>true | none=>false) u L) r1=.ok∧dec φ u=some y ∧
   ((Region.wanted o (yielded ops a.tmps)=true∧∀ w',(∀ q∈r1,PledgeAt φ q w')→(execOp a.eval o).run P w'=.ok (.value y) w')∨(Region.wanted o (yielded ops a.tmps)=false∧y=undef)):=by
 have h':Gd (compS P ops loc o j).g L e (evTO P (compOp P loc o) L e σ r λv r=>k (push (match o.dst with | some _=>true | none=>false) v L) r) (k (push (match o.dst with | some _=>true | none=>false) (.t []) L) r):=by
  unfold evTk at h
  unfold Gd
  split at h
  ·rename_i hg;rw [hg];exact h
  ·rename_i g hg;rw [hg];exact h
 rcases guard_ok hF rfl h' with⟨h1,h2⟩ | ⟨h1,h2⟩
 ·obtain⟨u,y,r1,g1,g2,g3⟩:=evTO_ok hF.cx hr h2
  exact⟨u,y,r1,g1,g2,.inl ⟨h1,g3⟩⟩
 ·exact⟨.t [],undef,r,h2,rfl,.inr ⟨h1,rfl⟩⟩
theorem evPu_ok {j:Nat} (hF:Fr n K φ loc L e a) {k:Lc→R} (h:(match (compS P ops loc o j).g with
   | none=>evPu P (compS P ops loc o j).o L e σ λv=>k (push (compS P ops loc o j).d v L)
   | some g=>bindK (λ(jj:V→R)=>guarded g L e (evPu P (compS P ops loc o j).o L e σ λv=>jj v) (jj (.t []))) (λv=>k (push (compS P ops loc o j).d v L)))=.ok) :
  ∃ u y,k (push (match o.dst with | some _=>true | none=>false) u L)=.ok∧dec φ u=some y ∧
   ((Region.wanted o (yielded ops a.tmps)=true∧∀ w',(execOp a.eval o).run P w'=.ok (.value y) w')∨(Region.wanted o (yielded ops a.tmps)=false∧y=undef)):=by
 have h':Gd (compS P ops loc o j).g L e (evPu P (compOp P loc o) L e σ λv=>k (push (match o.dst with | some _=>true | none=>false) v L)) (k (push (match o.dst with | some _=>true | none=>false) (.t []) L)):=by
  unfold Gd
  split at h
  ·rename_i hg;first | (rw [hg];exact h) | exact h
  ·rename_i g hg;first | (rw [hg];exact h) | exact h
 rcases guard_ok hF rfl h' with⟨h1,h2⟩ | ⟨h1,h2⟩
 ·unfold evPu at h2
  split at h2
  ·rename_i hp
   obtain⟨u,y,g1,g2,g3⟩:=pure_ok (k:=λv _=>k (push (match o.dst with | some _=>true | none=>false) v L)) hF.cx hp h2
   exact⟨u,y,g3,g1,.inl ⟨h1,g2⟩⟩
  ·cases h2
 ·exact⟨.t [],undef,h2,rfl,.inr ⟨h1,rfl⟩⟩
theorem holds_ok {φ₀:Phi} (hr:Rel P Hd w0 φ' σ w) (hle:φ₀.le φ') {w1:World} {k:R}:∀ {r:Pg},(∀ q∈r,PledgeAt φ₀ q w1)→holds σ r k=.ok→(∀ q∈r,PledgeAt φ₀ q w)∧k=.ok
 | [],_,h=>⟨by simp,h⟩
 | q::r,h1,h=>by
  obtain⟨ex,m,c,ty,sz,h2,h3⟩:=H.cells_ok (show σ.cells q.1 (λ_ _ c _ _=>orE (c.get q.2.1) (λu=>iff' (vEq u q.2.2) (holds σ r k) (R.no 122)) 123)=.ok from h)
  obtain⟨u,h4,h5⟩:=orE_ok h3
  obtain⟨h6,h7⟩:=iff_ok h5
  have:=vEq_ok _ _ h6
  obtain⟨g1,g2⟩:=holds_ok hr hle (λq hq=>h1 q (by simp [hq])) h7
  refine⟨λq' hq=>?_,g2⟩
  rcases List.mem_cons.1 hq with rfl | hq
  ·obtain⟨M,y,d1,d2,_⟩:=h1 q' (by simp)
   obtain⟨M',y',f1,f2,f3⟩:=pledge_cell hr h2 h4
   simp only at f1 f2 f3
   rw [hle _ _ d1] at f1;cases f1
   rw [this,dec_mono hle _ _ d2] at f2;cases f2
   exact⟨M,y,d1,d2,f3⟩
  ·exact g1 q' hq
end
section
variable {D:Type} {P:Program} {Hd:D→Loc→View→Prop} {w0:World} {vs:List Vid} {n:Nat} {K:List Nat} {ops:Array Oper} {js:Array Nat} {e:E} {cl:Nat→Hk D}
theorem ite_ok {c:Prop} [Decidable c] (h:(if c then R.ok else R.no 0)=R.ok):c:=by
 by_cases hc:c
 ·exact hc
 ·rw [if_neg hc] at h;cases h
theorem firstQ_mem {f:Nat→Oper→Bool} {listed:Array Bool} {i:Nat}:∀ {l:List Nat},firstQ f ops listed l=some i→i∈l∧Region.free .any ops listed i=true
 | [],h=>by cases h
 | j::l,h=>by
  unfold firstQ at h
  split at h
  ·split at h
   ·rename_i hf
    cases h;exact⟨by simp,hf⟩
   ·have:=firstQ_mem h;exact⟨by simp [this.1],this.2⟩
  ·have:=firstQ_mem h;exact⟨by simp [this.1],this.2⟩
theorem mkA_keep {ds:List Vid} {loc:List (Option Nat)} {g:Array Bool→List (Option Nat)→Pl} {listed:Array Bool} (hg:∀ a b,allKeep ds (g a b)):∀ l:List Nat,allKeep ds (mkA P ops js loc g listed l)
 | []=>trivial
 | i::l=>by
  unfold mkA
  split
  ·cases l with
   | nil=>exact hg _ _
   | cons j l=>exact⟨hg _ _,mkA_keep hg _⟩
  ·trivial
theorem keepOf_snd (loc:List (Option Nat)) (kp:List Nat):(keepOf loc kp).map (·.2)=kp.map path:=by simp [keepOf]
theorem mkP_keep {kp:List Nat}:∀ (f:Nat) (listed:Array Bool) (loc:List (Option Nat)),allKeep (kp.map path) (mkP P ops js kp f listed loc)
 | 0,listed,loc=>by
  unfold mkP
  split
  ·exact keepOf_snd loc kp
  ·trivial
 | f + 1,listed,loc=>by
  unfold mkP
  split
  ·exact keepOf_snd loc kp
  ·split
   ·split
    ·exact mkP_keep f _ _
    ·trivial
   ·exact mkA_keep (mkP_keep f) _
theorem mkT_keep {not kp:List Nat}:∀ (f:Nat) (listed:Array Bool) (loc:List (Option Nat)),allKeep (kp.map path) (mkT P not ops js kp f listed loc).2
 | 0,listed,loc=>by
  unfold mkT
  exact mkP_keep (P:=P) (ops:=ops) (js:=js) 0 listed loc
 | f + 1,listed,loc=>by
  unfold mkT
  split
  ·exact keepOf_snd loc kp
  ·split
   ·split
    ·exact mkT_keep f _ _
    ·trivial
   ·exact mkP_keep (f + 1) listed loc
theorem mkA_ok {r:Pg} {kk:E→H D→R} {loc:List (Option Nat)} {L:Lc} {σ:H D} {g:Array Bool→List (Option Nat)→Pl} {listed:Array Bool}:∀ {l:List Nat},l≠[]→evP P cl true vs r e kk (mkA P ops js loc g listed l) L σ=.ok →
  ∀ i∈l,∃ o j,ops[i]?=some o∧evP P cl true vs r e kk (.eff (compS P ops loc o j) (g (listed.setIfInBounds i true) (cons o loc))) L σ=.ok
 | [],hne,_,i,_=>absurd rfl hne
 | i0::l,_,h,i,hi=>by
  unfold mkA at h
  split at h
  ·rename_i o j ho hj
   cases l with
   | nil =>
    simp at hi;subst hi
    exact⟨o,j,ho,h⟩
   | cons i1 l =>
    have h':R.and (evP P cl true vs r e kk (.eff (compS P ops loc o j) (g (listed.setIfInBounds i0 true) (cons o loc))) L σ) (evP P cl true vs r e kk (mkA P ops js loc g listed (i1::l)) L σ)=.ok:=h
    have hand:∀ {x y:R},R.and x y=.ok→x=.ok∧y=.ok:=by
     intro x y h
     cases x with
     | ok=>exact⟨rfl,h⟩
     | no n=>cases h
    obtain⟨h1,h2⟩:=hand h'
    rcases List.mem_cons.1 hi with rfl | hi
    ·exact⟨o,j,ho,h1⟩
    ·exact mkA_ok (by simp) h2 i hi
  ·cases h
section
variable {Q:Exit→Act→World→Prop} {a₀:Act} {φ₀:Phi} {σ₀:H D} {kk:E→H D→R} {r:Pg} {w1:World}
theorem dst_mem {o:Oper} (ho:o∈ops.toList):∀ t,o.dst=some t→t∈dsts ops.toList:=by
 intro t ht
 have:∀ l:List Oper,o∈l→t∈dsts l:=by
  intro l
  induction l with
  | nil=>intro h;cases h
  | cons o' l ih =>
   intro h
   rw [dsts_cons]
   rcases List.mem_cons.1 h with rfl | h
   ·rw [ht];simp
   ·cases o'.dst with
    | none=>exact ih h
    | some d=>simp [ih h]
 exact this _ ho
theorem evP_ok (hcl:ClOK P Hd w0 cl) (hn:n < 4000) (hb:bltAll n (dsts ops.toList)=true) (hns:Region.noSelect ops=true) (hP:∀ c a w,¬ Q (.panic c) a w) (hr1:∀ q∈r,PledgeAt φ₀ q w1) (hQ:∀ φ' e' σ' a' w',φ₀.le φ'→Fr n K φ' [] [] e' a'→(∀ q,q ∉ (keepL K (dsts ops.toList) []).map path→e'.getp q=e.getp q)→Rel P Hd w0 φ' σ' w'→Ext σ₀ σ'→Same (dsts ops.toList) a₀ a'→kk e' σ'=.ok→Q .normal a' w'):∀ (f:Nat) (listed:Array Bool) (loc:List (Option Nat)) (L:Lc) (σ:H D) (φ:Phi) (a:Act) (w:World),φ₀.le φ→Fr n K φ loc L e a→(∀ t j,idxOf t loc 0=some j→t∈dsts ops.toList)→Same (dsts ops.toList) a₀ a→Rel P Hd w0 φ σ w→Ext σ₀ σ→(∀ q∈r,PledgeAt φ₀ q w) →
  evP P cl true vs r e kk (mkP P ops js (keepL K (dsts ops.toList) []) f listed loc) L σ=.ok→wpAnyH P .any ops Q (λw=>∀ q∈r,PledgeAt φ₀ q w) f listed a w
 | 0,listed,loc,L,σ,φ,a,w,hle,hF,hl,hS,hr,hx,hp,h=>by
  unfold mkP at h
  split at h
  ·rename_i hrd
   obtain⟨e',h1,h2,h3⟩:=hF.close hn hb hl (show keepE L (keepOf loc _) e (λe=>kk e σ)=.ok from h)
   exact wpAnyH_done hrd (hQ φ e' σ a w hle h2 h3 hr hx hS h1) 0
  ·cases h
 | f + 1,listed,loc,L,σ,φ,a,w,hle,hF,hl,hS,hr,hx,hp,h=>by
  unfold mkP at h
  split at h
  ·rename_i hrd
   obtain⟨e',h1,h2,h3⟩:=hF.close hn hb hl (show keepE L (keepOf loc _) e (λe=>kk e σ)=.ok from h)
   exact wpAnyH_done hrd (hQ φ e' σ a w hle h2 h3 hr hx hS h1) _
  rename_i i₀ l hrd
  split at h
  ·rename_i i hi
   obtain⟨hmem,hfree⟩:=firstQ_mem hi
   split at h
   ·rename_i o j ho hj
    have hom:o∈ops.toList:=by simpa using Array.mem_of_getElem? ho
    have hlt:∀ t,o.dst=some t→t < n:=λt ht=>dsts_mem ht _ hb hom
    obtain⟨u,y,g1,g2,g3⟩:=evPu_ok (σ:=σ) (k:=λL=>evP P cl true vs r e kk (mkP P ops js (keepL K (dsts ops.toList) []) f (listed.setIfInBounds i true) (cons o loc)) L σ) hF h
    refine wpAnyH_take (v:=y) ho hns hfree (by rw [hrd];simpa using hmem) (λc a w hq=>(hP _ _ _ hq).elim) (g3.imp (λ⟨h1,h2⟩=>⟨h1,λw _=>h2 w⟩) id) hp ?_
    exact evP_ok hcl hn hb hns hP hr1 hQ f _ _ _ σ φ _ w hle (hF.push hlt g2) (idxOf_cons_mem hl (dst_mem hom)) (same_dst hom (λ_ h=>h) hS y) hr hx hp g1
   ·cases h
  ·refine wpAnyH_all hrd (by simp) λi hi=>?_
   obtain⟨o,j,ho,h1⟩:=mkA_ok (by simp) h i hi
   have hom:o∈ops.toList:=by simpa using Array.mem_of_getElem? ho
   have hlt:∀ t,o.dst=some t→t < n:=λt ht=>dsts_mem ht _ hb hom
   have h2:evS P cl true vs (compS P ops loc o j) L e σ (λL σ=>holds σ r (evP P cl true vs r e kk (mkP P ops js (keepL K (dsts ops.toList) []) f (listed.setIfInBounds i true) (cons o loc)) L σ))=.ok:=h1
   unfold wpOp
   rw [ho]
   simp only []
   rcases evS_ok hcl hF hr h2 with⟨hw,hO⟩ | ⟨hw,h3⟩
   ·rw [if_pos hw]
    refine .inl (op_wp hO λy w' hpost=>?_)
    obtain⟨φ',v,σ',g1,g2,g3,g4,g5⟩:=hpost
    obtain⟨g6,g7⟩:=holds_ok g2 (hle.trans g1) hr1 g5
    exact⟨g6,evP_ok hcl hn hb hns hP hr1 hQ f _ _ _ σ' φ' _ w' (hle.trans g1) ((hF.mono g1).push hlt g3) (idxOf_cons_mem hl (dst_mem hom)) (same_dst hom (λ_ h=>h) hS y) g2 (hx.trans g4) g6 g7⟩
   ·rw [if_neg (by simp [hw])]
    obtain⟨g6,g7⟩:=holds_ok hr hle hr1 h3
    exact⟨g6,evP_ok hcl hn hb hns hP hr1 hQ f _ _ _ σ φ _ w hle (hF.push hlt (show dec φ (.t [])=some undef from rfl)) (idxOf_cons_mem hl (dst_mem hom)) (same_dst hom (λ_ h=>h) hS _) hr hx g6 g7⟩
theorem mkT_ok (hcl:ClOK P Hd w0 cl) (hn:n < 4000) (hb:bltAll n (dsts ops.toList)=true) (hns:Region.noSelect ops=true) (hP:∀ c a w,¬ Q (.panic c) a w) (hr1:∀ q∈r,PledgeAt φ₀ q w1) (hQ:∀ φ' e' σ' a' w',φ₀.le φ'→Fr n K φ' [] [] e' a'→(∀ q,q ∉ (keepL K (dsts ops.toList) []).map path→e'.getp q=e.getp q)→Rel P Hd w0 φ' σ' w'→Ext σ₀ σ'→Same (dsts ops.toList) a₀ a'→kk e' σ'=.ok→Q .normal a' w') {not:List Nat} {φ:Phi} {σ:H D} {w:World} (hle:φ₀.le φ) (hr:Rel P Hd w0 φ σ w) {σ1:H D} (hr':Rel P Hd w0 φ σ1 w) (hx:Ext σ₀ σ1) (hp:∀ q∈r,PledgeAt φ₀ q w):∀ (f:Nat) (listed:Array Bool) (loc:List (Option Nat)) (L L':Lc) (r0:Pg) (a:Act),Fr n K φ loc L e a→(∀ t j,idxOf t loc 0=some j→t∈dsts ops.toList)→Same (dsts ops.toList) a₀ a →
  (∀ k:Lc→Pg→R,evT P e σ (mkT P not ops js (keepL K (dsts ops.toList) []) f listed loc).1 L r0 k=k L' r)→evP P cl true vs r e kk (mkT P not ops js (keepL K (dsts ops.toList) []) f listed loc).2 L' σ1=.ok→wpAnyH P .any ops Q (λw=>∀ q∈r,PledgeAt φ₀ q w) f listed a w
 | 0,listed,loc,L,L',r0,a,hF,hl,hS,ht,h=>by
  unfold mkT at ht h
  have:L=L':=by
   classical
   have:=ht λl _=>if l=L' then .ok else .no 0
   simp only [if_true] at this
   have h1:(if L=L' then R.ok else R.no 0)=.ok:=this
   split at h1
   ·assumption
   ·cases h1
  subst this
  exact evP_ok (js:=js) hcl hn hb hns hP hr1 hQ 0 listed loc L σ1 φ a w hle hF hl hS hr' hx hp h
 | f + 1,listed,loc,L,L',r0,a,hF,hl,hS,ht,h=>by
  have same:∀ {M:Lc→Pg→R},True:=trivial
  unfold mkT at ht h
  split at h
  ·rename_i hrd
   have:L=L':=by
    rw [hrd] at ht
    classical
    have:=ht λl _=>if l=L' then .ok else .no 0
    simp only [if_true] at this
    have h1:(if L=L' then R.ok else R.no 0)=.ok:=this
    split at h1
    ·assumption
    ·cases h1
   subst this
   obtain⟨e',h1,h2,h3⟩:=hF.close hn hb hl (show keepE L (keepOf loc _) e (λe=>kk e σ1)=.ok from h)
   exact wpAnyH_done hrd (hQ φ e' σ1 a w hle h2 h3 hr' hx hS h1) _
  rename_i i₀ l hrd
  rw [hrd] at ht
  simp only at ht
  cases hi:firstQ (takeS P not) ops listed (i₀::l) with
  | some i =>
   rw [hi] at ht h
   simp only at ht h
   obtain⟨hmem,hfree⟩:=firstQ_mem hi
   cases ho:ops[i]? with
   | none=>rw [ho] at h;cases h
   | some o =>
    cases hj:js[i]? with
    | none=>rw [ho,hj] at h;cases h
    | some j =>
     rw [ho,hj] at ht h
     simp only at ht h
     have hom:o∈ops.toList:=by simpa using Array.mem_of_getElem? ho
     have hlt:∀ t,o.dst=some t→t < n:=λt ht=>dsts_mem ht _ hb hom
     obtain⟨L1,r1,t1,t2⟩:=evTk_step ht
     obtain⟨rr,e1,_⟩:=evT_valid hr t2
     classical
     have hk:=t1 λl x=>if l=L1∧x=r1 then .ok else .no 0
     simp only [and_self,if_true] at hk
     obtain⟨u,y,r2,g1,g2,g3⟩:=evTk_ok hF hr hk
     obtain⟨eL,er⟩:=ite_ok g1
     subst er
     rw [← eL] at t2
     refine wpAnyH_take (v:=y) ho hns hfree (by rw [hrd];simpa using hmem) (λc a w hq=>(hP _ _ _ hq).elim) (g3.imp (λ⟨h1,h2⟩=>⟨h1,λw' hw'=>h2 w' λq hq=>(hw' q (by rw [e1];exact List.mem_append.2 (.inr hq))).mono hle⟩) id) hp ?_
     exact mkT_ok hcl hn hb hns hP hr1 hQ hle hr hr' hx hp f _ _ _ L' r2 _ (hF.push hlt g2) (idxOf_cons_mem hl (dst_mem hom)) (same_dst hom (λ_ h=>h) hS y) t2 h
  | none =>
   rw [hi] at ht h
   simp only at ht h
   have:L=L':=by
    classical
    have:=ht λl _=>if l=L' then .ok else .no 0
    simp only [if_true] at this
    have h1:(if L=L' then R.ok else R.no 0)=.ok:=this
    split at h1
    ·assumption
    ·cases h1
   subst this
   exact evP_ok (js:=js) hcl hn hb hns hP hr1 hQ (f + 1) listed loc L σ1 φ a w hle hF hl hS hr' hx hp h
end
end
section
variable {D:Type} {P:Program} {Hd:D→Loc→View→Prop} {w0:World} {vs:List Vid} {n:Nat} {K:List Nat} {ops:Array Oper} {e:E}
theorem new_ok {σ:H D} {k:List Vid→H D→R} (h:σ.new k=.ok):∃ σn,(∀ v,σn.look v=σ.look v)∧σn.log=[]∧k σ.log σn=.ok:=by
 cases σ with
 | mk t nx lg=>exact⟨.mk t nx [],λ_=>rfl,rfl,h⟩
theorem old_ok {σ:H D} {l:List Vid} {k:H D→R} (h:σ.old l k=.ok):∃ σn,(∀ v,σn.look v=σ.look v)∧σn.log=σ.log++l∧k σn=.ok:=by
 cases σ with
 | mk t nx lg=>exact⟨.mk t nx (lg++l),λ_=>rfl,rfl,h⟩
theorem and_ok {x y:R} (h:R.and x y=.ok):x=.ok∧y=.ok:=by
 cases x with
 | ok=>exact⟨rfl,h⟩
 | no n=>cases h
theorem Ext.back {σ σn σ1 σ2:H D} (h1:∀ v,σn.look v=σ.look v) (h0:σn.log=[]) (hx:Ext σn σ1) (h2:∀ v,σ2.look v=σ1.look v) (hl:σ2.log=σ1.log++σ.log):Ext σ σ2:=by
 obtain⟨l,e1,e2⟩:=hx
 exact⟨l,by rw [hl,e1,h0];simp,λv hv=>by rw [h2,e2 v hv,h1]⟩
theorem evDraw_ok {cl:Bool→Nat→Hk D} (hcl:ClOK P Hd w0 (cl true)) (hdet:ClDet (cl false)) (hm:P.follows .mixedOrders=true) {Q:Exit→Act→World→Prop} {id:Nat} {φ:Phi} {σ:H D} {a:Act} {w:World} {not:List Nat} {js:Array Nat} {kn:E→H D→R}
  (hn:n < 4000) (hb:bltAll n (dsts ops.toList)=true) (hns:Region.noSelect ops=true) (hP:∀ c a w,¬ Q (.panic c) a w) (hF:Fr n K φ [] [] e a) (hr:Rel P Hd w0 φ σ w)
  (hQ:∀ φ' e' σ' a' w',φ.le φ'→Fr n K φ' [] [] e' a'→Rel P Hd w0 φ' σ' w'→Ext σ σ'→Same (dsts ops.toList) a a'→kn e' σ'=.ok→Q .normal a' w')
  (h:evDraw P cl true vs (mkT P not ops js (keepL K (dsts ops.toList) []) ops.size (Array.replicate ops.size false) []).1 (mkT P not ops js (keepL K (dsts ops.toList) []) ops.size (Array.replicate ops.size false) []).2 e σ kn=.ok):(Code.region id ops true).wp P Q a w:=by
 unfold evDraw at h
 obtain⟨f,⟨L',r,rfl⟩,h1,h2⟩:=(evT_det (κ:=Lc→Pg→R) (p:=λf=>∃ L1 r1,f=λk:Lc→Pg→R=>k L1 r1) (P:=P) (e:=e) (σ:=σ) (L:=[]) (r:=[]) (f:=λL r k=>k L r) λL r=>Det.leaf ⟨L,r,rfl⟩).out h
 obtain⟨rr,e1,e2⟩:=evT_valid hr.drew h2
 have hp:∀ q∈r,PledgeAt φ q w.drew:=λq hq=>e2 q (by rw [e1] at hq;simpa using hq)
 simp only at h1
 refine wp_region_held_drew (S:=λw=>∀ q∈r,PledgeAt φ q w) hm hp λ_=>?_
 split at h1
 ·exact mkT_ok (a₀:=a) (φ₀:=φ) (σ₀:=σ) (w1:=w.drew) hcl hn hb hns hP hp (λφ' e' σ' a' w' g1 g2 _ g3 g4 g5 g6=>hQ φ' e' σ' a' w' g1 g2 g3 g4 g5 g6) (.refl _) hr.drew hr.drew (.refl _) hp _ _ _ _ _ _ _ hF (by intro t j h;cases h) (Same.refl _ _) h2 h1
 ·
  obtain⟨pl,hpl⟩:∃ pl,pl=(mkT P not ops js (keepL K (dsts ops.toList) []) ops.size (Array.replicate ops.size false) []).2:=⟨_,rfl⟩
  rw [← hpl] at h1
  have h1':H.new σ (λlg σn=>evP P (cl false) false vs r e (λe1 σ1=>R.and (evP P (cl true) true vs r e (λe2 σ2=>okIf (both (eEq (keepsOf pl) e2 e1) (hEq σ2 σ1)) 130) pl L' σn) (σ1.old lg λσ1=>kn e1 σ1)) pl L' σn)=.ok:=h1
  obtain⟨σn,n1,n2,n3⟩:=new_ok h1'
  obtain⟨f,⟨e1',σ1,hx1,he1,hk1,rfl⟩,m1,m2⟩:=(evP_det (κ:=E→H D→R) (p:=λf=>∃ e1 σ1,Ext σn σ1∧(∀ x,x ∉ keepsOf pl→e1.getp x=e.getp x)∧(∀ ds,allKeep ds pl→keepsOf pl=ds)∧f=λk=>k e1 σ1)
   hdet (r:=r) (f:=λe σ k=>k e σ) (λe' σ' g1 g2 g3=>Det.leaf ⟨e',σ',g1,g2,g3,rfl⟩)).out n3
  have hds:=hk1 _ (hpl ▸ mkT_keep (P:=P) (ops:=ops) (js:=js) (not:=not) (kp:=keepL K (dsts ops.toList) []) ops.size (Array.replicate ops.size false) [])
  obtain⟨m3,m4⟩:=and_ok m1
  rw [hpl] at m3 hds
  obtain⟨σ2,o1,o2,o3⟩:=old_ok m4
  have hrn:Rel P Hd w0 φ σn w.drew:=hr.drew.same rfl Keeps.refl n1
  refine mkT_ok (a₀:=a) (φ₀:=φ) (σ₀:=σn) (w1:=w.drew) hcl hn hb hns hP hp (λφ' e' σ' a' w' g1 g2 g20 g3 g4 g5 g6=>?_) (.refl _) hr.drew hrn (.refl _) hp _ _ _ _ _ _ _ hF (by intro t j h;cases h) (Same.refl _ _) h2 m3
  obtain⟨q1,q2⟩:=both_ok.1 (okIf_ok g6)
  have hE:∀ q,e1'.getp q=e'.getp q:=λq=>by
   by_cases hq:q∈(keepL K (dsts ops.toList) []).map path
   ·exact (eEq_ok q1 q (by rw [hds];exact hq)).symm
   ·rw [g20 q hq];exact he1 q (by rw [hpl,hds];exact hq)
  have hS:=hEq_ok q2 g4 hx1 n2
  exact hQ φ' e1' σ2 a' w' g1 (g2.congr hE) ((g3.perm hS).same rfl Keeps.refl o1) (Ext.back n1 n2 hx1 o1 o2) g5 o3
def Cont (P:Program) (Hd:D→Loc→View→Prop) (w0:World) (n:Nat) (K:List Nat) (φ₀:Phi) (σ₀:H D) (k:Kc D) (a:Act) (w:World):Prop:=∃ φ e σ,φ₀.le φ∧Fr n K φ [] [] e a∧Rel P Hd w0 φ σ w∧Ext σ₀ σ∧k e σ=.ok
def PostX (P:Program) (Hd:D→Loc→View→Prop) (w0:World) (n:Nat) (K:List Nat) (ws:List Nat) (a₀:Act) (φ₀:Phi) (σ₀:H D) (kn:Kc D) (kx:Nat→Kc D) (kr:Kc D):Exit→Act→World→Prop
 | .normal,a,w=>Same ws a₀ a∧Cont P Hd w0 n K φ₀ σ₀ kn a w
 | .exit id,a,w=>Same ws a₀ a∧Cont P Hd w0 n K φ₀ σ₀ (kx id) a w
 | .ret,a,w=>Cont P Hd w0 n K φ₀ σ₀ kr a w
 | _,_,_=>False
variable {φ φ':Phi} {σ σ':H D} {a a':Act} {w w':World} {kn:Kc D} {kx:Nat→Kc D} {kr:Kc D}
theorem Cont.up {k:Kc D} (h:Cont P Hd w0 n K φ' σ' k a w) (hle:φ.le φ') (hx:Ext σ σ'):Cont P Hd w0 n K φ σ k a w:=by
 obtain⟨φ2,e,σ2,h1,h2,h3,h4,h5⟩:=h
 exact⟨φ2,e,σ2,hle.trans h1,h2,h3,hx.trans h4,h5⟩
theorem delE_ok {k:E→R}:∀ {ds:List Vid} {e:E},delE ds e k=.ok→∃ e',k e'=.ok∧(∀ q,q ∉ ds→e'.getp q=e.getp q)∧∀ q∈ds,e'.getp q=none
 | [],e,h=>⟨e,h,λ_ _=>rfl,by simp⟩
 | d::ds,e,h=>by
  obtain⟨e1,h1,h2⟩:=delp_ok (show Tr.delp d e (λe=>delE ds e k)=.ok from h)
  obtain⟨e2,h3,h4,h5⟩:=delE_ok h2
  refine⟨e2,h3,λq hq=>?_,λq hq=>?_⟩
  ·simp at hq;rw [h4 q hq.2,h1,if_neg hq.1]
  ·by_cases hm:q∈ds
   ·exact h5 q hm
   ·have:q=d:=by rcases List.mem_cons.1 hq with h | h;exact h;exact absurd h hm
    rw [h4 q hm,h1,if_pos this]
end
section
variable {D:Type} {P:Program} {Hd:D→Loc→View→Prop} {w0:World} {n:Nat} {A:Adv} {fu:Nat} {cl:Bool→Nat→Hk D}
theorem evC_ok (hcl:ClOK P Hd w0 (cl true)) (hdet:ClDet (cl false)) (hm:P.follows .mixedOrders=true) (hn:n < 4000):∀ (c:Code) (e:E) (σ:H D) (kn:Kc D) (kx:Nat→Kc D) (kr:Kc D) (φ:Phi) (a:Act) (w:World),
  codeOk n c=true→Fr n A.kp φ [] [] e a→Rel P Hd w0 φ σ w→evC P fu cl (comp P A c) true e σ kn kx kr=.ok→c.wp P (PostX P Hd w0 n A.kp (asg c) a φ σ kn kx kr) a w:=by
 intro c
 induction c with
 | skip=>intro e σ kn kx kr φ a w hok hF hr h;exact wp_skip ⟨Same.refl _ _,φ,e,σ,.refl _,hF,hr,.refl _,h⟩
 | region id ops d =>
  intro e σ kn kx kr φ a w hok hF hr h
  simp only [codeOk] at hok
  split at hok <;> try (cases hok;done)
  rename_i hb
  cases d with
  | false =>
   have h':evC P fu cl (.reg (countF P ops.toList) (compL P ops (keepL A.kp (dsts ops.toList) []) ops.toList (slots P ops.toList 0) []).1 (compL P ops (keepL A.kp (dsts ops.toList) []) ops.toList (slots P ops.toList 0) []).2) true e σ kn kx kr=.ok:=h
   have fin:∀ (vs:List Vid) (σ1:H D),(∀ v,σ1.look v=σ.look v)→σ1.log=σ.log→evL P (cl true) true vs e (compL P ops (keepL A.kp (dsts ops.toList) []) ops.toList (slots P ops.toList 0) []).1 [] σ1 (λL σ=>keepE L (compL P ops (keepL A.kp (dsts ops.toList) []) ops.toList (slots P ops.toList 0) []).2 e λe=>kn e σ)=.ok →
     (Code.region id ops false).wp P (PostX P Hd w0 n A.kp (asg (.region id ops false)) a φ σ kn kx kr) a w:=by
    intro vs σ1 h1 h2 h3
    exact wp_region_list (evL_ok (all:=dsts ops.toList) (a₀:=a) (φ₀:=φ) (σ₀:=σ) hcl hn hb (λφ' e' σ' a' w' g1 g2 g3 g4 g5 g6=>⟨g5,φ',e',σ',g1,g2,g3,g4,g6⟩) ops.toList 0 [] [] σ1 φ a w (λt h=>h) (Same.refl _ _) hF (by intro t j h;cases h) (hr.same rfl Keeps.refl h1) (Ext.same h1 h2) (.refl _) h3)
   cases hcnt:countF P ops.toList with
   | zero=>rw [hcnt] at h';exact fin [] σ (λ_=>rfl) rfl h'
   | succ m =>
    rw [hcnt] at h'
    obtain⟨vs,σ1,g1,g2,g3⟩:=H.room_ok (show H.room (m + 1) σ (λvs σ=>evL P (cl true) true vs e (compL P ops (keepL A.kp (dsts ops.toList) []) ops.toList (slots P ops.toList 0) []).1 [] σ λL σ=>keepE L (compL P ops (keepL A.kp (dsts ops.toList) []) ops.toList (slots P ops.toList 0) []).2 e λe=>kn e σ)=.ok from h')
    exact fin vs σ1 g1 g2 g3
  | true =>
   have h':evC P fu cl (.draw (countF P ops.toList) (mkT P (A.ld id) ops (slots P ops.toList 0).toArray (keepL A.kp (dsts ops.toList) []) ops.size (Array.replicate ops.size false) []).1 (mkT P (A.ld id) ops (slots P ops.toList 0).toArray (keepL A.kp (dsts ops.toList) []) ops.size (Array.replicate ops.size false) []).2) true e σ kn kx kr=.ok:=h
   have fin:∀ (vs:List Vid) (σ1:H D),(∀ v,σ1.look v=σ.look v)→σ1.log=σ.log→evDraw P cl true vs (mkT P (A.ld id) ops (slots P ops.toList 0).toArray (keepL A.kp (dsts ops.toList) []) ops.size (Array.replicate ops.size false) []).1 (mkT P (A.ld id) ops (slots P ops.toList 0).toArray (keepL A.kp (dsts ops.toList) []) ops.size (Array.replicate ops.size false) []).2 e σ1 kn=.ok →
     (Code.region id ops true).wp P (PostX P Hd w0 n A.kp (asg (.region id ops true)) a φ σ kn kx kr) a w:=by
    intro vs σ1 h1 h2 h3
    exact evDraw_ok hcl hdet hm hn hb hok (λ_ _ _ h=>h) hF (hr.same rfl Keeps.refl h1) (λφ' e' σ' a' w' g1 g2 g3 g4 g5 g6=>⟨g5,φ',e',σ',g1,g2,g3,(Ext.same h1 h2).trans g4,g6⟩) h3
   cases hcnt:countF P ops.toList with
   | zero=>rw [hcnt] at h';exact fin [] σ (λ_=>rfl) rfl h'
   | succ m =>
    rw [hcnt] at h'
    obtain⟨vs,σ1,g1,g2,g3⟩:=H.room_ok (show H.room (m + 1) σ (λvs σ=>evDraw P cl true vs (mkT P (A.ld id) ops (slots P ops.toList 0).toArray (keepL A.kp (dsts ops.toList) []) ops.size (Array.replicate ops.size false) []).1 (mkT P (A.ld id) ops (slots P ops.toList 0).toArray (keepL A.kp (dsts ops.toList) []) ops.size (Array.replicate ops.size false) []).2 e σ kn)=.ok from h')
    exact fin vs σ1 g1 g2 g3
 | seq x y ihx ihy =>
  intro e σ kn kx kr φ a w hok hF hr h
  simp only [codeOk] at hok
  split at hok <;> try (cases hok;done)
  rename_i hx
  have h':evC P fu cl (comp P A x) true e σ (λe σ=>evC P fu cl (comp P A y) true e σ kn kx kr) kx kr=.ok:=h
  refine wp_seq (Code.wp_mono (λex a' w' hp=>?_) (ihx e σ _ kx kr φ a w hx hF hr h'))
  cases ex <;> simp only [Exit.then,PostX] at hp ⊢
  ·obtain⟨hS,φ1,e1,σ1,g1,g2,g3,g4,g5⟩:=hp
   refine Code.wp_mono (λex a'' w'' hp=>?_) (ihy e1 σ1 kn kx kr φ1 a' w' hok g2 g3 g5)
   cases ex <;> simp only [PostX] at hp ⊢
   ·exact⟨(Same.left hS).trans (Same.right hp.1),hp.2.up g1 g4⟩
   ·exact⟨(Same.left hS).trans (Same.right hp.1),hp.2.up g1 g4⟩
   ·exact hp.up g1 g4
  ·exact⟨Same.left hp.1,hp.2⟩
  ·exact hp
 | cond v x y ihx ihy =>
  intro e σ kn kx kr φ a w hok hF hr h
  simp only [codeOk] at hok
  split at hok <;> try (cases hok;done)
  rename_i hx
  obtain⟨u,h1,h2⟩:=getO_ok (show getO (opd [] v) [] e (λc=>c.onB (λc=>iff' c (evC P fu cl (comp P A x) true e σ kn kx kr) (evC P fu cl (comp P A y) true e σ kn kx kr)) 140)=.ok from h)
  obtain⟨b,rfl,h3⟩:=onB_ok h2
  have hv:=dec_b (hF.cx.opd h1)
  refine wp_cond hv ?_
  rcases iff_t h3 with⟨rfl,h4⟩ | ⟨rfl,h4⟩
  ·refine Code.wp_mono (λex a' w' hp=>?_) (ihx e σ kn kx kr φ a w hx hF hr h4)
   cases ex <;> simp only [PostX] at hp ⊢
   ·exact⟨Same.left hp.1,hp.2⟩
   ·exact⟨Same.left hp.1,hp.2⟩
   ·exact hp
  ·refine Code.wp_mono (λex a' w' hp=>?_) (ihy e σ kn kx kr φ a w hok hF hr h4)
   cases ex <;> simp only [PostX] at hp ⊢
   ·exact⟨Same.right hp.1,hp.2⟩
   ·exact⟨Same.right hp.1,hp.2⟩
   ·exact hp
 | block id b ih =>
  intro e σ kn kx kr φ a w hok hF hr h
  simp only [comp] at h
  split at h
  ·have h':evC P fu cl (comp P A b) true e σ kn (λi e σ=>iff' (Nat.beq i id) (kn e σ) (kx i e σ)) kr=.ok:=h
   refine wp_block (Code.wp_mono (λex a' w' hp=>?_) (ih e σ kn _ kr φ a w hok hF hr h'))
   cases ex <;> simp only [Exit.inBlock,PostX] at hp ⊢
   ·exact hp
   ·rename_i id'
    obtain⟨hS,φ1,e1,σ1,g1,g2,g3,g4,g5⟩:=hp
    rcases iff_t g5 with⟨hid,g6⟩ | ⟨hid,g6⟩
    ·rw [if_pos (kB hid)]
     exact⟨hS,φ1,e1,σ1,g1,g2,g3,g4,g6⟩
    ·rw [if_neg (Nat.ne_of_beq_eq_false hid)]
     exact⟨hS,φ1,e1,σ1,g1,g2,g3,g4,g6⟩
   ·exact hp
  ·have h':H.new σ (λlg σ=>evC P fu cl (comp P A b) false e σ (noK 142) (λi e1 σ1=>iff' (Nat.beq i id) (R.and (evC P fu cl (comp P A b) true e σ (noK 142) (λi e2 σ2=>iff' (Nat.beq i id) (okIf (hEq σ2 σ1) 144) (R.no 143)) (noK 145)) (σ1.old lg λσ1=>delE ((asg b).map path) e λe=>kn e σ1)) (R.no 143)) (noK 145))=.ok:=h
   obtain⟨σn,n1,n2,n3⟩:=new_ok h'
   obtain⟨f,⟨i1,e1,σ1,hx1,rfl⟩,m1,_⟩:=(evC_det (κ:=Nat→Kc D) (p:=λf=>∃ i e1 σ1,Ext σn σ1∧f=λkx=>kx i e1 σ1) (P:=P) (fu:=fu) (cl:=cl) hdet (comp P A b) (e:=e) (σ:=σn) (fn:=λ_ _ _=>R.no 142) (fx:=λi e σ kx=>kx i e σ) (fr:=λ_ _ _=>R.no 145)
    (λ_ _ _=>Det.no) (λi e' σ' hx=>Det.leaf ⟨i,e',σ',hx,rfl⟩) (λ_ _ _=>Det.no)).out n3
   obtain⟨_,m2⟩:=iff_ok m1
   obtain⟨m3,m4⟩:=and_ok m2
   obtain⟨σ2,o1,o2,o3⟩:=old_ok m4
   obtain⟨e3,d1,d2,d3⟩:=delE_ok o3
   have hrn:Rel P Hd w0 φ σn w:=hr.same rfl Keeps.refl n1
   refine wp_block (Code.wp_mono (λex a' w' hp=>?_) (ih e σn _ _ _ φ a w hok hF hrn m3))
   cases ex <;> simp only [Exit.inBlock,PostX] at hp ⊢
   ·obtain⟨_,_,_,_,_,_,_,_,g5⟩:=hp;cases g5
   ·rename_i id'
    obtain⟨hS,φ1,e2,σ3,g1,g2,g3,g4,g5⟩:=hp
    obtain⟨hid,g6⟩:=iff_ok g5
    rw [if_pos (kB hid)]
    have hSame:=hEq_ok (okIf_ok g6) g4 hx1 n2
    refine⟨hS,φ1,e3,σ2,g1,⟨g2.size,g2.defers,λt k u h=>(by cases h),λt u ht _ hu=>?_,λt ht hu=>?_⟩,(g3.perm hSame).same rfl Keeps.refl o1,Ext.back n1 n2 hx1 o1 o2,d1⟩
    ·by_cases hq:path t∈(asg b).map path
     ·rw [d3 _ hq] at hu;cases hu
     ·rw [d2 _ hq] at hu
      have hnt:memN t (asg b)=false:=by
       cases hb:memN t (asg b) with
       | false=>rfl
       | true=>exact absurd (List.mem_map.2 ⟨t,memN_iff.1 hb,rfl⟩) hq
      rw [hS t hnt]
      exact dec_mono g1 _ _ (hF.env t u ht rfl hu)
    ·by_cases hq:path t∈(asg b).map path
     ·rw [d3 _ hq] at hu;cases hu
     ·rw [d2 _ hq] at hu;exact hF.eK t ht hu
   ·obtain⟨_,_,_,_,_,_,_,g5⟩:=hp;cases g5
 | loop b ih =>
  intro e σ kn kx kr φ a w hok hF hr h
  have h':loopR fu (λr e σ=>evC P fu cl (comp P A b) true e σ r kx kr) e σ=.ok:=h
  have key:∀ (m:Nat) (e1:E) (σ1:H D) (φ1:Phi) (a1:Act) (w1:World),φ.le φ1→Ext σ σ1→Same (asg b) a a1→Fr n A.kp φ1 [] [] e1 a1→Rel P Hd w0 φ1 σ1 w1→loopR m (λr e σ=>evC P fu cl (comp P A b) true e σ r kx kr) e1 σ1=.ok→LoopAt P b (PostX P Hd w0 n A.kp (asg b) a φ σ kn kx kr) a1 w1:=by
   intro m
   induction m with
   | zero=>intro e1 σ1 φ1 a1 w1 _ _ _ _ _ h;cases h
   | succ m ihm =>
    intro e1 σ1 φ1 a1 w1 hle hx hS hF1 hr1 h
    refine loopAt_step (Code.wp_mono (λex a' w' hp=>?_) (ih e1 σ1 _ kx kr φ1 a1 w1 hok hF1 hr1 h))
    cases ex <;> simp only [Exit.then,PostX] at hp ⊢
    ·obtain⟨hS',φ2,e2,σ2,g1,g2,g3,g4,g5⟩:=hp
     exact ihm e2 σ2 φ2 a' w' (hle.trans g1) (hx.trans g4) (hS.trans hS') g2 g3 g5
    ·exact⟨hS.trans hp.1,hp.2.up hle hx⟩
    ·exact hp.up hle hx
  exact wp_of_loopAt (key fu e σ φ a w (.refl _) (.refl _) (Same.refl _ _) hF hr h')
 | exit id=>intro e σ kn kx kr φ a w hok hF hr h;exact wp_exit ⟨Same.refl _ _,φ,e,σ,.refl _,hF,hr,.refl _,h⟩
 | ret=>intro e σ kn kx kr φ a w hok hF hr h;exact wp_ret ⟨φ,e,σ,.refl _,hF,hr,.refl _,h⟩
 | rangeFunc f ps x y=>intro e σ kn kx kr φ a w hok;cases hok
 | scope b ih=>intro e σ kn kx kr φ a w hok;cases hok
 | label l=>intro e σ kn kx kr φ a w hok;cases hok
 | goto l=>intro e σ kn kx kr φ a w hok;cases hok
 | refuse l=>intro e σ kn kx kr φ a w hok;cases hok
end
section
variable {D:Type} {P:Program} {Hd:D→Loc→View→Prop} {w0:World} {n:Nat} {K:List Nat} {φ:Phi} {σ:H D} {e:E} {a:Act} {w:World}
theorem resL_ok (hF:Fr n K φ [] [] e a) (hr:Rel P Hd w0 φ σ w):∀ {l:List ResultVar} {k:List V→R},resL e σ (l.map (compR P)) k=.ok→∃ us ys,(l.mapM (resOf a.tmps)).run P w=.ok ys w∧decs φ us=some ys∧k us=.ok
 | [],k,h=>⟨[],[],rfl,rfl,h⟩
 | r::l,k,h=>by
  have h':resV (compR P r) e σ (λv=>resL e σ (l.map (compR P)) λvs=>k (v::vs))=.ok:=h
  have fin:∀ {u:V} {y:Value},dec φ u=some y→(resOf a.tmps r).run P w=.ok y w→resL e σ (l.map (compR P)) (λvs=>k (u::vs))=.ok→∃ us ys,((r::l).mapM (resOf a.tmps)).run P w=.ok ys w∧decs φ us=some ys∧k us=.ok:=by
   intro u y h1 h2 h3
   obtain⟨us,ys,g1,g2,g3⟩:=resL_ok hF hr h3
   refine⟨u::us,y::ys,?_,decs_cons h1 g2,g3⟩
   simp only [List.mapM_cons,Sem.run_bind,h2,Result.andThen_ok,g1,Sem.run_pure]
  cases r with
  | tmp t =>
   have hc:compR P (.tmp t)=match Nat.blt t 4000 with | true=>.tmp (path t) | false=>.bad:=rfl
   rw [hc] at h'
   cases hb:Nat.blt t 4000 with
   | false=>rw [hb] at h';cases h'
   | true =>
    rw [hb] at h'
    obtain⟨u,h1,h2⟩:=orE_ok (show orE (e.getp (path t)) (λv=>resL e σ (l.map (compR P)) λvs=>k (v::vs)) 150=.ok from h')
    exact fin (hF.env t u (by simpa using hb) rfl h1) (by simp [resOf]) h2
  | cell c t =>
   have hc:compR P (.cell c t)=match P.underlying t,sizeC P t,Nat.blt c 4000 with | some u,some n,true=>.cell (path c) n (isAggD u) | _,_,_=>.bad:=rfl
   rw [hc] at h'
   cases hu:P.underlying t with
   | none=>rw [hu] at h';cases h'
   | some ud =>
    cases hs:sizeC P t with
    | none=>rw [hu,hs] at h';cases h'
    | some m =>
     cases hb:Nat.blt c 4000 with
     | false=>rw [hu,hs,hb] at h';cases h'
     | true =>
      rw [hu,hs,hb] at h'
      simp only at h'
      obtain⟨x,h1,h2⟩:=orE_ok (show orE (e.getp (path c)) (λx=>match isAggD ud with | true=>vLdA m x σ (λv=>resL e σ (l.map (compR P)) λvs=>k (v::vs)) | false=>vLd x σ (λv=>resL e σ (l.map (compR P)) λvs=>k (v::vs))) 151=.ok from h')
      have hx:=hF.env c x (by simpa using hb) rfl h1
      obtain⟨inf,hi,hin⟩:=sizeC_ok hs
      cases hag:isAggD ud with
      | true =>
       rw [hag] at h2
       obtain⟨v,off,ex,m',cc,ty,sz,ll,rfl,g1,g2,g3,g4⟩:=vLdA_ok h2
       obtain⟨ad,ys,e1,e2,e3,_,e5⟩:=cells_list hr g1 g2 g3 hx
       refine fin (u:=.a ll) (y:=.agg ys.toArray) (by simp [dec,e2]) ?_ g4
       have hl:=run_loadCells (P:=P) e5
       rw [e3] at hl
       simp only [resOf,e1,asAddr,Sem.run_bind,Sem.run_pure,Result.andThen_ok,loadVar,run_isAgg' w hu,hag,run_sizeOf' w hi,hin,if_true]
       simp [hl]
      | false =>
       rw [hag] at h2
       obtain⟨v,off,ex,m',cc,ty,sz,u,rfl,g1,g2,g3⟩:=vLd_ok h2
       obtain⟨ad,z,e1,e2,e3,_,_⟩:=hr.cell g1 g2 hx
       refine fin (u:=u) (y:=z) e3 ?_ g3
       simp [resOf,e1,asAddr,loadVar,run_isAgg' w hu,hag,load,Sem.run,e2]
theorem evRet_ok {fn:Func} {k:V→H D→R} (hF:Fr n K φ [] [] e a) (hr:Rel P Hd w0 φ σ w) (h:evRet (fn.results.toList.map (compR P)) k e σ=.ok):∃ u y,(results fn a.tmps).run P w=.ok y w∧dec φ u=some y∧k u σ=.ok:=by
 obtain⟨us,ys,h1,h2,h3⟩:=resL_ok hF hr (show resL e σ _ _=.ok from h)
 have hres:(results fn a.tmps).run P w=.ok (if h:ys.toArray.size=1 then ys.toArray[0] else .tuple ys.toArray) w:=by
  have e1:results fn a.tmps=(fn.results.mapM (resOf a.tmps) >>= λvs=>pure (if h:vs.size=1 then vs[0] else .tuple vs)):=by
   unfold results
   congr 2
  rw [e1,Array.mapM_eq_mapM_toList]
  simp only [Sem.run_bind,Sem.run_map,h1,Result.andThen_ok,Sem.run_pure]
 rw [hres]
 have hlen:=decs_length h2
 rcases us with _ | ⟨u,_ | ⟨u',us⟩⟩
 ·have:ys=[]:=List.eq_nil_of_length_eq_zero (by simpa using hlen)
  subst this
  exact⟨.t [],_,rfl,rfl,h3⟩
 ·obtain⟨y,m,rfl,d1,d2⟩:=decs_cons_inv h2
  simp [decs] at d2;subst d2
  exact⟨u,y,rfl,d1,h3⟩
 ·obtain⟨y,m,rfl,d1,d2⟩:=decs_cons_inv h2
  obtain⟨y',m',rfl,d3,d4⟩:=decs_cons_inv d2
  refine⟨.t (u::u'::us),.tuple (y::y'::m').toArray,?_,by simp [dec,decs,d1,d3,d4],h3⟩
  rw [dif_neg (by simp)]
theorem argE_ok {np:Nat} {l:List V} {k:E→R} (h:argE np l k=.ok) (hnp:np < 4000):l.length=np∧∃ e,k e=.ok∧∀ t,t < 4000→e.getp (path t)=l[t]?:=by
 obtain⟨h1,h2⟩:=iff_ok h
 have h1:=kB h1
 refine⟨h1,?_⟩
 have key:∀ (l:List V) (i:Nat) (e:E),i + l.length < 4000→(List.rec (motive:=λ_=>Nat→E→(E→R)→R) (λ_ e k=>k e) (λv _ ih i e k=>Tr.putp v (digs 20 i) e λe=>ih (Nat.succ i) e k) l:Nat→E→(E→R)→R) i e k=.ok →
   ∃ e',k e'=.ok∧∀ t,t < 4000→e'.getp (path t)=if i≤t∧t < i + l.length then l[t - i]? else e.getp (path t):=by
  intro l
  induction l with
  | nil=>intro i e _ h;exact⟨e,h,λt _=>by rw [if_neg (by rintro⟨h1,h2⟩;simp at h2;omega)]⟩
  | cons v l ih =>
   intro i e hi h
   obtain⟨e1,g1,g2⟩:=putp_ok h
   obtain⟨e2,g3,g4⟩:=ih (Nat.succ i) e1 (by simp at hi;omega) g2
   refine⟨e2,g3,λt ht=>?_⟩
   rw [g4 t ht]
   simp only [List.length_cons] at hi ⊢
   by_cases hti:t=i
   ·subst hti
    rw [if_neg (by omega),if_pos (by omega),g1,if_pos (show path t=digs 20 t from rfl)]
    simp
   ·by_cases h2:Nat.succ i≤t∧t < Nat.succ i + l.length
    ·rw [if_pos h2,if_pos (by omega),show t - i=(t - Nat.succ i) + 1 from by omega]
     simp
    ·rw [if_neg h2,if_neg (by omega),g1,if_neg (λe0:path t=digs 20 i=>hti (path_inj ht (by omega) e0))]
 obtain⟨e',g1,g2⟩:=key l 0 .e (by omega) h2
 refine⟨e',g1,λt ht=>?_⟩
 rw [g2 t ht]
 by_cases h:t < l.length
 ·rw [if_pos (by omega)];simp
 ·rw [if_neg (by omega),List.getElem?_eq_none (by omega)];cases path t <;> rfl
def FxOK (P:Program) (Hd:D→Loc→View→Prop) (w0:World) (F:Nat) (h:Fx D):Prop:=∀ (fu:Nat) (cl:Bool→Nat→Hk D),ClOK P Hd w0 (cl true)→ClDet (cl false)→∀ (l:List V) (σ:H D) (k:V→H D→R) (φ:Phi) (w:World) (vs:List Value),Rel P Hd w0 φ σ w→decs φ l=some vs→h fu cl true l σ k=.ok →
 enters P F=true∧Calls P F vs.toArray w λe w''=>∃ v,e=.returned v∧Post P Hd w0 φ σ k v w''
theorem evFn_ok {A:Nat→Adv} {F:Nat} (hm:P.follows .mixedOrders=true) (hen:enters P F=true):FxOK P Hd w0 F (evFn (D:=D) P A F):=by
 intro fu cl hcl hdet l σ k φ w vs hr hd h
 refine⟨hen,?_⟩
 unfold evFn at h
 cases hfc:fnC P A F with
 | none=>rw [hfc] at h;cases h
 | mk np c rs =>
  rw [hfc] at h
  simp only at h
  unfold fnC at hfc
  split at hfc <;> try (cases hfc;done)
  rename_i fn hf
  split at hfc <;> try (cases hfc;done)
  rename_i c0 hb
  split at hfc <;> try (cases hfc;done)
  rename_i h1 h2 h3
  cases hfc
  simp only [Bool.and_eq_true] at h1
  have hn:fn.ntmps < 4000:=by simpa using h1.1
  have hnp:fn.params.size + fn.nfree≤fn.ntmps:=Nat.le_of_ble_eq_true h1.2
  obtain⟨hl,e,h4,h5⟩:=argE_ok h (by omega)
  have hlen:=decs_length hd
  refine calls_of_wp hf hb ?_
  have h6:evC P fu cl (comp P (A F) c0) true e σ (evRet (fn.results.toList.map (compR P)) k) (λ_=>noK 161) (evRet (fn.results.toList.map (compR P)) k)=.ok:=h4
  have hF:Fr fn.ntmps (A F).kp φ [] [] e { tmps:=vs.toArray++Array.replicate (fn.ntmps - vs.toArray.size) undef,defers:=[] }:=by
   refine⟨by simp;omega,rfl,λt j u h=>(by cases h),λt u ht _ hu=>?_,λt ht hu=>?_⟩
   ·rw [h5 t ht] at hu
    obtain⟨y,g1,g2⟩:=decs_get hd hu
    have hlt:t < vs.length:=(kA g1).1
    simp only [Array.getD_eq_getD_getElem?]
    rw [Array.getElem?_append_left (by simpa using hlt)]
    simp [g1,g2]
   ·rw [h5 t ht] at hu
    have hlt:t < l.length:=by
     rcases Nat.lt_or_ge t l.length with h | h
     ·exact h
     ·rw [List.getElem?_eq_none h] at hu;cases hu
    rw [List.all_eq_true] at h3
    exact h3 t (by simp;omega)
  refine Code.wp_mono (λex a' w' hp=>?_) (evC_ok hcl hdet hm hn c0 e σ _ _ _ φ _ w h2 hF hr h6)
  cases ex <;> simp only [PostX] at hp
  ·obtain⟨_,φ1,e1,σ1,g1,g2,g3,g4,g5⟩:=hp
   obtain⟨u,y,r1,r2,r3⟩:=evRet_ok g2 g3 g5
   exact⟨g2.defers,_,r1,y,rfl,φ1,u,σ1,g1,g3,r2,g4,r3⟩
  ·obtain⟨_,_,_,_,_,_,_,_,g5⟩:=hp;cases g5
  ·obtain⟨φ1,e1,σ1,g1,g2,g3,g4,g5⟩:=hp
   obtain⟨u,y,r1,r2,r3⟩:=evRet_ok g2 g3 g5
   exact⟨g2.defers,_,r1,y,rfl,φ1,u,σ1,g1,g3,r2,g4,r3⟩
theorem evF_ok {T:Tr (Fx D)} {fu:Nat} (hT:∀ F h,F < 1000000→T.getp (digs 20 F)=some h→FxOK P Hd w0 F h) (hD:∀ q h,T.getp q=some h→FxDet h):∀ fuel,ClOK P Hd w0 (evF T fu fuel true)
 | 0=>λ_ _ _ _ _ _ _ _ _ h=>by cases h
 | fuel + 1=>λF l σ k φ w vs hr hd h=>by
  obtain⟨h1,h2⟩:=iff_ok (show iff' (Nat.blt F 1000000) (orE (T.getp (digs 20 F)) (λh=>h fu (evF T fu fuel) true l σ k) (10000 + F)) (R.no 161)=.ok from h)
  obtain⟨g,h3,h4⟩:=orE_ok h2
  exact hT F g (by simpa using h1) h3 fu (evF T fu fuel) (evF_ok hT hD fuel) (evF_det hD fuel) l σ k φ w vs hr hd h4
theorem insT_getp {x:Fx D}:∀ {p:Vid} {t:Tr (Fx D)} (q:Vid),(insT x p t).getp q=if q=p then some x else t.getp q
 | [],t,q=>by
  cases t with
  | e=>cases q with
   | nil=>rfl
   | cons a q =>
    rw [if_neg (by simp)]
    show (Tr.n (some x) .e .e .e .e).getp (a::q)=_
    cases a <;> cases q <;> rfl
  | n v a b c d=>cases q with
   | nil=>rfl
   | cons y q=>rw [if_neg (by simp)];cases y <;> rfl
 | a::p,t,q=>by
  cases t with
  | e =>
   show (Tr.onep x (a::p)).getp q=_
   rw [getp_onep];simp
  | n v c0 c1 c2 c3 =>
   cases q with
   | nil=>rw [if_neg (by simp)];cases a <;> rfl
   | cons y q =>
    have h0:=insT_getp (x:=x) (p:=p) (t:=c0) q
    have h1:=insT_getp (x:=x) (p:=p) (t:=c1) q
    have h2:=insT_getp (x:=x) (p:=p) (t:=c2) q
    have h3:=insT_getp (x:=x) (p:=p) (t:=c3) q
    cases a <;> cases y
    all_goals first
     | (show (insT x p c0).getp q=_;rw [h0];by_cases hq:q=p <;> simp [hq,getp_cons];done)
     | (show (insT x p c1).getp q=_;rw [h1];by_cases hq:q=p <;> simp [hq,getp_cons];done)
     | (show (insT x p c2).getp q=_;rw [h2];by_cases hq:q=p <;> simp [hq,getp_cons];done)
     | (show (insT x p c3).getp q=_;rw [h3];by_cases hq:q=p <;> simp [hq,getp_cons];done)
     | (rw [if_neg (by simp)];rfl)
theorem tabL_ok:∀ {l:List (Nat × Fx D)} {q:Vid} {h:Fx D},(tabL l).getp q=some h→∃ p∈l,q=digs 20 p.1∧h=p.2
 | [],q,h,hh=>by cases q <;> cases (show (none:Option (Fx D))=some h from by rw [← hh];rfl)
 | p::l,q,h,hh=>by
  have h1:(insT p.2 (digs 20 p.1) (tabL l)).getp q=some h:=hh
  rw [insT_getp] at h1
  by_cases hq:q=digs 20 p.1
  ·rw [if_pos hq] at h1;cases h1;exact⟨p,by simp,hq,rfl⟩
  ·rw [if_neg hq] at h1
   obtain⟨p',g1,g2⟩:=tabL_ok h1
   exact⟨p',by simp [g1],g2⟩
theorem evF_tab {l:List (Nat × Fx D)} {fu:Nat} (hl:∀ p∈l,p.1 < 1000000∧FxOK P Hd w0 p.1 p.2∧FxDet p.2) (fuel:Nat):ClOK P Hd w0 (evF (tabL l) fu fuel true):=by
 refine evF_ok (λF h hF hh=>?_) (λq h hh=>?_) fuel
 ·obtain⟨p,g1,g2,g3⟩:=tabL_ok hh
  obtain⟨h1,h2,_⟩:=hl p g1
  have:F=p.1:=digs_inj 20 F p.1 (by omega) (by omega) g2
  subst this g3
  exact h2
 ·obtain⟨p,g1,_,g3⟩:=tabL_ok hh
  subst g3
  exact (hl p g1).2.2
end
def isPre:List Nat→List Nat→Bool
 | [],_=>true
 | a::l,b::m=>match Nat.beq (a % 256) (b % 256) with | true=>isPre l m | false=>false
 | _::_,[]=>false
def cutL (sep:Nat):List Nat→List Nat→Option (List Nat × List Nat)
 | [],_=>none
 | a::l,acc=>match Nat.beq (a % 256) (sep % 256) with | true=>some (acc.reverse,l) | false=>cutL sep l (a::acc)
def splitL (sep:Nat):List Nat→List Nat→List (List Nat)
 | [],acc=>[acc.reverse]
 | a::l,acc=>match Nat.beq (a % 256) (sep % 256) with | true=>acc.reverse::splitL sep l [] | false=>splitL sep l (a::acc)
def joinL (sep:List Nat):List (List Nat)→List Nat
 | []=>[]
 | [a]=>a
 | a::b::l=>a++sep++joinL sep (b::l)
def digitsL:Nat→Nat→List Nat→List Nat
 | 0,_,acc=>acc
 | f + 1,n,acc=>match Nat.blt n 10 with | true=>(48 + n)::acc | false=>digitsL f (n / 10) ((48 + n % 10)::acc)
def itoaL (n:Nat):List Nat:=digitsL 20 n []
section
variable {D:Type}
def hkCut:Hk D:=λargs σ k=>match args with
 | [.s s,.s [c]]=>iff' (Nat.blt (List.length s) 1000000) (match cutL c s [] with
  | some (a,b)=>k (.t [.s a,.s b,.b true]) σ
  | none=>k (.t [.s s,.s [],.b false]) σ) (.no 300)
 | _=>.no 300
def hkCutPrefix:Hk D:=λargs σ k=>match args with
 | [.s s,.s p]=>match isPre p s with
  | true=>k (.t [.s (s.drop p.length),.b true]) σ
  | false=>k (.t [.s s,.b false]) σ
 | _=>.no 301
def hkHasPrefix:Hk D:=λargs σ k=>match args with
 | [.s s,.s p]=>k (.b (isPre p s)) σ
 | _=>.no 302
def hkSplit (ty:Nat):Hk D:=λargs σ k=>match args with
 | [.s s,.s [c]]=>iff' (Nat.blt (List.length s) 1000000) (H.room 1 σ λvs σ=>fN (List.length (splitL c s [])) λn=>mkRow (vAt 0 vs) ((splitL c s []).map V.s) ty 1 σ λσ=>k (.sl (vAt 0 vs) 0 n (.ex n)) σ) (.no 303)
 | _=>.no 303
def strsV:List V→Option (List (List Nat))
 | []=>some []
 | .s l::r=>match strsV r with | some m=>some (l::m) | none=>none
 | _=>none
def hkJoin:Hk D:=λargs σ k=>match args with
 | [l,.s sep]=>l.onRd (k (.s []) σ) (λv off n=>σ.cells v λ_ _ c _ _=>rdFrom c off n λvs=>orE (strsV vs) (λls=>iff' (Nat.blt (List.length ls) 1000000&&Nat.blt (List.length (joinL sep ls)) 1000000) (k (.s (joinL sep ls)) σ) (.no 304)) 304) (λ_=>.no 305) 305
 | _=>.no 305
def idxB (c:Nat):List Nat→Nat→Option Nat
 | [],_=>none
 | a::l,n=>match Nat.beq (a % 256) (c % 256) with | true=>some n | false=>idxB c l (n + 1)
def hkIndexByte:Hk D:=λargs σ k=>match args with
 | [.s s,.i q (.ofNat c)]=>iff' (Nat.beq (kIx q) 4&&Nat.blt c 256) (match idxB c s 0 with
  | some n=>k (.i .i64 (.ofNat n)) σ
  | none=>k (.i .i64 (.negSucc 0)) σ) (.no 312)
 | _=>.no 312
def hkItoa:Hk D:=λargs σ k=>match args with
 | [.i q (.ofNat n)]=>iff' (Nat.beq (kIx q) 3&&Nat.blt n 100) (k (.s (itoaL n)) σ) (.no 389)
 | _=>.no 306
end
def ii (n:Nat):V:=.i .i64 (.ofNat n)
def gE (n:Nat) (e:E) (k:V→R):R:=orE (Tr.getp (path n) e) k 2
def pE (v:V) (n:Nat) (e:E) (k:E→R):R:=Tr.putp v (path n) e k
def cE (n:Nat) (e:E) (a b:R):R:=orE (Tr.getp (path n) e) (λc=>V.onB c (λc=>iff' c a b) 140) 2
def rE (n:Nat) (e:E) (k:V→R):R:=orE (Tr.getp (path n) e) k 150
def fB {D:Type} (np:Nat) (ret:K D→Kc D) (b:Nat→(Bool→Nat→Hk D)→Bool→Kc D→Kc D):Fx D:=λfu cl md args σ k=>argE np args λe=>bindK (λkr=>b fu cl md kr e σ) (ret k)
section
variable {D:Type} {P:Program} {Hd:D→Loc→View→Prop} {w0:World} {F:Nat}
theorem FxDet.of {h:Hk D} (hh:∀ (κ:Type) (p:(κ→R)→Prop) (l:List V) (σ:H D) (f:V→H D→κ→R),(∀ u σ',Ext σ σ'→Det p (f u σ'))→Det p (λk=>h l σ (λu σ=>f u σ k))):FxDet (λ_ _ _=>h):=⟨λ_ _ _ κ p l σ f hf=>hh κ p l σ f hf⟩
theorem FxOK.of {h:Hk D} (hen:enters P F=true) (hh:∀ (l:List V) (σ:H D) (k:V→H D→R) (φ:Phi) (w:World) (vs:List Value),Rel P Hd w0 φ σ w→decs φ l=some vs→h l σ k=.ok→Calls P F vs.toArray w λe w''=>∃ v,e=.returned v∧Post P Hd w0 φ σ k v w''):FxOK P Hd w0 F (λ_ _ _=>h) :=
 λ_ _ _ _ l σ k φ w vs hr hd hk=>⟨hen,hh l σ k φ w vs hr hd hk⟩
theorem bytesOf_list (l:List Nat):(bytesOf l).data.toList=l.map UInt8.ofNat:=by simp [bytesOf]
theorem u8_eq (a b:Nat):Nat.beq (a % 256) (b % 256)=(UInt8.ofNat a==UInt8.ofNat b):=by
 rw [nbeq]
 have:(UInt8.ofNat a=UInt8.ofNat b)↔a % 256=b % 256:=by
  constructor
  ·intro h
   have:=congrArg UInt8.toNat h
   simpa using this
  ·intro h
   apply UInt8.toNat_inj.1
   simpa using h
 by_cases h:a % 256=b % 256
 ·rw [this.2 h];simp [h]
 ·have h':¬ UInt8.ofNat a=UInt8.ofNat b:=λe=>h (this.1 e)
  simp [h,h']
theorem isPre_eq:∀ (p s:List Nat),isPre p s=(p.map UInt8.ofNat).isPrefixOf (s.map UInt8.ofNat)
 | [],s=>rfl
 | a::l,[]=>rfl
 | a::l,b::m=>by
  simp only [isPre,List.map_cons,List.isPrefixOf]
  rw [u8_eq,isPre_eq l m]
  cases (UInt8.ofNat a==UInt8.ofNat b) <;> rfl
theorem two_s {φ:Phi} {s p:List Nat} {vs:List Value} (h:decs φ [.s s,.s p]=some vs):vs=[.string (bytesOf s),.string (bytesOf p)]:=by
 obtain⟨y,m,rfl,h1,h2⟩:=decs_cons_inv h
 obtain⟨y',m',rfl,h3,h4⟩:=decs_cons_inv h2
 simp [decs] at h4;subst h4
 rw [dec_s h1,dec_s h3]
theorem hasPrefix_ok (hen:enters P F=true) (hC:∀ (s p:ByteArray) (w:World),Calls P F #[.string s,.string p] w λe w'=>e=.returned (.bool (Lib.hasPrefix s.data.toList p.data.toList))∧w'=w):FxOK P Hd w0 F (λ_ _ _=>(hkHasPrefix:Hk D)):=by
 refine FxOK.of hen λl σ k φ w vs hr hd h=>?_
 unfold hkHasPrefix at h
 split at h <;> try (cases h;done)
 rename_i s p
 have:=two_s hd
 subst this
 refine (hC (bytesOf s) (bytesOf p) w).mono λe w' ⟨h1,h2⟩=>?_
 subst h2
 refine⟨_,h1,Post.pure hr ?_ h⟩
 simp only [dec,Lib.hasPrefix,bytesOf_list,isPre_eq]
theorem hasPrefix_det:FxDet (λ_ _ _=>(hkHasPrefix:Hk D)):=FxDet.of λκ p l σ f hf=>by
 unfold hkHasPrefix
 rcases l with _ | ⟨a,_ | ⟨b,_ | ⟨c,l⟩⟩⟩
 ·exact Det.no
 ·cases a <;> exact Det.no
 ·cases a <;> cases b <;> first | exact Det.no | exact hf _ _ (.refl _)
 ·cases a <;> cases b <;> exact Det.no
theorem cutPrefix_ok (hen:enters P F=true) (hC:∀ (s p:ByteArray) (w:World),Calls P F #[.string s,.string p] w λe w'=>e=.returned (.tuple #[.string ⟨(Lib.trimPrefix s.data.toList p.data.toList).toArray⟩,.bool (Lib.hasPrefix s.data.toList p.data.toList)])∧w'=w):FxOK P Hd w0 F (λ_ _ _=>(hkCutPrefix:Hk D)):=by
 refine FxOK.of hen λl σ k φ w vs hr hd h=>?_
 unfold hkCutPrefix at h
 split at h <;> try (cases h;done)
 rename_i s p
 have:=two_s hd
 subst this
 refine (hC (bytesOf s) (bytesOf p) w).mono λe w' ⟨h1,h2⟩=>?_
 subst h2
 split at h
 ·rename_i hp
  refine⟨_,h1,Post.pure hr ?_ h⟩
  rw [isPre_eq] at hp
  simp only [dec,decs,Lib.hasPrefix,Lib.trimPrefix,bytesOf_list,hp,if_true,Option.bind_some,Option.map_some,Option.some.injEq,List.length_map]
  simp [bytesOf]
 ·rename_i hp
  refine⟨_,h1,Post.pure hr ?_ h⟩
  rw [isPre_eq] at hp
  simp only [dec,decs,Lib.hasPrefix,Lib.trimPrefix,bytesOf_list,hp,Option.bind_some,Option.map_some,Option.some.injEq]
  simp [bytesOf]
theorem cutPrefix_det:FxDet (λ_ _ _=>(hkCutPrefix:Hk D)):=FxDet.of λκ p l σ f hf=>by
 unfold hkCutPrefix
 rcases l with _ | ⟨a,_ | ⟨b,_ | ⟨c,l⟩⟩⟩
 ·exact Det.no
 ·cases a <;> exact Det.no
 ·cases a <;> cases b <;> try exact Det.no
  rename_i s q
  show Det p (λk=>match isPre q s with | true=>f (.t [.s (s.drop q.length),.b true]) σ k | false=>f (.t [.s s,.b false]) σ k)
  cases isPre q s
  ·exact hf _ _ (.refl _)
  ·exact hf _ _ (.refl _)
 ·cases a <;> cases b <;> exact Det.no
end
section
variable {D:Type} {P:Program} {Hd:D→Loc→View→Prop} {w0:World} {F:Nat}
theorem cutL_ok (c:Nat):∀ (s acc:List Nat),match cutL c s acc with
  | some (a,b)=>∃ i:Nat,Lib.index (s.map UInt8.ofNat) [UInt8.ofNat c]=i∧a=acc.reverse++s.take i∧b=s.drop (i + 1)∧i < s.length
  | none=>Lib.index (s.map UInt8.ofNat) [UInt8.ofNat c]=-1
 | [],acc=>rfl
 | x::l,acc=>by
  unfold cutL
  cases hb:Nat.beq (x % 256) (c % 256) with
  | true =>
   rw [u8_eq] at hb
   have hx:UInt8.ofNat x=UInt8.ofNat c:=beq_iff_eq.1 hb
   refine⟨0,?_,by simp,by simp,by simp⟩
   simp [Lib.index,List.isPrefixOf,hx]
  | false =>
   rw [u8_eq] at hb
   have hx:¬ (UInt8.ofNat c=UInt8.ofNat x):=λe=>by rw [e] at hb;simp at hb
   have ih:=cutL_ok c l (x::acc)
   have hidx:Lib.index ((x::l).map UInt8.ofNat) [UInt8.ofNat c]=if Lib.index (l.map UInt8.ofNat) [UInt8.ofNat c]==-1 then -1 else Lib.index (l.map UInt8.ofNat) [UInt8.ofNat c] + 1:=by
    simp [Lib.index,List.isPrefixOf,hx]
   show match cutL c l (x::acc) with
    | some (a,b)=>∃ i:Nat,Lib.index ((x::l).map UInt8.ofNat) [UInt8.ofNat c]=i∧a=acc.reverse++(x::l).take i∧b=(x::l).drop (i + 1)∧i < (x::l).length
    | none=>Lib.index ((x::l).map UInt8.ofNat) [UInt8.ofNat c]=-1
   rw [hidx]
   cases hc:cutL c l (x::acc) with
   | none=>rw [hc] at ih;simp only at ih ⊢;rw [ih];rfl
   | some p =>
    rw [hc] at ih
    obtain⟨i,h1,h2,h3,h4⟩:=ih
    refine⟨i + 1,?_,?_,?_,by simp;omega⟩
    ·rw [h1,if_neg (by intro h;have:=beq_iff_eq.1 h;omega)];rfl
    ·rw [h2];simp
    ·rw [h3];simp
theorem Rel.cell0 {φ:Phi} {σ:H D} {w:World} (hr:Rel P Hd w0 φ σ w) {m:Int} (hm:w0.cell? ⟨0,0,none⟩=some (.int .i64 m)):w.cell? ⟨0,0,none⟩=some (.int .i64 m):=by
 have h0:∃ o,w0.heap[0]?=some o:=by
  cases h:w0.heap[0]? with
  | some o=>exact⟨o,rfl⟩
  | none=>simp [World.cell?,h] at hm
 obtain⟨o,ho⟩:=h0
 have:=hr.keeps.blk0 ho
 simp only [World.cell?,ho,this] at hm ⊢
 exact hm
theorem Rel.drewN {φ:Phi} {σ:H D} {w:World} (hr:Rel P Hd w0 φ σ w) (n:Nat):Rel P Hd w0 φ σ (w.drewN n):=hr.same rfl ⟨rfl,rfl,rfl,Nat.le_refl _,λ_ _ _=>rfl⟩ λ_=>rfl
theorem cut_ok {m:Int} (hm:w0.cell? ⟨0,0,none⟩=some (.int .i64 m)) (hen:enters P F=true)
  (hC:∀ (s sep:ByteArray) (m:Int) (w:World),s.size < 4294967281→w.cell? ⟨0,0,none⟩=some (.int .i64 m)→Calls P F #[.string s,.string sep] w λe w'=>e=.returned (.tuple #[.string ⟨(Lib.cut s.data.toList sep.data.toList).1.toArray⟩,.string ⟨(Lib.cut s.data.toList sep.data.toList).2.1.toArray⟩,.bool (Lib.cut s.data.toList sep.data.toList).2.2])∧∃ n,w'=w.drewN n) :
  FxOK P Hd w0 F (λ_ _ _=>(hkCut:Hk D)):=by
 refine FxOK.of hen λl σ k φ w vs hr hd h=>?_
 unfold hkCut at h
 split at h <;> try (cases h;done)
 rename_i s c
 have:=two_s hd
 subst this
 obtain⟨hb,h⟩:=iff_ok h
 have hb:s.length < 1000000:=by simpa using hb
 refine (hC (bytesOf s) (bytesOf [c]) m w (by rw [bytesOf_size];omega) (hr.cell0 hm)).mono λe w' ⟨h1,n,h2⟩=>?_
 subst h2
 have hcut:=cutL_ok c s []
 have hc1:(bytesOf [c]).data.toList=[UInt8.ofNat c]:=by rw [bytesOf_list];rfl
 rw [bytesOf_list,hc1] at h1
 split at h
 ·rename_i a b hc
  rw [hc] at hcut
  obtain⟨i,g1,g2,g3,g4⟩:=hcut
  refine⟨_,h1,Post.pure (hr.drewN n) ?_ h⟩
  unfold Lib.cut
  rw [g1,if_pos (by omega)]
  simp only [dec,decs,g2,g3,Option.bind_some,Option.map_some,Option.some.injEq]
  simp [bytesOf]
 ·rename_i hc
  rw [hc] at hcut
  refine⟨_,h1,Post.pure (hr.drewN n) ?_ h⟩
  unfold Lib.cut
  simp only at hcut
  rw [hcut,if_neg (by decide)]
  simp only [dec,decs,Option.bind_some,Option.map_some,Option.some.injEq]
  simp [bytesOf]
theorem cut_det:FxDet (λ_ _ _=>(hkCut:Hk D)):=FxDet.of λκ p l σ f hf=>by
 have key:∀ (s:List Nat) (c:Nat),Det p (λk=>iff' (Nat.blt (List.length s) 1000000) (match cutL c s [] with
   | some (a,b)=>f (.t [.s a,.s b,.b true]) σ k
   | none=>f (.t [.s s,.s [],.b false]) σ k) (.no 300)):=λs c=>Det.iff (λ_=>by
  cases cutL c s [] with
  | none=>exact hf _ _ (.refl _)
  | some q=>exact hf _ _ (.refl _)) λ_=>Det.no
 unfold hkCut
 rcases l with _ | ⟨a,_ | ⟨b,_ | ⟨c,l⟩⟩⟩
 ·exact Det.no
 ·cases a <;> exact Det.no
 ·cases a <;> try exact Det.no
  cases b <;> try exact Det.no
  rename_i s q
  rcases q with _ | ⟨c,_ | ⟨d,q⟩⟩
  ·exact Det.no
  ·exact key s c
  ·exact Det.no
 ·cases a <;> cases b <;> first | exact Det.no | (rename_i s q;rcases q with _ | ⟨c,_ | ⟨d,q⟩⟩ <;> exact Det.no)
theorem digits_ok:∀ (f n:Nat) (acc:List Nat),n < 10 ^ (f + 1)→(digitsL (f + 1) n acc).map UInt8.ofNat=Lib.decDigits n++acc.map UInt8.ofNat:=by
 have small:∀ (f n:Nat) (acc:List Nat),n < 10→(digitsL (f + 1) n acc).map UInt8.ofNat=Lib.decDigits n++acc.map UInt8.ofNat:=by
  intro f n acc hn
  have:Nat.blt n 10=true:=by simpa using hn
  unfold digitsL
  rw [this,Lib.decDigits,dif_pos hn];rfl
 intro f
 induction f with
 | zero=>intro n acc h;exact small 0 n acc (by simpa using h)
 | succ f ih =>
  intro n acc h
  by_cases hn:n < 10
  ·exact small _ n acc hn
  ·have hb:Nat.blt n 10=false:=by
    cases hb:Nat.blt n 10 with
    | false=>rfl
    | true=>exact absurd (by simpa using hb) hn
   rw [Lib.decDigits,dif_neg hn]
   show (match Nat.blt n 10 with | true=>(48 + n)::acc | false=>digitsL (f + 1) (n / 10) ((48 + n % 10)::acc)).map UInt8.ofNat=_
   rw [hb]
   show (digitsL (f + 1) (n / 10) ((48 + n % 10)::acc)).map UInt8.ofNat=_
   rw [ih (n / 10) _ (by rw [Nat.pow_succ] at h;omega)]
   simp
theorem itoa_ok (hen:enters P F=true) (hC:∀ (i:Nat) (w:World),i < 100→Calls P F #[.int .i64 i] w λe w'=>e=.returned (.string ⟨(Lib.decDigits i).toArray⟩)∧w'=w):FxOK P Hd w0 F (λ_ _ _=>(hkItoa:Hk D)):=by
 refine FxOK.of hen λl σ k φ w vs hr hd h=>?_
 unfold hkItoa at h
 split at h <;> try (cases h;done)
 rename_i q n
 obtain⟨y,m,rfl,h1,h2⟩:=decs_cons_inv hd
 simp [decs] at h2;subst h2
 obtain⟨hb,h9⟩:=iff_ok h
 simp only [Bool.and_eq_true] at hb
 have hq:q=.i64:=kIx_eq (b:=.i64) hb.1
 subst hq
 have hn:n < 100:=by simpa using hb.2
 rw [dec_i h1]
 refine (hC n w hn).mono λe w' ⟨g1,g2⟩=>?_
 subst g2
 refine⟨_,g1,Post.pure hr ?_ h9⟩
 have:=digits_ok 19 n [] (by omega)
 simp only [dec,Option.some.injEq,itoaL,bytesOf]
 simp only [List.map_nil,List.append_nil] at this
 rw [this]
theorem itoa_det:FxDet (λ_ _ _=>(hkItoa:Hk D)):=FxDet.of λκ p l σ f hf=>by
 unfold hkItoa
 rcases l with _ | ⟨a,_ | ⟨b,l⟩⟩
 ·exact Det.no
 ·cases a <;> try exact Det.no
  rename_i q n
  cases n with
  | ofNat n=>exact Det.iff (f:=λk=>f (.s (itoaL n)) σ k) (λ_=>hf _ _ (.refl _)) λ_=>Det.no
  | negSucc n=>exact Det.no
 ·cases a <;> try exact Det.no
  rename_i q n
  cases n <;> exact Det.no
end
theorem splitL_cut (c:Nat):∀ (s acc:List Nat),splitL c s acc=match cutL c s acc with
  | none=>[acc.reverse++s]
  | some (a,b)=>a::splitL c b []
 | [],acc=>by simp [splitL,cutL]
 | x::l,acc=>by
  have e1:splitL c (x::l) acc=match Nat.beq (x % 256) (c % 256) with | true=>acc.reverse::splitL c l [] | false=>splitL c l (x::acc):=rfl
  have e2:cutL c (x::l) acc=match Nat.beq (x % 256) (c % 256) with | true=>some (acc.reverse,l) | false=>cutL c l (x::acc):=rfl
  rw [e1,e2]
  cases Nat.beq (x % 256) (c % 256) with
  | true=>rfl
  | false =>
   simp only
   rw [splitL_cut c l (x::acc)]
   cases cutL c l (x::acc) with
   | none=>simp
   | some p=>rfl
theorem splitL_ok (c:Nat):∀ (f:Nat) (s:List Nat),s.length < f→(splitL c s []).map (·.map UInt8.ofNat)=Lib.splitK [UInt8.ofNat c] 0 (Lib.countFrom [UInt8.ofNat c] f (s.map UInt8.ofNat)) (s.map UInt8.ofNat)∧(splitL c s []).length=Lib.countFrom [UInt8.ofNat c] f (s.map UInt8.ofNat) + 1:=by
 intro f
 induction f with
 | zero=>intro s h;omega
 | succ f ih =>
  intro s h
  have hc:=cutL_ok c s []
  rw [splitL_cut]
  cases hcut:cutL c s [] with
  | none =>
   rw [hcut] at hc
   simp only at hc
   rw [Lib.countFrom,hc]
   simp [Lib.splitK]
  | some p =>
   rw [hcut] at hc
   obtain⟨i,h1,h2,h3,h4⟩:=hc
   have hlen:p.2.length < f:=by rw [h3];simp;omega
   obtain⟨g1,g2⟩:=ih p.2 hlen
   have hd:(s.map UInt8.ofNat).drop (((i:Int)).toNat + [UInt8.ofNat c].length)=p.2.map UInt8.ofNat:=by rw [h3];simp [List.map_drop]
   have hne:¬ ((i:Int)==-1)=true:=λe=>by have:=beq_iff_eq.1 e;omega
   rw [Lib.countFrom,h1,if_neg hne,hd,Nat.add_comm 1]
   refine⟨?_,?_⟩
   ·rw [Lib.splitK,h1,if_neg hne,hd,← g1]
    simp only [List.map_cons,h2]
    simp [List.map_take]
   ·simp only [List.length_cons,g2]
section
variable {D:Type} {P:Program} {Hd:D→Loc→View→Prop} {w0:World} {F ty:Nat}
theorem map_bytes {l:List ByteArray} {m:List (List Nat)} (h:l.map (·.data.toList)=m.map (·.map UInt8.ofNat)):l=m.map bytesOf:=by
 induction l generalizing m with
 | nil=>cases m with | nil=>rfl | cons _ _=>simp at h
 | cons a l ih =>
  cases m with
  | nil=>simp at h
  | cons b m =>
   simp only [List.map_cons,List.cons.injEq] at h
   rw [List.map_cons,ih h.2]
   congr 1
   exact ba_ext (by rw [h.1,bytesOf_list])
theorem decs_strs {φ:Phi}:∀ m:List (List Nat),decs φ (m.map V.s)=some ((m.map bytesOf).map Value.string)
 | []=>rfl
 | a::m=>decs_cons rfl (decs_strs m)
theorem split_ok {m:Int} (hm:w0.cell? ⟨0,0,none⟩=some (.int .i64 m)) (hen:enters P F=true)
  (hC:∀ (s sep:ByteArray) (m:Int) (w:World),s.size < 4294967281→w.cell? ⟨0,0,none⟩=some (.int .i64 m)→1≤sep.size→Calls P F #[.string s,.string sep] w λe w' =>
   e=.returned (.slice (some ⟨w.heap.size,0,none⟩) (Lib.countB s sep + 1) (Lib.countB s sep + 1))∧w'=w.alloc (.cells ((Lib.splitB sep 0 (Lib.countB s sep) s).map Value.string).toArray ty)) :
  FxOK P Hd w0 F (λ_ _ _=>(hkSplit ty:Hk D)):=by
 refine FxOK.of hen λl σ k φ w vs hr hd h=>?_
 unfold hkSplit at h
 split at h <;> try (cases h;done)
 rename_i s c
 have:=two_s hd
 subst this
 obtain⟨hb,h9⟩:=iff_ok h
 have hb:s.length < 1000000:=by simpa using hb
 obtain⟨vv,σ1,g1,g2,g3⟩:=H.room_ok (show H.room 1 σ (λvs σ=>fN (List.length (splitL c s [])) λn=>mkRow (vAt 0 vs) ((splitL c s []).map V.s) ty 1 σ λσ=>k (.sl (vAt 0 vs) 0 n (.ex n)) σ)=.ok from h9)
 rw [fN_eq] at g3
 have hc1:(bytesOf [c]).data.toList=[UInt8.ofNat c]:=by rw [bytesOf_list];rfl
 obtain⟨k1,k2⟩:=splitL_ok c (s.length + 1) s (by omega)
 have hcnt:Lib.countB (bytesOf s) (bytesOf [c])=Lib.countFrom [UInt8.ofNat c] (s.length + 1) (s.map UInt8.ofNat):=by
  show Lib.count (bytesOf s).data.toList (bytesOf [c]).data.toList=_
  rw [hc1,bytesOf_list]
  unfold Lib.count
  rw [List.length_map]
 have hpieces:Lib.splitB (bytesOf [c]) 0 (Lib.countB (bytesOf s) (bytesOf [c])) (bytesOf s)=(splitL c s []).map bytesOf:=by
  apply map_bytes
  rw [Lib.splitB_data,hc1,bytesOf_list,hcnt,k1]
 refine (hC (bytesOf s) (bytesOf [c]) m w (by rw [bytesOf_size];omega) (hr.cell0 hm) (by rw [bytesOf_size];exact Nat.le_refl _)).mono λe w' ⟨h1,h2⟩=>?_
 rw [hpieces] at h2
 rw [hcnt,← k2] at h1
 subst h2
 have hr1:Rel P Hd w0 φ σ1 w:=hr.same rfl Keeps.refl g1
 obtain⟨φ',σ',d1,d2,d3,d4,d5⟩:=mkRow_ok (cells:=(((splitL c s []).map bytesOf).map Value.string).toArray) hr1 g3 (by simpa using decs_strs (φ:=φ) (splitL c s [])) (by
  intro x hx
  simp only [List.mem_map] at hx
  obtain⟨y,_,rfl⟩:=hx
  rfl)
 refine⟨_,h1,φ',_,σ',d1,d3,by rw [dec_sl_mk d2 (by simp [capOf])];rfl,(Ext.same g1 g2).trans d4,d5⟩
theorem split_det:FxDet (λ_ _ _=>(hkSplit ty:Hk D)):=FxDet.of λκ p l σ f hf=>by
 have key:∀ (s:List Nat) (c:Nat),Det p (λk=>iff' (Nat.blt (List.length s) 1000000) (H.room 1 σ λvs σ=>fN (List.length (splitL c s [])) λn=>mkRow (vAt 0 vs) ((splitL c s []).map V.s) ty 1 σ λσ=>f (.sl (vAt 0 vs) 0 n (.ex n)) σ k) (.no 303)):=λs c=>Det.iff (λ_=>room_det (f:=λvs σ k=>fN (List.length (splitL c s [])) λn=>mkRow (vAt 0 vs) ((splitL c s []).map V.s) ty 1 σ λσ=>f (.sl (vAt 0 vs) 0 n (.ex n)) σ k) λvs σ1 h1=>Det.fN (f:=λn k=>mkRow (vAt 0 vs) ((splitL c s []).map V.s) ty 1 σ1 λσ=>f (.sl (vAt 0 vs) 0 n (.ex n)) σ k) (Det.mkRow λσ2 h2=>hf _ σ2 (h1.trans h2))) λ_=>Det.no
 unfold hkSplit
 rcases l with _ | ⟨a,_ | ⟨b,_ | ⟨c,l⟩⟩⟩
 ·exact Det.no
 ·cases a <;> exact Det.no
 ·cases a <;> try exact Det.no
  cases b <;> try exact Det.no
  rename_i s q
  rcases q with _ | ⟨c,_ | ⟨d,q⟩⟩
  ·exact Det.no
  ·exact key s c
  ·exact Det.no
 ·cases a <;> cases b <;> first | exact Det.no | (rename_i s q;rcases q with _ | ⟨c,_ | ⟨d,q⟩⟩ <;> exact Det.no)
end
theorem joinL_ok (sep:List Nat):∀ l:List (List Nat),(joinL sep l).map UInt8.ofNat=Lib.join (l.map (·.map UInt8.ofNat)) (sep.map UInt8.ofNat)
 | []=>by simp [joinL,Lib.join,List.intercalate]
 | [a]=>by simp [joinL,Lib.join,List.intercalate]
 | a::b::l=>by
  have ih:=joinL_ok sep (b::l)
  show (a++sep++joinL sep (b::l)).map UInt8.ofNat=_
  rw [List.map_append,List.map_append,ih]
  simp [Lib.join,List.intercalate,List.intersperse]
section
variable {D:Type} {P:Program} {Hd:D→Loc→View→Prop} {w0:World} {F:Nat} {φ:Phi} {σ:H D} {w w':World}
theorem Rel.grown (h:Rel P Hd w0 φ σ w) (hk:Keeps No w w'):Rel P Hd w0 φ σ w' :=
 h.step (Ch:=No) (Phi.le.refl _) hk (λ_ _ h=>h.elim) (λv hv=>h.gone v hv) (λv b L hv hl hL=>.inl ⟨v,b,L,hv,hl,hL,rfl⟩) h.inj (λv b hv _=>.inl ⟨hv,λ_ _ _ h=>h⟩) (λm kT ks es ver hm=>.inl ⟨hm,λ_ _ h=>h⟩)
theorem strsV_ok:∀ {l:List V} {ls:List (List Nat)},strsV l=some ls→l=ls.map V.s
 | [],ls,h=>by cases h;rfl
 | x::l,ls,h=>by
  unfold strsV at h
  split at h
  ·rename_i heq;cases heq
  ·rename_i heq
   obtain⟨rfl,rfl⟩:=List.cons.inj heq
   split at h
   ·rename_i hm
    cases h
    rw [strsV_ok hm];rfl
   ·cases h
  ·cases h
theorem join_ok (hen:enters P F=true) (hC0:∀ (a:Option Addr) (c:Nat) (sep:ByteArray) (w:World),Calls P F #[.slice a 0 c,.string sep] w λe w'=>e=.returned (.string ⟨#[]⟩)∧w'=w)
  (hC:∀ (bk o c:Nat) (xs:List ByteArray) (sep:ByteArray) (w:World),(∀ (j:Nat) x,xs[j]?=some x→w.cell? ⟨bk,o + j,none⟩=some (.string x))→bk < w.heap.size→xs.length≤140737488355328→xs.length≤c→(Lib.join (xs.map (·.data.toList)) sep.data.toList).length≤140737488355328 →
   Calls P F #[.slice (some ⟨bk,o,none⟩) xs.length c,.string sep] w λe w'=>e=.returned (.string ⟨(Lib.join (xs.map (·.data.toList)) sep.data.toList).toArray⟩)∧RowKit.Below w.heap.size w w'):FxOK P Hd w0 F (λ_ _ _=>(hkJoin:Hk D)):=by
 refine FxOK.of hen λl σ k φ w vs hr hd h=>?_
 unfold hkJoin at h
 split at h <;> try (cases h;done)
 rename_i u sep
 obtain⟨y,m,rfl,h1,h2⟩:=decs_cons_inv hd
 obtain⟨y',m',rfl,h3,h4⟩:=decs_cons_inv h2
 simp [decs] at h4;subst h4
 rw [dec_s h3]
 rcases onRd_ok h with⟨rfl,h5⟩ | ⟨v,off,r,p,s,rfl,h5⟩ | ⟨v,off,n,c,rfl,h5⟩ | ⟨l,rfl,h5⟩
 ·have e:y=.slice none 0 0:=by simpa [dec] using h1.symm
  subst e
  have h6:=h5
  exact (hC0 none 0 (bytesOf sep) w).mono λe w' ⟨g1,g2⟩=>by subst g2;exact⟨_,g1,Post.pure hr rfl h6⟩
 ·obtain⟨M,_,e⟩:=kE (show (φ v).map _=some y from h1)
  subst e
  have h6:=h5
  exact (hC0 _ _ (bytesOf sep) w).mono λe w' ⟨g1,g2⟩=>by subst g2;exact⟨_,g1,Post.pure hr rfl h6⟩
 ·obtain⟨M,hM,e,hle⟩:=dec_sl h1
  subst e
  obtain⟨ex,n',c',ty,sz,h6,h7⟩:=H.cells_ok (show σ.cells v _=.ok from h5)
  obtain⟨l,h8,h9,h10⟩:=rdFrom_ok h7
  obtain⟨ls,h11,h12⟩:=orE_ok h10
  obtain⟨hb,h13⟩:=iff_ok h12
  simp only [Bool.and_eq_true] at hb
  have hb1:ls.length < 1000000:=by simpa using hb.1
  have hb2:(joinL sep ls).length < 1000000:=by simpa using hb.2
  have hl:=strsV_ok h11
  obtain⟨ad,ys,e1,e2,e3,_,e5⟩:=cells_list hr h6 h8 h9 (y:=.pointer (some ⟨M.blk,M.base + off,none⟩)) (by simp [dec,hM])
  cases e1
  rw [hl,decs_strs] at e2
  cases e2
  have hn:n=(ls.map bytesOf).length:=by rw [← e3];simp
  have hxs:(ls.map bytesOf).map (·.data.toList)=ls.map (·.map UInt8.ofNat):=by
   rw [List.map_map]
   exact List.map_congr_left λx _=>bytesOf_list x
  have hj:Lib.join ((ls.map bytesOf).map (·.data.toList)) (bytesOf sep).data.toList=(joinL sep ls).map UInt8.ofNat:=by rw [hxs,bytesOf_list,joinL_ok]
  obtain⟨M',cs,d1,_,d3⟩:=hr.cells h6
  rw [hM] at d1;cases d1
  have key:=hC M.blk (M.base + off) (capOf M c) (ls.map bytesOf) (bytesOf sep) w (λj x hx=>by
   have:=e5 j (.string x) (by rw [List.getElem?_map,hx];rfl)
   rwa [add_eq] at this) (lt_of_some d3.at_) (by simp;omega) (by rw [← hn];exact hle) (by rw [hj];simp;omega)
  rw [← hn,hj] at key
  exact key.mono λe w' ⟨g1,g2⟩=>⟨_,g1,Post.pure (hr.grown (Keeps.of_below g2)) (by simp [dec,bytesOf]) h13⟩
 ·cases h5
theorem join_det:FxDet (λ_ _ _=>(hkJoin:Hk D)):=FxDet.of λκ p l σ f hf=>by
 have key:∀ (u:V) (sep:List Nat),Det p (λk=>u.onRd (f (.s []) σ k) (λv off n=>σ.cells v λ_ _ c _ _=>rdFrom c off n λvs=>orE (strsV vs) (λls=>iff' (Nat.blt (List.length ls) 1000000&&Nat.blt (List.length (joinL sep ls)) 1000000) (f (.s (joinL sep ls)) σ k) (.no 304)) 304) (λ_=>.no 305) 305):=λu sep =>
  Det.onRd (g:=λk=>f (.s []) σ k) (f:=λv off n k=>σ.cells v λ_ _ c _ _=>rdFrom c off n λvs=>orE (strsV vs) (λls=>iff' (Nat.blt (List.length ls) 1000000&&Nat.blt (List.length (joinL sep ls)) 1000000) (f (.s (joinL sep ls)) σ k) (.no 304)) 304) (q:=λ_ _=>.no 305) (hf _ _ (.refl _))
   (λv off n=>Det.cells (f:=λ_ _ c _ _ k=>rdFrom c off n λvs=>orE (strsV vs) (λls=>iff' (Nat.blt (List.length ls) 1000000&&Nat.blt (List.length (joinL sep ls)) 1000000) (f (.s (joinL sep ls)) σ k) (.no 304)) 304) λ_ _ c _ _=>Det.rdFrom (f:=λvs k=>orE (strsV vs) (λls=>iff' (Nat.blt (List.length ls) 1000000&&Nat.blt (List.length (joinL sep ls)) 1000000) (f (.s (joinL sep ls)) σ k) (.no 304)) 304) λvs=>Det.orE (f:=λls k=>iff' (Nat.blt (List.length ls) 1000000&&Nat.blt (List.length (joinL sep ls)) 1000000) (f (.s (joinL sep ls)) σ k) (.no 304)) λls _=>Det.iff (f:=λk=>f (.s (joinL sep ls)) σ k) (λ_=>hf _ _ (.refl _)) λ_=>Det.no) (λ_=>Det.no)
 unfold hkJoin
 rcases l with _ | ⟨a,_ | ⟨b,_ | ⟨c,l⟩⟩⟩
 ·exact Det.no
 ·exact Det.no
 ·cases b <;> first | exact key a _ | exact Det.no
 ·cases b <;> exact Det.no
end
theorem idxB_ok (c:Nat):∀ (s:List Nat) (n:Nat),match idxB c s n with
  | some m=>∃ i:Nat,m=n + i∧Lib.indexByte (s.map UInt8.ofNat) (UInt8.ofNat c)=i
  | none=>Lib.indexByte (s.map UInt8.ofNat) (UInt8.ofNat c)=-1
 | [],n=>rfl
 | x::l,n=>by
  have e:idxB c (x::l) n=match Nat.beq (x % 256) (c % 256) with | true=>some n | false=>idxB c l (n + 1):=rfl
  rw [e]
  have hi:Lib.indexByte ((x::l).map UInt8.ofNat) (UInt8.ofNat c)=if UInt8.ofNat x==UInt8.ofNat c then 0 else if Lib.indexByte (l.map UInt8.ofNat) (UInt8.ofNat c)==-1 then -1 else Lib.indexByte (l.map UInt8.ofNat) (UInt8.ofNat c) + 1:=rfl
  rw [hi,u8_eq]
  cases hb:(UInt8.ofNat x==UInt8.ofNat c) with
  | true=>exact⟨0,rfl,rfl⟩
  | false =>
   have ih:=idxB_ok c l (n + 1)
   simp only [Bool.false_eq_true,if_false]
   cases hx:idxB c l (n + 1) with
   | none=>rw [hx] at ih;simp only at ih ⊢;rw [ih];rfl
   | some m =>
    rw [hx] at ih
    obtain⟨i,h1,h2⟩:=ih
    refine⟨i + 1,by omega,?_⟩
    rw [h2,if_neg (by intro h;have:=beq_iff_eq.1 h;omega)];rfl
section
variable {D:Type} {P:Program} {Hd:D→Loc→View→Prop} {w0:World} {F:Nat}
theorem indexByte_ok (hen:enters P F=true) (hC:∀ (s:ByteArray) (c:Int) (w:World),Calls P F #[.string s,.int .u8 c] w λe w'=>e=.returned (.int .i64 (Lib.indexByte s.data.toList c.toNat.toUInt8))∧w'=w):FxOK P Hd w0 F (λ_ _ _=>(hkIndexByte:Hk D)):=by
 refine FxOK.of hen λl σ k φ w vs hr hd h=>?_
 unfold hkIndexByte at h
 split at h <;> try (cases h;done)
 rename_i s q c
 obtain⟨y,m,rfl,h1,h2⟩:=decs_cons_inv hd
 obtain⟨y',m',rfl,h3,h4⟩:=decs_cons_inv h2
 simp [decs] at h4;subst h4
 obtain⟨hb,h9⟩:=iff_ok h
 simp only [Bool.and_eq_true] at hb
 have hq:q=.u8:=kIx_eq (b:=.u8) hb.1
 subst hq
 rw [dec_s h1,dec_i h3]
 refine (hC (bytesOf s) (Int.ofNat c) w).mono λe w' ⟨g1,g2⟩=>?_
 subst g2
 have hi:=idxB_ok c s 0
 have g3:Lib.indexByte (bytesOf s).data.toList (Int.ofNat c).toNat.toUInt8=Lib.indexByte (s.map UInt8.ofNat) (UInt8.ofNat c):=by rw [bytesOf_list];rfl
 rw [g3] at g1
 split at h9
 ·rename_i n hn
  rw [hn] at hi
  obtain⟨i,e1,e2⟩:=hi
  rw [e2] at g1
  exact⟨_,g1,Post.pure hr (by rw [e1,Nat.zero_add];rfl) h9⟩
 ·rename_i hn
  rw [hn] at hi
  simp only at hi
  rw [hi] at g1
  exact⟨_,g1,Post.pure hr rfl h9⟩
theorem indexByte_det:FxDet (λ_ _ _=>(hkIndexByte:Hk D)):=FxDet.of λκ p l σ f hf=>by
 have key:∀ (s:List Nat) (q:IntKind) (c:Nat),Det p (λk=>iff' (Nat.beq (kIx q) 4&&Nat.blt c 256) (match idxB c s 0 with
  | some n=>f (.i .i64 (.ofNat n)) σ k
  | none=>f (.i .i64 (.negSucc 0)) σ k) (.no 312)):=λs q c=>Det.iff (λ_=>by cases idxB c s 0 <;> exact hf _ _ (.refl _)) λ_=>Det.no
 unfold hkIndexByte
 rcases l with _ | ⟨a,_ | ⟨b,_ | ⟨c,l⟩⟩⟩
 ·exact Det.no
 ·cases a <;> exact Det.no
 ·cases a <;> try exact Det.no
  cases b <;> try exact Det.no
  rename_i s q c
  cases c with
  | ofNat c=>exact key s q c
  | negSucc c=>exact Det.no
 ·cases a <;> cases b <;> first | exact Det.no | (rename_i s q c;cases c <;> exact Det.no)
end
end Go.Ev
end
section
namespace Go.Ev
abbrev NN.brackets_New:Nat:=11
abbrev NN.scan_New:Nat:=97
abbrev NN.scan_Scanner_One:Nat:=208
end Go.Ev
end
section
namespace Go.Fk
def Rx.cnt:Rx→Nat
 | .no=>0 | .eps=>0 | .cls _=>1 | .cat a b=>a.cnt + b.cnt | .alt a b=>a.cnt + b.cnt | .star a=>a.cnt
theorem RxOf.nul {a:Re} {x:Rx} (h:RxOf a x):a.emp=x.nul:=by
 rw [Bool.eq_iff_iff,← x.m_nul (s:=[]) (i:=0),← h.m]
 exact (a.m_self).symm
theorem RxOf.cnt {a:Re} {x:Rx} (h:RxOf a x):a.cnt=x.cnt:=by
 induction h with
 | set=>rfl
 | empty=>rfl
 | cat _ _ i j=>simp only [Re.cnt,Rx.cnt,i,j]
 | or _ _ i j=>simp only [Re.cnt,Rx.cnt,i,j]
 | star _ i=>simp only [Re.cnt,Rx.cnt,i]
theorem RxOf.sub {a:Re} {x:Rx} (h:RxOf a x) (h0:x.nul=false) (h1:x.sm=true):a.sub:=by
 obtain⟨s,hs⟩:=x.sm_text h1
 refine⟨s,?_,h.m.2 hs⟩
 rintro rfl
 have:=(x.m_nul (s:=[]) (i:=0)).1 hs
 rw [h0] at this;cases this
end Go.Fk
namespace Go.Ev
open Go Go.Fk
structure ClsD where
 n:List Nat
 rx:List Nat
 lay:Bool
def ClsD.go (c:ClsD):Cls:=⟨bytesOf c.n,bytesOf c.rx,c.lay⟩
inductive OD where
 | sc (cs:List ClsD) (xs:List Rx)
def clsV:List V→Option (List ClsD)
 | []=>some []
 | .s n::.s r::.b y::l=>match clsV l with | some m=>some (⟨n,r,y⟩::m) | none=>none
 | _=>none
def rxOf (r:List Nat):List (List Nat × Rx)→Option Rx
 | []=>none
 | p::t=>match seq'' p.1 r with | true=>some p.2 | false=>rxOf r t
def rxAll (tab:List (List Nat × Rx)):List ClsD→Option (List Rx)
 | []=>some []
 | c::l=>match rxOf c.rx tab,rxAll tab l with | some x,some m=>some (x::m) | _,_=>none
def nmGo:Bool→List Nat→Bool
 | _,[]=>true
 | first,c::l=>match (Nat.ble 97 c&&Nat.ble c 122)||(!first&&(Nat.ble 48 c&&Nat.ble c 57)) with | true=>nmGo false l | false=>false
def nmOK (l:List Nat):Bool:=Nat.ble 1 (List.length l)&&Nat.ble (List.length l) 20&&nmGo true l
def isIn (n:List Nat):List ClsD→Bool
 | []=>false
 | c::l=>match seq'' c.n n with | true=>true | false=>isIn n l
def nodupN:List ClsD→Bool
 | []=>true
 | c::l=>match isIn c.n l with | true=>false | false=>nodupN l
def cntAll:List Rx→Nat
 | []=>0
 | x::l=>x.cnt + cntAll l
def goodRx:List Rx→Bool
 | []=>true
 | x::l=>match x.nul,x.sm with | false,true=>goodRx l | _,_=>false
def goodCl:List ClsD→Bool
 | []=>true
 | c::l=>match nmOK c.n,Nat.ble (List.length c.rx) 1000 with | true,true=>goodCl l | _,_=>false
def okAll (cs:List ClsD) (xs:List Rx):Bool:=Nat.blt 0 (List.length cs)&&Nat.ble (List.length cs) 40&&goodCl cs&&nodupN cs&&goodRx xs&&Nat.ble (cntAll xs) 10
section
variable {D:Type}
def Blk.onO (b:Blk D) (k:D→R) (n:Nat):R:=Blk.rec (motive:=λ_=>R) (λ_ _ _ _ _=>R.no n) (λ_ _ _ _=>R.no n) (λ_ _ _ _=>R.no n) (λd=>k d) (R.no n) b
end
def onSc (x:V) (σ:H OD) (k:List ClsD→List Rx→R) (n:Nat):R :=
 x.onP (λv o=>iff' (Nat.beq o 0) (σ.get v λb=>b.onO (λd=>OD.rec (motive:=λ_=>R) (λcs xs=>k cs xs) d) n) (.no n)) n
def hkNew (tab:List (List Nat × Rx)):Hk OD:=λargs σ k=>match args with
 | [l]=>l.onSl (λv off n _=>σ.cells v λ_ _ c _ _=>rdFrom c off (Nat.mul n 3) λvs=>orE (clsV vs) (λcs=>orE (rxAll tab cs) (λxs=>iff' (okAll cs xs)
   (H.room 1 σ λws σ=>σ.add (vAt 0 ws) (.opq (.sc cs xs)) λσ=>k (.t [.p (vAt 0 ws) 0,.i .i64 (.ofNat n),.i .i64 (.ofNat 0)]) σ) (.no 310)) 310) 310) 310
 | _=>.no 310
def hkOne:Hk OD:=λargs σ k=>match args with
 | [x,.i q (.ofNat c),.s s]=>onSc x σ (λ_ xs=>iff' (Nat.beq (kIx q) 3&&Nat.blt 0 (List.length s)&&Nat.blt (List.length s) 100000&&Nat.blt c 1000)
   (match tokOf xs (s.map λb=>b % 256) 0 with | (r,b,t,_)=>k (.b (b&&Nat.beq r c&&Nat.beq t (List.length s))) σ) (.no 311)) 311
 | _=>.no 311
def clsU:List ClsD→List V
 | []=>[]
 | c::l=>.s c.n::.s c.rx::.b c.lay::clsU l
def HdS:OD→Loc→View→Prop
 | .sc cs xs,L,Hv=>L.base=0∧cs.length≤40∧∃ ms,ScanW Hv (some ⟨L.blk,0,none⟩) (cs.map ClsD.go) ms∧Sound (cs.map ClsD.go) ms∧All2 RxOf (ysOf (cs.map ClsD.go)) xs
theorem seqD_ok:∀ {a b:List Nat},seq'' a b=true↔a=b
 | [],[]=>by simp [seq'']
 | [],_::_=>by simp [seq'']
 | _::_,[]=>by simp [seq'']
 | x::a,y::b=>by
  have e:seq'' (x::a) (y::b)=match Nat.beq x y with | true=>seq'' a b | false=>false:=rfl
  rw [e]
  cases h:Nat.beq x y with
  | true =>
   have:=kB h
   subst this
   simp [seqD_ok (a:=a) (b:=b)]
  | false =>
   have:x≠y:=λe=>by subst e;rw [Nat.beq_refl] at h;cases h
   simp [this]
theorem rxOf_ok {r:List Nat} {x:Rx}:∀ {t:List (List Nat × Rx)},rxOf r t=some x→(r,x)∈t
 | [],h=>by cases h
 | p::t,h=>by
  have h':(match seq'' p.1 r with | true=>some p.2 | false=>rxOf r t)=some x:=h
  cases hs:seq'' p.1 r with
  | true=>rw [hs] at h';cases h';rw [← seqD_ok.1 hs];simp
  | false=>rw [hs] at h';simp [rxOf_ok h']
theorem clsV_ok:∀ {n:Nat} {l:List V} {cs:List ClsD},l.length≤n→clsV l=some cs→l=clsU cs
 | _,[],cs,_,h=>by cases h;rfl
 | 0,_::_,cs,hn,_=>by simp at hn
 | n + 1,x::l,cs,hn,h=>by
  unfold clsV at h
  split at h
  ·rename_i heq;cases heq
  ·rename_i a b c m heq
   obtain⟨rfl,rfl⟩:=List.cons.inj heq
   split at h
   ·rename_i m' hm
    cases h
    rw [clsV_ok (n:=n) (by simp at hn;omega) hm];rfl
   ·cases h
  ·cases h
theorem rxAll_len {tab:List (List Nat × Rx)}:∀ {cs:List ClsD} {xs:List Rx},rxAll tab cs=some xs→All2 (λc x=>(c.rx,x)∈tab) cs xs
 | [],xs,h=>by cases h;exact .nil
 | c::l,xs,h=>by
  have h':(match rxOf c.rx tab,rxAll tab l with | some x,some m=>some (x::m) | _,_=>none)=some xs:=h
  cases h1:rxOf c.rx tab with
  | none=>rw [h1] at h';cases h'
  | some x =>
   cases h2:rxAll tab l with
   | none=>rw [h1,h2] at h';cases h'
   | some m=>rw [h1,h2] at h';cases h';exact .cons (rxOf_ok h1) (rxAll_len h2)
theorem nmGo_ok:∀ {l:List Nat} {first:Bool},nmGo first l=true→∀ (i:Nat) c,l[i]?=some c→(97≤c∧c≤122)∨((first=false∨0 < i)∧48≤c∧c≤57)
 | [],_,_,i,c,hc=>by simp at hc
 | x::l,first,h,i,c,hc=>by
  have h':(match (Nat.ble 97 x&&Nat.ble x 122)||(!first&&(Nat.ble 48 x&&Nat.ble x 57)) with | true=>nmGo false l | false=>false)=true:=h
  cases hb:(Nat.ble 97 x&&Nat.ble x 122)||(!first&&(Nat.ble 48 x&&Nat.ble x 57)) with
  | false=>rw [hb] at h';cases h'
  | true =>
   rw [hb] at h'
   cases i with
   | zero =>
    simp at hc;subst hc
    simp only [Bool.or_eq_true,Bool.and_eq_true,Nat.ble_eq,Bool.not_eq_true'] at hb
    rcases hb with hb | ⟨h1,h2,h3⟩
    ·exact .inl hb
    ·exact .inr ⟨.inl h1,h2,h3⟩
   | succ i =>
    have:=nmGo_ok h' i c (by simpa using hc)
    rcases this with h1 | ⟨_,h2⟩
    ·exact .inl h1
    ·exact .inr ⟨.inr (by omega),h2⟩
theorem nmOK_ok {l:List Nat} (h:nmOK l=true):NameOK (bs (bytesOf l))∧∀ c∈l,c < 256:=by
 unfold nmOK at h
 simp only [Bool.and_eq_true,Nat.ble_eq] at h
 obtain⟨⟨h1,h2⟩,h3⟩:=h
 have g:=nmGo_ok h3
 have hb:bs (bytesOf l)=l.map UInt8.ofNat:=bytesOf_list l
 have hlt:∀ c∈l,c < 256:=λc hc=>by
  obtain⟨i,hi⟩:=List.getElem?_of_mem hc
  rcases g i c hi with h | ⟨_,h⟩ <;> omega
 refine⟨⟨by rw [hb];simpa using h1,by rw [hb];simpa using h2,λi c hc=>?_⟩,hlt⟩
 rw [hb,List.getElem?_map] at hc
 obtain⟨x,hx,rfl⟩:=kE hc
 have hx2:=hlt x (kD hx)
 have e:(UInt8.ofNat x).toNat=x:=by simp [UInt8.toNat_ofNat'];omega
 unfold ChOK
 rw [e]
 rcases g i x hx with h | ⟨h,h4,h5⟩
 ·exact .inl h
 ·exact .inr ⟨h.resolve_left (by simp),h4,h5⟩
theorem bytesOf_inj {a b:List Nat} (ha:∀ c∈a,c < 256) (hb:∀ c∈b,c < 256) (h:bytesOf a=bytesOf b):a=b:=by
 have h1:a.map UInt8.ofNat=b.map UInt8.ofNat:=by rw [← bytesOf_list,← bytesOf_list,h]
 have h2:(a.map UInt8.ofNat).map UInt8.toNat=(b.map UInt8.ofNat).map UInt8.toNat:=by rw [h1]
 have key:∀ l:List Nat,(∀ c∈l,c < 256)→(l.map UInt8.ofNat).map UInt8.toNat=l:=by
  intro l hl
  rw [List.map_map]
  conv=>rhs;rw [← List.map_id l]
  refine List.map_congr_left λc hc=>?_
  have:=hl c hc
  simp [UInt8.toNat_ofNat']
  omega
 rwa [key a ha,key b hb] at h2
theorem goodCl_ok:∀ {cs:List ClsD},goodCl cs=true→∀ c∈cs,nmOK c.n=true∧c.rx.length≤1000
 | [],_,c,hc=>by cases hc
 | x::l,h,c,hc=>by
  have h':(match nmOK x.n,Nat.ble (List.length x.rx) 1000 with | true,true=>goodCl l | _,_=>false)=true:=h
  cases h1:nmOK x.n with
  | false=>rw [h1] at h';cases h'
  | true =>
   cases h2:Nat.ble (List.length x.rx) 1000 with
   | false=>rw [h1,h2] at h';cases h'
   | true =>
    rw [h1,h2] at h'
    rcases List.mem_cons.1 hc with rfl | hc
    ·exact⟨h1,Nat.le_of_ble_eq_true h2⟩
    ·exact goodCl_ok h' c hc
theorem goodRx_ok:∀ {xs:List Rx},goodRx xs=true→∀ x∈xs,x.nul=false∧x.sm=true
 | [],_,c,hc=>by cases hc
 | x::l,h,c,hc=>by
  have h':(match x.nul,x.sm with | false,true=>goodRx l | _,_=>false)=true:=h
  cases h1:x.nul with
  | true=>rw [h1] at h';cases h'
  | false =>
   cases h2:x.sm with
   | false=>rw [h1,h2] at h';cases h'
   | true =>
    rw [h1,h2] at h'
    rcases List.mem_cons.1 hc with rfl | hc
    ·exact⟨h1,h2⟩
    ·exact goodRx_ok h' c hc
theorem isIn_ok {n:List Nat}:∀ {cs:List ClsD},isIn n cs=false→∀ c∈cs,c.n≠n
 | [],_,c,hc=>by cases hc
 | x::l,h,c,hc=>by
  have h':(match seq'' x.n n with | true=>true | false=>isIn n l)=false:=h
  cases h1:seq'' x.n n with
  | true=>rw [h1] at h';cases h'
  | false =>
   rw [h1] at h'
   rcases List.mem_cons.1 hc with rfl | hc
   ·intro e;rw [seqD_ok.2 e] at h1;cases h1
   ·exact isIn_ok h' c hc
theorem nodupN_ok:∀ {cs:List ClsD},nodupN cs=true→cs.Pairwise λa b=>b.n≠a.n
 | [],_=>.nil
 | x::l,h=>by
  have h':(match isIn x.n l with | true=>false | false=>nodupN l)=true:=h
  cases h1:isIn x.n l with
  | true=>rw [h1] at h';cases h'
  | false=>rw [h1] at h';exact .cons (isIn_ok h1) (nodupN_ok h')
theorem mCnt_all:∀ {ys:List Re} {xs:List Rx},All2 RxOf ys xs→mCnt ys=cntAll xs:=by
 intro ys xs h
 induction h with
 | nil=>rfl
 | cons h _ ih=>simp [mCnt,cntAll,h.cnt,← ih]
def RuleOk (cs:List Cls) (i:Nat):Prop:=∃ c,cs[i]?=some c∧NameOK (bs c.n)∧(∀ (j:Nat) c',j < i→cs[j]?=some c'→c'.n≠c.n)∧(parseF (bs c.rx)).2.2=0∧(reOf c).emp=false∧(reOf c).sub
theorem RuleOk.ok {cs:List Cls} {i:Nat} (h:RuleOk cs i):ClsOK cs i:=by
 obtain⟨c,h1,h2,h3,h4,h5,h6⟩:=h
 exact⟨c,h1,h2,h3,h4,h5,.inl h6⟩
theorem notBad {cs:List Cls} {i:Nat} {e:Int} (h:ClsOK cs i) (hb:BadAt cs i e):False:=by
 obtain⟨c,h1,h2,h3,h4,h5⟩:=h
 obtain⟨c',g1,g⟩:=hb
 rw [h1] at g1;cases g1
 rcases g with⟨_,g | ⟨j,c',g2,g3,g4⟩⟩ | ⟨g,_⟩ | ⟨_,_,g⟩
 ·exact g h2
 ·exact h3 j c' g2 g3 g4
 ·exact g h4
 ·exact g h5
theorem notOver {ys:List Re} (h:mCnt ys≤10):¬ Over ys:=by
 rintro (h1 | h1)
 ·omega
 ·obtain⟨svs,h2,h3⟩:=h1.sts
  have hf:=h2.few
  have hl:(mFs 0 ys).length=mCnt ys:=by have:=mFs_len' ys 0;omega
  rw [hl] at hf
  have:2 ^ mCnt ys≤2 ^ 10:=Nat.pow_le_pow_right (by omega) h
  omega
def TabOK (tab:List (List Nat × Rx)):Prop:=∀ p∈tab,∃ re,parseF (p.1.map UInt8.ofNat)=(re,0,0)∧RxOf re p.2
theorem okAll_ok {tab:List (List Nat × Rx)} (ht:TabOK tab) {cs:List ClsD} {xs:List Rx} (hx:rxAll tab cs=some xs) (h:okAll cs xs=true) :
  0 < cs.length∧cs.length≤40∧All2 RxOf (ysOf (cs.map ClsD.go)) xs∧(∀ i,i < cs.length→ClsOK (cs.map ClsD.go) i)∧¬ Over (ysOf (cs.map ClsD.go))∧∀ c∈cs.map ClsD.go,Small c.rx∧c.n.size≤maxLen:=by
 unfold okAll at h
 simp only [Bool.and_eq_true] at h
 obtain⟨⟨⟨⟨⟨h1,h2⟩,h3⟩,h4⟩,h5⟩,h6⟩:=h
 have h1:0 < cs.length:=by simpa using h1
 have h2:=Nat.le_of_ble_eq_true h2
 have h6:=Nat.le_of_ble_eq_true h6
 have hall:=rxAll_len hx
 have hcl:=goodCl_ok h3
 have hre:∀ c∈cs,∀ x,(c.rx,x)∈tab→RxOf (reOf c.go) x∧(parseF (bs c.go.rx)).2.2=0:=λc _ x hm=>by
  obtain⟨re,e1,e2⟩:=ht _ hm
  have e3:bs c.go.rx=c.rx.map UInt8.ofNat:=bytesOf_list c.rx
  unfold reOf
  rw [e3,e1]
  exact⟨e2,rfl⟩
 have hys:All2 RxOf (ysOf (cs.map ClsD.go)) xs:=by
  have key:∀ {l:List ClsD} {xs:List Rx},All2 (λc x=>(c.rx,x)∈tab) l xs→(∀ c∈l,c∈cs)→All2 RxOf (ysOf (l.map ClsD.go)) xs:=by
   intro l xs h
   induction h with
   | nil=>intro _;exact .nil
   | cons h _ ih=>intro hm;exact .cons (hre _ (hm _ (by simp)) _ h).1 (ih λc hc=>hm c (by simp [hc]))
  exact key hall λ_ h=>h
 refine⟨h1,h2,hys,λi hi=>RuleOk.ok ?_,notOver (by rw [mCnt_all hys];exact h6),λc hc=>?_⟩
 ·have hci:cs[i]?=some cs[i]:=kC hi
  have hmem:=kD hci
  obtain⟨x,hxi,hxm⟩:=hall.get _ _ hci
  obtain⟨g1,g2⟩:=hre _ hmem x hxm
  obtain⟨g3,g4⟩:=goodRx_ok h5 x (kD hxi)
  obtain⟨g5,g6⟩:=nmOK_ok (hcl _ hmem).1
  refine⟨cs[i].go,by rw [List.getElem?_map,hci];rfl,g5,λj c' hj hc' he=>?_,g2,by rw [g1.nul];exact g3,g1.sub g3 g4⟩
  rw [List.getElem?_map] at hc'
  obtain⟨d,hd,rfl⟩:=kE hc'
  have hdm:=kD hd
  have:=bytesOf_inj (nmOK_ok (hcl _ hdm).1).2 g6 he
  obtain⟨hjl,hdj⟩:=kA hd
  have hp:=List.pairwise_iff_getElem.1 (nodupN_ok h4) j i hjl hi hj
  rw [hdj] at hp
  exact hp this.symm
 ·obtain⟨d,hd,rfl⟩:=List.mem_map.1 hc
  have hb:=hcl d hd
  have hmx:maxLen=9223372036854775807:=rfl
  have h20:d.n.length≤20:=by
   have:=hb.1
   unfold nmOK at this
   simp only [Bool.and_eq_true] at this
   exact Nat.le_of_ble_eq_true this.1.2
  refine⟨?_,?_⟩
  ·show (bytesOf d.rx).size≤_
   rw [bytesOf_size];omega
  ·show (bytesOf d.n).size≤_
   rw [bytesOf_size];omega
end Go.Ev
end
section
namespace Go.Fk
open Go
theorem scan_One_spec {w:World} {s:Option Addr} {cs:List Cls} {N:Nat} {ms:List LSt} {of_:Nat→Int} (h:ScanV (V No w) s cs N ms of_) {text:ByteArray} {c:Int} (hc:0≤c) (h0:0 < text.size) (hs:text.size≤1000000) {K:Bool→World→Prop}
  (hK:∀ w',Keeps No w w'→K ((tokF ms (bs text) 0).c==c&&(tokF ms (bs text) 0).t==(text.size:Int)) w'):scan_Scanner_One.C s c text w K:=by
 refine scan_Scanner_One.ok _ _ _ _ _ ?_
 simp only [scan_Scanner_One.M]
 have hsz:=size_bs text
 have hne:(text.toList==(⟨#[]⟩:ByteArray).toList)=false:=by
  cases e:(text.toList==(⟨#[]⟩:ByteArray).toList) with
  | false=>rfl
  | true =>
   have:=strEq_bs.1 e
   rw [this] at hsz
   have e0:(bs (⟨#[]⟩:ByteArray)).length=0:=rfl
   omega
 have hd:decide (c < (0:Int))=false:=decide_eq_false (by omega)
 simp only [Join,h.some_,Br_false,hne,hd]
 refine scan_next_spec (i:=0) h (Nat.zero_le _) hs λw2 k2=>AlSt4 λb2 w3 n3=>?_
 have k3:=k2.trans n3.keeps
 have hg:=hK w3 k3
 refine Ld.int (cell_of n3.at_ rfl) (Br.mk (λe=>Ld.int (cell_of n3.at_ rfl) ?_) λe=>?_)
 ·rw [e,Bool.true_and] at hg;exact hg
 ·rw [e,Bool.false_and] at hg;exact hg
end Go.Fk
namespace Go.Ev
open Go Go.Fk
section
variable {D:Type} {P:Program} {Hd:D→Loc→View→Prop} {w0:World} {F:Nat} {φ:Phi} {σ σ':H D} {w w':World}
theorem Rel.newAt (h:Rel P Hd w0 φ σ w) {v:Vid} {b':Blk D} {L:Loc} (hv:σ.look v=none) (hk:Keeps No w w') (hge:w.heap.size≤L.blk) (hσ:∀ v',σ'.look v'=if v'=v then some b' else σ.look v')
  (hb:BlkOK P Hd w0 σ' (φ.with v L) w' L b'):Rel P Hd w0 (φ.with v L) σ' w':=by
 have hne:∀ {u c},σ.look u=some c→u≠v:=by rintro u c hu rfl;rw [hv] at hu;cases hu
 have hlt:∀ {u c M},σ.look u=some c→Live c→φ u=some M→M.blk < w.heap.size:=by
  intro u c M hu hc hM
  obtain⟨M',h1,h2⟩:=h.live hu hc
  rw [hM] at h1;cases h1
  obtain⟨o,ho⟩:=h2.some hc
  exact lt_of_some ho
 refine h.step (Ch:=No) (Phi.with_le (h.gone v hv)) hk (λ_ _ h=>h.elim) (λu hu=>?_) (λu c M hu hc hM=>?_) (λu u' c c' M M' h1 h2 h3 h4 h5 h6 h7=>?_) (λu c hu hd=>?_) (λm kT ks es ver hm'=>?_)
 ·rw [hσ] at hu
  by_cases huv:u=v
  ·rw [if_pos huv] at hu;cases hu
  ·rw [if_neg huv] at hu;simp [Phi.with,huv,h.gone u hu]
 ·rw [hσ] at hu
  by_cases huv:u=v
  ·subst huv;rw [Phi.with_eq] at hM;cases hM;exact .inr hge
  ·rw [if_neg huv] at hu
   simp only [Phi.with,if_neg huv] at hM
   exact .inl ⟨u,c,M,hu,hc,hM,rfl⟩
 ·rw [hσ] at h1 h3
  by_cases huv:u=v
  ·by_cases huv':u'=v
   ·rw [huv,huv']
   ·subst huv
    rw [if_neg huv'] at h3
    simp only [Phi.with,if_neg huv'] at h6
    rw [Phi.with_eq] at h5;cases h5
    have:=hlt h3 h4 h6
    rw [← h7] at this;omega
  ·rw [if_neg huv] at h1
   simp only [Phi.with,if_neg huv] at h5
   by_cases huv':u'=v
   ·subst huv'
    rw [Phi.with_eq] at h6;cases h6
    have:=hlt h1 h2 h5
    rw [h7] at this;omega
   ·rw [if_neg huv'] at h3
    simp only [Phi.with,if_neg huv'] at h6
    exact h.inj u u' c c' M M' h1 h2 h3 h4 h5 h6 h7
 ·rw [hσ] at hu
  by_cases huv:u=v
  ·subst huv;rw [if_pos rfl] at hu;cases hu;exact .inr ⟨L,Phi.with_eq,hb⟩
  ·rw [if_neg huv] at hu;exact .inl ⟨hu,λ_ _ _ h=>h⟩
 ·exact .inl ⟨by rw [hσ,if_neg (hne hm')];exact hm',λ_ _ h=>h⟩
theorem Rel.newOpq (h:Rel P Hd w0 φ σ w) {v:Vid} {d:D} {L:Loc} (hv:σ.look v=none) (hk:Keeps No w w') (hge:w.heap.size≤L.blk) (hσ:∀ v',σ'.look v'=if v'=v then some (.opq d) else σ.look v')
  (hb:Hd d L (Fk.V (Lt w.heap.size) w')):Rel P Hd w0 (φ.with v L) σ' w':=by
 refine h.newAt hv hk hge hσ ⟨Fk.V (Lt w.heap.size) w',hb,λb o hb=>hb.2,λb o hb v' b' L' h1 h2 h3 he=>?_⟩
 rw [hσ] at h1
 by_cases e:v'=v
 ·rw [if_pos e] at h1;cases h1;exact h2.elim
 ·rw [if_neg e] at h1
  simp only [Phi.with,if_neg e] at h3
  obtain⟨M',g1,g2⟩:=h.live h1 h2
  rw [h3] at g1;cases g1
  obtain⟨o',ho⟩:=g2.some h2
  have hl:=lt_of_some ho
  exact hb.1 (show b < w.heap.size by omega)
theorem slC_of {v:Vid} {ex:Bool} {n:Nat} {c:Tr V} {ty sz off m size cap:Nat} {l:List V} {M:Loc} {ys:List Value} {xs:List (List Value)} (hr:Rel P Hd w0 φ σ w) (h1:σ.look v=some (.cells ex n c ty sz)) (hM:φ v=some M) (hg:∀ i,i < m * size→c.get (off + i)=l[i]?) (hl:l.length=m * size)
  (hd:decs φ l=some ys) (hx:xs.flatten=ys) (hxs:∀ c∈xs,c.length=size) (hn:xs.length=m):SlC (Fk.V No w) ⟨some ⟨M.blk,M.base + off,none⟩,m,cap⟩ size xs:=by
 obtain⟨M',cs,g1,g2,g3⟩:=hr.cells h1
 rw [hM] at g1;cases g1
 refine⟨hn.symm,.inr ⟨M.blk,M.base + off,cs,ty,(0,0),rfl,⟨id,g3.at_⟩,λi c' hc j u hu=>?_⟩⟩
 have hf:=flatten_get hxs hc hu
 rw [hx] at hf
 have hlt:i * size + j < l.length:=by rw [← decs_length hd];exact (kA hf).1
 have hli:l[i * size + j]?=some l[i * size + j]:=kC hlt
 obtain⟨y,e1,e2⟩:=decs_get hd hli
 rw [hf] at e1;cases e1
 obtain⟨_,z,a1,a2,_⟩:=g3.get (off + (i * size + j)) _ (by rw [hg _ (by omega)];exact hli)
 rw [e2] at a1;cases a1
 rw [← a2];congr 1;omega
end
section
variable {w0:World} {φ:Phi} {σ σ':H OD} {w w':World}
theorem onO_ok {D:Type} {b:Blk D} {k:D→R} {n:Nat} (h:b.onO k n=.ok):∃ d,b=.opq d∧k d=.ok:=by
 cases b <;> first | exact⟨_,rfl,h⟩ | cases h
theorem onSc_ok {x:V} {k:List ClsD→List Rx→R} {n:Nat} (h:onSc x σ k n=.ok):∃ v cs xs,x=.p v 0∧σ.look v=some (.opq (.sc cs xs))∧k cs xs=.ok:=by
 obtain⟨v,o,rfl,h1⟩:=onP_ok h
 obtain⟨h2,h3⟩:=iff_ok h1
 have:=kB h2
 subst this
 obtain⟨b,h4,h5⟩:=H.get_ok h3
 obtain⟨d,rfl,h6⟩:=onO_ok h5
 cases d with
 | sc cs xs=>exact⟨v,cs,xs,rfl,h4,h6⟩
theorem Det.onO {D κ:Type} {p:(κ→R)→Prop} {b:Blk D} {n:Nat} {f:D→κ→R} (h:∀ d,Det p (f d)):Det p (λk=>b.onO (λd=>f d k) n):=by cases b <;> first | exact h _ | exact Det.no
theorem Det.onSc {κ:Type} {p:(κ→R)→Prop} {x:V} {n:Nat} {f:List ClsD→List Rx→κ→R} (h:∀ cs xs,Det p (f cs xs)):Det p (λk=>onSc x σ (λcs xs=>f cs xs k) n):=by
 unfold Ev.onSc
 refine Det.onP (f:=λv o k=>iff' (Nat.beq o 0) (σ.get v λb=>b.onO (λd=>OD.rec (motive:=λ_=>R) (λcs xs=>f cs xs k) d) n) (.no n)) λv o=>Det.iff (λ_=>?_) λ_=>Det.no
 refine Det.get (f:=λb k=>b.onO (λd=>OD.rec (motive:=λ_=>R) (λcs xs=>f cs xs k) d) n) λb _=>?_
 refine Det.onO (f:=λd k=>OD.rec (motive:=λ_=>R) (λcs xs=>f cs xs k) d) λd=>?_
 cases d
 exact h _ _
theorem Rel.sc (hr:Rel P HdS w0 φ σ w) {v:Vid} {cs:List ClsD} {xs:List Rx} (h:σ.look v=some (.opq (.sc cs xs))) {y:Value} (hy:dec φ (.p v 0)=some y) :
  ∃ (s:Option Addr) (N:Nat) (ms:List LSt) (of_:Nat→Int),y=.pointer s∧cs.length≤40∧ScanV (Fk.V No w) s (cs.map ClsD.go) N ms of_∧Sound (cs.map ClsD.go) ms∧All2 RxOf (ysOf (cs.map ClsD.go)) xs:=by
 have hne:(Blk.opq (OD.sc cs xs))≠Blk.dead:=by simp
 obtain⟨L,h1,hB⟩:=hr.blk v (.opq (.sc cs xs)) h hne
 obtain⟨Hv,hH,h6,_⟩:=hB
 obtain⟨h2,h20,ms,⟨N,of_,h3⟩,h4,h5⟩:=hH
 obtain⟨M,g1,rfl⟩:=dec_p hy
 rw [h1] at g1;cases g1
 refine⟨some ⟨L.blk,0,none⟩,N,ms,of_,by rw [h2],h20,h3.mono λb o hb=>⟨id,h6 b o hb⟩,h4,h5⟩
theorem clsU_dec:∀ {cs:List ClsD},decs φ (clsU cs)=some ((cs.map λc=>c.go.cells).flatten)
 | []=>rfl
 | c::l=>by
  have ih:=clsU_dec (cs:=l)
  simp only [clsU,decs,dec,ih,Option.bind_some,Option.map_some,List.map_cons,List.flatten_cons,Cls.cells,ClsD.go]
  rfl
theorem scNew_ok {tab:List (List Nat × Rx)} (ht:TabOK tab) (hen:enters P NN.scan_New=true):FxOK P HdS w0 NN.scan_New (λ_ _ _=>hkNew tab):=by
 refine FxOK.of hen λl σ k φ w vs hr hd h=>?_
 unfold hkNew at h
 split at h <;> try (cases h;done)
 rename_i x
 obtain⟨y,m,rfl,h1,h2⟩:=decs_cons_inv hd
 simp [decs] at h2;subst h2
 obtain⟨v,off,n,c,rfl,h3⟩:=onSl_ok h
 obtain⟨ex,n',c',ty,sz,h4,h5⟩:=H.cells_ok (show σ.cells v _=.ok from h3)
 obtain⟨l,h6,h7,h8⟩:=rdFrom_ok h5
 obtain⟨cs,h9,h10⟩:=orE_ok h8
 obtain⟨xs,h11,h12⟩:=orE_ok h10
 obtain⟨h13,h14⟩:=iff_ok h12
 obtain⟨ws,σ1,g1,g2,g3⟩:=H.room_ok (show H.room 1 σ _=.ok from h14)
 obtain⟨g4,σ2,g5,g6,g7⟩:=H.add_ok g3
 obtain⟨M,hM,rfl,hle⟩:=dec_sl h1
 have hl:=clsV_ok (Nat.le_refl _) h9
 subst hl
 obtain⟨a1,a2,a3,a4,a5,a6⟩:=okAll_ok ht h11 h13
 have hlen:(clsU cs).length=3 * cs.length:=by
  clear h9 h6 h7 h8 h10 h11 h12 h13 h14 g1 g2 g3 a1 a2 a3 a4 a5 a6 g4 g5 g7
  induction cs with
  | nil=>rfl
  | cons c l ih=>simp only [clsU,List.length_cons,ih];omega
 have h6:(clsU cs).length=n * 3:=h6
 have hn:cs.length=n:=by omega
 have hsl:SlCls (Fk.V No w) ⟨some ⟨M.blk,M.base + off,none⟩,n,capOf M c⟩ (cs.map ClsD.go) :=
  slC_of hr h4 hM (λi hi=>h7 i hi) h6 clsU_dec (by rw [List.map_map];rfl) Cls.lens (by simp [hn])
 have hcl:(cs.map ClsD.go).length=cs.length:=by simp
 have key:scan_New.C ⟨some ⟨M.blk,M.base + off,none⟩,n,capOf M c⟩ w λr w'=>Post P HdS w0 φ σ k (.tuple #[.pointer r.1,.int .i64 r.2.1,.int .i64 r.2.2]) w':=by
  refine scan_New_fresh (M:=No) hsl (by omega) a6 (λe=>?_) (λi e w' _ hi _ hb=>?_) (λw' _ _ _ ho=>absurd ho a5) (λs ms w' hk hs hS=>?_)
  ·rw [e] at hcl;simp at hcl;omega
  ·exact (notBad (a4 i (by omega)) hb).elim
  ·obtain⟨N,of_,b,lp,l1,mm,rfl,hb,hx⟩:=hs
   have hge:¬ b < w.heap.size:=hb.1
   have hr1:Rel P HdS w0 φ σ1 w:=hr.same rfl Keeps.refl g1
   have hr2:=hr1.newOpq (L:=⟨b,0,0⟩) g4 hk (by show w.heap.size≤b;omega) g5 ⟨rfl,a2,ms,⟨N,of_,b,lp,l1,mm,rfl,hb,hx⟩,hS,a3⟩
   refine⟨φ.with (vAt 0 ws) ⟨b,0,0⟩,_,σ2,Phi.with_le (hr1.gone _ g4),hr2,?_,(Ext.same g1 g2).trans (Ext.put g5 g6),g7⟩
   simp only [dec,decs,Phi.with_eq,Option.map_some,Option.bind_some,Option.some.injEq,hcl,hn]
   rfl
 exact Calls.mono key λe w' ⟨r,he,hp⟩=>⟨_,he,hp⟩
theorem scNew_det {tab:List (List Nat × Rx)}:FxDet (λ_ _ _=>hkNew tab):=FxDet.of λκ p l σ f hf=>by
 unfold hkNew
 rcases l with _ | ⟨a,_ | ⟨b,l⟩⟩
 ·exact Det.no
 ·refine Det.onSl λv off n c=>Det.cells (f:=λ_ _ c _ _ k=>rdFrom c off (Nat.mul n 3) λvs=>orE (clsV vs) (λcs=>orE (rxAll tab cs) (λxs=>iff' (okAll cs xs)
   (H.room 1 σ λws σ=>σ.add (vAt 0 ws) (.opq (.sc cs xs)) λσ=>f (.t [.p (vAt 0 ws) 0,.i .i64 (.ofNat n),.i .i64 (.ofNat 0)]) σ k) (.no 310)) 310) 310) λ_ _ c _ _=>?_
  refine Det.rdFrom (f:=λvs k=>orE (clsV vs) (λcs=>orE (rxAll tab cs) (λxs=>iff' (okAll cs xs)
   (H.room 1 σ λws σ=>σ.add (vAt 0 ws) (.opq (.sc cs xs)) λσ=>f (.t [.p (vAt 0 ws) 0,.i .i64 (.ofNat n),.i .i64 (.ofNat 0)]) σ k) (.no 310)) 310) 310) λvs=>?_
  refine Det.orE (f:=λcs k=>orE (rxAll tab cs) (λxs=>iff' (okAll cs xs)
   (H.room 1 σ λws σ=>σ.add (vAt 0 ws) (.opq (.sc cs xs)) λσ=>f (.t [.p (vAt 0 ws) 0,.i .i64 (.ofNat n),.i .i64 (.ofNat 0)]) σ k) (.no 310)) 310) λcs _=>?_
  refine Det.orE (f:=λxs k=>iff' (okAll cs xs)
   (H.room 1 σ λws σ=>σ.add (vAt 0 ws) (.opq (.sc cs xs)) λσ=>f (.t [.p (vAt 0 ws) 0,.i .i64 (.ofNat n),.i .i64 (.ofNat 0)]) σ k) (.no 310)) λxs _=>?_
  refine Det.iff (λ_=>room_det (f:=λws σ k=>σ.add (vAt 0 ws) (.opq (.sc cs xs)) λσ=>f (.t [.p (vAt 0 ws) 0,.i .i64 (.ofNat n),.i .i64 (.ofNat 0)]) σ k) λws σ1 h1=>?_) λ_=>Det.no
  exact Det.add (f:=λσ k=>f (.t [.p (vAt 0 ws) 0,.i .i64 (.ofNat n),.i .i64 (.ofNat 0)]) σ k) λσ2 h2=>hf _ σ2 (h1.trans h2)
 ·exact Det.no
theorem bytes_toNat (s:List Nat):(s.map UInt8.ofNat).map UInt8.toNat=s.map λb=>b % 256:=by
 rw [List.map_map]
 exact List.map_congr_left λb _=>by simp [UInt8.toNat_ofNat']
theorem scOne_ok (hen:enters P NN.scan_Scanner_One=true):FxOK P HdS w0 NN.scan_Scanner_One (λ_ _ _=>hkOne):=by
 refine FxOK.of hen λl σ k φ w vs hr hd h=>?_
 unfold hkOne at h
 split at h <;> try (cases h;done)
 rename_i x q c s
 obtain⟨y,m,rfl,h1,h2⟩:=decs_cons_inv hd
 obtain⟨y1,m1,rfl,h3,h4⟩:=decs_cons_inv h2
 obtain⟨y2,m2,rfl,h5,h6⟩:=decs_cons_inv h4
 simp [decs] at h6;subst h6
 obtain⟨v,cs,xs,rfl,g1,g2⟩:=onSc_ok h
 obtain⟨g3,g4⟩:=iff_ok g2
 simp only [Bool.and_eq_true] at g3
 obtain⟨⟨⟨g5,g6⟩,g7⟩,_⟩:=g3
 have hq:q=.i64:=kIx_eq (b:=.i64) g5
 subst hq
 have g6:0 < s.length:=by simpa using g6
 have g7:s.length < 100000:=by simpa using g7
 rw [dec_i h3,dec_s h5]
 obtain⟨sp,N,ms,of_,rfl,_,hs,hS,hx⟩:=hr.sc g1 h1
 have hb:bs (bytesOf s)=s.map UInt8.ofNat:=bytesOf_list s
 have htok:=tokOf_ok hS hx (bs (bytesOf s)) (i:=0) (Nat.zero_le _)
 rw [List.drop_zero,hb,bytes_toNat] at htok
 have key:scan_Scanner_One.C sp (Int.ofNat c) (bytesOf s) w λr w'=>Post P HdS w0 φ σ k (.bool r) w':=by
  refine scan_One_spec hs (by simp) (by rw [bytesOf_size];exact g6) (by rw [bytesOf_size];omega) λw' hk=>?_
  rw [hb,htok]
  cases hq:tokOf xs (s.map λb=>b % 256) 0 with
  | mk r t =>
   obtain⟨b,t,lk⟩:=t
   rw [hq] at g4
   simp only at g4
   refine Post.pure (hr.grown hk) ?_ g4
   simp only [tokC,dec,bytesOf_size,Option.some.injEq,Value.bool.injEq]
   cases b with
   | false =>
    have:((-1:Int)==Int.ofNat c)=false:=by
     cases e:((-1:Int)==Int.ofNat c) with
     | false=>rfl
     | true=>have:=beq_iff_eq.1 e;simp at this
    rw [this];rfl
   | true =>
    have e1:((r:Int)==Int.ofNat c)=Nat.beq r c:=by
     rw [nbeq]
     by_cases h:r=c
     ·subst h;simp
     ·have:¬ ((r:Int)=(c:Int)):=by omega
      simp [h,this]
    have e2:((t:Int)==((s.length:Nat):Int))=Nat.beq t s.length:=by
     rw [nbeq]
     by_cases h:t=s.length
     ·subst h;simp
     ·have:¬ ((t:Int)=(s.length:Int)):=by omega
      simp [h,this]
    rw [e1,e2,Bool.true_and]
 exact Calls.mono key λe w' ⟨r,he,hp⟩=>⟨_,he,hp⟩
theorem scOne_det:FxDet (λ_ _ _=>hkOne):=FxDet.of λκ p l σ f hf=>by
 have key:∀ (x:V) (q:IntKind) (c:Nat) (s:List Nat),Det p (λk=>onSc x σ (λ_ xs=>iff' (Nat.beq (kIx q) 3&&Nat.blt 0 (List.length s)&&Nat.blt (List.length s) 100000&&Nat.blt c 1000)
   (match tokOf xs (s.map λb=>b % 256) 0 with | (r,b,t,_)=>f (.b (b&&Nat.beq r c&&Nat.beq t (List.length s))) σ k) (.no 311)) 311):=λx q c s =>
  Det.onSc (f:=λ_ xs k=>iff' (Nat.beq (kIx q) 3&&Nat.blt 0 (List.length s)&&Nat.blt (List.length s) 100000&&Nat.blt c 1000)
   (match tokOf xs (s.map λb=>b % 256) 0 with | (r,b,t,_)=>f (.b (b&&Nat.beq r c&&Nat.beq t (List.length s))) σ k) (.no 311)) λcs xs=>Det.iff (λ_=>by
    cases tokOf xs (s.map λb=>b % 256) 0 with
    | mk r t=>exact hf _ _ (.refl _)) λ_=>Det.no
 unfold hkOne
 rcases l with _ | ⟨a,_ | ⟨b,_ | ⟨c,_ | ⟨d,l⟩⟩⟩⟩
 ·exact Det.no
 ·exact Det.no
 ·cases b <;> first | exact Det.no | (rename_i n;cases n <;> exact Det.no)
 ·cases b <;> try exact Det.no
  rename_i q n
  cases n <;> cases c <;> first | exact Det.no | exact key a q _ _
 ·cases b <;> first | exact Det.no | (rename_i n;cases n <;> cases c <;> exact Det.no)
end
end Go.Ev
end
section
namespace Go.Lib
section
variable {P : Program} (w : World)
theorem liesAt_bytes' {e : TypeId} (hc : P.cellsOf e = 1) (count off n : Nat) (hn : off + n ≤ count) : liesAt P P.depth e count off e n = true := by
  have hd : P.depth = (2 * (P.types.size + Made.depth) + 1) + 1 := rfl
  rw [hd]
  simp only [liesAt, Bool.or_eq_true]
  left
  rw [hd]
  simp [rowAt, hc, hn, sameLayout]
  try omega
theorem run_unsafeString_at (pt it ty e : TypeId) (hp : P.underlying pt = some (.pointer e)) (hc : P.cellsOf e = 1) (g off cells : Nat) (hsh : w.shape? g = some (e, cells)) (l : List UInt8) (h0 : l ≠ []) (hn : off + l.length ≤ cells) (h63 : l.length ≤ 9223372036854775807)
    (hcell : ∀ (j : Nat) x, l[j]? = some x → w.cell? ((⟨g, off, none⟩ : Addr).add j) = some (.int .u8 x.toNat)) :
    (Builtin.unsafeString_ #[pt, it] ty #[.pointer (some ⟨g, off, none⟩), .int .i64 l.length]).run P w = .ok (.string ⟨l.toArray⟩) (w.freeze ⟨g, off, none⟩ l.length) := by
  have hl : l.length ≠ 0 := by simpa using h0
  have hlb := run_loadBytes (P := P) w l ⟨g, off, none⟩ .empty hcell
  have hlies := liesAt_bytes' (P := P) hc (cells / P.cellsOf e) off l.length (by rw [hc]; simpa using hn)
  have h63' : ¬ (9223372036854775807 : Int) < (l.length : Int) := by omega
  have hmax : IntKind.i64.max = 9223372036854775807 := rfl
  have hneg : ¬ (l.length : Int) < 0 := by omega
  conv in (Builtin.unsafeString_ _ _ _) => whnf
  simp [asInt, asIntOf, hmax, h63', hneg, hl, variablesAt, hsh, elemOf, run_underlying hp, hlies, hlb]
  generalize Int.decLt IntKind.i64.max (l.length : Int) = d
  cases d with
  | isTrue h => exact absurd (hmax ▸ h) h63'
  | isFalse h => simp [hsh, run_underlying hp, hlies, hlb]
end
end Go.Lib
namespace Go.Proofs
open Go.Shelf Go.RowKit
set_option maxHeartbeats 1000000 in
set_option maxRecDepth 100000 in
theorem Tryz.copyCheck_used (b : Nat) (w : World) (h0 : w.cell? ⟨b, 0, none⟩ = some (.pointer (some ⟨b, 0, none⟩))) :
    Calls Tryz.prog 112 #[.pointer (some ⟨b, 0, none⟩)] w fun e w' => e = .returned (.tuple #[]) ∧ w' = w := by
  obtain ⟨j, hj, _⟩ := Option.map_eq_some_iff.1 (show (Tryz.prog.info? 189).map (·.size) = some 2 by kernel_rfl)
  go_enter Tryz.func112, Tryz.ntmps112
  go_wp2
  rw [Lib.run_neq_ptr_same w _ Tryz.underlying186 hj]
  go_wp2
  go_end0
  exact ⟨rfl, rfl⟩
set_option maxHeartbeats 1000000 in
set_option maxRecDepth 100000 in
theorem Tryz.copyCheck_fresh (b : Nat) (w : World) (h0 : w.cell? ⟨b, 0, none⟩ = some (.pointer none)) (hsh : w.shape? b = some (189, 2)) (hfz : w.frozen? ⟨b, 0, none⟩ = false) :
    Calls Tryz.prog 112 #[.pointer (some ⟨b, 0, none⟩)] w fun e w' => e = .returned (.tuple #[]) ∧ w' = w.setCell ⟨b, 0, none⟩ (.pointer (some ⟨b, 0, none⟩)) := by
  obtain ⟨j, hj, hjs⟩ := Option.map_eq_some_iff.1 (show (Tryz.prog.info? 189).map (·.size) = some 2 by kernel_rfl)
  have hlies : liesAt Tryz.prog Tryz.prog.depth 189 (2 / Tryz.prog.cellsOf 189) 0 189 1 = true := by kernel_rfl
  go_enter Tryz.func112, Tryz.ntmps112
  go_wp2
  rw [Lib.run_to_unsafe w ⟨b, 0, none⟩ Tryz.underlying186 Tryz.underlying316 hj (by rw [hjs]; decide) hsh (Nat.zero_lt_succ 1)]
  simp only [Result.andThen]
  rw [Oper.upon_value]
  go_wp2
  rw [run_callFunc_extern Tryz.func154 (by kernel_rfl) (by kernel_rfl) (by kernel_rfl) (e := Extern.AbiNoEscape.same) (by kernel_rfl)]
  rw [Lib.run_noEscape]
  simp only [Result.andThen]
  rw [Oper.upon_value]
  go_wp2
  rw [Lib.run_from_unsafe w ⟨b, 0, none⟩ Tryz.underlying316 Tryz.underlying186 hj hsh hlies]
  simp only [Result.andThen]
  rw [Oper.upon_value]
  go_wp2
  go_end0
  exact ⟨rfl, rfl⟩
set_option maxHeartbeats 1000000 in
set_option maxRecDepth 100000 in
theorem Tryz.Builder_String_row (b g off cap : Nat) (l : List UInt8) (cur : Array Value) (p : Value) (w : World) (hbk : w.heap[b]? = some (.cells #[p, .slice (some ⟨g, off, none⟩) l.length cap] 189 (0, 0))) (hg : w.heap[g]? = some (.cells cur 5 (0, 0))) (h0 : l ≠ []) (hnc : l.length ≤ cap) (hcm : l.length ≤ maxLen) (hcs : off + l.length ≤ cur.size)
    (hcell : ∀ (j : Nat) x, l[j]? = some x → w.cell? ((⟨g, off, none⟩ : Addr).add j) = some (.int .u8 x.toNat)) :
    Calls Tryz.prog 71 #[.pointer (some ⟨b, 0, none⟩)] w fun e w' => e = .returned (.string ⟨l.toArray⟩) ∧ w' = w.drew.freeze ⟨g, off, none⟩ l.length := by
  have hl0 : l.length ≠ 0 := by simpa using h0
  have c1 : w.drew.cell? ⟨b, 1, none⟩ = some (.slice (some ⟨g, off, none⟩) l.length cap) := by
    have : w.drew.heap[b]? = some (.cells #[p, .slice (some ⟨g, off, none⟩) l.length cap] 189 (0, 0)) := hbk
    rw [Lib.cell_of_heap this]; rfl
  have hSD : (Builtin.unsafeSliceData_ #[187] 250 #[.slice (some ⟨g, off, none⟩) l.length cap]).run Tryz.prog w.drew = .ok (.pointer (some ⟨g, off, none⟩)) w.drew :=
    Lib.run_unsafeSliceData_row _ _ _ _ _ _ (by omega)
  have hUS : (Builtin.unsafeString_ #[250, 3] 9 #[.pointer (some ⟨g, off, none⟩), .int .i64 l.length]).run Tryz.prog w.drew = .ok (.string ⟨l.toArray⟩) (w.drew.freeze ⟨g, off, none⟩ l.length) := by
    refine Lib.run_unsafeString_at w.drew 250 3 9 5 Tryz.underlying250 (by kernel_rfl) g off cur.size (by have hg' : w.drew.heap[g]? = some (.cells cur 5 (0, 0)) := hg; simp [World.shape?, hg']) l h0 hcs (by unfold maxLen at hcm; omega) ?_
    intro j x hx
    exact hcell j x hx
  have mixed : Tryz.prog.follows Departure.mixedOrders = true := by kernel_rfl
  go_enter Tryz.func71, Tryz.ntmps71
  go_wp2
  go_region_o
  all_goals (go_wp2; go_ret; exact ⟨rfl, rfl⟩)
set_option maxHeartbeats 2000000 in
set_option maxRecDepth 100000 in
theorem Tryz.Builder_String_nil (b : Nat) (p : Value) (w : World) (hbk : w.heap[b]? = some (.cells #[p, .slice none 0 0] 189 (0, 0))) :
    Calls Tryz.prog 71 #[.pointer (some ⟨b, 0, none⟩)] w fun e w' => e = .returned (.string ⟨#[]⟩) ∧ w' = w.drew := by
  have hUS : ∀ (W : World) (q : Option Addr), (Builtin.unsafeString_ #[250, 3] 9 #[.pointer q, .int .i64 0]).run Tryz.prog W = .ok (.string .empty) W := fun W q => Lib.run_unsafeString_none W _ _ _ q
  have c1 : w.drew.cell? ⟨b, 1, none⟩ = some (.slice none 0 0) := by
    have : w.drew.heap[b]? = some (.cells #[p, .slice none 0 0] 189 (0, 0)) := hbk
    rw [Lib.cell_of_heap this]; rfl
  have hSD : (Builtin.unsafeSliceData_ #[187] 250 #[.slice none 0 0]).run Tryz.prog w.drew = .ok (.pointer none) w.drew := rfl
  have mixed : Tryz.prog.follows Departure.mixedOrders = true := by kernel_rfl
  go_enter Tryz.func71, Tryz.ntmps71
  go_wp2
  go_region_o
  all_goals (go_wp2; go_ret; exact ⟨rfl, rfl⟩)
end Go.Proofs
end
section
namespace Go.Ev
open Go Go.Fk
section
variable {D:Type}
def hkCopy (bt:Nat):Hk D:=λargs σ k=>match args with
 | [x]=>x.onP (λv o=>σ.cells v λex n c ty sz=>iff' (ex&&Nat.beq o 0&&Nat.beq n 2&&Nat.beq ty bt)
   (orE (c.get 0) (λ(u:V)=>u.onZ (λkd z=>iff' (Nat.beq kd 0) (iff' z (wrFrom [.p v 0] c 0 λc'=>σ.put v (.cells true 2 c' bt sz) λσ=>k (.t []) σ)
    (u.onP (λv' o'=>iff' (vidEq v' v&&Nat.beq o' 0) (k (.t []) σ) (.no 320)) 320)) (.no 320)) 320) 320) (.no 320)) 320
 | _=>.no 320
def hkStr (bt u8:Nat):Hk D:=λargs σ k=>match args with
 | [x]=>x.onP (λv o=>σ.cells v λex n c ty sz=>iff' (ex&&Nat.beq o 0&&Nat.beq n 2&&Nat.beq ty bt)
   (orE (c.get 1) (λu=>u.onSlN (k (.s []) σ)
    (λg off m _=>σ.cells g λ_ _ c' ty' sz'=>iff' (Nat.beq ty' u8&&Nat.blt 0 m&&Nat.blt m 100000) (rdFrom c' off m λl=>orE (bytesV l) (λs=>iff' (s.all λb=>Nat.blt b 256) (σ.put g .dead λσ=>k (.s s) σ) (.no 321)) 321) (.no 321)) 321) 321) (.no 321)) 321
 | _=>.no 321
end
section
variable {D:Type} {P:Program} {Hd:D→Loc→View→Prop} {w0:World} {F bt u8:Nat} {φ:Phi} {σ σ':H D} {w w':World}
theorem Rel.killUpd (h:Rel P Hd w0 φ σ w) {v:Vid} {ex:Bool} {n:Nat} {c:Tr V} {ty sz:Nat} {L:Loc} (hv:σ.look v=some (.cells ex n c ty sz)) (hL:φ v=some L) (hk:Keeps (·=L.blk) w w') (hσ:∀ v',σ'.look v'=if v'=v then some .dead else σ.look v'):Rel P Hd w0 φ σ' w':=by
 have hof:∀ {u c},σ'.look u=some c→Live c→σ.look u=some c∧u≠v:=by
  intro u c hu hc
  rw [hσ] at hu
  by_cases huv:u=v
  ·rw [if_pos huv] at hu;cases hu;exact hc.elim
  ·rw [if_neg huv] at hu;exact⟨hu,huv⟩
 refine h.step (Ch:=(·=L.blk)) (Phi.le.refl _) hk (λb _ hb=>⟨v,_,L,hv,trivial,hL,hb.symm⟩) (λu hn=>?_) (λu c L' hu hc hL'=>.inl ⟨u,c,L',(hof hu hc).1,hc,hL',rfl⟩) (λu u' c c' M M' h1 h2 h3 h4 h5 h6 h7=>h.inj u u' c c' M M' (hof h1 h2).1 h2 (hof h3 h4).1 h4 h5 h6 h7) (λu c hu hd=>?_) (λm kT ks es ver hm=>?_)
 ·rw [hσ] at hn
  by_cases huv:u=v
  ·rw [if_pos huv] at hn;cases hn
  ·rw [if_neg huv] at hn;exact h.gone u hn
 ·rw [hσ] at hu
  by_cases huv:u=v
  ·rw [if_pos huv] at hu;cases hu;exact absurd rfl hd
  ·rw [if_neg huv] at hu
   exact .inl ⟨hu,λM hM hl he=>huv (h.inj u v c _ M L hu hl hv trivial hM hL he)⟩
 ·have:m≠v:=by rintro rfl;rw [hv] at hm;cases hm
  exact .inl ⟨by rw [hσ,if_neg this];exact hm,λM hM he=>this (h.inj m v _ _ M L hm trivial hv trivial hM hL he)⟩
theorem keeps_freeze {a:Addr} {n:Nat}:Keeps (·=a.block) w (w.freeze a n):=by
 unfold World.freeze
 split
 ·exact (Keeps.refl (w:=w)).no
 ·exact⟨rfl,rfl,rfl,by simp,λb _ hb=>by
   simp only [Array.getElem?_modify]
   rw [if_neg (λe=>hb e.symm)]⟩
theorem copy_ok (hen:enters P F=true)
  (hU:∀ (b:Nat) (w:World),w.cell? ⟨b,0,none⟩=some (.pointer (some ⟨b,0,none⟩))→Calls P F #[.pointer (some ⟨b,0,none⟩)] w λe w'=>e=.returned (.tuple #[])∧w'=w)
  (hN:∀ (b:Nat) (w:World),w.cell? ⟨b,0,none⟩=some (.pointer none)→w.shape? b=some (bt,2)→w.frozen? ⟨b,0,none⟩=false→Calls P F #[.pointer (some ⟨b,0,none⟩)] w λe w'=>e=.returned (.tuple #[])∧w'=w.setCell ⟨b,0,none⟩ (.pointer (some ⟨b,0,none⟩))) :
  FxOK P Hd w0 F (λ_ _ _=>(hkCopy bt:Hk D)):=by
 refine FxOK.of hen λl σ k φ w vs hr hd h=>?_
 unfold hkCopy at h
 split at h <;> try (cases h;done)
 rename_i x
 obtain⟨y,m,rfl,h1,h2⟩:=decs_cons_inv hd
 simp [decs] at h2;subst h2
 obtain⟨v,o,rfl,h3⟩:=onP_ok h
 obtain⟨ex,n,c,ty,sz,h4,h5⟩:=H.cells_ok (show σ.cells v _=.ok from h3)
 obtain⟨h6,h7⟩:=iff_ok h5
 simp only [Bool.and_eq_true] at h6
 obtain⟨⟨⟨hex,ho⟩,hn⟩,hty⟩:=h6
 have ho:=kB ho
 have hn:=kB hn
 have hty:=kB hty
 subst ho hn hty hex
 obtain⟨u,h8,h9⟩:=orE_ok h7
 obtain⟨L,cs,g1,g2,g3⟩:=hr.cells h4
 obtain⟨M,hM,rfl⟩:=dec_p h1
 rw [g1] at hM;cases hM
 obtain⟨e1,e2⟩:=g3.full rfl
 obtain⟨_,y0,d1,d2,_⟩:=g3.get 0 u h8
 rw [e2] at d2 ⊢
 rw [Nat.add_zero] at d2 ⊢
 have hcell:w.cell? ⟨L.blk,0,none⟩=some y0:=cell_of g3.at_ d2
 rcases onZ_ok h9 with⟨rfl,h10⟩ | ⟨⟨v',o',rfl⟩,h10⟩ | ⟨rfl,h10⟩ | ⟨_,h10⟩ | ⟨rfl,h10⟩ | ⟨_,h10⟩
 ·obtain⟨_,h11⟩:=iff_ok h10
  obtain⟨_,h11⟩:True∧wrFrom [.p v 0] c 0 (λc'=>σ.put v (.cells true 2 c' ty sz) λσ=>k (.t []) σ)=.ok:=⟨trivial,h11⟩
  obtain⟨c',h12,h13⟩:=wrFrom_ok h11
  obtain⟨σ',h14,h15,h16⟩:=H.put_ok h13
  have hy0:y0=.pointer none:=by simpa [dec] using d1.symm
  subst hy0
  refine (hN L.blk w hcell (by simp [World.shape?,g3.at_,e1]) (by simp [World.frozen?,g3.at_])).mono λe w' ⟨a1,a2⟩=>?_
  subst a2
  have hu:=upd_setCell (off:=0) (v:=.pointer (some ⟨L.blk,0,none⟩)) g3.at_
  have hwr:(wr (L.base + 0) [Value.pointer (some ⟨L.blk,0,none⟩)] cs.toList).toArray=cs.setIfInBounds 0 (.pointer (some ⟨L.blk,0,none⟩)):=by
   rw [e2]
   apply Array.ext'
   show cs.toList.set 0 _=_
   simp
  have hd1:decs φ [V.p v 0]=some [Value.pointer (some ⟨L.blk,0,none⟩)]:=by simp [decs,dec,g1,e2]
  have hget0:∀ i,i < [V.p v 0].length→(c.get (0 + i)).isSome=true:=λi hi=>by
   have:i=0:=by simpa using hi
   subst this
   simp [h8]
  refine⟨_,a1,φ,.t [],σ',.refl _,wr_cells (off:=0) hr h4 g1 g2 g3 hd1 (λx hx=>by simp at hx;subst hx;rfl) hget0 h12 (by rw [hwr];exact hu) h14,rfl,Ext.put h14 h15,h16⟩
 ·obtain⟨_,h11⟩:=iff_ok h10
  obtain⟨h13,h14⟩:=iff_ok (show iff' (vidEq v' v&&Nat.beq o' 0) (k (.t []) σ) (.no 320)=.ok from h11)
  simp only [Bool.and_eq_true] at h13
  have e3:=vidEq_ok.1 h13.1
  have e4:=kB h13.2
  subst e3 e4
  have hy0:y0=.pointer (some ⟨L.blk,0,none⟩):=by
   have:=d1
   simp only [dec,g1,Option.map_some,Option.some.injEq] at this
   rw [← this,e2]
  subst hy0
  exact (hU L.blk w hcell).mono λe w' ⟨a1,a2⟩=>by subst a2;exact⟨_,a1,Post.pure hr rfl h14⟩
 all_goals (obtain⟨h11,_⟩:=iff_ok h10;cases h11)
theorem copy_det:FxDet (λ_ _ _=>(hkCopy bt:Hk D)):=FxDet.of λκ p l σ f hf=>by
 unfold hkCopy
 rcases l with _ | ⟨a,_ | ⟨b,l⟩⟩
 ·exact Det.no
 ·refine Det.onP (f:=λv o k=>σ.cells v λex n c ty sz=>iff' (ex&&Nat.beq o 0&&Nat.beq n 2&&Nat.beq ty bt)
   (orE (c.get 0) (λ(u:V)=>u.onZ (λkd z=>iff' (Nat.beq kd 0) (iff' z (wrFrom [.p v 0] c 0 λc'=>σ.put v (.cells true 2 c' bt sz) λσ=>f (.t []) σ k)
    (u.onP (λv' o'=>iff' (vidEq v' v&&Nat.beq o' 0) (f (.t []) σ k) (.no 320)) 320)) (.no 320)) 320) 320) (.no 320)) λv o=>Det.cells (f:=λex n c ty sz k=>iff' (ex&&Nat.beq o 0&&Nat.beq n 2&&Nat.beq ty bt)
   (orE (c.get 0) (λ(u:V)=>u.onZ (λkd z=>iff' (Nat.beq kd 0) (iff' z (wrFrom [.p v 0] c 0 λc'=>σ.put v (.cells true 2 c' bt sz) λσ=>f (.t []) σ k)
    (u.onP (λv' o'=>iff' (vidEq v' v&&Nat.beq o' 0) (f (.t []) σ k) (.no 320)) 320)) (.no 320)) 320) 320) (.no 320)) λex n c ty sz=>Det.iff (λ_=>?_) λ_=>Det.no
  refine Det.orE (f:=λ(u:V) k=>u.onZ (λkd z=>iff' (Nat.beq kd 0) (iff' z (wrFrom [.p v 0] c 0 λc'=>σ.put v (.cells true 2 c' bt sz) λσ=>f (.t []) σ k)
    (u.onP (λv' o'=>iff' (vidEq v' v&&Nat.beq o' 0) (f (.t []) σ k) (.no 320)) 320)) (.no 320)) 320) λu _=>Det.onZ (f:=λkd z k=>iff' (Nat.beq kd 0) (iff' z (wrFrom [.p v 0] c 0 λc'=>σ.put v (.cells true 2 c' bt sz) λσ=>f (.t []) σ k)
    (u.onP (λv' o'=>iff' (vidEq v' v&&Nat.beq o' 0) (f (.t []) σ k) (.no 320)) 320)) (.no 320)) λkd z=>Det.iff (λ_=>Det.iff (λ_=>?_) λ_=>?_) λ_=>Det.no
  ·exact Det.wrFrom (f:=λc' k=>σ.put v (.cells true 2 c' bt sz) λσ=>f (.t []) σ k) λc'=>Det.put (f:=λσ k=>f (.t []) σ k) λσ' hσ=>hf _ σ' hσ
  ·exact Det.onP (f:=λv' o' k=>iff' (vidEq v' v&&Nat.beq o' 0) (f (.t []) σ k) (.no 320)) λv' o'=>Det.iff (λ_=>hf _ _ (.refl _)) λ_=>Det.no
 ·exact Det.no
theorem str_ok (hen:enters P F=true)
  (hN:∀ (b:Nat) (p:Value) (w:World),w.heap[b]?=some (.cells #[p,.slice none 0 0] bt (0,0))→Calls P F #[.pointer (some ⟨b,0,none⟩)] w λe w'=>e=.returned (.string ⟨#[]⟩)∧w'=w.drew)
  (hR:∀ (b g off cap:Nat) (l:List UInt8) (cur:Array Value) (p:Value) (w:World),w.heap[b]?=some (.cells #[p,.slice (some ⟨g,off,none⟩) l.length cap] bt (0,0))→w.heap[g]?=some (.cells cur u8 (0,0))→l≠[]→l.length≤cap→l.length≤maxLen→off + l.length≤cur.size →
   (∀ (j:Nat) x,l[j]?=some x→w.cell? ((⟨g,off,none⟩:Addr).add j)=some (.int .u8 x.toNat))→Calls P F #[.pointer (some ⟨b,0,none⟩)] w λe w'=>e=.returned (.string ⟨l.toArray⟩)∧w'=w.drew.freeze ⟨g,off,none⟩ l.length) :
  FxOK P Hd w0 F (λ_ _ _=>(hkStr bt u8:Hk D)):=by
 refine FxOK.of hen λl σ k φ w vs hr hd h=>?_
 unfold hkStr at h
 split at h <;> try (cases h;done)
 rename_i x
 obtain⟨y,m,rfl,h1,h2⟩:=decs_cons_inv hd
 simp [decs] at h2;subst h2
 obtain⟨v,o,rfl,h3⟩:=onP_ok h
 obtain⟨ex,n,c,ty,sz,h4,h5⟩:=H.cells_ok (show σ.cells v _=.ok from h3)
 obtain⟨h6,h7⟩:=iff_ok h5
 simp only [Bool.and_eq_true] at h6
 obtain⟨⟨⟨hex,ho⟩,hn⟩,hty⟩:=h6
 have ho:=kB ho
 have hn:=kB hn
 have hty:=kB hty
 subst ho hn hty hex
 obtain⟨u,h8,h9⟩:=orE_ok h7
 obtain⟨L,cs,g1,g2,g3⟩:=hr.cells h4
 obtain⟨M,hM,rfl⟩:=dec_p h1
 rw [g1] at hM;cases hM
 obtain⟨e1,e2⟩:=g3.full rfl
 obtain⟨_,y1,d1,d2,_⟩:=g3.get 1 u h8
 rw [e2] at d2 ⊢
 rw [Nat.zero_add] at d2
 have hcs:∀ {z},y1=z→w.heap[L.blk]?=some (.cells #[cs[0]?.getD undef,z] ty (0,0)):=by
  rintro z rfl
  rw [g3.at_]
  congr 2
  apply Array.ext'
  obtain⟨cl⟩:=cs
  simp only [List.size_toArray] at e1
  rcases cl with _ | ⟨a,_ | ⟨b,_ | ⟨c,l⟩⟩⟩ <;> simp at e1
  simp at d2
  subst d2
  rfl
 rcases onSlN_ok h9 with⟨rfl,h10⟩ | ⟨g,off,m,cp,rfl,h10⟩
 ·have hy:y1=.slice none 0 0:=by simpa [dec] using d1.symm
  exact (hN L.blk _ w (hcs hy)).mono λe w' ⟨a1,a2⟩=>by subst a2;exact⟨_,a1,Post.pure hr.drew (by simp [dec,bytesOf]) h10⟩
 ·obtain⟨ex',n',c',ty',sz',b1,b2⟩:=H.cells_ok (show σ.cells g _=.ok from h10)
  obtain⟨b3,b4⟩:=iff_ok b2
  simp only [Bool.and_eq_true] at b3
  have hty':=kB b3.1.1
  have hm0:0 < m:=by simpa using b3.1.2
  have hm1:m < 100000:=by simpa using b3.2
  subst hty'
  obtain⟨l,b5,b6,b7⟩:=rdFrom_ok b4
  obtain⟨s,b8,b9⟩:=orE_ok b7
  obtain⟨b10,b11⟩:=iff_ok b9
  obtain⟨σ',b12,b13,b14⟩:=H.put_ok b11
  obtain⟨M,hM,hy,hle⟩:=dec_sl d1
  obtain⟨Lg,cur,f1,f2,f3⟩:=hr.cells b1
  rw [hM] at f1;cases f1
  obtain⟨ad,ys,q1,q2,q3,_,q5⟩:=cells_list hr b1 b5 b6 (y:=.pointer (some ⟨M.blk,M.base + off,none⟩)) (by simp [dec,hM])
  cases q1
  have q6:=bytesV_ok b8 q2
  subst q6
  have hsl:s.length=m:=by simpa using q3
  have hlt:∀ b∈s,b < 256:=λb hb=>by
   have:=List.all_eq_true.1 b10 b hb
   simpa using this
  have hne:s.map UInt8.ofNat≠[]:=by
   intro e;have:=congrArg List.length e;simp at this;subst this;simp at hsl;omega
  have hfin:=hR L.blk M.blk (M.base + off) (capOf M cp) (s.map UInt8.ofNat) cur _ w (hcs (by rw [hy];simp [hsl])) f3.at_ hne (by simpa [hsl] using hle) ?_ ?_ ?_
  ·refine hfin.mono λe w' ⟨a1,a2⟩=>?_
   subst a2
   refine⟨_,a1,φ,.s s,σ',.refl _,Rel.killUpd hr.drew b1 hM ?_ b12,by simp [dec,bytesOf],Ext.put b12 b13,b14⟩
   exact keeps_freeze (w:=w.drew) (a:=⟨M.blk,M.base + off,none⟩)
  ·have hmx:maxLen=9223372036854775807:=rfl
   simp [hsl];omega
  ·have hlast:l[m - 1]?=some l[m - 1]:=kC (by omega)
   obtain⟨_,z,_,z2,_⟩:=f3.get (off + (m - 1)) _ (by rw [b6 (m - 1) (by omega)];exact hlast)
   have:=(Array.getElem?_eq_some_iff.1 z2).1
   simp [hsl];omega
  ·intro j x hx
   rw [List.getElem?_map] at hx
   obtain⟨b,hb,rfl⟩:=kE hx
   have:=q5 j (.int .u8 (Int.ofNat b)) (by rw [List.getElem?_map,hb];rfl)
   rw [this]
   have hb2:=hlt b (kD hb)
   have:(UInt8.ofNat b).toNat=b:=by simp [UInt8.toNat_ofNat'];omega
   rw [this];rfl
end
end Go.Ev
namespace Go.Ev
open Go Go.Fk
theorem str_det {D:Type} {bt u8:Nat}:FxDet (λ_ _ _=>(hkStr bt u8:Hk D)):=FxDet.of λκ p l σ f hf=>by
 unfold hkStr
 rcases l with _ | ⟨a,_ | ⟨b,l⟩⟩
 ·exact Det.no
 ·refine Det.onP (f:=λv o k=>σ.cells v λex n c ty sz=>iff' (ex&&Nat.beq o 0&&Nat.beq n 2&&Nat.beq ty bt)
   (orE (c.get 1) (λ(u:V)=>u.onSlN (f (.s []) σ k)
    (λg off m _=>σ.cells g λ_ _ c' ty' sz'=>iff' (Nat.beq ty' u8&&Nat.blt 0 m&&Nat.blt m 100000) (rdFrom c' off m λl=>orE (bytesV l) (λs=>iff' (s.all λb=>Nat.blt b 256) (σ.put g .dead λσ=>f (.s s) σ k) (.no 321)) 321) (.no 321)) 321) 321) (.no 321)) λv o=>?_
  refine Det.cells (f:=λex n c ty sz k=>iff' (ex&&Nat.beq o 0&&Nat.beq n 2&&Nat.beq ty bt)
   (orE (c.get 1) (λ(u:V)=>u.onSlN (f (.s []) σ k)
    (λg off m _=>σ.cells g λ_ _ c' ty' sz'=>iff' (Nat.beq ty' u8&&Nat.blt 0 m&&Nat.blt m 100000) (rdFrom c' off m λl=>orE (bytesV l) (λs=>iff' (s.all λb=>Nat.blt b 256) (σ.put g .dead λσ=>f (.s s) σ k) (.no 321)) 321) (.no 321)) 321) 321) (.no 321)) λex n c ty sz=>Det.iff (λ_=>?_) λ_=>Det.no
  refine Det.orE (f:=λ(u:V) k=>u.onSlN (f (.s []) σ k)
    (λg off m _=>σ.cells g λ_ _ c' ty' sz'=>iff' (Nat.beq ty' u8&&Nat.blt 0 m&&Nat.blt m 100000) (rdFrom c' off m λl=>orE (bytesV l) (λs=>iff' (s.all λb=>Nat.blt b 256) (σ.put g .dead λσ=>f (.s s) σ k) (.no 321)) 321) (.no 321)) 321) λu _=>?_
  refine Det.onSlN (g:=λk=>f (.s []) σ k) (f:=λg off m _ k=>σ.cells g λ_ _ c' ty' sz'=>iff' (Nat.beq ty' u8&&Nat.blt 0 m&&Nat.blt m 100000) (rdFrom c' off m λl=>orE (bytesV l) (λs=>iff' (s.all λb=>Nat.blt b 256) (σ.put g .dead λσ=>f (.s s) σ k) (.no 321)) 321) (.no 321)) (hf _ _ (.refl _)) λg off m _=>?_
  refine Det.cells (f:=λ_ _ c' ty' sz' k=>iff' (Nat.beq ty' u8&&Nat.blt 0 m&&Nat.blt m 100000) (rdFrom c' off m λl=>orE (bytesV l) (λs=>iff' (s.all λb=>Nat.blt b 256) (σ.put g .dead λσ=>f (.s s) σ k) (.no 321)) 321) (.no 321)) λ_ _ c' ty' sz'=>Det.iff (λ_=>?_) λ_=>Det.no
  refine Det.rdFrom (f:=λl k=>orE (bytesV l) (λs=>iff' (s.all λb=>Nat.blt b 256) (σ.put g .dead λσ=>f (.s s) σ k) (.no 321)) 321) λl=>Det.orE (f:=λs k=>iff' (s.all λb=>Nat.blt b 256) (σ.put g .dead λσ=>f (.s s) σ k) (.no 321)) λs _=>Det.iff (λ_=>?_) λ_=>Det.no
  exact Det.put (f:=λσ k=>f (.s s) σ k) λσ' hσ=>hf _ σ' hσ
 ·exact Det.no
end Go.Ev
end
section
namespace Go.Ev
open Go Go.Fk
def adv:Nat→Adv:=λF=>match F with
 | 6=>⟨(λ_=>[]),[0,1,4,5,6,7,8,9,10,11],(λid=>false)⟩
 | 8=>⟨(λ_=>[]),[0,1,4,5,6,7,8,9,11,22],(λid=>false)⟩
 | 9=>⟨(λ_=>[]),[0,1,4,5,7,9,20],(λid=>false)⟩
 | 11=>⟨(λ_=>[]),[0,2,3,4,5,6,7,8,15,34,35,36,37,49],(λid=>false)⟩
 | 12=>⟨(λ_=>[]),[0,1,4,5,7,8,9,10,11],(λid=>false)⟩
 | 29=>⟨(λ_=>[]),[0,2,3,4,5,6,7,8,9,10,11,12,15,22,32,39,49],(λid=>false)⟩
 | 30=>⟨(λ_=>[]),[0,1,4,5,6,7,10,14,36],(λid=>false)⟩
 | 31=>⟨(λ_=>[]),[0,1,4,5],(λid=>false)⟩
 | 32=>⟨(λ_=>[]),[0,2,3,4,5,6,7,8,9,10,11,18,32,33,34,35,41,51,52,53,54,69],(λid=>false)⟩
 | 33=>⟨(λ_=>[]),[0,2,3,4,6,13,14,15],(λid=>false)⟩
 | 34=>⟨(λ_=>[]),[0,2,3,4,6,13,14,15],(λid=>false)⟩
 | 35=>⟨(λ_=>[]),[0,2,4],(λid=>false)⟩
 | 36=>⟨(λ_=>[]),[0,2,3,4,5,6,8,9,10,11,15,16,17,18,32,49,50,51,52,74],(λid=>false)⟩
 | 39=>⟨(λ_=>[]),[0,2,4],(λid=>false)⟩
 | 55=>⟨(λ_=>[]),[0,1,2,6,7,14,19,20,26,32,38,45],(λid=>false)⟩
 | 56=>⟨(λ_=>[]),[0,2,3,4,5,6,8,15,33,39,50],(λid=>false)⟩
 | 57=>⟨(λ_=>[]),[0,1,2,6,7,8,9,10,11,55,66,67,68,69,96],(λid=>false)⟩
 | 58=>⟨(λid=>match id with | 4=>[3] | _=>[]),[0,1,2,6,7,8,9,10,11,12,14,57,72,73,74,75,80,101,120],(λid=>false)⟩
 | 59=>⟨(λ_=>[]),[0,2,3,4,5,7],(λid=>false)⟩
 | 60=>⟨(λ_=>[]),[0,1,4,5,7,8,9,10,16,17,18,19,32,47,49,59],(λid=>Nat.beq id 2)⟩
 | 61=>⟨(λ_=>[]),[0,2,4],(λid=>false)⟩
 | 62=>⟨(λ_=>[]),[0,2,4],(λid=>false)⟩
 | 63=>⟨(λ_=>[]),[0,2,4],(λid=>false)⟩
 | 64=>⟨(λ_=>[]),[0,2,4],(λid=>false)⟩
 | 65=>⟨(λ_=>[]),[0,2,4],(λid=>false)⟩
 | 66=>⟨(λ_=>[]),[0,1,2,4,5,6,7,8,26],(λid=>false)⟩
 | 67=>⟨(λ_=>[]),[0,1,2,4,6,7,8,9,13],(λid=>false)⟩
 | 68=>⟨(λ_=>[]),[0,1,3,4,6,8,9,10,11,15],(λid=>false)⟩
 | 70=>⟨(λ_=>[]),[0,1,4,5],(λid=>false)⟩
 | 91=>⟨(λid=>match id with | 12=>[5] | _=>[]),[0,1,2,6,7,8,11,14,21,39,42],(λid=>false)⟩
 | 92=>⟨(λid=>match id with | 8=>[5] | _=>[]),[0,1,4,5,8,15,23],(λid=>false)⟩
 | 93=>⟨(λ_=>[]),[0,1,2,6,7,8,9,11,12,13,35,67,69,70,71,72,81,92,97,104,107],(λid=>false)⟩
 | 94=>⟨(λ_=>[]),[0,1,2,6,7,8,18,27,34],(λid=>false)⟩
 | 95=>⟨(λid=>match id with | 19=>[5] | _=>[]),[0,2,3,5,6,7,9,10,11,20,21,22,23,35,45,46,47,48,58,69],(λid=>false)⟩
 | 96=>⟨(λ_=>[]),[0,2,3,4,5,7,11,12,13,14],(λid=>false)⟩
 | 98=>⟨(λ_=>[]),[0,1,4,5,6,7,9],(λid=>false)⟩
 | 99=>⟨(λ_=>[]),[0,1,4,5,6,7,22,30,31,32,33,39],(λid=>false)⟩
 | 100=>⟨(λ_=>[]),[0,1,2,6],(λid=>false)⟩
 | 101=>⟨(λ_=>[]),[0],(λid=>false)⟩
 | 102=>⟨(λ_=>[]),[0,1,2,5,11,29],(λid=>false)⟩
 | 103=>⟨(λ_=>[]),[0,1,4,5,20],(λid=>false)⟩
 | 104=>⟨(λ_=>[]),[0,1,2],(λid=>false)⟩
 | 105=>⟨(λid=>match id with | 10=>[4] | _=>[]),[0,1,4,5,6,7,17,20,21,22,23,50],(λid=>false)⟩
 | 106=>⟨(λ_=>[]),[0,3],(λid=>false)⟩
 | 107=>⟨(λid=>match id with | 6=>[0] | 9=>[22] | _=>[]),[0,2,3,5,6,7,11,12,13,14,57],(λid=>false)⟩
 | 108=>⟨(λ_=>[]),[0,2,8],(λid=>false)⟩
 | 109=>⟨(λid=>match id with | 11=>[0] | 12=>[0] | _=>[]),[0,2,3,5,6,7,8,9,13,14,15,16,20,21,22,23,29,40,70],(λid=>false)⟩
 | 110=>⟨(λ_=>[]),[0,1,2,4,6,7,8,9,13],(λid=>false)⟩
 | 111=>⟨(λ_=>[]),[0,1,2,3,4],(λid=>false)⟩
 | 132=>⟨(λ_=>[]),[0,1,4,5,9],(λid=>false)⟩
 | 133=>⟨(λ_=>[]),[0,2],(λid=>false)⟩
 | 134=>⟨(λ_=>[]),[0,2,3,4,6,7,8,31],(λid=>false)⟩
 | 135=>⟨(λ_=>[]),[0,2,3,16],(λid=>false)⟩
 | 136=>⟨(λ_=>[]),[0,2,3,4,6,7,8,39],(λid=>false)⟩
 | 137=>⟨(λ_=>[]),[0,2,3,4,5,6,7,8,9,11,31],(λid=>false)⟩
 | 138=>⟨(λ_=>[]),[0,2,3,4,6,7,8,9,10,15,19],(λid=>false)⟩
 | 139=>⟨(λid=>match id with | 11=>[4] | _=>[]),[0,1,3,4,6,7,13,15,16,17,18,23,29],(λid=>false)⟩
 | 140=>⟨(λ_=>[]),[0,2,3,15],(λid=>false)⟩
 | 141=>⟨(λ_=>[]),[0,1,4,5,7,8,9,16],(λid=>false)⟩
 | 142=>⟨(λ_=>[]),[0,1,3,4,5,6,7,8,11,22],(λid=>false)⟩
 | 144=>⟨(λ_=>[]),[0,2,3,4,5,7,8,9,24,33],(λid=>false)⟩
 | 149=>⟨(λ_=>[]),[0,1,2,6,43],(λid=>false)⟩
 | 150=>⟨(λid=>match id with | 5=>[4] | _=>[]),[0,1,3,4,5,6,17],(λid=>false)⟩
 | 151=>⟨(λ_=>[]),[0,1,4,5,7,8,9,10,11,16],(λid=>false)⟩
 | 152=>⟨(λid=>match id with | 9=>[0] | _=>[]),[0,1,4,5,6,8,9,10,11,12,17,35,55],(λid=>false)⟩
 | 153=>⟨(λ_=>[]),[0,1,2,3,4],(λid=>false)⟩
 | 159=>⟨(λ_=>[]),[0,1,4],(λid=>false)⟩
 | 190=>⟨(λ_=>[]),[0,1,4,11,13],(λid=>false)⟩
 | 192=>⟨(λ_=>[]),[0,1,3,4,5,6],(λid=>false)⟩
 | 236=>⟨(λ_=>[]),[0,1,4],(λid=>false)⟩
 | 238=>⟨(λ_=>[]),[0,1,4,5,7,8,9,16],(λid=>false)⟩
 | 239=>⟨(λ_=>[]),[0,1,2,3],(λid=>false)⟩
 | _=>⟨λ_=>[],[],λ_=>false⟩
abbrev PG:Program:=Go.Proofs.Tryz.prog
end Go.Ev
end
end
