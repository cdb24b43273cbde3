/-
  A part of the proof: what the functions of the program come to, read off the model: no premise of its own, no axiom. Blank space is spared. By an AI agent.
-/
import Derived.OrdersHeld
import Derived.LoopN
import Derived.KernelRfl
import Derived.Deep.RegionHeld
import Derived.Laws.StructEq
import Derived.Tactics
import Derived.Below
import Derived.IntWalk
import Derived.Maps.AppendAt
import Derived.Carry
import Derived.ProofKit
import Derived.SliceStrings
import Derived.Test.YtmbalpbjcfpggaaGreatDoorProg
set_option linter.all false
set_option maxRecDepth 100000
noncomputable section
section
namespace Go.Fk
open Go
theorem kA {α:Type _} {l:List α} {i:Nat} {a:α} (h:l[i]?=some a):∃ h:i<l.length,l[i]=a:=List.getElem?_eq_some_iff.1 h
theorem kB {n m:Nat} (h:Nat.beq n m=true):n=m:=Nat.eq_of_beq_eq_true h
theorem kC {α:Type _} {l:List α} {i:Nat} (h:i<l.length):l[i]?=some l[i]:=List.getElem?_eq_getElem h
theorem kD {α:Type _} {l:List α} {i:Nat} {a:α} (h:l[i]?=some a):a∈l:=List.mem_of_getElem? h
theorem kE {α β:Type _} {f:α→β} {x:Option α} {b:β} (h:x.map f=some b):∃ a,x=some a∧f a=b:=Option.map_eq_some_iff.1 h
theorem kF {p:Prop} [inst:Decidable p] (h:decide p=false):¬p:=of_decide_eq_false h
theorem kG {p:Prop} [inst:Decidable p] (h:decide p=true):p:=of_decide_eq_true h
structure Sl where
 a:Option Addr
 n:Nat
 c:Nat
inductive Ty where
 | int (k:IntKind) | bool | str | ptr | addr | sl | map | raw
@[reducible] def Ty.T:Ty→Type
 | .int _=>Int
 | .bool=>Bool
 | .str=>ByteArray
 | .ptr=>Option Addr
 | .addr=>Addr
 | .sl=>Sl
 | .map=>Option Nat
 | .raw=>Value
def Ty.enc:(t:Ty)→t.T→Value
 | .int k,x=>.int k x
 | .bool,x=>.bool x
 | .str,x=>.string x
 | .ptr,x=>.pointer x
 | .addr,x=>.pointer (some x)
 | .sl,x=>.slice x.a x.n x.c
 | .map,x=>.map x
 | .raw,x=>x
def Ty.dec:(t:Ty)→Value→Option t.T
 | .int k,.int k' x=>if k=k' then some x else none
 | .bool,.bool x=>some x
 | .str,.string x=>some x
 | .ptr,.pointer x=>some x
 | .addr,.pointer (some x)=>some x
 | .sl,.slice a n c=>some ⟨a,n,c⟩
 | .map,.map x=>some x
 | .raw,x=>some x
 | _,_=>none
theorem Ty.dec_sound {t:Ty} {v:Value} {x:t.T} (h:t.dec v=some x):v=t.enc x:=by
 cases t <;> cases v <;> simp [Ty.dec,Ty.enc] at h ⊢ <;> try first | exact h | (obtain⟨rfl,rfl⟩:=h;exact⟨rfl,rfl⟩) | (subst h;simp;done) | (simp_all;done)
 rename_i a
 cases a <;> simp_all
inductive RTy where
 | one (t:Ty)
 | agg (ts:List Ty)
 | big
 | tup (ts:List RTy)
@[reducible] def Tys:List Ty→Type
 | []=>Unit
 | [t]=>t.T
 | t::ts=>t.T × Tys ts
def Tys.enc:(ts:List Ty)→Tys ts→List Value
 | [],_=>[]
 | [t],x=>[t.enc x]
 | t::u::ts,x=>t.enc x.1::Tys.enc (u::ts) x.2
mutual
@[reducible] def RTy.T:RTy→Type
 | .one t=>t.T
 | .agg ts=>Tys ts
 | .big=>Array Value
 | .tup ts=>RTy.Ts ts
@[reducible] def RTy.Ts:List RTy→Type
 | []=>Unit
 | [t]=>t.T
 | t::u::ts=>t.T × RTy.Ts (u::ts)
end
mutual
def RTy.enc:(t:RTy)→t.T→Value
 | .one t,x=>t.enc x
 | .agg ts,x=>.agg (Tys.enc ts x).toArray
 | .big,x=>.agg x
 | .tup ts,x=>.tuple (RTy.encs ts x).toArray
def RTy.encs:(ts:List RTy)→RTy.Ts ts→List Value
 | [],_=>[]
 | [t],x=>[t.enc x]
 | t::u::ts,x=>t.enc x.1::RTy.encs (u::ts) x.2
end
def Tys.dec:(ts:List Ty)→List Value→Option (Tys ts)
 | [],[]=>some ()
 | [t],[v]=>t.dec v
 | t::u::ts,v::vs=>match t.dec v with
  | some x=>match Tys.dec (u::ts) vs with
   | some r=>some (x,r)
   | none=>none
  | none=>none
 | _,_=>none
theorem Tys.dec_sound:∀ (ts:List Ty) (vs:List Value) (x:Tys ts),Tys.dec ts vs=some x→vs=Tys.enc ts x
 | [],[],x,h=>rfl
 | [],v::vs,x,h=>by simp [Tys.dec] at h
 | [t],[],x,h=>by simp [Tys.dec] at h
 | [t],[v],x,h=>by simp only [Tys.dec] at h;rw [Ty.dec_sound h];rfl
 | [t],v::u::vs,x,h=>by simp [Tys.dec] at h
 | t::u::ts,[],x,h=>by simp [Tys.dec] at h
 | t::u::ts,v::vs,x,h=>by
  simp only [Tys.dec] at h
  split at h <;> try (cases h;done)
  rename_i y hy
  split at h <;> try (cases h;done)
  rename_i r hr
  simp at h;subst h
  rw [Ty.dec_sound hy,Tys.dec_sound _ _ _ hr];rfl
mutual
def RTy.dec:(t:RTy)→Value→Option t.T
 | .one t,v=>t.dec v
 | .agg ts,.agg cs=>Tys.dec ts cs.toList
 | .big,.agg cs=>some cs
 | .tup ts,.tuple vs=>RTy.decs ts vs.toList
 | _,_=>none
def RTy.decs:(ts:List RTy)→List Value→Option (RTy.Ts ts)
 | [],[]=>some ()
 | [t],[v]=>t.dec v
 | t::u::ts,v::vs=>match t.dec v with
  | some x=>match RTy.decs (u::ts) vs with
   | some r=>some (x,r)
   | none=>none
  | none=>none
 | _,_=>none
end
mutual
theorem RTy.dec_sound:∀ (t:RTy) (v:Value) (x:t.T),t.dec v=some x→v=t.enc x
 | .one t,v,x,h=>by simp only [RTy.dec] at h;exact Ty.dec_sound h
 | .agg ts,v,x,h=>by
  cases v <;> simp only [RTy.dec] at h <;> try (cases h;done)
  have:=Tys.dec_sound _ _ _ h
  simp only [RTy.enc,← this]
 | .big,v,x,h=>by
  cases v <;> simp only [RTy.dec] at h <;> try (cases h;done)
  simp at h;subst h;rfl
 | .tup ts,v,x,h=>by
  cases v <;> simp only [RTy.dec] at h <;> try (cases h;done)
  have:=RTy.decs_sound _ _ _ h
  simp only [RTy.enc,← this]
theorem RTy.decs_sound:∀ (ts:List RTy) (vs:List Value) (x:RTy.Ts ts),RTy.decs ts vs=some x→vs=RTy.encs ts x
 | [],[],x,h=>rfl
 | [],v::vs,x,h=>by simp [RTy.decs] at h
 | [t],[],x,h=>by simp [RTy.decs] at h
 | [t],[v],x,h=>by simp only [RTy.decs] at h;rw [RTy.dec_sound _ _ _ h];rfl
 | [t],v::u::vs,x,h=>by simp [RTy.decs] at h
 | t::u::ts,[],x,h=>by simp [RTy.decs] at h
 | t::u::ts,v::vs,x,h=>by
  simp only [RTy.decs] at h
  split at h <;> try (cases h;done)
  rename_i y hy
  split at h <;> try (cases h;done)
  rename_i r hr
  simp at h;subst h
  rw [RTy.dec_sound _ _ _ hy,RTy.decs_sound _ _ _ hr];rfl
end
abbrev Env:=List (Nat × Value)
def find (t:Nat):Env→Option Value
 | []=>none
 | (s,v)::r=>match Nat.beq s t with | true=>some v | false=>find t r
def ev (e:Env):Operand→Option Value
 | .tmp t=>find t e
 | .const v=>some v
 | .global g=>some (.pointer (some ⟨g,0,none⟩))
 | .func f=>some (.func (.func f) #[] #[])
def rho (e:Env) (x:Operand):Value:=match ev e x with | some v=>v | none=>undef
def known (e:Env) (op:Op):Bool:=op.operands.toList.all λx=>(ev e x).isSome
structure Ag (n:Nat) (e:Env) (a:Act):Prop where
 size:a.tmps.size=n
 defers:a.defers=[]
 get:∀ t v,find t e=some v→a.tmps.getD t undef=v
theorem ev_sound {n:Nat} {e:Env} {a:Act} (h:Ag n e a) {x:Operand} {v:Value} (hx:ev e x=some v):a.eval x=v:=by
 cases x <;> simp only [ev] at hx
 ·exact h.get _ _ hx
 ·simp at hx;subst hx;rfl
 ·simp at hx;subst hx;rfl
 ·simp at hx;subst hx;rfl
theorem rho_sound {n:Nat} {e:Env} {a:Act} (h:Ag n e a) {x:Operand} (hx:(ev e x).isSome=true):a.eval x=rho e x:=by
 obtain⟨v,hv⟩:=Option.isSome_iff_exists.1 hx
 rw [ev_sound h hv];simp [rho,hv]
theorem Ag.put {n:Nat} {e:Env} {a:Act} (h:Ag n e a) {d:Nat} {v:Value} (hd:d < n):Ag n ((d,v)::e) (a.put (some d) v):=by
 refine⟨by simp [Act.put,h.size],by simp [Act.put,h.defers],λt u hu=>?_⟩
 have hs:=h.size
 simp only [find] at hu
 cases hb:Nat.beq d t with
 | true =>
  have:=kB hb
  subst this
  simp [hb] at hu
  subst hu
  simp [Act.put,Array.getD_eq_getD_getElem?,hs,hd]
 | false =>
  have hne:=Nat.ne_of_beq_eq_false hb
  simp [hb] at hu
  have:=h.get _ _ hu
  simp only [Act.put,Array.getD_eq_getD_getElem?] at this ⊢
  rw [Array.getElem?_setIfInBounds_ne hne]
  exact this
theorem Ag.cons_same {n:Nat} {e:Env} {a:Act} (h:Ag n e a) {d:Nat} {v:Value} (hv:a.tmps.getD d undef=v):Ag n ((d,v)::e) a:=by
 refine⟨h.size,h.defers,λt u hu=>?_⟩
 simp only [find] at hu
 cases hb:Nat.beq d t with
 | true =>
  have:=kB hb
  subst this
  simp [hb] at hu
  rw [hv,hu]
 | false =>
  simp [hb] at hu
  exact h.get _ _ hu
def w64 (x:Int):Int:=IntKind.i64.wrap x
def bAnd (k:IntKind) (x y:Int):Int:=k.wrap (BitVec.ofInt k.bits x &&& BitVec.ofInt k.bits y).toNat
def bOr (k:IntKind) (x y:Int):Int:=k.wrap (BitVec.ofInt k.bits x ||| BitVec.ofInt k.bits y).toNat
def bXor (k:IntKind) (x y:Int):Int:=k.wrap (BitVec.ofInt k.bits x ^^^ BitVec.ofInt k.bits y).toNat
def bAndNot (k:IntKind) (x y:Int):Int:=k.wrap (BitVec.ofInt k.bits x &&& ~~~ BitVec.ofInt k.bits y).toNat
def bNot (k:IntKind) (n:Int):Int:=bXor k (if k.signed then -1 else k.max) n
def Br (b:Bool) (x y:Prop):Prop:=match b with | true=>x | false=>y
theorem Br.out {b:Bool} {x y:Prop} (h:Br b x y):(b=true→x)∧(b=false→y):=by
 cases b
 ·exact And.intro (λe=>nomatch e) (λ_=>h)
 ·exact And.intro (λ_=>h) (λe=>nomatch e)
theorem Br.mk {b:Bool} {x y:Prop} (h:b=true→x) (h':b=false→y):Br b x y:=by
 cases b
 ·exact h' rfl
 ·exact h rfl
def Ld (t:Ty) (a:Addr) (w:World) (k:t.T→Prop):Prop:=∃ x,w.cell? a=some (t.enc x)∧k x
def St (a:Addr) (v:Value) (w:World) (k:World→Prop):Prop:=((w.cell? a).isSome=true∧w.frozen? a=false)∧k (w.setCell a v)
def Al (o:Obj) (w:World) (k:Nat→World→Prop):Prop:=k w.heap.size (w.alloc o)
def NilC (p:Option Addr) (k:Addr→Prop):Prop:=match p with | some a=>k a | none=>False
theorem NilC.out {p:Option Addr} {k:Addr→Prop} (h:NilC p k):∃ a,p=some a∧k a:=by cases p with | none=>exact h.elim | some a=>exact⟨a,rfl,h⟩
def IdxS (s:Sl) (i:Int) (size:Nat) (k:Addr→Prop):Prop:=∃ a,s.a=some a∧(0≤i∧i < s.n)∧k (a.add (i.toNat * size))
def IdxA (n:Nat) (a:Addr) (i:Int) (size:Nat) (k:Addr→Prop):Prop:=(0≤i∧i < n)∧k (a.add (i.toNat * size))
def IdxV (t:Ty) (cs:Array Value) (n:Nat) (i:Int) (k:t.T→Prop):Prop:=(0≤i∧i < n)∧∃ x,cs[i.toNat]?=some (t.enc x)∧k x
def IdxStr (s:ByteArray) (i:Int) (k:UInt8→Prop):Prop:=0≤i∧∃ b,s[i.toNat]?=some b∧k b
def Need (p:Prop) (k:Prop):Prop:=p∧k
def Join {σ:Type} (rest:σ→World→Prop) (body:(σ→World→Prop)→Prop):Prop:=body rest
def Loop {σ:Type} (F:σ→World→(σ→World→Prop)→Prop) (s:σ) (w:World):Prop:=∀ R:σ→World→Prop,(∀ s w,F s w R→R s w)→R s w
def CallF (P:Program) (f:FuncId) (args:Array Value) (rt:RTy) (w:World) (k:rt.T→World→Prop):Prop :=
 Calls P f args w λe w'=>∃ r:rt.T,e=.returned (rt.enc r)∧k r w'
def App (P:Program) (s:Sem Value) (rt:RTy) (w:World) (k:rt.T→World→Prop):Prop:=∃ (r:rt.T) (w':World),s.run P w=.ok (rt.enc r) w'∧k r w'
def enters (P:Program) (F:Nat):Bool:=match P.funcs[F]? with
 | some fn=>match fn.body with
  | some _=>!(fn.name== "runtime.NumGoroutine")
  | none=>false
 | none=>false
def CallV (P:Program) (f:Value) (args:List Value) (rt:RTy) (w:World) (k:rt.T→World→Prop):Prop :=
 ∃ (F:Nat) (first cap:Array Value),f=.func (.func F) first cap∧enters P F=true∧CallF P F ((first.toList++args)++cap.toList).toArray rt w k
def App0 (P:Program) (s:Sem Unit) (w:World) (k:World→Prop):Prop:=∃ w':World,s.run P w=.ok () w'∧k w'
def Good (P:Program) (k:Value→World→Prop):Result Next→Prop
 | .ok (.value v) w'=>k v w'
 | .ok .skip w'=>k undef w'
 | .ok (.enter f args) w'=>Calls P f args w' λe w''=>∃ v,e=.returned v∧k v w''
 | _=>False
def isAggD:TypeDesc→Bool
 | .struct _=>true
 | .array _ _=>true
 | _=>false
def LdCells (a:Addr) (w:World) (k:List Value→Prop):List Ty→Nat→List Value→Prop
 | [],_,acc=>k acc.reverse
 | t::ts,i,acc=>Ld t (a.add i) w λx=>LdCells a w k ts (i + 1) (t.enc x::acc)
def LdA (n:Nat) (a:Addr) (w:World) (k:Array Value→Prop):Prop:=∃ cs:Array Value,(cs.size=n∧∀ i v,cs[i]?=some v→w.cell? (a.add i)=some v)∧k cs
def sLoad (P:Program) (t:TypeId) (x:Value) (h:RTy) (k:Value→Prop) (w:World):Prop :=
 match x with
 | .pointer (some a)=>match P.underlying t,P.info? t with
  | some u,some i=>match isAggD u,h with
   | false,.one ty=>Ld ty a w λx=>k (ty.enc x)
   | true,.agg ts=>match Nat.beq ts.length i.size with
    | true=>LdCells a w (λvs=>k (.agg vs.toArray)) ts 0 []
    | false=>False
   | true,.big=>LdA i.size a w λcs=>k (.agg cs)
   | _,_=>False
  | _,_=>False
 | _=>False
def oneCell:Value→Bool
 | .agg _=>false
 | .tuple _=>false
 | _=>true
def cellsL:Value→List Value
 | .agg cs=>cs.toList
 | v=>[v]
def StCells (a:Addr) (k:World→Prop):List Value→Nat→World→Prop
 | [],_,w=>k w
 | v::vs,i,w=>match oneCell v with
  | true=>St (a.add i) v w λw'=>StCells a k vs (i + 1) w'
  | false=>False
def StA (P:Program) (t:TypeId) (a:Addr) (cs:Array Value) (w:World) (k:World→Prop):Prop:=App0 P (storeVar t a (.agg cs)) w k
def sStore (P:Program) (t:TypeId) (x v:Value) (h:RTy) (k:World→Prop) (w:World):Prop :=
 match x with
 | .pointer (some a)=>match P.info? t with
  | none=>False
  | some i=>match h with
   | .big=>match v with
    | .agg cs=>StA P t a cs w k
    | _=>False
   | _=>match Nat.beq (cellsL v).length i.size with
    | true=>StCells a k (cellsL v) 0 w
    | false=>False
 | _=>False
def cellEq (P:Program) (t:TypeId) (x y:Value):Option Bool :=
 match P.underlying t,x,y with
 | some (.int _),.int κ a,.int κ' b=>if κ=κ' then some (a==b) else none
 | some .bool,.bool a,.bool b=>some (a==b)
 | some .string,.string a,.string b=>some (a.toList==b.toList)
 | _,_,_=>none
def recEq (P:Program):List Field→List Value→List Value→Nat→Option Bool
 | [],_,_,_=>some true
 | [f],x::_,y::_,i=>match Nat.beq f.offset i,f.name== "_" with
  | true,false=>cellEq P f.type x y
  | _,_=>none
 | f::g::fs,x::xs,y::ys,i=>match Nat.beq f.offset i,f.name== "_" with
  | true,false=>match cellEq P f.type x y,recEq P (g::fs) xs ys (i + 1) with
   | some a,some b=>some (a&&b)
   | _,_=>none
  | _,_=>none
 | _,_,_,_=>none
def recEqT (P:Program) (t:TypeId) (xs ys:Array Value):Option Bool :=
 match P.underlying t with
 | some (.struct fs)=>match P.stoodInHeld t with
  | false=>recEq P fs.toList xs.toList ys.toList 0
  | true=>none
 | _=>none
def sBin (P:Program) (op:BinOp) (t:TypeId) (x y:Value) (ynil:Bool) (k:Value→Prop) (alt:Prop):Prop :=
 match x,y with
 | .int κ a,.int κ' b =>
  match op with
  | .shl=>Need (0≤b) (k (.int κ (κ.wrap (a * 2 ^ min b.toNat κ.bits))))
  | .shr=>Need (0≤b) (k (.int κ (a.fdiv (2 ^ min b.toNat κ.bits))))
  | op=>if κ=κ' then
   match op with
   | .add=>k (.int κ (κ.wrap (a + b)))
   | .sub=>k (.int κ (κ.wrap (a - b)))
   | .mul=>k (.int κ (κ.wrap (a * b)))
   | .quo=>Need (b≠0) (k (.int κ (κ.wrap (a.tdiv b))))
   | .rem=>Need (b≠0) (k (.int κ (a.tmod b)))
   | .eql=>k (.bool (a==b))
   | .neq=>k (.bool (a != b))
   | .lss=>k (.bool (a < b))
   | .leq=>k (.bool (a≤b))
   | .gtr=>k (.bool (b < a))
   | .geq=>k (.bool (b≤a))
   | .and=>k (.int κ (bAnd κ a b))
   | .or=>k (.int κ (bOr κ a b))
   | .xor=>k (.int κ (bXor κ a b))
   | .andNot=>k (.int κ (bAndNot κ a b))
   | _=>alt
   else False
 | .string a,.string b =>
  match op with
  | .eql=>k (.bool (a.toList==b.toList))
  | .neq=>k (.bool (!(a.toList==b.toList)))
  | .add=>Need (((a.size + b.size:Nat):Int)≤IntKind.i64.max) (k (.string (a++b)))
  | _=>alt
 | .bool a,.bool b =>
  match op,P.underlying t with
  | .eql,some .bool=>k (.bool (a==b))
  | .neq,some .bool=>k (.bool (!(a==b)))
  | _,_=>False
 | .pointer a,.pointer _ =>
  match ynil with
  | true=>match op,P.underlying t with
   | .eql,some (.pointer _)=>k (.bool a.isNone)
   | .neq,some (.pointer _)=>k (.bool (!a.isNone))
   | _,_=>False
  | false=>alt
 | .agg xs,.agg ys =>
  match recEqT P t xs ys with
  | some b=>match op with
   | .eql=>k (.bool b)
   | .neq=>k (.bool (!b))
   | _=>alt
  | none=>alt
 | .slice a _ _,.slice _ _ _ =>
  match ynil with
  | true=>match op,P.underlying t with
   | .eql,some (.slice _)=>k (.bool a.isNone)
   | .neq,some (.slice _)=>k (.bool (!a.isNone))
   | _,_=>False
  | false=>alt
 | .map a,.map _ =>
  match ynil with
  | true=>match op,P.underlying t with
   | .eql,some (.map _ _)=>k (.bool a.isNone)
   | .neq,some (.map _ _)=>k (.bool (!a.isNone))
   | _,_=>False
  | false=>alt
 | _,_=>alt
def isNilC:Operand→Bool
 | .const (.pointer none)=>true
 | .const (.slice none _ _)=>true
 | .const (.map none)=>true
 | _=>false
def hintOf (d:Option Nat):List (Nat × RTy)→RTy
 | []=>.one .raw
 | (s,r)::l=>match d with
  | some t=>match Nat.beq s t with | true=>r | false=>hintOf d l
  | none=>.one .raw
def decided (t:Nat):List (Nat × Bool)→Option Bool
 | []=>none
 | (s,b)::l=>match Nat.beq s t with | true=>some b | false=>decided t l
def Nxt (P:Program) (s:Sem Value) (kt vt:Ty) (w:World) (k0:World→Prop) (k1:kt.T→vt.T→World→Prop):Prop :=
 ∃ w',(s.run P w=.ok (.tuple #[.bool false]) w'∧k0 w')∨∃ x y,s.run P w=.ok (.tuple #[.bool true,kt.enc x,vt.enc y]) w'∧k1 x y w'
def Run (P:Program) (o:Oper) (e:Env) (k:Value→World→Prop) (w:World):Prop:=Good P k ((execOp (rho e) o).run P w)
def semOp (P:Program) (H:List (Nat × RTy)) (g:List (Nat × Bool)) (o:Oper) (e:Env) (k:Value→World→Prop) (w:World):Prop :=
 match known e o.op with
 | false=>False
 | true=>match o.op with
  | .move x=>k (rho e x) w
  | .assign x=>k (rho e x) w
  | .pick c a b=>match (match c with | .tmp t=>decided t g | _=>none) with
   | some x=>match rho e c with
    | .bool y=>match y,x with
     | true,true=>k (rho e a) w
     | false,false=>k (rho e b) w
     | _,_=>False
    | _=>False
   | none=>match rho e c,rho e a,rho e b with
    | .bool x,.bool p,.bool q=>k (.bool (match x with | true=>p | false=>q)) w
    | _,_,_=>False
  | .load t a=>sLoad P t (rho e a) (hintOf o.dst H) (λv=>k v w) w
  | .store t a x=>sStore P t (rho e a) (rho e x) (match rho e x with | .agg _=>(match x with | .tmp d=>hintOf (some d) H | _=>.one .raw) | _=>.one .raw) (k undef) w
  | .nilCheck x=>match rho e x with
   | .pointer p=>NilC p λa=>k (.pointer (some a)) w
   | _=>False
  | .binOp op t x y _=>sBin P op t (rho e x) (rho e y) (isNilC y) (λv=>k v w) (App P (do eqGuard op t x y (rho e x) (rho e y);binOp op t (rho e x) (rho e y)) (hintOf o.dst H) w λr w'=>k ((hintOf o.dst H).enc r) w')
  | .indexAddr t x i=>match rho e x,rho e i,P.underlying t with
   | .slice a n c,.int _ j,some (.slice el)=>match P.info? el with
    | some inf=>IdxS ⟨a,n,c⟩ j inf.size λp=>k (.pointer (some p)) w
    | none=>False
   | .pointer (some a),.int _ j,some (.array n el)=>match P.info? el with
    | some inf=>IdxA n a j inf.size λp=>k (.pointer (some p)) w
    | none=>False
   | _,_,_=>False
  | .index t x i=>match rho e x,rho e i,P.underlying t with
   | .string s,.int _ j,some .string=>IdxStr s j λb=>k (.int .u8 b.toNat) w
   | .agg cs,.int _ j,some (.array n el)=>match P.underlying el,P.info? el,hintOf o.dst H with
    | some u,some inf,.one ty=>match isAggD u,Nat.beq inf.size 1 with
     | false,true=>IdxV ty cs n j λx=>k (ty.enc x) w
     | _,_=>False
    | _,_,_=>False
   | _,_,_=>False
  | .next it str=>match hintOf o.dst H with
   | .tup [.one .bool,.one kt,.one vt]=>Nxt P (Instr.next (rho e it) str o.type) kt vt w (λw'=>k (.tuple #[.bool false]) w') λx y w'=>k (.tuple #[.bool true,kt.enc x,vt.enc y]) w'
   | _=>False
  | .call { callee:=.value (.func F),args,.. }=>match enters P F with
   | true=>CallF P F (args.toList.map (rho e)).toArray (hintOf o.dst H) w λr w'=>k ((hintOf o.dst H).enc r) w'
   | false=>False
  | .call { callee:=.value f,args,.. }=>CallV P (rho e f) (args.toList.map (rho e)) (hintOf o.dst H) w λr w'=>k ((hintOf o.dst H).enc r) w'
  | .build t ps=>match hintOf o.dst H with
   | .big=>App P (Instr.build t (ps.map λ(i,x)=>(i,rho e x))) .big w λr w'=>k (RTy.enc .big r) w'
   | _=>Run P o e k w
  | .buildSlice t n ps=>match hintOf o.dst H with
   | .one .sl=>App P (Instr.buildSlice t n (ps.map λ(i,x)=>(i,rho e x))) (.one .sl) w λr w'=>k (Ty.sl.enc r) w'
   | _=>Run P o e k w
  | .field t x f=>match hintOf o.dst H with
   | .one .raw=>Run P o e k w
   | r=>App P (Instr.field t (rho e x) f) r w λx w'=>k (r.enc x) w'
  | .call { callee:=.builtin .append,argTypes,args }=>App P (Builtin.append_ argTypes o.type (args.map (rho e))) (.one .sl) w λr w'=>k (Ty.sl.enc r) w'
  | .call { callee:=.builtin .copy,argTypes,args }=>App P (Builtin.copy_ argTypes o.type (args.map (rho e))) (.one (.int .i64)) w λr w'=>k ((Ty.int .i64).enc r) w'
  | .call { callee:=.builtin .max,argTypes,args }=>App P (Builtin.max_ argTypes o.type (args.map (rho e))) (hintOf o.dst H) w λr w'=>k ((hintOf o.dst H).enc r) w'
  | .call { callee:=.builtin .min,argTypes,args }=>App P (Builtin.min_ argTypes o.type (args.map (rho e))) (hintOf o.dst H) w λr w'=>k ((hintOf o.dst H).enc r) w'
  | .lookup t x i ok=>App P (Instr.lookup t (rho e x) (rho e i) ok) (hintOf o.dst H) w λr w'=>k ((hintOf o.dst H).enc r) w'
  | .entry it=>App P (Instr.entry (rho e it)) (hintOf o.dst H) w λr w'=>k ((hintOf o.dst H).enc r) w'
  | .range t x=>App P (Instr.range t (rho e x)) (.one .ptr) w λr w'=>k (Ty.ptr.enc r) w'
  | .makeSlice t l c=>App P (Instr.makeSlice t (rho e l) (rho e c)) (.one .sl) w λr w'=>k (Ty.sl.enc r) w'
  | .slice t x lo hi mx=>App P (Instr.sliceAt t (rho e x) (lo.map (rho e)) (hi.map (rho e)) (mx.map (rho e))) (hintOf o.dst H) w λr w'=>k ((hintOf o.dst H).enc r) w'
  | .mapUpdate t m x y=>App0 P (Instr.mapUpdate t (rho e m) (rho e x) (rho e y)) w λw'=>k undef w'
  | .insert t m x y=>App0 P (Instr.mapUpdate t (rho e m) (rho e x) (rho e y)) w λw'=>k undef w'
  | .convert s d x=>match rho e x with
   | .int _ _=>Run P o e k w
   | _=>App P (convert s d (rho e x)) (hintOf o.dst H) w λr w'=>k ((hintOf o.dst H).enc r) w'
  | .call { callee:=.builtin .len,argTypes,args }=>match args.toList with
   | [x]=>match rho e x with
    | .map _=>App P (Builtin.len_ argTypes o.type (args.map (rho e))) (.one (.int .i64)) w λr w'=>k ((Ty.int .i64).enc r) w'
    | _=>Run P o e k w
   | _=>False
  | .call { callee:=.builtin .clear,argTypes,args }=>App P (Builtin.clear_ argTypes o.type (args.map (rho e))) (.tup []) w λr w'=>k ((RTy.tup []).enc r) w'
  | .select _ _=>False
  | _=>Run P o e k w
variable {P:Program}
theorem good_v {s:Sem Value} {w w':World} {v:Value} {k:Value→World→Prop} (h:s.run P w=.ok v w') (hk:k v w') :
  Good P k ((do pure (Next.value (← s)):Sem Next).run P w):=by
 simp only [Sem.run_bind,h,Result.andThen_ok,Sem.run_pure,Good];exact hk
theorem good_u {s:Sem Unit} {w w':World} {k:Value→World→Prop} (h:s.run P w=.ok () w') (hk:k undef w') :
  Good P k ((do s;pure Next.skip:Sem Next).run P w):=by
 simp only [Sem.run_bind,h,Result.andThen_ok,Sem.run_pure,Good];exact hk
theorem good_app {s:Sem Value} {rt:RTy} {w:World} {k:Value→World→Prop} (h:App P s rt w λr w'=>k (rt.enc r) w') :
  Good P k ((do pure (Next.value (← s)):Sem Next).run P w):=by
 obtain⟨r,w',h1,h2⟩:=h;exact good_v h1 h2
theorem good_app0 {s:Sem Unit} {w:World} {k:Value→World→Prop} (h:App0 P s w λw'=>k undef w') :
  Good P k ((do s;pure Next.skip:Sem Next).run P w):=by
 obtain⟨w',h1,h2⟩:=h;exact good_u h1 h2
theorem run_underlying' {t:TypeId} {d:TypeDesc} (w:World) (h:P.underlying t=some d):(underlying t).run P w=.ok d w:=by
 simp only [underlying,Sem.run_bind,run_program,Result.andThen_ok,h,Sem.run_pure]
theorem run_typeInfo' {t:TypeId} {d:TypeInfo} (w:World) (h:P.info? t=some d):(typeInfo t).run P w=.ok d w:=by
 simp only [typeInfo,Sem.run_bind,run_program,Result.andThen_ok,h,Sem.run_pure]
theorem run_sizeOf' {t:TypeId} {d:TypeInfo} (w:World) (h:P.info? t=some d):(sizeOf t).run P w=.ok d.size w:=by
 simp only [sizeOf,Sem.run_bind,run_typeInfo' w h,Result.andThen_ok,Sem.run_pure]
theorem run_isAgg' {t:TypeId} {d:TypeDesc} (w:World) (h:P.underlying t=some d):(isAgg t).run P w=.ok (isAggD d) w:=by
 simp only [isAgg,Sem.run_bind,run_underlying' w h,Result.andThen_ok]
 cases d <;> rfl
theorem ldCells_ok {a:Addr} {w:World} {k:List Value→Prop}:∀ (ts:List Ty) (i:Nat) (acc:List Value),LdCells a w k ts i acc →
  ∃ vs:List Value,vs.length=ts.length∧(∀ j v,vs[j]?=some v→w.cell? (a.add (i + j))=some v)∧k (acc.reverse++vs)
 | [],i,acc,h=>⟨[],rfl,by simp,by simpa [LdCells] using h⟩
 | t::ts,i,acc,⟨x,h1,h2⟩=>by
  obtain⟨vs,e1,e2,e3⟩:=ldCells_ok ts (i + 1) _ h2
  refine⟨t.enc x::vs,by simp [e1],λj v hj=>?_,by simpa using e3⟩
  cases j with
  | zero=>simp at hj;subst hj;simpa using h1
  | succ j=>simp at hj;have:=e2 j v hj;rwa [show i + 1 + j=i + (j + 1) from by omega] at this
theorem sLoad_ok {t:TypeId} {x:Value} {h:RTy} {k:Value→Prop} {w:World} (H:sLoad P t x h k w):∃ v,(Instr.loadAt t x).run P w=.ok v w∧k v:=by
 unfold sLoad at H
 split at H <;> try exact H.elim
 rename_i a
 split at H <;> try exact H.elim
 rename_i u i hu hi
 have key:(Instr.loadAt t (.pointer (some a))).run P w=(if isAggD u then (loadCells a i.size >>= λcs=>pure (Value.agg cs)) else load a).run P w:=by
  simp only [Instr.loadAt,Instr.sureAddr,Sem.run_bind,Sem.run_pure,Result.andThen_ok,loadVar,run_isAgg' w hu]
  cases isAggD u <;> simp [run_sizeOf' w hi]
 rw [key]
 split at H <;> try exact H.elim
 ·rename_i ty hd
  obtain⟨x,h1,h2⟩:=H
  exact⟨_,by simp [hd,h1],h2⟩
 ·rename_i ts hd
  split at H <;> try exact H.elim
  rename_i hl
  obtain⟨vs,e1,e2,e3⟩:=ldCells_ok _ _ _ H
  have hl':vs.length=i.size:=by rw [e1];exact kB hl
  have:=run_loadCells_list (P:=P) w a vs (λj v hj=>by simpa using e2 j v hj)
  rw [hl'] at this
  exact⟨.agg vs.toArray,by simp [hd,this],by simpa using e3⟩
 ·rename_i hd
  obtain⟨cs,⟨h1,h2⟩,h3⟩:=H
  have:=run_loadCells_list (P:=P) w a cs.toList (λj v hj=>h2 j v (by simpa using hj))
  simp only [Array.length_toList,h1] at this
  exact⟨.agg cs,by simp [hd,this],by simpa using h3⟩
theorem stCells_ok {a:Addr} {k:World→Prop}:∀ (vs:List Value) (i:Nat) (w:World),StCells a k vs i w→∃ w',(storeCells a vs i).run P w=.ok () w'∧k w'
 | [],i,w,h=>⟨w,rfl,h⟩
 | v::vs,i,w,h=>by
  unfold StCells at h
  split at h <;> try exact h.elim
  rename_i h1
  obtain⟨⟨hc,hf⟩,h2⟩:=h
  obtain⟨w',e1,e2⟩:=stCells_ok vs (i + 1) _ h2
  obtain⟨u,hu⟩:=Option.isSome_iff_exists.1 hc
  refine⟨w',?_,e2⟩
  have h1':v.oneCell'=true:=by cases v <;> simp_all [oneCell,Value.oneCell']
  simp only [storeCells,Sem.run_bind,run_store P w _ v _ h1',hu,hf,Result.andThen_ok]
  simpa using e1
theorem cellsL_eq (v:Value):cellsL v=v.cells.toList:=by cases v <;> rfl
theorem sStore_ok {t:TypeId} {x v:Value} {h:RTy} {k:World→Prop} {w:World} (H:sStore P t x v h k w):∃ w',(Instr.storeAt t x v).run P w=.ok () w'∧k w':=by
 unfold sStore at H
 split at H <;> try exact H.elim
 split at H <;> try exact H.elim
 rename_i a i hi
 split at H
 ·split at H <;> try exact H.elim
  obtain⟨w',h1,h2⟩:=H
  exact⟨w',by simpa [Instr.storeAt,Instr.sureAddr] using h1,h2⟩
 ·split at H <;> try exact H.elim
  rename_i hl
  obtain⟨w',e1,e2⟩:=stCells_ok (P:=P) _ _ _ H
  refine⟨w',?_,e2⟩
  have hl':v.cells.size=i.size:=by have:=kB hl;rw [cellsL_eq] at this;simpa using this
  simp only [Instr.storeAt,Instr.sureAddr,Sem.run_bind,Sem.run_pure,Result.andThen_ok,storeVar,run_sizeOf' w hi,hl']
  rw [cellsL_eq] at e1
  simpa using e1
theorem run_eqGuard_int {op:BinOp} {t:TypeId} {x y:Operand} {a b:Value} (w:World) (h:∀ c,a≠.agg c) (h':a≠.nilIface) :
  (eqGuard op t x y a b).run P w=.ok () w:=by
 unfold eqGuard
 cases op <;> simp <;> cases a <;> simp_all
theorem equalIn_bool {t:TypeId} (d:Nat) (w:World) (hu:P.underlying t=some .bool) (a b:Bool):(Op.equalIn (d + 1) t (.bool a) (.bool b)).run P w=.ok (a==b) w:=by
 simp [Op.equalIn,run_underlying' w hu]
theorem equalIn_ptr {t e:TypeId} (d:Nat) (w:World) (hu:P.underlying t=some (.pointer e)) (a:Option Addr):(Op.equalIn (d + 1) t (.pointer a) (.pointer none)).run P w=.ok a.isNone w:=by
 cases a <;> simp [Op.equalIn,run_underlying' w hu]
theorem equalIn_sl {t e:TypeId} (d:Nat) (w:World) (hu:P.underlying t=some (.slice e)) (a:Option Addr) (n c n' c':Nat):(Op.equalIn (d + 1) t (.slice a n c) (.slice none n' c')).run P w=.ok a.isNone w:=by
 cases a <;> simp [Op.equalIn,run_underlying' w hu]
theorem equalIn_map {t e k:TypeId} (d:Nat) (w:World) (hu:P.underlying t=some (.map k e)) (a:Option Nat):(Op.equalIn (d + 1) t (.map a) (.map none)).run P w=.ok a.isNone w:=by
 cases a <;> simp [Op.equalIn,run_underlying' w hu]
theorem run_eql {t:TypeId} {x y:Value} {b:Bool} {w:World} (h:(Op.equalIn (9999 + 1) t x y).run P w=.ok b w) :
  (do pure (.bool (← Op.equal t x y)):Sem Value).run P w=.ok (.bool b) w:=by
 rw [Sem.run_bind,show Op.equal t x y=Op.equalIn (9999 + 1) t x y from rfl,h];rfl
theorem run_neq {t:TypeId} {x y:Value} {b:Bool} {w:World} (h:(Op.equalIn (9999 + 1) t x y).run P w=.ok b w) :
  (do pure (.bool (!(← Op.equal t x y))):Sem Value).run P w=.ok (.bool (!b)) w:=by
 rw [Sem.run_bind,show Op.equal t x y=Op.equalIn (9999 + 1) t x y from rfl,h];rfl
theorem isAgg_scalar {t:TypeId} {u:TypeDesc} (w:World) (h:P.underlying t=some u) (hu:isAggD u=false) (cs:Array Value) (off:Nat) {v:Value} (hv:cs[off]?=some v):(part t cs off).run P w=.ok v w:=by
 simp [part,run_isAgg' w h,hu,hv]
theorem cellEq_ok {t:TypeId} {x y:Value} {b:Bool} (h:cellEq P t x y=some b) (d:Nat) (w:World):(Op.equalIn (d + 1) t x y).run P w=.ok b w∧(∃ u,P.underlying t=some u∧isAggD u=false)∧∀ d,P.eqGuardType d t=false∨d=0:=by
 unfold cellEq at h
 split at h
 ·rename_i κ0 κ a κ' b' hu
  split at h
  ·rename_i hk;subst hk;simp at h;subst h
   exact⟨run_equalIn_int w d t _ _ _ _ hu,⟨_,hu,rfl⟩,λd=>by cases d <;> simp [Program.eqGuardType,hu]⟩
  ·cases h
 ·rename_i a b' hu
  simp at h;subst h
  exact⟨run_equalIn_bool' w d t _ _ hu,⟨_,hu,rfl⟩,λd=>by cases d <;> simp [Program.eqGuardType,hu]⟩
 ·rename_i a b' hu
  simp at h;subst h
  exact⟨run_equalIn_string w d t _ _ hu,⟨_,hu,rfl⟩,λd=>by cases d <;> simp [Program.eqGuardType,hu]⟩
 ·cases h
theorem recEq_ok (X Y:Array Value) (d e:Nat) (w:World):∀ (fs:List Field) (xs ys:List Value) (i:Nat) (b:Bool),(∀ j v,xs[j]?=some v→X[i + j]?=some v)→(∀ j v,ys[j]?=some v→Y[i + j]?=some v)→recEq P fs xs ys i=some b →
  (Op.eqFields (d + 1) X Y fs).run P w=.ok b w∧∀ f∈fs,P.eqGuardType (e + 1) f.type=false
 | [],_,_,_,b,_,_,h=>by simp [recEq] at h;subst h;simp [Op.eqFields]
 | [f],[],_,_,b,_,_,h=>by simp [recEq] at h
 | [f],x::xs,[],_,b,_,_,h=>by simp [recEq] at h
 | [f],x::xs,y::ys,i,b,hx,hy,h=>by
  unfold recEq at h
  split at h <;> try (cases h;done)
  rename_i h1 h2
  obtain rfl:=(kB h1)
  have hn:f.name≠ "_":=by simpa using h2
  obtain⟨g1,⟨u,g2,g3⟩,g4⟩:=cellEq_ok h d w
  refine⟨?_,λf' hf=>by simp at hf;subst hf;exact (g4 (e + 1)).resolve_right (by omega)⟩
  have a1:=isAgg_scalar w g2 g3 X f.offset (hx 0 x (by simp))
  have a2:=isAgg_scalar w g2 g3 Y f.offset (hy 0 y (by simp))
  simp only [Op.eqFields,hn,ne_eq,not_false_eq_true,if_true,Sem.run_bind,a1,Result.andThen_ok,a2,g1]
  cases b <;> simp
 | f::g::fs,[],_,_,b,_,_,h=>by simp [recEq] at h
 | f::g::fs,x::xs,[],_,b,_,_,h=>by simp [recEq] at h
 | f::g::fs,x::xs,y::ys,i,b,hx,hy,h=>by
  unfold recEq at h
  split at h <;> try (cases h;done)
  rename_i h1 h2
  obtain rfl:=(kB h1)
  have hn:f.name≠ "_":=by simpa using h2
  split at h <;> try (cases h;done)
  rename_i p q hp hq
  simp at h;subst h
  obtain⟨g1,⟨u,g2,g3⟩,g4⟩:=cellEq_ok hp d w
  obtain⟨r1,r2⟩:=recEq_ok X Y d e w (g::fs) xs ys (f.offset + 1) q (λj v hv=>by have:=hx (j + 1) v (by simpa using hv);rwa [show f.offset + 1 + j=f.offset + (j + 1) from by omega])
   (λj v hv=>by have:=hy (j + 1) v (by simpa using hv);rwa [show f.offset + 1 + j=f.offset + (j + 1) from by omega]) hq
  refine⟨?_,λf' hf=>by
   rcases List.mem_cons.1 hf with rfl | hf
   ·exact (g4 (e + 1)).resolve_right (by omega)
   ·exact r2 f' hf⟩
  have a1:=isAgg_scalar w g2 g3 X f.offset (hx 0 x (by simp))
  have a2:=isAgg_scalar w g2 g3 Y f.offset (hy 0 y (by simp))
  rw [Op.eqFields]
  simp only [hn,ne_eq,not_false_eq_true,if_true,Sem.run_bind,a1,Result.andThen_ok,a2,g1]
  cases p
  ·simp
  ·simpa using r1
theorem recEqT_ok {t:TypeId} {xs ys:Array Value} {b:Bool} (h:recEqT P t xs ys=some b) (w:World):(Op.equalIn 10000 t (.agg xs) (.agg ys)).run P w=.ok b w∧P.eqGuardType P.depth t=false:=by
 unfold recEqT at h
 split at h <;> try (cases h;done)
 rename_i fs hu
 split at h <;> try (cases h;done)
 rename_i hs
 have hf:P.fieldsOf t=fs:=by simp [Program.fieldsOf,hu]
 obtain⟨g1,g2⟩:=recEq_ok xs ys 9998 (2 * (P.types.size + Made.depth)) w fs.toList xs.toList ys.toList 0 b (λj v hv=>by simpa using hv) (λj v hv=>by simpa using hv) h
 refine⟨?_,?_⟩
 ·rw [run_equalIn_struct w 9999 t xs ys (by rw [hf];exact hu) hs,hf];exact g1
 ·show P.eqGuardType ((2 * (P.types.size + Made.depth) + 1) + 1) t=false
  rw [Program.eqGuardType,hu]
  simp only [Array.any_eq_false']
  intro f hfm
  simp [g2 f (by simpa using hfm)]
theorem sBin_pure {op:BinOp} {t:TypeId} {x y:Value} {ox oy:Operand} {yn:Bool} (hyn:yn=true→y=.pointer none∨(∃ l c,y=.slice none l c)∨y=.map none)
  {k:Value→Prop} {alt:Prop}
  (H:sBin P op t x y yn k alt):(∃ v,(∀ w,(do eqGuard op t ox oy x y;binOp op t x y:Sem Value).run P w=.ok v w)∧k v)∨alt:=by
 have fin:∀ v,(∀ c,x≠.agg c)→x≠.nilIface→(∀ w,(binOp op t x y).run P w=.ok v w)→k v→(∃ v,(∀ w,(do eqGuard op t ox oy x y;binOp op t x y:Sem Value).run P w=.ok v w)∧k v)∨alt :=
  λv h1 h2 h3 h4=>.inl ⟨v,λw=>by rw [Sem.run_bind,run_eqGuard_int w h1 h2,Result.andThen_ok,h3],h4⟩
 unfold sBin at H
 split at H
 ·rename_i κ a κ' b
  split at H
  ·obtain⟨h1,h2⟩:=H
   exact fin _ (by simp) (by simp) (λw=>by simp only [binOp,Op.shift];rw [if_neg (by omega)];rfl) h2
  ·obtain⟨h1,h2⟩:=H
   exact fin _ (by simp) (by simp) (λw=>by simp only [binOp,Op.shift];rw [if_neg (by omega)];rfl) h2
  ·rename_i n1 n2
   split at H <;> try exact H.elim
   rename_i hk;subst hk
   split at H
   all_goals first
    | exact .inr H
    | (obtain⟨h1,h2⟩:=H;refine fin _ (by simp) (by simp) (λw=>?_) h2;simp [binOp,Op.intDiv,h1];done)
    | (refine fin _ (by simp) (by simp) (λw=>?_) H;simp [binOp,Op.intArith,Op.intCmp];done)
    | (refine fin _ (by simp) (by simp) (λw=>?_) H;simp [binOp,Op.intBits,bAnd,bOr,bXor,bAndNot];done)
 ·split at H
  ·exact fin _ (by simp) (by simp) (λw=>by simp [binOp,Op.stringOp]) H
  ·exact fin _ (by simp) (by simp) (λw=>by simp [binOp,Op.stringOp]) H
  ·obtain⟨h1,h2⟩:=H
   exact fin _ (by simp) (by simp) (λw=>by simp only [binOp,Op.stringOp];rw [if_neg (by omega)];rfl) h2
  ·exact .inr H
 ·split at H <;> try exact H.elim
  ·rename_i hu
   exact fin _ (by simp) (by simp) (λw=>run_eql (equalIn_bool _ w hu _ _)) H
  ·rename_i hu
   exact fin _ (by simp) (by simp) (λw=>run_neq (equalIn_bool _ w hu _ _)) H
 ·rename_i a b
  split at H
  ·obtain rfl:b=none:=by rcases hyn rfl with h | ⟨_,_,h⟩ | h <;> simp_all
   split at H <;> try exact H.elim
   ·rename_i hu
    exact fin _ (by simp) (by simp) (λw=>run_eql (equalIn_ptr _ w hu _)) H
   ·rename_i hu
    exact fin _ (by simp) (by simp) (λw=>run_neq (equalIn_ptr _ w hu _)) H
  ·exact .inr H
 ·rename_i xs ys
  split at H
  ·rename_i b hb
   split at H
   ·refine .inl ⟨_,λw=>?_,H⟩
    obtain⟨g1,g2⟩:=recEqT_ok hb w
    rw [Sem.run_bind,run_eqGuard_agg w _ _ _ _ _ _ g2,Result.andThen_ok,run_eql_struct,g1];rfl
   ·refine .inl ⟨_,λw=>?_,H⟩
    obtain⟨g1,g2⟩:=recEqT_ok hb w
    rw [Sem.run_bind,run_eqGuard_agg w _ _ _ _ _ _ g2,Result.andThen_ok,run_neq_struct,g1];rfl
   ·exact .inr H
  ·exact .inr H
 ·rename_i a _ _ b _ _
  split at H
  ·obtain rfl:b=none:=by rcases hyn rfl with h | ⟨_,_,h⟩ | h <;> simp_all
   split at H <;> try exact H.elim
   ·rename_i hu
    exact fin _ (by simp) (by simp) (λw=>run_eql (equalIn_sl _ w hu _ _ _ _ _)) H
   ·rename_i hu
    exact fin _ (by simp) (by simp) (λw=>run_neq (equalIn_sl _ w hu _ _ _ _ _)) H
  ·exact .inr H
 ·rename_i a b
  split at H
  ·obtain rfl:b=none:=by rcases hyn rfl with h | ⟨_,_,h⟩ | h <;> simp_all
   split at H <;> try exact H.elim
   ·rename_i hu
    exact fin _ (by simp) (by simp) (λw=>run_eql (equalIn_map _ w hu _)) H
   ·rename_i hu
    exact fin _ (by simp) (by simp) (λw=>run_neq (equalIn_map _ w hu _)) H
  ·exact .inr H
 ·exact .inr H
theorem isNilC_spec {n:Operand→Value} {y:Operand} (hn:isNilC y=true) (hr:∀ v,y=.const v→n y=v):n y=.pointer none∨(∃ l c,n y=.slice none l c)∨n y=.map none:=by
 unfold isNilC at hn
 split at hn
 ·exact .inl (hr _ rfl)
 ·exact .inr (.inl ⟨_,_,hr _ rfl⟩)
 ·exact .inr (.inr (hr _ rfl))
 ·cases hn
end Go.Fk
end
section
namespace Go.Fk
open Go
theorem execOp_rho {n:Nat} {e:Env} {a:Act} (h:Ag n e a) {o:Oper} (hk:known e o.op=true) (hs:∀ cs b,o.op≠.select cs b) :
  execOp a.eval o=execOp (rho e) o :=
 execOp_congr o hs λx hx=>rho_sound h (by
  simp only [known,List.all_eq_true] at hk
  exact hk x (by simpa using hx))
theorem run_callFunc {P:Program} {F:Nat} (w:World) (args:Array Value) (h:enters P F=true) :
  (callFunc F args).run P w=.ok (.enter F args) w:=by
 unfold enters at h
 split at h <;> try (cases h;done)
 rename_i fn hf
 split at h <;> try (cases h;done)
 rename_i c hb
 have hn:(fn.name== "runtime.NumGoroutine")=false:=by simpa using h
 simp only [callFunc,Sem.run_bind,run_program,Result.andThen_ok,hf,hn,hb]
 simp
variable {P:Program}
theorem run_indexAt_sl {t el:TypeId} {inf:TypeInfo} (w:World) (a:Option Addr) (n c:Nat) (κ:IntKind) (j:Int) (hu:P.underlying t=some (.slice el)) (hi:P.info? el=some inf)
  {p:Addr} (ha:a=some p) (hb:0≤j∧j < n):(Instr.indexAt t (.slice a n c) (.int κ j)).run P w=.ok (.pointer (some (p.add (j.toNat * inf.size)))) w:=by
 subst ha
 simp [Instr.indexAt,asIntOf,run_underlying' w hu,hb,run_sizeOf' w hi]
theorem run_indexAt_arr {t el:TypeId} {inf:TypeInfo} (w:World) (p:Addr) (n:Nat) (κ:IntKind) (j:Int) (hu:P.underlying t=some (.array n el)) (hi:P.info? el=some inf)
  (hb:0≤j∧j < n):(Instr.indexAt t (.pointer (some p)) (.int κ j)).run P w=.ok (.pointer (some (p.add (j.toNat * inf.size)))) w:=by
 simp [Instr.indexAt,Instr.sureAddr,asIntOf,run_underlying' w hu,hb,run_sizeOf' w hi]
theorem run_index_str {t:TypeId} (w:World) (s:ByteArray) (κ:IntKind) (j:Int) (b:UInt8) (hu:P.underlying t=some .string) (h0:0≤j) (hb:s[j.toNat]?=some b) :
  (Instr.index t (.string s) (.int κ j)).run P w=.ok (.int .u8 b.toNat) w:=by
 simp [Instr.index,asIntOf,run_underlying' w hu,h0,hb]
theorem run_index_arr {t el:TypeId} {inf:TypeInfo} {u:TypeDesc} (w:World) (cs:Array Value) (n:Nat) (κ:IntKind) (j:Int) (v:Value) (hu:P.underlying t=some (.array n el)) (hel:P.underlying el=some u) (ha:isAggD u=false)
  (hi:P.info? el=some inf) (h1:inf.size=1) (h0:0≤j∧j < n) (hb:cs[j.toNat]?=some v) :
  (Instr.index t (.agg cs) (.int κ j)).run P w=.ok v w:=by
 simp [Instr.index,asIntOf,run_underlying' w hu,h0,part,run_isAgg' w hel,ha,run_sizeOf' w hi,h1,hb]
theorem run_nextv {s:Sem Value} {kt vt:Ty} {w:World} {k:Value→World→Prop}
  (h:Nxt P s kt vt w (λw'=>k (.tuple #[.bool false]) w') λx y w'=>k (.tuple #[.bool true,kt.enc x,vt.enc y]) w') :
  Good P k ((do pure (Next.value (← s)):Sem Next).run P w):=by
 obtain⟨w',⟨h1,h2⟩ | ⟨x,y,h1,h2⟩⟩:=h
 ·exact good_v h1 h2
 ·exact good_v h1 h2
theorem semOp_ok {H:List (Nat × RTy)} {g:List (Nat × Bool)} {o:Oper} {e:Env} {k:Value→World→Prop} {w:World} (h:semOp P H g o e k w) :
  known e o.op=true∧(∀ cs b,o.op≠.select cs b)∧Good P k ((execOp (rho e) o).run P w):=by
 unfold semOp at h
 split at h
 ·exact h.elim
 rename_i hk
 have sel:∀ op,o.op=op→(∀ cs b,op≠.select cs b)→∀ cs b,o.op≠.select cs b:=λop h1 h2=>h1 ▸ h2
 split at h
 all_goals try exact h.elim
 all_goals (rename_i hop;try refine⟨hk,sel _ hop (by simp),?_⟩)
 case h_1=>simp only [execOp,hop,Good,Sem.run_pure];exact h
 case h_2=>simp only [execOp,hop,Good,Sem.run_pure];exact h
 case h_3 c x y =>
  simp only [execOp,hop]
  split at h
  ·rename_i b hb
   split at h <;> try exact h.elim
   rename_i yb hy
   split at h <;> try exact h.elim
   ·simpa [hy,asBool,Good] using h
   ·simpa [hy,asBool,Good] using h
  ·split at h <;> try exact h.elim
   rename_i b p q h1 h2 h3
   simp only [h1,h2,h3,asBool,Sem.run_bind,Sem.run_pure,Result.andThen_ok,Good]
   cases b <;> simpa using h
 case h_4 t a =>
  simp only [execOp,hop]
  obtain⟨v,h1,h2⟩:=sLoad_ok h
  exact good_v h1 h2
 case h_5 t a x =>
  simp only [execOp,hop]
  obtain⟨v,h1,h2⟩:=sStore_ok h
  exact good_u h1 h2
 case h_6 x =>
  simp only [execOp,hop]
  split at h <;> try exact h.elim
  rename_i p hp
  obtain⟨a,rfl,h2⟩:=h.out
  simp only [hp,Sem.run_pure,Good];exact h2
 case h_7 op t x y yt =>
  simp only [execOp,hop]
  rcases sBin_pure (P:=P) (ox:=x) (oy:=y) (λhn=>isNilC_spec (n:=rho e) hn (λv hv=>by subst hv;rfl)) h with⟨v,h1,h2⟩ | ⟨r,w',h1,h2⟩
  ·exact good_v (h1 w) h2
  ·exact good_v h1 h2
 case h_8 t x i =>
  simp only [execOp,hop]
  split at h <;> try exact h.elim
  ·rename_i a n c κ j el hx hi hu
   split at h <;> try exact h.elim
   rename_i inf hinf
   obtain⟨p,h1,h2,h3⟩:=h
   exact good_v (by rw [hx,hi];exact run_indexAt_sl w _ _ _ _ _ hu hinf h1 h2) h3
  ·rename_i p κ j n el hx hi hu
   split at h <;> try exact h.elim
   rename_i inf hinf
   obtain⟨h2,h3⟩:=h
   exact good_v (by rw [hx,hi];exact run_indexAt_arr w _ _ _ _ hu hinf h2) h3
 case h_9 t x i =>
  simp only [execOp,hop]
  split at h <;> try exact h.elim
  ·rename_i s κ j hx hi hu
   obtain⟨h0,b,h1,h2⟩:=h
   exact good_v (by rw [hx,hi];exact run_index_str w _ _ _ _ hu h0 h1) h2
  ·rename_i cs κ j n el hx hi hu
   split at h <;> try exact h.elim
   rename_i u inf ty hel hinf hh
   split at h <;> try exact h.elim
   rename_i hag hsz
   obtain⟨h0,v,h1,h2⟩:=h
   exact good_v (by rw [hx,hi];exact run_index_arr w _ _ _ _ _ hu hel hag hinf (kB hsz) h0 h1) h2
 case h_10 it _ =>
  simp only [execOp,hop]
  split at h <;> try exact h.elim
  exact run_nextv h
 case h_11 F args ats =>
  simp only [execOp,hop]
  split at h <;> try exact h.elim
  rename_i hF
  have:(do let d ← resolve (rho e) { callee:=.value (.func F),args:=args,argTypes:=ats } o.type;invoke d.target d.args:Sem Next).run P w =
    .ok (.enter F (args.toList.map (rho e)).toArray) w:=by
   simp only [resolve,rho,ev,Deferred.ofValue,Sem.run_bind,Sem.run_pure,Result.andThen_ok,invoke]
   rw [run_callFunc w _ hF]
   congr 2
   apply Array.ext'
   simp [rho]
  rw [this]
  simp only [Good]
  exact h.mono λe w'' ⟨r,h1,h2⟩=>⟨_,h1,h2⟩
 case h_12 f args ats _ =>
  simp only [execOp,hop]
  obtain⟨F,first,cap,hf,hF,h⟩:=h
  have:(do let d ← resolve (rho e) { callee:=.value f,args:=args,argTypes:=ats } o.type;invoke d.target d.args:Sem Next).run P w =
    .ok (.enter F ((first.toList++args.toList.map (rho e))++cap.toList).toArray) w:=by
   simp only [resolve,hf,Deferred.ofValue,Sem.run_bind,Sem.run_pure,Result.andThen_ok,invoke]
   rw [run_callFunc w _ hF]
   congr 2
   apply Array.ext'
   simp
  rw [this]
  simp only [Good]
  exact h.mono λe w'' ⟨r,h1,h2⟩=>⟨_,h1,h2⟩
 case h_13 t ps =>
  simp only [execOp,hop]
  split at h
  ·exact good_app h
  ·unfold Run at h;simpa only [execOp,hop] using h
 case h_14 t n ps =>
  simp only [execOp,hop]
  split at h
  ·exact good_app h
  ·unfold Run at h;simpa only [execOp,hop] using h
 case h_15 t x f =>
  simp only [execOp,hop]
  split at h
  ·unfold Run at h;simpa only [execOp,hop] using h
  ·exact good_app h
 case h_16 =>
  simp only [execOp,hop]
  simp only [resolve,Sem.run_bind,Sem.run_pure,Result.andThen_ok,invoke,builtin]
  simpa only [Sem.run_bind,Sem.run_pure] using good_app h
 case h_17 =>
  simp only [execOp,hop]
  simp only [resolve,Sem.run_bind,Sem.run_pure,Result.andThen_ok,invoke,builtin]
  simpa only [Sem.run_bind,Sem.run_pure] using good_app h
 case h_18 =>
  simp only [execOp,hop]
  simp only [resolve,Sem.run_bind,Sem.run_pure,Result.andThen_ok,invoke,builtin]
  simpa only [Sem.run_bind,Sem.run_pure] using good_app h
 case h_19 =>
  simp only [execOp,hop]
  simp only [resolve,Sem.run_bind,Sem.run_pure,Result.andThen_ok,invoke,builtin]
  simpa only [Sem.run_bind,Sem.run_pure] using good_app h
 case h_20=>simp only [execOp,hop];exact good_app h
 case h_21=>simp only [execOp,hop];exact good_app h
 case h_22=>simp only [execOp,hop];exact good_app h
 case h_23=>simp only [execOp,hop];exact good_app h
 case h_24=>simp only [execOp,hop];exact good_app h
 case h_25=>simp only [execOp,hop];exact good_app0 h
 case h_26=>simp only [execOp,hop];exact good_app0 h
 case h_27 s d x =>
  split at h
  ·exact h
  ·simp only [execOp,hop];exact good_app h
 case h_28 args ats =>
  split at h <;> try exact h.elim
  split at h
  ·simp only [execOp,hop]
   simp only [resolve,Sem.run_bind,Sem.run_pure,Result.andThen_ok,invoke,builtin]
   simpa only [Sem.run_bind,Sem.run_pure] using good_app h
  ·exact h
 case h_29 =>
  simp only [execOp,hop]
  simp only [resolve,Sem.run_bind,Sem.run_pure,Result.andThen_ok,invoke,builtin]
  simpa only [Sem.run_bind,Sem.run_pure] using good_app h
 case h_31 =>
  refine⟨hk,?_,h⟩
  intro cs b he
  simp_all
end Go.Fk
end
section
namespace Go.Fk
open Go
@[reducible] def LT:List (Nat × RTy)→Type
 | []=>Unit
 | [x]=>x.2.T
 | x::y::l=>x.2.T × LT (y::l)
def embed:(l:List (Nat × RTy))→LT l→Env
 | [],_=>[]
 | [x],v=>[(x.1,x.2.enc v)]
 | x::y::l,v=>(x.1,x.2.enc v.1)::embed (y::l) v.2
def decs:(l:List (Nat × RTy))→Env→Option (LT l)
 | [],_=>some ()
 | [x],e=>match find x.1 e with
  | some v=>x.2.dec v
  | none=>none
 | x::y::l,e=>match find x.1 e with
  | some v=>match x.2.dec v with
   | some u=>match decs (y::l) e with
    | some r=>some (u,r)
    | none=>none
   | none=>none
  | none=>none
def jump (l:List (Nat × RTy)) (e:Env) (k:LT l→Prop):Prop:=match decs l e with
 | some s=>k s
 | none=>False
def restrict:List Nat→Env→Env
 | [],_=>[]
 | t::l,e=>match find t e with
  | some v=>(t,v)::restrict l e
  | none=>restrict l e
def memN (t:Nat):List Nat→Bool
 | []=>false
 | s::l=>match Nat.beq s t with | true=>true | false=>memN t l
def dsts:List Oper→List Nat
 | []=>[]
 | o::l=>match o.dst with
  | some d=>d::dsts l
  | none=>dsts l
def asg:Code→List Nat
 | .region _ ops _=>dsts ops.toList
 | .seq a b=>asg a++asg b
 | .cond _ a b=>asg a++asg b
 | .block _ b=>asg b
 | .loop b=>asg b
 | _=>[]
def keepOk (l:List Nat):List Nat→Bool
 | []=>true
 | t::r=>match memN t l with | true=>false | false=>keepOk l r
def bltAll (n:Nat):List Nat→Bool
 | []=>true
 | t::r=>match Nat.blt t n with | true=>bltAll n r | false=>false
def codeOk (n:Nat):Code→Bool
 | .skip=>true
 | .region _ ops d=>match bltAll n (dsts ops.toList) with
  | true=>match d with
   | true=>Region.noSelect ops
   | false=>true
  | false=>false
 | .seq a b=>match codeOk n a with | true=>codeOk n b | false=>false
 | .cond _ a b=>match codeOk n a with | true=>codeOk n b | false=>false
 | .block _ b=>codeOk n b
 | .loop b=>codeOk n b
 | .exit _=>true
 | .ret=>true
 | _=>false
inductive Ann where
 | z
 | n (x y:Ann)
 | j (live:List (Nat × RTy)) (keep:List Nat) (x y:Ann)
 | l (live:List (Nat × RTy)) (keep:List Nat) (x:Ann)
 | d
 | e (l:List Nat)
def pushE:Option Nat→Value→Env→Env
 | some d,v,e=>(d,v)::e
 | none,_,e=>e
def semOps (P:Program) (H:List (Nat × RTy)) (ops:Array Oper):List Oper→List (Nat × Bool)→Env→(Env→World→Prop)→World→Prop
 | [],_,e,k,w=>k e w
 | o::rest,g,e,k,w=>match o.guard with
  | none=>semOp P H g o e (λv w'=>semOps P H ops rest g (pushE o.dst v e) k w') w
  | some (j,b)=>match (ops[j]?).bind (·.dst) with
   | none=>False
   | some t=>match decided t g with
    | some c=>match find t e with
     | some (.bool y)=>match y,c,b with
      | true,true,true=>semOp P H g o e (λv w'=>semOps P H ops rest g (pushE o.dst v e) k w') w
      | true,true,false=>semOps P H ops rest g (pushE o.dst undef e) k w
      | false,false,false=>semOp P H g o e (λv w'=>semOps P H ops rest g (pushE o.dst v e) k w') w
      | false,false,true=>semOps P H ops rest g (pushE o.dst undef e) k w
      | _,_,_=>False
     | _=>False
    | none=>match find t e with
     | some (.tuple _)=>semOps P H ops rest g (pushE o.dst undef e) k w
     | some (.bool y)=>match b with
      | true=>Br y (semOp P H ((t,true)::g) o ((t,.bool true)::e) (λv w'=>semOps P H ops rest ((t,true)::g) (pushE o.dst v ((t,.bool true)::e)) k w') w)
        (semOps P H ops rest ((t,false)::g) (pushE o.dst undef ((t,.bool false)::e)) k w)
      | false=>Br y (semOps P H ops rest ((t,true)::g) (pushE o.dst undef ((t,.bool true)::e)) k w)
        (semOp P H ((t,false)::g) o ((t,.bool false)::e) (λv w'=>semOps P H ops rest ((t,false)::g) (pushE o.dst v ((t,.bool false)::e)) k w') w)
     | _=>False
def peval (P:Program) {α:Type}:Sem α→Option α
 | .pure a=>some a
 | .program k=>peval P (k P)
 | _=>none
theorem peval_ok {P:Program} {α:Type} (s:Sem α) (a:α) (h:peval P s=some a) (w:World):s.run P w=.ok a w:=by
 induction s with
 | pure b=>simp [peval] at h;subst h;rfl
 | program k ih=>simp only [peval] at h;simpa [Sem.run] using ih _ h
 | _=>simp [peval] at h
def LdS (S:World→Prop) (t:Ty) (a:Addr) (k:t.T→Prop):Prop:=∃ x,(∀ w,S w→w.cell? a=some (t.enc x))∧k x
def LdSCells (S:World→Prop) (a:Addr) (k:List Value→Prop):List Ty→Nat→List Value→Prop
 | [],_,acc=>k acc.reverse
 | t::ts,i,acc=>LdS S t (a.add i) λx=>LdSCells S a k ts (i + 1) (t.enc x::acc)
def LdSA (S:World→Prop) (n:Nat) (a:Addr) (k:Array Value→Prop):Prop:=∃ cs:Array Value,(cs.size=n∧∀ w,S w→∀ i v,cs[i]?=some v→w.cell? (a.add i)=some v)∧k cs
def AppS (P:Program) (S:World→Prop) (s:Sem Value) (rt:RTy) (k:rt.T→Prop):Prop:=∃ r:rt.T,(∀ w,S w→s.run P w=.ok (rt.enc r) w)∧k r
def takes:Op→Bool
 | .move _=>true
 | .assign _=>true
 | .pick ..=>true
 | .load ..=>true
 | .nilCheck _=>true
 | .fieldAddr ..=>true
 | .indexAddr ..=>true
 | .extract ..=>true
 | .binOp ..=>true
 | .build ..=>true
 | .unOp ..=>true
 | .convert ..=>true
 | .field ..=>true
 | .call { callee:=.builtin .len,.. }=>true
 | _=>false
def semTake (P:Program) (H:List (Nat × RTy)) (g:List (Nat × Bool)) (S:World→Prop) (o:Oper) (e:Env) (k:Value→Prop):Prop :=
 match known e o.op with
 | false=>False
 | true=>match o.op with
  | .load t x=>match rho e x with
   | .pointer (some a)=>match P.underlying t,P.info? t with
    | some u,some i=>match isAggD u,hintOf o.dst H with
     | false,.one ty=>LdS S ty a λx=>k (ty.enc x)
     | true,.agg ts=>match Nat.beq ts.length i.size with
      | true=>LdSCells S a (λvs=>k (.agg vs.toArray)) ts 0 []
      | false=>False
     | true,.big=>LdSA S i.size a λcs=>k (.agg cs)
     | _,_=>False
    | _,_=>False
   | _=>False
  | .nilCheck x=>match rho e x with
   | .pointer p=>NilC p λa=>k (.pointer (some a))
   | _=>False
  | .indexAddr t x i=>match rho e x,rho e i,P.underlying t with
   | .slice a n c,.int _ j,some (.slice el)=>match P.info? el with
    | some inf=>IdxS ⟨a,n,c⟩ j inf.size λp=>k (.pointer (some p))
    | none=>False
   | .pointer (some a),.int _ j,some (.array n el)=>match P.info? el with
    | some inf=>IdxA n a j inf.size λp=>k (.pointer (some p))
    | none=>False
   | _,_,_=>False
  | .pick c a b=>match (match c with | .tmp t=>decided t g | _=>none) with
   | some x=>match rho e c with
    | .bool y=>match y,x with
     | true,true=>k (rho e a)
     | false,false=>k (rho e b)
     | _,_=>False
    | _=>False
   | none=>match rho e c,rho e a,rho e b with
    | .bool x,.bool p,.bool q=>k (.bool (match x with | true=>p | false=>q))
    | _,_,_=>False
  | .binOp op t x y _=>sBin P op t (rho e x) (rho e y) (isNilC y) k (AppS P S (do eqGuard op t x y (rho e x) (rho e y);binOp op t (rho e x) (rho e y)) (hintOf o.dst H) λr=>k ((hintOf o.dst H).enc r))
  | .build t ps=>match hintOf o.dst H with
   | .big=>AppS P S (Instr.build t (ps.map λ(i,x)=>(i,rho e x))) .big λr=>k (RTy.enc .big r)
   | _=>match peval P (execOp (rho e) o) with
    | some (.value v)=>k v
    | _=>False
  | .field t x f=>match hintOf o.dst H with
   | .one .raw=>match peval P (execOp (rho e) o) with
    | some (.value v)=>k v
    | _=>False
   | r=>AppS P S (Instr.field t (rho e x) f) r λx=>k (r.enc x)
  | .call { callee:=.builtin .len,argTypes,args }=>match args.toList with
   | [x]=>match rho e x with
    | .map _=>AppS P S (Builtin.len_ argTypes o.type (args.map (rho e))) (.one (.int .i64)) λr=>k ((Ty.int .i64).enc r)
    | _=>match peval P (execOp (rho e) o) with
     | some (.value v)=>k v
     | _=>False
   | _=>False
  | _=>match peval P (execOp (rho e) o) with
   | some (.value v)=>k v
   | _=>False
def isLoad:Op→Bool
 | .load ..=>true
 | _=>false
def firstTake (ld:Nat→Bool) (ops:Array Oper) (listed:Array Bool):List Nat→Option Nat
 | []=>none
 | i::l=>match ops[i]? with
  | some o=>match takes o.op,Region.free .any ops listed i with
   | true,true=>match ld i,isLoad o.op with
    | false,true=>firstTake ld ops listed l
    | _,_=>some i
   | _,_=>firstTake ld ops listed l
  | none=>firstTake ld ops listed l
def semGuard (ops:Array Oper) (o:Oper) (g:List (Nat × Bool)) (e:Env) (yes no:List (Nat × Bool)→Env→Prop):Prop :=
 match o.guard with
 | none=>yes g e
 | some (j,b)=>match (ops[j]?).bind (·.dst) with
  | none=>False
  | some t=>match decided t g with
   | some c=>match find t e with
    | some (.bool y)=>match y,c,b with
     | true,true,true=>yes g e
     | true,true,false=>no g e
     | false,false,false=>yes g e
     | false,false,true=>no g e
     | _,_,_=>False
    | _=>False
   | none=>match find t e with
    | some (.tuple _)=>no g e
    | some (.bool y)=>match b with
     | true=>Br y (yes ((t,true)::g) ((t,.bool true)::e)) (no ((t,false)::g) ((t,.bool false)::e))
     | false=>Br y (no ((t,true)::g) ((t,.bool true)::e)) (yes ((t,false)::g) ((t,.bool false)::e))
    | _=>False
def allOf:List Nat→(Nat→Prop)→Prop
 | [],_=>True
 | [i],f=>f i
 | i::j::l,f=>f i∧allOf (j::l) f
def semD (P:Program) (H:List (Nat × RTy)) (ld:Nat→Bool) (ops:Array Oper) (S:World→Prop) (k:Env→World→Prop):Nat→Array Bool→List (Nat × Bool)→Env→World→Prop
 | 0,listed,_,e,w=>match Region.ready .any ops listed with
  | []=>k e w
  | _::_=>False
 | fuel + 1,listed,g,e,w =>
  match Region.ready .any ops listed with
  | []=>k e w
  | i₀::l=>match firstTake ld ops listed (i₀::l) with
   | some i=>match ops[i]? with
    | none=>False
    | some o=>semGuard ops o g e
      (λg e=>semTake P H g S o e λv=>semD P H ld ops S k fuel (listed.setIfInBounds i true) g (pushE o.dst v e) w)
      (λg e=>semD P H ld ops S k fuel (listed.setIfInBounds i true) g (pushE o.dst undef e) w)
   | none=>allOf (i₀::l) λi=>match ops[i]? with
    | none=>False
    | some o=>semGuard ops o g e
      (λg e=>semOp P H g o e (λv w'=>S w'∧semD P H ld ops S k fuel (listed.setIfInBounds i true) g (pushE o.dst v e) w') w)
      (λg e=>semD P H ld ops S k fuel (listed.setIfInBounds i true) g (pushE o.dst undef e) w)
def Draw (w:World) (F:(World→Prop)→World→Prop):Prop:=∃ S:World→Prop,S w.drew∧F S w.drew
def DrawN (w:World) (F:(World→Prop)→World→Prop):Prop:=F (λ_=>True) w.drew
inductive LdM where
 | all | none | but (l:List Nat)
def isD:Ann→LdM
 | .d=>.none
 | .e l=>.but l
 | _=>.all
def elemN (i:Nat):List Nat→Bool
 | []=>false
 | j::l=>match Nat.beq j i with | true=>true | false=>elemN i l
def notIn (l:List Nat) (i:Nat):Bool:=match elemN i l with | true=>false | false=>true
def semReg (P:Program) (H:List (Nat × RTy)) (ld:LdM) (ops:Array Oper) (d:Bool) (e:Env) (k:Env→World→Prop) (w:World):Prop :=
 match d with
 | false=>semOps P H ops ops.toList [] e k w
 | true=>match ld with
  | .all=>Draw w λS w'=>semD P H (λ_=>true) ops S k ops.size (Array.replicate ops.size false) [] e w'
  | .none=>DrawN w λS w'=>semD P H (λ_=>false) ops S k ops.size (Array.replicate ops.size false) [] e w'
  | .but l=>Draw w λS w'=>semD P H (notIn l) ops S k ops.size (Array.replicate ops.size false) [] e w'
def exitK (id:Nat) (e:Env) (w:World):List (Nat × (Env→World→Prop))→Prop
 | []=>False
 | (i,k)::l=>match Nat.beq i id with | true=>k e w | false=>exitK id e w l
def sem (P:Program) (H:List (Nat × RTy)):Code→Ann→Env→(Env→World→Prop)→List (Nat × (Env→World→Prop))→(Env→World→Prop)→World→Prop
 | .skip,_,e,kn,_,_,w=>kn e w
 | .region _ ops d,ann,e,kn,_,_,w=>match ann with
  | .j live keep x _=>match keepOk (dsts ops.toList) keep with
   | true=>Join (λs w'=>kn (embed live s++restrict keep e) w') λj=>semReg P H (isD x) ops d e (λe' w'=>jump live e' λs=>j s w') w
   | false=>False
  | _=>semReg P H (isD ann) ops d e kn w
 | .seq a b,ann,e,kn,kx,kr,w=>match ann with
  | .n x y=>sem P H a x e (λe' w'=>sem P H b y e' kn kx kr w') kx kr w
  | .j live keep x y=>match keepOk (asg a) keep with
   | true=>Join (λs w'=>sem P H b y (embed live s++restrict keep e) kn kx kr w') λj=>sem P H a x e (λe' w'=>jump live e' λs=>j s w') kx kr w
   | false=>False
  | _=>sem P H a .z e (λe' w'=>sem P H b .z e' kn kx kr w') kx kr w
 | .cond c a b,ann,e,kn,kx,kr,w=>match ev e c with
  | some (.bool v)=>match ann with
   | .n x y=>Br v (sem P H a x e kn kx kr w) (sem P H b y e kn kx kr w)
   | _=>Br v (sem P H a .z e kn kx kr w) (sem P H b .z e kn kx kr w)
  | _=>False
 | .block id b,ann,e,kn,kx,kr,w=>sem P H b ann e kn ((id,kn)::kx) kr w
 | .loop b,ann,e,_,kx,kr,w=>match ann with
  | .l live keep x=>match keepOk (asg b) keep with
   | true=>match decs live e with
    | some s₀=>Loop (λs w' again=>sem P H b x (embed live s++restrict keep e) (λe' w''=>jump live e' λs'=>again s' w'') kx kr w') s₀ w
    | none=>False
   | false=>False
  | _=>False
 | .exit id,_,e,_,kx,_,w=>exitK id e w kx
 | .ret,_,e,_,_,kr,w=>kr e w
 | _,_,_,_,_,_,_=>False
variable {P:Program}
theorem mem_beq {t s:Nat} (h:t≠s):Nat.beq s t=false:=by
 cases hb:Nat.beq s t with
 | false=>rfl
 | true=>exact absurd (kB hb).symm h
theorem memN_cons {t s:Nat} {l:List Nat} (h:memN t (s::l)=false):t≠s∧memN t l=false:=by
 simp only [memN] at h
 cases hb:Nat.beq s t with
 | true=>simp [hb] at h
 | false=>exact⟨λhe=>by subst he;simp at hb,by simpa [hb] using h⟩
theorem memN_append {t:Nat}:∀ {l r:List Nat},memN t (l++r)=false→memN t l=false∧memN t r=false
 | [],r,h=>⟨rfl,h⟩
 | s::l,r,h=>by
  obtain⟨h1,h2⟩:=memN_cons h
  obtain⟨h3,h4⟩:=memN_append h2
  exact⟨by simp [memN,mem_beq h1,h3],h4⟩
def Same (l:List Nat) (a a':Act):Prop:=∀ t,memN t l=false→a'.tmps.getD t undef=a.tmps.getD t undef
theorem Same.refl (l:List Nat) (a:Act):Same l a a:=λ_ _=>rfl
theorem Same.trans {l:List Nat} {a b c:Act} (h:Same l a b) (h':Same l b c):Same l a c:=λt ht=>(h' t ht).trans (h t ht)
theorem Same.left {l r:List Nat} {a b:Act} (h:Same l a b):Same (l++r) a b:=λt ht=>h t (memN_append ht).1
theorem Same.right {l r:List Nat} {a b:Act} (h:Same r a b):Same (l++r) a b:=λt ht=>h t (memN_append ht).2
theorem getD_put {a:Act} {d t:Nat} {v:Value} (h:t≠d):(a.put (some d) v).tmps.getD t undef=a.tmps.getD t undef:=by
 simp only [Act.put,Array.getD_eq_getD_getElem?]
 rw [Array.getElem?_setIfInBounds_ne (Ne.symm h)]
theorem Same.put {o:Oper} {l:List Oper} {a:Act} (v:Value):Same (dsts (o::l)) a (a.put o.dst v):=by
 intro t ht
 cases ho:o.dst with
 | none=>simp [Act.put]
 | some d =>
  simp only [dsts,ho] at ht
  exact getD_put (memN_cons ht).1
theorem bltAll_cons {n t:Nat} {l:List Nat} (h:bltAll n (t::l)=true):t < n∧bltAll n l=true:=by
 simp only [bltAll] at h
 cases hb:Nat.blt t n with
 | true=>exact⟨by simpa using hb,by simpa [hb] using h⟩
 | false=>simp [hb] at h
theorem dsts_cons (o:Oper) (l:List Oper):dsts (o::l)=match o.dst with | some d=>d::dsts l | none=>dsts l:=rfl
theorem dsts_mem {n:Nat} {o:Oper} {d:Nat} (hd:o.dst=some d) (l:List Oper):bltAll n (dsts l)=true→o∈l→d < n:=by
 induction l with
 | nil=>intro _ hm;cases hm
 | cons o' l ih =>
  intro h hm
  rw [dsts_cons] at h
  cases hm with
  | head=>rw [hd] at h;exact (bltAll_cons h).1
  | tail _ hm =>
   cases ho:o'.dst with
   | none=>rw [ho] at h;exact ih h hm
   | some d'=>rw [ho] at h;exact ih (bltAll_cons h).2 hm
theorem Ag.pushE {n:Nat} {e:Env} {a:Act} (h:Ag n e a) {d:Option Nat} (hd:∀ t,d=some t→t < n) (v:Value):Ag n (pushE d v e) (a.put d v):=by
 cases d with
 | none=>exact h
 | some t=>exact h.put (hd t rfl)
theorem upon_of_good {o:Oper} {a:Act} {k:Value→World→Prop} {next:Act→World→Prop} {Q:Exit→Act→World→Prop} {r:Result Next}
  (h:Good P k r) (hk:∀ v w,k v w→next (a.put o.dst v) w):o.upon P a next Q r:=by
 unfold Good at h
 split at h
 ·exact hk _ _ h
 ·exact hk _ _ h
 ·rw [Oper.upon_enter]
  exact h.mono λe w'' ⟨v,h1,h2⟩=>by subst h1;exact hk _ _ h2
 ·exact h.elim
theorem semOp_wp {n:Nat} {H:List (Nat × RTy)} {g:List (Nat × Bool)} {o:Oper} {e:Env} {a:Act} {w:World} {k:Value→World→Prop} {next:Act→World→Prop} {Q:Exit→Act→World→Prop}
  (hA:Ag n e a) (h:semOp P H g o e k w) (hk:∀ v w,k v w→next (a.put o.dst v) w):o.wp P a w next Q:=by
 obtain⟨h1,h2,h3⟩:=semOp_ok h
 unfold Oper.wp
 rw [execOp_rho hA h1 h2]
 exact upon_of_good (P:=P) h3 hk
theorem yielded_find {n:Nat} {ops:Array Oper} {e:Env} {a:Act} (hA:Ag n e a) {j t:Nat} {b:Bool} (hj:(ops[j]?).bind (·.dst)=some t) (hf:find t e=some (.bool b)) :
  yielded ops a.tmps j=some b:=by
 have h1:=hA.get _ _ hf
 unfold yielded
 rw [hj]
 simp only [Option.bind_some]
 rw [Array.getD_eq_getD_getElem?] at h1
 cases ht:a.tmps[t]? with
 | none=>simp [ht,undef] at h1
 | some v=>simp [ht] at h1;simp [h1]
theorem yielded_undef {n:Nat} {ops:Array Oper} {e:Env} {a:Act} (hA:Ag n e a) {j t:Nat} {vs:Array Value} (hj:(ops[j]?).bind (·.dst)=some t) (hf:find t e=some (.tuple vs)) :
  yielded ops a.tmps j=none:=by
 have h1:=hA.get _ _ hf
 unfold yielded
 rw [hj]
 simp only [Option.bind_some]
 rw [Array.getD_eq_getD_getElem?] at h1
 cases ht:a.tmps[t]? with
 | none=>simp
 | some v=>simp [ht] at h1;simp [h1]
theorem semGuard_ok {n:Nat} {ops:Array Oper} {o:Oper} {g:List (Nat × Bool)} {e:Env} {a:Act} {yes no:List (Nat × Bool)→Env→Prop} (hA:Ag n e a)
  (h:semGuard ops o g e yes no):∃ g' e',Ag n e' a∧((Region.wanted o (yielded ops a.tmps)=true∧yes g' e')∨(Region.wanted o (yielded ops a.tmps)=false∧no g' e')):=by
 unfold semGuard at h
 split at h
 ·rename_i hg
  exact⟨g,e,hA,.inl ⟨by simp [Region.wanted,hg],h⟩⟩
 rename_i j b hg
 split at h
 ·exact h.elim
 rename_i t hj
 split at h
 ·rename_i c hc
  split at h <;> try exact h.elim
  rename_i y hy
  have hyd:=yielded_find hA hj hy
  split at h <;> try exact h.elim
  ·exact⟨g,e,hA,.inl ⟨by simp [Region.wanted,hg,hyd],h⟩⟩
  ·exact⟨g,e,hA,.inr ⟨by simp [Region.wanted,hg,hyd],h⟩⟩
  ·exact⟨g,e,hA,.inl ⟨by simp [Region.wanted,hg,hyd],h⟩⟩
  ·exact⟨g,e,hA,.inr ⟨by simp [Region.wanted,hg,hyd],h⟩⟩
 ·split at h <;> try exact h.elim
  ·rename_i vs hy
   exact⟨g,e,hA,.inr ⟨by simp [Region.wanted,hg,yielded_undef hA hj hy],h⟩⟩
  rename_i y hy
  have hyd:=yielded_find hA hj hy
  have hv:=hA.get _ _ hy
  split at h
  ·obtain⟨h1,h2⟩:=h.out
   cases y with
   | true=>exact⟨_,_,hA.cons_same hv,.inl ⟨by simp [Region.wanted,hg,hyd],h1 rfl⟩⟩
   | false=>exact⟨_,_,hA.cons_same hv,.inr ⟨by simp [Region.wanted,hg,hyd],h2 rfl⟩⟩
  ·obtain⟨h1,h2⟩:=h.out
   cases y with
   | true=>exact⟨_,_,hA.cons_same hv,.inr ⟨by simp [Region.wanted,hg,hyd],h1 rfl⟩⟩
   | false=>exact⟨_,_,hA.cons_same hv,.inl ⟨by simp [Region.wanted,hg,hyd],h2 rfl⟩⟩
theorem semOps_guard {H:List (Nat × RTy)} {ops:Array Oper} {o:Oper} {rest:List Oper} {g:List (Nat × Bool)} {e:Env} {k:Env→World→Prop} {w:World}
  (h:semOps P H ops (o::rest) g e k w):semGuard ops o g e (λg e=>semOp P H g o e (λv w'=>semOps P H ops rest g (pushE o.dst v e) k w') w)
   (λg e=>semOps P H ops rest g (pushE o.dst undef e) k w):=by
 unfold semOps at h
 unfold semGuard
 split at h
 ·exact h
 rename_i j b hg
 try simp only [hg]
 split at h
 ·exact h.elim
 rename_i t ht
 try simp only [ht]
 split at h
 ·rename_i c hc
  try simp only [hc]
  split at h <;> try exact h.elim
  rename_i y hy
  try simp only [hy]
  split at h <;> first | exact h | exact h.elim
 ·rename_i hc
  try simp only [hc]
  split at h <;> try exact h.elim
  ·exact h
  rename_i y hy
  try simp only [hy]
  split at h
  ·exact h
  ·exact h
theorem semOps_ok {n:Nat} {H:List (Nat × RTy)} {ops:Array Oper} {Q:Exit→Act→World→Prop} {k:Env→World→Prop} {a₀:Act} {all:List Nat} :
  ∀ (l:List Oper) (g:List (Nat × Bool)) (e:Env) (a:Act) (w:World),bltAll n (dsts l)=true→(∀ t,memN t all=false→memN t (dsts l)=false)→Ag n e a→Same all a₀ a →
   (∀ e' a' w',Ag n e' a'→Same all a₀ a'→k e' w'→Q .normal a' w')→semOps P H ops l g e k w→wpList P ops Q l a w
 | [],g,e,a,w,hb,hall,hA,hS,hQ,h=>hQ _ _ _ hA hS h
 | o::l,g,e,a,w,hb,hall,hA,hS,hQ,h=>by
  obtain⟨g',e',hA',hh⟩:=semGuard_ok hA (semOps_guard h)
  have hd:∀ t,o.dst=some t→t < n:=λt ht=>dsts_mem ht _ hb (by simp)
  have hb':bltAll n (dsts l)=true:=by
   cases ho:o.dst with
   | none=>rw [dsts_cons,ho] at hb;exact hb
   | some d=>rw [dsts_cons,ho] at hb;exact (bltAll_cons hb).2
  have hall':∀ t,memN t all=false→memN t (dsts l)=false:=λt ht=>by
   have:=hall t ht
   cases ho:o.dst with
   | none=>rw [dsts_cons,ho] at this;exact this
   | some d=>rw [dsts_cons,ho] at this;exact (memN_cons this).2
  have hput:∀ v,Same all a₀ (a.put o.dst v):=λv=>hS.trans λt ht=>Same.put (l:=l) v t (hall t ht)
  unfold wpList
  rcases hh with⟨hw,hh⟩ | ⟨hw,hh⟩
  ·rw [if_pos hw]
   exact .inl (semOp_wp hA' hh λv w' h'=>semOps_ok l _ _ _ _ hb' hall' (hA'.pushE hd v) (hput v) hQ h')
  ·rw [if_neg (by simp [hw])]
   exact semOps_ok l _ _ _ _ hb' hall' (hA'.pushE hd _) (hput _) hQ hh
end Go.Fk
end
section
namespace Go.Fk
open Go
variable {P:Program}
theorem ldSCells_ok {S:World→Prop} {a:Addr} {k:List Value→Prop}:∀ (ts:List Ty) (i:Nat) (acc:List Value),LdSCells S a k ts i acc →
  ∃ vs:List Value,vs.length=ts.length∧(∀ w,S w→∀ j v,vs[j]?=some v→w.cell? (a.add (i + j))=some v)∧k (acc.reverse++vs)
 | [],i,acc,h=>⟨[],rfl,by simp,by simpa [LdSCells] using h⟩
 | t::ts,i,acc,⟨x,h1,h2⟩=>by
  obtain⟨vs,e1,e2,e3⟩:=ldSCells_ok ts (i + 1) _ h2
  refine⟨t.enc x::vs,by simp [e1],λw hw j v hj=>?_,by simpa using e3⟩
  cases j with
  | zero=>simp at hj;subst hj;simpa using h1 w hw
  | succ j=>simp at hj;have:=e2 w hw j v hj;rwa [show i + 1 + j=i + (j + 1) from by omega] at this
theorem semTake_ok {H:List (Nat × RTy)} {g:List (Nat × Bool)} {S:World→Prop} {o:Oper} {e:Env} {k:Value→Prop} (h:semTake P H g S o e k) (hs:∀ cs b,o.op≠.select cs b) :
  known e o.op=true∧∃ v,(∀ w,S w→(execOp (rho e) o).run P w=.ok (.value v) w)∧k v:=by
 unfold semTake at h
 split at h
 ·exact h.elim
 rename_i hk
 refine⟨hk,?_⟩
 split at h
 ·rename_i t x hop
  split at h <;> try exact h.elim
  rename_i a hx
  split at h <;> try exact h.elim
  rename_i u i hu hi
  have key:∀ w,(execOp (rho e) o).run P w=((if isAggD u then (loadCells a i.size >>= λcs=>pure (Value.agg cs)) else load a).run P w).andThen λv w'=>.ok (.value v) w':=by
   intro w
   simp only [execOp,hop,hx,Instr.loadAt,Instr.sureAddr,loadVar,Sem.run_bind,Sem.run_pure,Result.andThen_ok,run_isAgg' w hu]
   cases isAggD u <;> simp [run_sizeOf' w hi]
  split at h <;> try exact h.elim
  ·rename_i ty hag hh
   obtain⟨v,h1,h2⟩:=h
   refine⟨_,λw hw=>?_,h2⟩
   rw [key]
   simp [hag,h1 w hw]
  ·rename_i ts hag hh
   split at h <;> try exact h.elim
   rename_i hl
   obtain⟨vs,e1,e2,e3⟩:=ldSCells_ok _ _ _ h
   have hl':vs.length=i.size:=by rw [e1];exact kB hl
   refine⟨.agg vs.toArray,λw hw=>?_,by simpa using e3⟩
   have:=run_loadCells_list (P:=P) w a vs (λj v hj=>by simpa using e2 w hw j v hj)
   rw [hl'] at this
   rw [key]
   simp [hag,this]
  ·rename_i hag hh
   obtain⟨cs,⟨h1,h2⟩,h3⟩:=h
   refine⟨.agg cs,λw hw=>?_,h3⟩
   have:=run_loadCells_list (P:=P) w a cs.toList (λj v hj=>h2 w hw j v (by simpa using hj))
   simp only [Array.length_toList,h1] at this
   rw [key]
   simp [hag,this]
 ·rename_i x hop
  split at h <;> try exact h.elim
  rename_i p hp
  obtain⟨a,rfl,h2⟩:=h.out
  exact⟨_,λw _=>by simp only [execOp,hop,hp,Sem.run_pure],h2⟩
 ·rename_i t x i hop
  split at h <;> try exact h.elim
  ·rename_i a n c κ j el hx hi hu
   split at h <;> try exact h.elim
   rename_i inf hinf
   obtain⟨p,h1,h2,h3⟩:=h
   refine⟨_,λw _=>?_,h3⟩
   simp only [execOp,hop,Sem.run_bind,hx,hi,run_indexAt_sl w _ _ _ _ _ hu hinf h1 h2,Result.andThen_ok,Sem.run_pure]
  ·rename_i p κ j n el hx hi hu
   split at h <;> try exact h.elim
   rename_i inf hinf
   obtain⟨h2,h3⟩:=h
   refine⟨_,λw _=>?_,h3⟩
   simp only [execOp,hop,Sem.run_bind,hx,hi,run_indexAt_arr w _ _ _ _ hu hinf h2,Result.andThen_ok,Sem.run_pure]
 ·rename_i c x y hop
  split at h
  ·rename_i b hb
   split at h <;> try exact h.elim
   rename_i yb hy
   split at h <;> try exact h.elim
   ·exact⟨_,λw _=>by simp [execOp,hop,hy,asBool],h⟩
   ·exact⟨_,λw _=>by simp [execOp,hop,hy,asBool],h⟩
  ·split at h <;> try exact h.elim
   rename_i b p q h1 h2 h3
   refine⟨_,λw _=>?_,h⟩
   simp only [execOp,hop,h1,h2,h3,asBool,Sem.run_bind,Sem.run_pure,Result.andThen_ok]
   cases b <;> rfl
 ·rename_i op t x y yt hop
  rcases sBin_pure (P:=P) (ox:=x) (oy:=y) (λhn=>isNilC_spec (n:=rho e) hn (λv hv=>by subst hv;rfl)) h with⟨v,h1,h2⟩ | hf
  ·refine⟨v,λw _=>?_,h2⟩
   have e1:execOp (rho e) o=(do pure (Next.value (← (do eqGuard op t x y (rho e x) (rho e y);binOp op t (rho e x) (rho e y):Sem Value))):Sem Next):=by simp only [execOp,hop]
   rw [e1,Sem.run_bind,h1 w];rfl
  ·obtain⟨r,h1,h2⟩:=hf
   refine⟨_,λw hw=>?_,h2⟩
   have e1:execOp (rho e) o=(do pure (Next.value (← (do eqGuard op t x y (rho e x) (rho e y);binOp op t (rho e x) (rho e y):Sem Value))):Sem Next):=by simp only [execOp,hop]
   rw [e1,Sem.run_bind,h1 w hw];rfl
 ·rename_i t ps hop
  split at h
  ·obtain⟨r,h1,h2⟩:=h
   refine⟨_,λw hw=>?_,h2⟩
   simp only [execOp,hop,Sem.run_bind]
   rw [h1 w hw];rfl
  ·split at h <;> try exact h.elim
   rename_i v hv
   exact⟨v,λw _=>peval_ok _ _ hv w,h⟩
 ·rename_i t x f hop
  split at h
  ·split at h <;> try exact h.elim
   rename_i v hv
   exact⟨v,λw _=>peval_ok _ _ hv w,h⟩
  ·obtain⟨r,h1,h2⟩:=h
   refine⟨_,λw hw=>?_,h2⟩
   simp only [execOp,hop,Sem.run_bind]
   rw [h1 w hw];rfl
 ·rename_i ats args hop
  split at h <;> try exact h.elim
  split at h
  ·obtain⟨r,h1,h2⟩:=h
   refine⟨_,λw hw=>?_,h2⟩
   simp only [execOp,hop,resolve,Sem.run_bind,Sem.run_pure,Result.andThen_ok,invoke,builtin]
   rw [h1 w hw];rfl
  ·split at h <;> try exact h.elim
   rename_i v hv
   exact⟨v,λw _=>peval_ok _ _ hv w,h⟩
 ·split at h <;> try exact h.elim
  rename_i v hv
  exact⟨v,λw _=>peval_ok _ _ hv w,h⟩
theorem firstTake_mem {ld:Nat→Bool} {ops:Array Oper} {listed:Array Bool} {i:Nat}:∀ {l:List Nat},firstTake ld ops listed l=some i→i∈l∧Region.free .any ops listed i=true
 | [],h=>by cases h
 | j::l,h=>by
  unfold firstTake at h
  split at h
  ·split at h
   ·rename_i hf
    split at h
    ·have:=firstTake_mem h;exact⟨by simp [this.1],this.2⟩
    ·simp at h;subst h;exact⟨by simp,hf⟩
   ·have:=firstTake_mem h;exact⟨by simp [this.1],this.2⟩
  ·have:=firstTake_mem h;exact⟨by simp [this.1],this.2⟩
theorem allOf_mem {f:Nat→Prop}:∀ {l:List Nat},allOf l f→∀ i∈l,f i
 | [],_,i,hi=>by cases hi
 | [j],h,i,hi=>by simp at hi;subst hi;exact h
 | j::k::l,h,i,hi=>by
  cases hi with
  | head=>exact h.1
  | tail _ hi=>exact allOf_mem h.2 i hi
theorem same_dst {ops:Array Oper} {all:List Nat} {o:Oper} (ho:o∈ops.toList) (hall:∀ t,memN t all=false→memN t (dsts ops.toList)=false) {a₀ a:Act} (hS:Same all a₀ a) (v:Value) :
  Same all a₀ (a.put o.dst v):=by
 refine hS.trans λt ht=>?_
 cases hd:o.dst with
 | none=>simp [Act.put]
 | some d =>
  refine getD_put λhtd=>?_
  subst htd
  have h1:=hall t ht
  have:∀ (l:List Oper),o∈l→memN t (dsts l)=false→False:=by
   intro l
   induction l with
   | nil=>intro hm;cases hm
   | cons o' l ih =>
    intro hm hmem
    rw [dsts_cons] at hmem
    cases hm with
    | head=>rw [hd] at hmem;exact (memN_cons hmem).1 rfl
    | tail _ hm =>
     cases ho':o'.dst with
     | none=>rw [ho'] at hmem;exact ih hm hmem
     | some d'=>rw [ho'] at hmem;exact ih hm (memN_cons hmem).2
  exact this _ ho h1
theorem semD_ok {ld:Nat→Bool} {n:Nat} {H:List (Nat × RTy)} {ops:Array Oper} {Q:Exit→Act→World→Prop} {S:World→Prop} {k:Env→World→Prop} {a₀:Act} {all:List Nat}
  (hb:bltAll n (dsts ops.toList)=true) (hall:∀ t,memN t all=false→memN t (dsts ops.toList)=false) (hns:Region.noSelect ops=true)
  (hQ:∀ e' a' w',Ag n e' a'→Same all a₀ a'→k e' w'→Q .normal a' w') (hP:∀ c a w,¬ Q (.panic c) a w) :
  ∀ (fuel:Nat) (listed:Array Bool) (g:List (Nat × Bool)) (e:Env) (a:Act) (w:World),Ag n e a→Same all a₀ a→S w →
   semD P H ld ops S k fuel listed g e w→wpAnyH P .any ops Q S fuel listed a w:=by
 intro fuel
 induction fuel with
 | zero =>
  intro listed g e a w hA hS hw h
  unfold semD at h
  split at h
  ·rename_i hr;exact wpAnyH_done hr (hQ _ _ _ hA hS h) 0
  ·exact h.elim
 | succ fuel ih =>
  intro listed g e a w hA hS hw h
  unfold semD at h
  split at h
  ·rename_i hr;exact wpAnyH_done hr (hQ _ _ _ hA hS h) _
  rename_i i₀ l hr
  split at h
  ·rename_i i hi
   obtain⟨hmem,hfree⟩:=firstTake_mem hi
   split at h
   ·exact h.elim
   rename_i o ho
   have hom:o∈ops.toList:=by simpa using Array.mem_of_getElem? ho
   have hd:∀ t,o.dst=some t→t < n:=λt ht=>dsts_mem ht _ hb hom
   have hsel:=λcs b=>Region.noSelect_spec hns i o cs b ho
   obtain⟨g',e',hA',hh⟩:=semGuard_ok hA h
   rcases hh with⟨hwt,hh⟩ | ⟨hwt,hh⟩
   ·obtain⟨hk,v,h1,h2⟩:=semTake_ok hh hsel
    refine wpAnyH_take (v:=v) ho hns hfree (by rw [hr];simpa using hmem) (λc a w hq=>(hP _ _ _ hq).elim) (.inl ⟨hwt,λw hw=>?_⟩) hw ?_
    ·rw [execOp_rho hA' hk hsel];exact h1 w hw
    ·exact ih _ _ _ _ _ (hA'.pushE hd v) (same_dst hom hall hS v) hw h2
   ·exact wpAnyH_take (v:=undef) ho hns hfree (by rw [hr];simpa using hmem) (λc a w hq=>(hP _ _ _ hq).elim) (.inr ⟨hwt,rfl⟩) hw
     (ih _ _ _ _ _ (hA'.pushE hd _) (same_dst hom hall hS _) hw hh)
  ·refine wpAnyH_all hr (by simp) λi hi=>?_
   have hf:=allOf_mem h i hi
   split at hf
   ·exact hf.elim
   rename_i o ho
   have hom:o∈ops.toList:=by simpa using Array.mem_of_getElem? ho
   have hd:∀ t,o.dst=some t→t < n:=λt ht=>dsts_mem ht _ hb hom
   obtain⟨g',e',hA',hh⟩:=semGuard_ok hA hf
   unfold wpOp
   rw [ho]
   simp only []
   rcases hh with⟨hwt,hh⟩ | ⟨hwt,hh⟩
   ·rw [if_pos hwt]
    exact .inl (semOp_wp hA' hh λv w' ⟨h1,h2⟩=>⟨h1,ih _ _ _ _ _ (hA'.pushE hd v) (same_dst hom hall hS v) h1 h2⟩)
   ·rw [if_neg (by simp [hwt])]
    exact⟨hw,ih _ _ _ _ _ (hA'.pushE hd _) (same_dst hom hall hS _) hw hh⟩
end Go.Fk
end
section
namespace Go.Fk
open Go
variable {P:Program}
theorem find_cons_eq {t:Nat} {v:Value} {e:Env}:find t ((t,v)::e)=some v:=by simp [find]
theorem find_cons_ne {s t:Nat} {v:Value} {e:Env} (h:t≠s):find t ((s,v)::e)=find t e:=by simp [find,mem_beq h]
def Says (e:Env) (a:Act):Prop:=∀ t v,find t e=some v→a.tmps.getD t undef=v
theorem Says.cons {e:Env} {a:Act} {s:Nat} {v:Value} (h:Says e a) (hv:a.tmps.getD s undef=v):Says ((s,v)::e) a:=by
 intro t u hu
 by_cases hts:t=s
 ·subst hts;rw [find_cons_eq] at hu;simp at hu;rw [hv,hu]
 ·rw [find_cons_ne hts] at hu;exact h _ _ hu
theorem Says.embed {e₀ e:Env} {a:Act} {n:Nat} (hA:Ag n e a) (h₀:Says e₀ a):∀ (l:List (Nat × RTy)) (s:LT l),decs l e=some s→Says (embed l s++e₀) a
 | [],s,_=>h₀
 | [x],s,h=>by
  simp only [decs] at h
  split at h <;> try (cases h;done)
  rename_i v hv
  have:=RTy.dec_sound _ _ _ h
  subst this
  exact h₀.cons (hA.get _ _ hv)
 | x::y::l,s,h=>by
  simp only [decs] at h
  split at h <;> try (cases h;done)
  rename_i v hv
  split at h <;> try (cases h;done)
  rename_i u hu
  split at h <;> try (cases h;done)
  rename_i r hr
  simp at h
  subst h
  have:=RTy.dec_sound _ _ _ hu
  subst this
  exact (Says.embed hA h₀ (y::l) r hr).cons (hA.get _ _ hv)
theorem Says.restrict {e:Env} {n:Nat} {a a':Act} {ws:List Nat} (hA:Ag n e a) (hS:Same ws a a'):∀ (keep:List Nat),keepOk ws keep=true→Says (restrict keep e) a'
 | [],_=>λt v h=>by cases h
 | t::l,h=>by
  simp only [keepOk] at h
  split at h
  ·cases h
  rename_i ht
  have ih:=Says.restrict hA hS l h
  unfold Go.Fk.restrict
  split
  ·rename_i v hv
   exact ih.cons (by rw [hS t ht];exact hA.get _ _ hv)
  ·exact ih
theorem Ag.rest {n:Nat} {e e':Env} {a a':Act} {ws keep:List Nat} {l:List (Nat × RTy)} {s:LT l} (hA:Ag n e a) (hA':Ag n e' a') (hS:Same ws a a') (hk:keepOk ws keep=true)
  (hd:decs l e'=some s):Ag n (embed l s++restrict keep e) a' :=
 ⟨hA'.size,hA'.defers,Says.embed hA' (Says.restrict hA hS keep hk) l s hd⟩
def Post (n:Nat) (ws:List Nat) (a₀:Act) (kn:Env→World→Prop) (kx:List (Nat × (Env→World→Prop))) (kr:Env→World→Prop):Exit→Act→World→Prop
 | .normal,a,w=>Same ws a₀ a∧∃ e,Ag n e a∧kn e w
 | .exit id,a,w=>Same ws a₀ a∧∃ e,Ag n e a∧exitK id e w kx
 | .ret,a,w=>∃ e,Ag n e a∧kr e w
 | _,_,_=>False
theorem Post.mono {n:Nat} {ws ws':List Nat} {a₀ a₁:Act} {kn kn':Env→World→Prop} {kx:List (Nat × (Env→World→Prop))} {kr:Env→World→Prop}
  (hS:∀ a,Same ws a₀ a→Same ws' a₁ a) (hn:∀ e a w,Ag n e a→Same ws a₀ a→kn e w→∃ e',Ag n e' a∧kn' e' w):∀ (ex:Exit) (a:Act) (w:World),Post n ws a₀ kn kx kr ex a w→Post n ws' a₁ kn' kx kr ex a w:=by
 intro ex a w h
 cases ex <;> simp only [Post] at h ⊢
 ·obtain⟨h1,e,h2,h3⟩:=h;exact⟨hS _ h1,hn _ _ _ h2 h1 h3⟩
 ·exact⟨hS _ h.1,h.2⟩
 ·exact h
def LoopAt (P:Program) (c:Code) (Q:Exit→Act→World→Prop) (a:Act) (w:World):Prop :=
 ∀ (b:Frame) (k:List Item) (cs:List Frame),∃ e a' w',Q e a' w'∧Arrives P (lone (b.at a (.code c::.inLoop c::k)) cs w) b k cs e a' w'
theorem loopAt_step {c:Code} {Q:Exit→Act→World→Prop} {a:Act} {w:World} (h:c.wp P (Exit.then (LoopAt P c Q) Q) a w):LoopAt P c Q a w:=by
 intro b k cs
 obtain⟨e,a₁,w₁,hq,harr⟩:=h b (.inLoop c::k) cs
 cases e with
 | normal =>
  obtain⟨e₂,a₂,w₂,hq₂,harr₂⟩:=hq b k cs
  exact⟨e₂,a₂,w₂,hq₂,.of_steps (Steps.trans harr (.one step_inLoop)) harr₂⟩
 | exit id=>exact⟨_,a₁,w₁,hq,.pass (x:=.inLoop c) rfl (λ_ _=>.inl (by simp)) harr⟩
 | goto l=>exact⟨_,a₁,w₁,hq,.pass (x:=.inLoop c) rfl (λ_ _=>.inl (by simp)) harr⟩
 | ret=>exact⟨_,a₁,w₁,hq,.pass (x:=.inLoop c) rfl (λ_ _=>.inl (by simp)) harr⟩
 | panic ch=>exact⟨_,a₁,w₁,hq,.pass (x:=.inLoop c) rfl (λ_ _=>.inl (by simp)) harr⟩
 | outgrown=>exact⟨_,a₁,w₁,hq,.pass (x:=.inLoop c) rfl (λ_ _=>.inl (by simp)) harr⟩
theorem wp_of_loopAt {c:Code} {Q:Exit→Act→World→Prop} {a:Act} {w:World} (h:LoopAt P c Q a w):(Code.loop c).wp P Q a w:=by
 intro b k cs
 obtain⟨e,a',w',hq,harr⟩:=h b k cs
 exact⟨e,a',w',hq,.of_steps (.one step_loop) harr⟩
theorem semReg_ok {ld:LdM} {n:Nat} {H:List (Nat × RTy)} {id:Nat} {ops:Array Oper} {d:Bool} {e:Env} {a:Act} {w:World} {k:Env→World→Prop} {kx:List (Nat × (Env→World→Prop))} {kr:Env→World→Prop}
  (hm:P.follows .mixedOrders=true) (hok:codeOk n (.region id ops d)=true) (hA:Ag n e a) (h:semReg P H ld ops d e k w) :
  (Code.region id ops d).wp P (Post n (dsts ops.toList) a k kx kr) a w:=by
 simp only [codeOk] at hok
 split at hok <;> try (cases hok;done)
 rename_i hb
 unfold semReg at h
 split at h
 ·exact wp_region_list (semOps_ok (all:=dsts ops.toList) _ _ _ _ _ hb (λ_ h=>h) hA (Same.refl _ _) (λe' a' w' h1 h2 h3=>⟨h2,e',h1,h3⟩) h)
 ·split at h
  case h_2 =>
   exact wp_region_held_drew (S:=λ_=>True) hm trivial λh1=>semD_ok (all:=dsts ops.toList) (a₀:=a) hb (λ_ h=>h) hok (λe' a' w' h1 h2 h3=>⟨h2,e',h1,h3⟩) (λ_ _ _ h=>h) _ _ _ _ _ _ hA (Same.refl _ _) trivial h
  all_goals
   obtain⟨S,h1,h2⟩:=h
   exact wp_region_held_drew (S:=S) hm h1 λh1=>semD_ok (all:=dsts ops.toList) (a₀:=a) hb (λ_ h=>h) hok (λe' a' w' h1 h2 h3=>⟨h2,e',h1,h3⟩) (λ_ _ _ h=>h) _ _ _ _ _ _ hA (Same.refl _ _) h1 h2
theorem sem_ok {n:Nat} {H:List (Nat × RTy)} (hm:P.follows .mixedOrders=true):∀ (c:Code) (ann:Ann) (e:Env) (kn:Env→World→Prop) (kx:List (Nat × (Env→World→Prop))) (kr:Env→World→Prop) (a:Act) (w:World),
  codeOk n c=true→Ag n e a→sem P H c ann e kn kx kr w→c.wp P (Post n (asg c) a kn kx kr) a w:=by
 intro c
 induction c with
 | skip=>intro ann e kn kx kr a w hok hA h;exact wp_skip ⟨Same.refl _ _,e,hA,h⟩
 | region id ops d =>
  intro ann e kn kx kr a w hok hA h
  unfold sem at h
  split at h
  ·rename_i live keep x y
   split at h <;> try exact h.elim
   rename_i hk
   refine Code.wp_mono (Post.mono (λ_ h=>h) λe' a' w' h1 h2 h3=>?_) (semReg_ok hm hok hA h)
   unfold jump at h3
   split at h3 <;> try exact h3.elim
   rename_i s hs
   exact⟨_,hA.rest h1 h2 hk hs,h3⟩
  ·exact semReg_ok hm hok hA h
 | seq x y ihx ihy =>
  intro ann e kn kx kr a w hok hA h
  simp only [codeOk] at hok
  split at hok <;> try (cases hok;done)
  rename_i hx
  unfold sem at h
  have fin:∀ (kn':Env→World→Prop) (annx:Ann),sem P H x annx e kn' kx kr w →
    (∀ e' a' w',Ag n e' a'→Same (asg x) a a'→kn' e' w'→y.wp P (Post n (asg x++asg y) a kn kx kr) a' w')→(Code.seq x y).wp P (Post n (asg (.seq x y)) a kn kx kr) a w:=by
   intro kn' annx h1 h2
   refine wp_seq (Code.wp_mono (λex a' w' hp=>?_) (ihx annx e kn' kx kr a w hx hA h1))
   cases ex <;> simp only [Exit.then,Post] at hp ⊢
   ·obtain⟨hS,e',hA',hk⟩:=hp
    exact h2 e' a' w' hA' hS hk
   ·exact⟨Same.left hp.1,hp.2⟩
   ·exact hp
  split at h
  ·rename_i ax ay
   refine fin _ ax h λe' a' w' hA' hS hk=>?_
   exact Code.wp_mono (Post.mono (λ_ h=>(Same.left hS).trans (Same.right h)) λ_ _ _ h1 _ h3=>⟨_,h1,h3⟩) (ihy ay e' kn kx kr a' w' hok hA' hk)
  ·rename_i live keep ax ay
   split at h <;> try exact h.elim
   rename_i hk
   refine fin _ ax h λe' a' w' hA' hS hj=>?_
   unfold jump at hj
   split at hj <;> try exact hj.elim
   rename_i s hs
   exact Code.wp_mono (Post.mono (λ_ h=>(Same.left hS).trans (Same.right h)) λ_ _ _ h1 _ h3=>⟨_,h1,h3⟩) (ihy ay _ kn kx kr a' w' hok (hA.rest hA' hS hk hs) hj)
  ·refine fin _ .z h λe' a' w' hA' hS hk=>?_
   exact Code.wp_mono (Post.mono (λ_ h=>(Same.left hS).trans (Same.right h)) λ_ _ _ h1 _ h3=>⟨_,h1,h3⟩) (ihy .z e' kn kx kr a' w' hok hA' hk)
 | cond v x y ihx ihy =>
  intro ann e kn kx kr a w hok hA h
  simp only [codeOk] at hok
  split at hok <;> try (cases hok;done)
  rename_i hx
  unfold sem at h
  split at h <;> try exact h.elim
  rename_i b hv
  have fin:∀ (ax ay:Ann),Br b (sem P H x ax e kn kx kr w) (sem P H y ay e kn kx kr w)→(Code.cond v x y).wp P (Post n (asg (.cond v x y)) a kn kx kr) a w:=by
   intro ax ay hbr
   obtain⟨h1,h2⟩:=hbr.out
   refine wp_cond (ev_sound hA hv) ?_
   cases b with
   | true=>exact Code.wp_mono (Post.mono (λ_ h=>Same.left h) λ_ _ _ h1 _ h3=>⟨_,h1,h3⟩) (ihx ax e kn kx kr a w hx hA (h1 rfl))
   | false=>exact Code.wp_mono (Post.mono (λ_ h=>Same.right h) λ_ _ _ h1 _ h3=>⟨_,h1,h3⟩) (ihy ay e kn kx kr a w hok hA (h2 rfl))
  split at h
  ·exact fin _ _ h
  ·exact fin _ _ h
 | block id b ih =>
  intro ann e kn kx kr a w hok hA h
  unfold sem at h
  refine wp_block (Code.wp_mono (λex a' w' hp=>?_) (ih ann e kn _ kr a w hok hA h))
  cases ex <;> simp only [Exit.inBlock,Post] at hp ⊢
  ·exact hp
  ·rename_i id'
   obtain⟨hS,e',hA',hk⟩:=hp
   simp only [exitK] at hk
   by_cases hid:id'=id
   ·subst hid
    rw [if_pos rfl]
    exact⟨hS,e',hA',by simpa using hk⟩
   ·rw [if_neg hid]
    exact⟨hS,e',hA',by simpa [mem_beq hid] using hk⟩
  ·exact hp
 | loop b ih =>
  intro ann e kn kx kr a w hok hA h
  unfold sem at h
  split at h <;> try exact h.elim
  rename_i live keep ax
  split at h <;> try exact h.elim
  rename_i hk
  split at h <;> try exact h.elim
  rename_i s₀ hs₀
  refine wp_of_loopAt ?_
  have:=h (λs w'=>∀ a',Same (asg b) a a'→Ag n (embed live s++restrict keep e) a'→LoopAt P b (Post n (asg b) a kn kx kr) a' w') λs w' hF a' hS hA'=>?_
  ·exact this a (Same.refl _ _) (hA.rest hA (Same.refl _ _) hk hs₀)
  ·refine loopAt_step (Code.wp_mono (λex a'' w'' hp=>?_) (ih ax _ _ kx kr a' w' hok hA' hF))
   cases ex <;> simp only [Exit.then,Post] at hp ⊢
   ·obtain⟨hS',e',hA'',hj⟩:=hp
    unfold jump at hj
    split at hj <;> try exact hj.elim
    rename_i s hs
    exact hj a'' (hS.trans hS') (hA.rest hA'' (hS.trans hS') hk hs)
   ·exact⟨hS.trans hp.1,hp.2⟩
   ·exact hp
 | exit id=>intro ann e kn kx kr a w hok hA h;exact wp_exit ⟨Same.refl _ _,e,hA,h⟩
 | ret=>intro ann e kn kx kr a w hok hA h;exact wp_ret ⟨e,hA,h⟩
 | rangeFunc f ps x y=>intro ann e kn kx kr a w hok hA h;cases hok
 | scope b ih=>intro ann e kn kx kr a w hok hA h;cases hok
 | label l=>intro ann e kn kx kr a w hok hA h;cases hok
 | goto l=>intro ann e kn kx kr a w hok hA h;cases hok
 | refuse l=>intro ann e kn kx kr a w hok hA h;cases hok
end Go.Fk
end
section
namespace Go.Fk
open Go
def semRes (P:Program) (H:List (Nat × RTy)):List ResultVar→Env→List Value→(List Value→Prop)→World→Prop
 | [],_,acc,k,_=>k acc.reverse
 | .tmp t::l,e,acc,k,w=>match find t e with
  | some v=>semRes P H l e (v::acc) k w
  | none=>False
 | .cell a t::l,e,acc,k,w=>match find a e with
  | some v=>sLoad P t v (hintOf (some a) H) (λu=>semRes P H l e (u::acc) k w) w
  | none=>False
def semRet (P:Program) (H:List (Nat × RTy)) (rs:List ResultVar) (rt:RTy) (K:rt.T→World→Prop) (e:Env) (w:World):Prop :=
 semRes P H rs e [] (λvs=>match (match vs with | [v]=>rt.dec v | vs=>rt.dec (.tuple vs.toArray)) with
  | some r=>K r w
  | none=>False) w
variable {P:Program}
def resOf (tmps:Array Value):ResultVar→Sem Value
 | .tmp t=>pure (tmps.getD t undef)
 | .cell a t=>do loadVar t (← asAddr (tmps.getD a undef))
theorem sLoad_var {t:TypeId} {x:Value} {h:RTy} {k:Value→Prop} {w:World} (H:sLoad P t x h k w):∃ v,(do loadVar t (← asAddr x):Sem Value).run P w=.ok v w∧k v:=by
 have hx:∃ a,x=.pointer (some a):=by
  unfold sLoad at H
  split at H <;> try exact H.elim
  exact⟨_,rfl⟩
 obtain⟨a,rfl⟩:=hx
 obtain⟨v,h1,h2⟩:=sLoad_ok H
 exact⟨v,by simpa [Instr.loadAt,Instr.sureAddr,asAddr] using h1,h2⟩
theorem semRes_ok {n:Nat} {H:List (Nat × RTy)} {e:Env} {a:Act} {w:World} {k:List Value→Prop} (hA:Ag n e a):∀ (l:List ResultVar) (acc:List Value),semRes P H l e acc k w →
  ∃ vs,(l.mapM (resOf a.tmps)).run P w=.ok vs w∧k (acc.reverse++vs)
 | [],acc,h=>⟨[],rfl,by simpa [semRes] using h⟩
 | .tmp t::l,acc,h=>by
  simp only [semRes] at h
  split at h <;> try exact h.elim
  rename_i v hv
  obtain⟨vs,h1,h2⟩:=semRes_ok hA l _ h
  refine⟨v::vs,?_,by simpa using h2⟩
  simp only [List.mapM_cons,resOf,Sem.run_bind,Sem.run_pure,Result.andThen_ok,hA.get _ _ hv,h1]
 | .cell c t::l,acc,h=>by
  simp only [semRes] at h
  split at h <;> try exact h.elim
  rename_i v hv
  obtain⟨u,h0,h⟩:=sLoad_var h
  obtain⟨vs,h1,h2⟩:=semRes_ok hA l _ h
  refine⟨u::vs,?_,by simpa using h2⟩
  have h0':(resOf a.tmps (.cell c t)).run P w=.ok u w:=by simp only [resOf,hA.get _ _ hv];exact h0
  simp only [List.mapM_cons,Sem.run_bind,h0',Result.andThen_ok,h1,Sem.run_pure]
theorem run_results {n:Nat} {fn:Func} {H:List (Nat × RTy)} {rt:RTy} {K:rt.T→World→Prop} {e:Env} {a:Act} {w:World} (hA:Ag n e a) (h:semRet P H fn.results.toList rt K e w) :
  ∃ r:rt.T,(results fn a.tmps).run P w=.ok (rt.enc r) w∧K r w:=by
 obtain⟨vs,h1,h2⟩:=semRes_ok hA _ _ h
 simp only [List.reverse_nil,List.nil_append] at h2
 have hres:(results fn a.tmps).run P w=.ok (if h:vs.toArray.size=1 then vs.toArray[0] else .tuple vs.toArray) w:=by
  have e1:results fn a.tmps=(fn.results.mapM (resOf a.tmps) >>= λvs=>pure (if h:vs.size=1 then vs[0] else .tuple vs)):=by
   unfold results
   congr 2
  rw [e1,Array.mapM_eq_mapM_toList]
  simp only [Sem.run_bind,Sem.run_map,h1,Result.andThen_ok,Sem.run_pure]
 rw [hres]
 split at h2 <;> try exact h2.elim
 rename_i r hr
 refine⟨r,?_,h2⟩
 split at hr
 ·rename_i v
  rw [RTy.dec_sound _ _ _ hr];rfl
 ·rename_i hne
  rw [← RTy.dec_sound _ _ _ hr]
  have:¬ vs.toArray.size=1:=by
   intro hs
   simp at hs
   obtain⟨v,rfl⟩:=List.length_eq_one_iff.1 hs
   exact hne v rfl
  rw [dif_neg this]
def argEnv:Nat→List Value→Env
 | _,[]=>[]
 | i,v::l=>(i,v)::argEnv (i + 1) l
theorem argEnv_get (n:Nat):∀ (l:List Value) (i t:Nat) (v:Value),find t (argEnv i l)=some v→i≤t∧l[t - i]?=some v
 | [],i,t,v,h=>by cases h
 | u::l,i,t,v,h=>by
  unfold argEnv at h
  by_cases hti:t=i
  ·subst hti;rw [find_cons_eq] at h;simp at h;subst h;simp
  ·rw [find_cons_ne hti] at h
   obtain⟨h1,h2⟩:=argEnv_get n l (i + 1) t v h
   refine⟨by omega,?_⟩
   rw [show t - i=(t - (i + 1)) + 1 from by omega]
   simpa using h2
theorem calls_of_sem {f:FuncId} {fn:Func} {c:Code} {H:List (Nat × RTy)} {ann:Ann} {args:List Value} {rt:RTy} {K:rt.T→World→Prop} {w:World} (hm:P.follows .mixedOrders=true)
  (hf:P.funcs[f]?=some fn) (hb:fn.body=some c) (hok:codeOk fn.ntmps c=true) (hn:Nat.ble args.length fn.ntmps=true)
  (h:sem P H c ann (argEnv 0 args) (semRet P H fn.results.toList rt K) [] (semRet P H fn.results.toList rt K) w):CallF P f args.toArray rt w K:=by
 refine calls_of_wp hf hb ?_
 have hn':args.length≤fn.ntmps:=Nat.le_of_ble_eq_true hn
 refine Code.wp_mono (λex a w' hp=>?_) (sem_ok hm c ann _ _ _ _ _ w hok (n:=fn.ntmps) ?_ h)
 ·cases ex <;> simp only [Post] at hp
  ·obtain⟨_,e,hA,hk⟩:=hp
   obtain⟨r,h1,h2⟩:=run_results hA hk
   exact⟨hA.defers,_,h1,r,rfl,h2⟩
  ·obtain⟨_,e,hA,hk⟩:=hp
   exact hk.elim
  ·obtain⟨e,hA,hk⟩:=hp
   obtain⟨r,h1,h2⟩:=run_results hA hk
   exact⟨hA.defers,_,h1,r,rfl,h2⟩
 ·refine⟨by simp;omega,rfl,λt v hv=>?_⟩
  obtain⟨_,h2⟩:=argEnv_get fn.ntmps args 0 t v hv
  simp only [Nat.sub_zero] at h2
  have ht:t < args.length:=(kA h2).1
  simp only [Array.getD_eq_getD_getElem?]
  rw [Array.getElem?_append_left (by simpa using ht)]
  simp [h2]
end Go.Fk
end
section
namespace Go.Fk
open Go
structure Keeps (M:Nat→Prop) (w w':World):Prop where
 os:w'.os=w.os
 tape:w'.tape=w.tape
 output:w'.output=w.output
 size:w.heap.size≤w'.heap.size
 keep:∀ b,b < w.heap.size→¬ M b→w'.heap[b]?=w.heap[b]?
def No:Nat→Prop:=λ_=>False
theorem Keeps.refl {M:Nat→Prop} {w:World}:Keeps M w w:=⟨rfl,rfl,rfl,Nat.le_refl _,λ_ _ _=>rfl⟩
theorem Keeps.trans {M:Nat→Prop} {a b c:World} (h:Keeps M a b) (k:Keeps M b c):Keeps M a c :=
 ⟨k.os.trans h.os,k.tape.trans h.tape,k.output.trans h.output,Nat.le_trans h.size k.size,λi hi hm=>(k.keep i (Nat.lt_of_lt_of_le hi h.size) hm).trans (h.keep i hi hm)⟩
theorem Keeps.then {M N:Nat→Prop} {a b c:World} (h:Keeps M a b) (k:Keeps N b c) (hN:∀ i,i < a.heap.size→N i→M i):Keeps M a c :=
 ⟨k.os.trans h.os,k.tape.trans h.tape,k.output.trans h.output,Nat.le_trans h.size k.size,λi hi hm=>(k.keep i (Nat.lt_of_lt_of_le hi h.size) (λhn=>hm (hN i hi hn))).trans (h.keep i hi hm)⟩
theorem Keeps.mono {M N:Nat→Prop} {w w':World} (h:Keeps N w w') (hN:∀ i,i < w.heap.size→N i→M i):Keeps M w w' :=
 ⟨h.os,h.tape,h.output,h.size,λi hi hm=>h.keep i hi λhn=>hm (hN i hi hn)⟩
theorem Keeps.no {M:Nat→Prop} {w w':World} (h:Keeps No w w'):Keeps M w w':=h.mono λ_ _ h=>h.elim
theorem Keeps.below {w w':World} (h:Keeps No w w'):RowKit.Below w.heap.size w w':=⟨h.os,h.tape,h.output,h.size,λk hk=>h.keep k hk id⟩
theorem Keeps.of_below {w w':World} (h:RowKit.Below w.heap.size w w'):Keeps No w w':=⟨h.os,h.tape,h.output,h.size,λk hk _=>h.block k hk⟩
theorem Keeps.drew {w:World}:Keeps No w w.drew:=⟨rfl,rfl,rfl,Nat.le_refl _,λ_ _ _=>rfl⟩
theorem lt_of_some {w:World} {b:Nat} {o:Obj} (h:w.heap[b]?=some o):b < w.heap.size:=(Array.getElem?_eq_some_iff.1 h).1
theorem Keeps.blk {M:Nat→Prop} {w w':World} (h:Keeps M w w') {b:Nat} {o:Obj} (hb:w.heap[b]?=some o) (hm:¬ M b):w'.heap[b]?=some o:=by
 rw [h.keep b (lt_of_some hb) hm,hb]
theorem Keeps.blk0 {w w':World} (h:Keeps No w w') {b:Nat} {o:Obj} (hb:w.heap[b]?=some o):w'.heap[b]?=some o:=h.blk hb id
abbrev View:=Nat→Obj→Prop
def V (M:Nat→Prop) (w:World):View:=λb o=>¬ M b∧w.heap[b]?=some o
structure New (b:Nat) (o:Obj) (w w':World):Prop where
 eq:b=w.heap.size
 at_:w'.heap[b]?=some o
 keeps:Keeps No w w'
 size:w'.heap.size=w.heap.size + 1
theorem Al.mk {o:Obj} {w:World} {k:Nat→World→Prop} (h:∀ b w',New b o w w'→k b w'):Al o w k:=by
 refine h _ _ ⟨rfl,?_,⟨rfl,rfl,rfl,by simp,λb hb _=>?_⟩,by simp⟩
 ·show (w.heap.push o)[w.heap.size]?=some o
  simp
 ·show (w.heap.push o)[b]?=_
  rw [Array.getElem?_push,if_neg (by omega)]
structure Upd (b:Nat) (o:Obj) (w w':World):Prop where
 at_:w'.heap[b]?=some o
 keeps:Keeps (·=b) w w'
 size:w'.heap.size=w.heap.size
theorem cell_of {w:World} {b off:Nat} {cs:Array Value} {E:TypeId} {fr:Nat × Nat} {v:Value} (hb:w.heap[b]?=some (.cells cs E fr)) (hc:cs[off]?=some v) :
  w.cell? ⟨b,off,none⟩=some v:=by simp [World.cell?,hb,hc]
theorem upd_setCell {w:World} {b off:Nat} {cs:Array Value} {E:TypeId} {fr:Nat × Nat} {v:Value} (hb:w.heap[b]?=some (.cells cs E fr)) :
  Upd b (.cells (cs.setIfInBounds off v) E fr) w (w.setCell ⟨b,off,none⟩ v):=by
 refine⟨?_,⟨rfl,rfl,rfl,by simp [World.setCell],λi hi hm=>?_⟩,by simp [World.setCell]⟩
 ·simp only [World.setCell,Array.getElem?_modify,hb]
  simp
 ·simp only [World.setCell,Array.getElem?_modify]
  rw [if_neg (λh=>hm h.symm)]
theorem St.blk {b off:Nat} {cs:Array Value} {E:TypeId} {v:Value} {w:World} {k:World→Prop} (hb:w.heap[b]?=some (.cells cs E (0,0))) (ho:off < cs.size)
  (h:∀ w',Upd b (.cells (cs.setIfInBounds off v) E (0,0)) w w'→k w'):St ⟨b,off,none⟩ v w k:=by
 refine⟨⟨?_,?_⟩,h _ (upd_setCell hb)⟩
 ·simp [World.cell?,hb,ho]
 ·simp [World.frozen?,hb]
theorem Ld.int {κ:IntKind} {a:Addr} {w:World} {k:Int→Prop} {i:Int} (h:w.cell? a=some (.int κ i)) (hk:k i):Ld (.int κ) a w k:=⟨i,h,hk⟩
theorem Ld.bool {a:Addr} {w:World} {k:Bool→Prop} {i:Bool} (h:w.cell? a=some (.bool i)) (hk:k i):Ld .bool a w k:=⟨i,h,hk⟩
theorem Ld.str {a:Addr} {w:World} {k:ByteArray→Prop} {i:ByteArray} (h:w.cell? a=some (.string i)) (hk:k i):Ld .str a w k:=⟨i,h,hk⟩
@[simp] theorem Br_true {x y:Prop}:Br true x y=x:=rfl
@[simp] theorem Br_false {x y:Prop}:Br false x y=y:=rfl
@[simp] theorem NilC_some {a:Addr} {k:Addr→Prop}:NilC (some a) k=k a:=rfl
inductive All2 {α β:Type} (R:α→β→Prop):List α→List β→Prop where
 | nil:All2 R [] []
 | cons {a b l m} (h:R a b) (t:All2 R l m):All2 R (a::l) (b::m)
theorem All2.length {α β:Type} {R:α→β→Prop} {l:List α} {m:List β} (x:All2 R l m):l.length=m.length:=by
 induction x with
 | nil=>rfl
 | cons _ _ ih=>simp [ih]
theorem add_eq (b off n:Nat):(⟨b,off,none⟩:Addr).add n=⟨b,off + n,none⟩:=by
 unfold Addr.add;split
 ·rename_i h;subst h;rfl
 ·rfl
theorem Upd.trans {b:Nat} {o o':Obj} {w w1 w2:World} (h:Upd b o w w1) (h':Upd b o' w1 w2):Upd b o' w w2:=⟨h'.at_,h.keeps.trans h'.keeps,h'.size.trans h.size⟩
theorem Upd.keeps0 {b:Nat} {o:Obj} {w w1 w2:World} (k:Keeps No w w1) (hb:w.heap.size≤b) (u:Upd b o w1 w2):Keeps No w w2:=(k.no (M:=No)).then u.keeps λi hi e=>by omega
end Go.Fk
end
section
namespace Go.Fk
open Go Go.ChangeShapes Go.WideShapes Go.ChangeAt Go.RowKit
theorem trodAll_stays {H:Type} {enc:TypeId × Value→H} {P:Program} (hl:laidOutB P=true) {W W':World} (hb:Below W.heap.size W W'):∀ {ts:List TypeId} {vs:List Value} {ds:List (DataW H)} {ps:List MemPlace},
  (∀ t∈ts,P.readableRec t=true∧t < P.types.size)→DataW.TrodAll enc P W 0 (λ_=>true) true ts vs ds ps→(∀ x∈ps,x.block < W.heap.size)→DataW.TrodAll enc P W' 0 (λb=>decide (b < W.heap.size)) true ts vs ds ps
 | [],[],[],_,_,h,_=>h
 | t::ts,v::vs,d::ds,ps,hr,h,hlt=>by
  obtain⟨p,q,h1,h2,rfl⟩:=h
  exact⟨p,q,Below.trod hl (hr t (by simp)).1 (hr t (by simp)).2 h1 hb λx hx=>hlt x (by simp [hx]),trodAll_stays hl hb (λt ht=>hr t (by simp [ht])) h2 λx hx=>hlt x (by simp [hx]),rfl⟩
 | [],_::_,_,_,_,h,_=>by cases h
 | [],[],_::_,_,_,h,_=>by cases h
 | _::_,[],_,_,_,h,_=>by cases h
 | _::_,_::_,[],_,_,h,_=>by cases h
theorem post_law {H:Type} {enc:TypeId × Value→H} {P:Program} {f:Func} {s:ChangeSpec} {apart fresh handsOn:Bool} {W W':World} {args:Array Value} {ds:List (DataW H)} {before:List MemPlace} {tb:TypeId}
  (hl:laidOutB P=true) (hr:∀ t∈f.params.toList,P.readableRec t=true∧t < P.types.size) (hres:f.resultTypes=#[tb]) (htb:P.underlying tb=some .bool) (hv:s.vars=[])
  (hs:s.fn H (ds++[])={ results:=[.lit (.bool true)],args:=ds }) (hW:DataW.Whole enc P f.params.toList s.vars apart W args.toList ds [] before) (hb:Below W.heap.size W W'):s.post enc P f apart fresh handsOn false W args (.bool true) W':=by
 have hlt:=hW.lt
 refine⟨ds,[],before,[],before,[],hW,?_,?_,?_,hb.frame _,λh=>by cases h⟩
 ·rw [hres,hs]
  show DataW.TrodAll _ _ _ _ _ _ [tb] [Value.bool true] [.lit (.bool true)] []
  refine trodAll_mk1 ⟨1,?_⟩
  simp [DataW.trod,Value.cells,htb]
 ·rw [hs]
  obtain⟨p,q,h1,h2,rfl,_⟩:=hW
  rw [hv] at h2
  obtain⟨_,rfl⟩:=trodVars_none h2
  rw [List.append_nil] at hlt ⊢
  exact trodAll_stays hl hb hr h1 hlt
 ·rw [hs,hv];rfl
end Go.Fk
end
section
namespace Go.Fk
open Go
abbrev P:Program:=Go.Proofs.Tryz.prog
theorem P_mixed:P.follows .mixedOrders=true:=by kernel_rfl
theorem okS {f:FuncId} {fn:Func} {c:Code} {w:World} (H:List (Nat×RTy)) (ann:Ann) (args:List Value) (rt:RTy) {K:rt.T→World→Prop} {Q:Prop} (hf:P.funcs[f]?=some fn) (hb:fn.body=some c) (h:Q) (hok:codeOk fn.ntmps c=true:=by kernel_rfl) (hn:Nat.ble args.length fn.ntmps=true:=by kernel_rfl) (e:sem P H c ann (argEnv 0 args) (semRet P H fn.results.toList rt K) [] (semRet P H fn.results.toList rt K) w=Q:=by kernel_rfl):CallF P f args.toArray rt w K:=
 calls_of_sem P_mixed hf hb hok hn (e.mpr h)
abbrev T.int:Nat:=3
abbrev T.string:Nat:=9
abbrev T.brackets_Word:Nat:=28
abbrev T.p_doc_Doc:Nat:=29
abbrev T.sl_brackets_Word:Nat:=31
abbrev T.boxes_Style:Nat:=53
abbrev T.sl_p_doc_Doc:Nat:=54
abbrev T.tree_Node:Nat:=64
abbrev T.scan_Token:Nat:=68
abbrev T.a5_string:Nat:=72
abbrev T.a3_string:Nat:=74
abbrev T.boxes_maker:Nat:=80
abbrev T.sets_Symbol:Nat:=189
abbrev T.items_Item:Nat:=349
def frisketlaw26_BoxesNone.C (x0:ByteArray) (x1:ByteArray) (w:World) (k:Bool→World→Prop):Prop:=CallF P 3 #[.string x0,.string x1] (.one .bool) w k
def frisketlaw26_awake.C  (w:World) (k:Bool→World→Prop):Prop:=CallF P 4 #[] (.one .bool) w k
def boxes_New.C (x0:Option Addr) (w:World) (k:(Option Addr × Int)→World→Prop):Prop:=CallF P 5 #[.pointer x0] (.tup [.one .ptr,.one (.int .i64)]) w k
def boxes_Style_Box.C (x0:Option Addr) (x1:Option Addr) (w:World) (k:Option Addr→World→Prop):Prop:=CallF P 6 #[.pointer x0,.pointer x1] (.one .ptr) w k
def boxes_Style_Words.C (x0:Option Addr) (x1:Option Addr) (w:World) (k:Sl→World→Prop):Prop:=CallF P 7 #[.pointer x0,.pointer x1] (.one .sl) w k
def boxes_Style_Glued.C (x0:Option Addr) (x1:ByteArray) (x2:ByteArray) (w:World) (k:Bool→World→Prop):Prop:=CallF P 8 #[.pointer x0,.string x1,.string x2] (.one .bool) w k
def boxes_Style_Between.C (x0:Option Addr) (x1:Int × ByteArray) (x2:Int × ByteArray) (w:World) (k:Int→World→Prop):Prop:=CallF P 9 #[.pointer x0,.agg #[.int .i64 x1.1,.string x1.2],.agg #[.int .i64 x2.1,.string x2.2]] (.one (.int .i64)) w k
def boxes_Style_Make.C (x0:Option Addr) (x1:Option Addr) (x2:Sl) (x3:Sl) (w:World) (k:Option Addr→World→Prop):Prop:=CallF P 10 #[.pointer x0,.pointer x1,.slice x2.a x2.n x2.c,.slice x3.a x3.n x3.c] (.one .ptr) w k
def tree_Parser_Grammar.C (x0:Option Addr) (w:World) (k:Option Addr→World→Prop):Prop:=CallF P 15 #[.pointer x0] (.one .ptr) w k
def gram_Grammar_Scanner.C (x0:Option Addr) (w:World) (k:Option Addr→World→Prop):Prop:=CallF P 16 #[.pointer x0] (.one .ptr) w k
def gram_Grammar_Rules.C (x0:Option Addr) (w:World) (k:Sl→World→Prop):Prop:=CallF P 17 #[.pointer x0] (.one .sl) w k
def doc_Text.C (x0:ByteArray) (w:World) (k:Option Addr→World→Prop):Prop:=CallF P 18 #[.string x0] (.one .ptr) w k
def boxes_Break.C (x0:Int) (w:World) (k:Option Addr→World→Prop):Prop:=CallF P 19 #[.int .i64 x0] (.one .ptr) w k
def tree_Tree_Tokens.C (x0:Option Addr) (w:World) (k:Sl→World→Prop):Prop:=CallF P 20 #[.pointer x0] (.one .sl) w k
def tree_Tree_Leaves.C (x0:Option Addr) (x1:Int) (w:World) (k:Sl→World→Prop):Prop:=CallF P 21 #[.pointer x0,.int .i64 x1] (.one .sl) w k
def tree_Tree_Node.C (x0:Option Addr) (x1:Int) (w:World) (k:((Int × Int × Int × Sl × Int × Int) × Bool)→World→Prop):Prop:=CallF P 22 #[.pointer x0,.int .i64 x1] (.tup [.agg [(.int .i64),(.int .i64),(.int .i64),.sl,(.int .i64),(.int .i64)],.one .bool]) w k
def tree_Tree_Text.C (x0:Option Addr) (w:World) (k:ByteArray→World→Prop):Prop:=CallF P 23 #[.pointer x0] (.one .str) w k
def scan_Scanner_Next.C (x0:Option Addr) (x1:ByteArray) (x2:Int) (w:World) (k:((Int × Int × Int × Int) × Int)→World→Prop):Prop:=CallF P 24 #[.pointer x0,.string x1,.int .i64 x2] (.tup [.agg [(.int .i64),(.int .i64),(.int .i64),(.int .i64)],.one (.int .i64)]) w k
def boxes_closing.C  (w:World) (k:(ByteArray × ByteArray × ByteArray × ByteArray × ByteArray)→World→Prop):Prop:=CallF P 25 #[] (.agg [.str,.str,.str,.str,.str]) w k
def boxes_opening.C  (w:World) (k:(ByteArray × ByteArray × ByteArray)→World→Prop):Prop:=CallF P 26 #[] (.agg [.str,.str,.str]) w k
def boxes_Style_literal.C (x0:Option Addr) (x1:Int × ByteArray) (x2:Sl) (w:World) (k:Bool→World→Prop):Prop:=CallF P 27 #[.pointer x0,.agg #[.int .i64 x1.1,.string x1.2],.slice x2.a x2.n x2.c] (.one .bool) w k
def boxes_maker_box.C (x0:Option Addr) (x1:Int) (w:World) (k:(Option Addr × Bool)→World→Prop):Prop:=CallF P 28 #[.pointer x0,.int .i64 x1] (.tup [.one .ptr,.one .bool]) w k
def slices_SortedFunc_sets_Symbol.C (x0:Value) (x1:Value) (w:World) (k:Sl→World→Prop):Prop:=CallF P 180 #[x0,x1] (.one .sl) w k
def table_symbols_S1.C (x0:Bool × Int) (x1:Bool × Int) (w:World) (k:Int→World→Prop):Prop:=CallF P 182 #[.agg #[.bool x0.1,.int .i64 x0.2],.agg #[.bool x1.1,.int .i64 x1.2]] (.one (.int .i64)) w k
def cmp_Compare.C (x0:Int) (x1:Int) (w:World) (k:Int→World→Prop):Prop:=CallF P 183 #[.int .i64 x0,.int .i64 x1] (.one (.int .i64)) w k
def items_compare.C (x0:Int × Int × Int) (x1:Int × Int × Int) (w:World) (k:Int→World→Prop):Prop:=CallF P 241 #[.agg #[.int .i64 x0.1,.int .i64 x0.2.1,.int .i64 x0.2.2],.agg #[.int .i64 x1.1,.int .i64 x1.2.1,.int .i64 x1.2.2]] (.one (.int .i64)) w k
def slices_Collect_sets_Symbol.C (x0:Value) (w:World) (k:Sl→World→Prop):Prop:=CallF P 243 #[x0] (.one .sl) w k
def slices_SortFunc_sets_Symbol.C (x0:Sl) (x1:Value) (w:World) (k:Unit→World→Prop):Prop:=CallF P 244 #[.slice x0.a x0.n x0.c,x1] (.tup []) w k
def cmp_isNaN.C (x0:Int) (w:World) (k:Bool→World→Prop):Prop:=CallF P 246 #[.int .i64 x0] (.one .bool) w k
def cmp_Or.C (x0:Sl) (w:World) (k:Int→World→Prop):Prop:=CallF P 254 #[.slice x0.a x0.n x0.c] (.one (.int .i64)) w k
def slices_SortedFunc_items_Item.C (x0:Value) (x1:Value) (w:World) (k:Sl→World→Prop):Prop:=CallF P 280 #[x0,x1] (.one .sl) w k
def nfa_set_sorted.C (x0:Option Nat) (w:World) (k:Sl→World→Prop):Prop:=CallF P 307 #[.map x0] (.one .sl) w k
def slices_Collect_items_Item.C (x0:Value) (w:World) (k:Sl→World→Prop):Prop:=CallF P 315 #[x0] (.one .sl) w k
def slices_SortFunc_items_Item.C (x0:Sl) (x1:Value) (w:World) (k:Unit→World→Prop):Prop:=CallF P 316 #[.slice x0.a x0.n x0.c,x1] (.tup []) w k
def slices_Sorted.C (x0:Value) (w:World) (k:Sl→World→Prop):Prop:=CallF P 337 #[x0] (.one .sl) w k
def maps_Keys.C (x0:Option Nat) (w:World) (k:Value→World→Prop):Prop:=CallF P 338 #[.map x0] (.one .raw) w k
def frisketlaw26_BoxesNone.M (a_0:ByteArray) (b_1:ByteArray) (K:Bool→World→Prop) (w:World):Prop :=
 Join (λ(s1:Bool) w1=>Br s1 (frisketlaw26_awake.C  w1 λx17 w2=>K x17 w2) (boxes_New.C none w1 λx19 w3=>Al (.cells #[.int .i64 0,.string (⟨#[]⟩)] T.brackets_Word (0,0)) w3 λb2 w4=>St (⟨b2,0,none⟩) (.int .i64 0) w4 λw5=>St (⟨b2,1,none⟩) (.string a_0) w5 λw6=>Br (x19.1.isNone) (Br (x19.2==(1:Int)) (boxes_Style_Box.C none none w6 λx32 w7=>Br (x32.isNone) (boxes_Style_Words.C none none w7 λx37 w8=>Br ((x37.n:Int)==(0:Int)) (boxes_Style_Glued.C none a_0 b_1 w8 λx45 w9=>Br (!x45) (Ld (.int .i64) (⟨b2,0,none⟩) w9 λx50_0=>Ld .str (⟨b2,1,none⟩) w9 λx50_1=>Ld (.int .i64) (⟨b2,0,none⟩) w9 λx51_0=>Ld .str (⟨b2,1,none⟩) w9 λx51_1=>boxes_Style_Between.C none (x50_0,x50_1) (x51_0,x51_1) w9 λx52 w10=>Br (x52==(1:Int)) (boxes_Style_Make.C none none (⟨none,0,0⟩) (⟨none,0,0⟩) w10 λx57 w11=>Br (x57.isNone) (frisketlaw26_awake.C  w11 λx61 w12=>K x61 w12) (K false w11)) (K false w10)) (K false w9)) (K false w8)) (K false w7)) (K false w6)) (K false w6))) λj3=>Br (decide ((60:Int) < (a_0.size:Int))) (j3 true w) (j3 (decide ((60:Int) < (b_1.size:Int))) w)
theorem frisketlaw26_BoxesNone.ok (a_0 b_1 K w) (h:frisketlaw26_BoxesNone.M a_0 b_1 K w):frisketlaw26_BoxesNone.C a_0 b_1 w K :=
 okS [(17,.one .bool),(19,.tup [.one .ptr,.one (.int .i64)]),(32,.one .ptr),(37,.one .sl),(45,.one .bool),(50,.agg [(.int .i64),.str]),(51,.agg [(.int .i64),.str]),(52,.one (.int .i64)),(57,.one .ptr),(61,.one .bool)] (.n .z (.n (.j [(16,.one .bool)] [0,1] .z .z) .z)) [.string a_0,.string b_1] (.one .bool) rfl rfl h
def boxes_New.M (p_0:Option Addr) (K:(Option Addr × Int)→World→Prop) (w:World):Prop :=
 Br (p_0.isNone) (K (none,1) w) (tree_Parser_Grammar.C p_0 w λx8 w1=>gram_Grammar_Scanner.C x8 w1 λx11 w2=>gram_Grammar_Rules.C x8 w2 λx13 w3=>Al (.cells #[.pointer p_0,.pointer x11,.slice x13.a x13.n x13.c] T.boxes_Style (0,0)) w3 λb1 w4=>K ((some (⟨b1,0,none⟩)),0) w4)
theorem boxes_New.ok (p_0 K w) (h:boxes_New.M p_0 K w):boxes_New.C p_0 w K :=
 okS [(8,.one .ptr),(11,.one .ptr),(13,.one .sl)] .z [.pointer p_0] (.tup [.one .ptr,.one (.int .i64)]) rfl rfl h
def boxes_Style_Box.M (s_0:Option Addr) (t_1:Option Addr) (K:Option Addr→World→Prop) (w:World):Prop :=
 boxes_Style_Words.C s_0 t_1 w λx12 w1=>Loop (λ(s1:Sl × Sl × Int) w2 again2=>Br (decide (s1.2.2 < (x12.n:Int))) (IdxS x12 s1.2.2 2 λp18=>Ld (.int .i64) p18 w2 λx19_0=>Ld .str (p18.add 1) w2 λx19_1=>Al (.cells #[.int .i64 0,.string (⟨#[]⟩)] T.brackets_Word (0,0)) w2 λb3 w3=>St (⟨b3,0,none⟩) (.int .i64 x19_0) w3 λw4=>St (⟨b3,1,none⟩) (.string x19_1) w4 λw5=>Ld .str (⟨b3,1,none⟩) w5 λx22=>doc_Text.C x22 w5 λx23 w6=>Al (.cells #[.pointer x23] T.p_doc_Doc (0,0)) w6 λb4 w7=>App P (Builtin.append_ #[T.sl_p_doc_Doc,T.sl_p_doc_Doc] T.sl_p_doc_Doc #[.slice s1.1.a s1.1.n s1.1.c,.slice (some ⟨b4,0,none⟩) 1 1]) (.one .sl) w7 λx25 w8=>Br (s1.2.2==(0:Int)) (Al (.cells #[.pointer none] T.p_doc_Doc (0,0)) w8 λb5 w9=>App P (Builtin.append_ #[T.sl_p_doc_Doc,T.sl_p_doc_Doc] T.sl_p_doc_Doc #[.slice s1.2.1.a s1.2.1.n s1.2.1.c,.slice (some ⟨b5,0,none⟩) 1 1]) (.one .sl) w9 λx30 w10=>again2 (x25,x30,(w64 (s1.2.2 + (1:Int)))) w10) (Draw w8 λS6 w11=>IdxS x12 (w64 (s1.2.2 - (1:Int))) 2 λp36=>LdS S6 (.int .i64) p36 λx37_0=>LdS S6 .str (p36.add 1) λx37_1=>LdS S6 (.int .i64) (⟨b3,0,none⟩) λx38_0=>LdS S6 .str (⟨b3,1,none⟩) λx38_1=>boxes_Style_Between.C s_0 (x37_0,x37_1) (x38_0,x38_1) w11 λx39 w12=>(S6 w12∧boxes_Break.C x39 w12 λx40 w13=>(S6 w13∧Al (.cells #[.pointer x40] T.p_doc_Doc (0,0)) w13 λb7 w14=>(S6 w14∧App P (Builtin.append_ #[T.sl_p_doc_Doc,T.sl_p_doc_Doc] T.sl_p_doc_Doc #[.slice s1.2.1.a s1.2.1.n s1.2.1.c,.slice (some ⟨b7,0,none⟩) 1 1]) (.one .sl) w14 λx42 w15=>(S6 w15∧again2 (x25,x42,(w64 (s1.2.2 + (1:Int)))) w15)))))) (boxes_Style_Make.C s_0 t_1 s1.1 s1.2.1 w2 λx48 w16=>K x48 w16)) (⟨none,0,0⟩,⟨none,0,0⟩,0) w1
theorem boxes_Style_Box.ok (s_0 t_1 K w) (h:boxes_Style_Box.M s_0 t_1 K w):boxes_Style_Box.C s_0 t_1 w K :=
 okS [(12,.one .sl),(19,.agg [(.int .i64),.str]),(22,.one .str),(23,.one .ptr),(37,.agg [(.int .i64),.str]),(38,.agg [(.int .i64),.str]),(39,.one (.int .i64)),(40,.one .ptr),(48,.one .ptr)] (.n .z (.n .z (.n .z (.n (.n .z (.l [(5,.one .sl),(6,.one .sl),(15,.one (.int .i64))] [0,1,7,13,14] .z)) .z)))) [.pointer s_0,.pointer t_1] (.one .ptr) rfl rfl h
def boxes_Style_Words.M (s_0:Option Addr) (t_1:Option Addr) (K:Sl→World→Prop) (w:World):Prop :=
 Join (λ(s1:Bool) w1=>Br s1 (K (⟨none,0,0⟩) w1) (tree_Tree_Tokens.C t_1 w1 λx19 w2=>tree_Tree_Leaves.C t_1 0 w2 λx21 w3=>Loop (λ(s2:Sl × Int) w4 again3=>Br (decide (s2.2 < (x21.n:Int))) (IdxS x21 s2.2 1 λp25=>Ld (.int .i64) p25 w4 λx26=>tree_Tree_Node.C t_1 x26 w4 λx30 w5=>Al (.cells #[.int .i64 0,.int .i64 0,.int .i64 0,.slice none 0 0,.int .i64 0,.int .i64 0] T.tree_Node (0,0)) w5 λb4 w6=>St (⟨b4,0,none⟩) (.int .i64 x30.1.1) w6 λw7=>St (⟨b4,1,none⟩) (.int .i64 x30.1.2.1) w7 λw8=>St (⟨b4,2,none⟩) (.int .i64 x30.1.2.2.1) w8 λw9=>St (⟨b4,3,none⟩) (.slice x30.1.2.2.2.1.a x30.1.2.2.2.1.n x30.1.2.2.2.1.c) w9 λw10=>St (⟨b4,4,none⟩) (.int .i64 x30.1.2.2.2.2.1) w10 λw11=>St (⟨b4,5,none⟩) (.int .i64 x30.1.2.2.2.2.2) w11 λw12=>Ld (.int .i64) (⟨b4,1,none⟩) w12 λx35=>IdxS x19 x35 4 λp36=>Ld (.int .i64) p36 w12 λx37_0=>Ld (.int .i64) (p36.add 1) w12 λx37_1=>Ld (.int .i64) (p36.add 2) w12 λx37_2=>Ld (.int .i64) (p36.add 3) w12 λx37_3=>Al (.cells #[.int .i64 0,.int .i64 0,.int .i64 0,.int .i64 0] T.scan_Token (0,0)) w12 λb5 w13=>St (⟨b5,0,none⟩) (.int .i64 x37_0) w13 λw14=>St (⟨b5,1,none⟩) (.int .i64 x37_1) w14 λw15=>St (⟨b5,2,none⟩) (.int .i64 x37_2) w15 λw16=>St (⟨b5,3,none⟩) (.int .i64 x37_3) w16 λw17=>Draw w17 λS6 w18=>LdS S6 (.int .i64) (⟨b5,0,none⟩) λx40=>LdS S6 (.int .i64) (⟨b5,1,none⟩) λx44=>LdS S6 (.int .i64) (⟨b5,2,none⟩) λx46=>tree_Tree_Text.C t_1 w18 λx42 w19=>(S6 w19∧App P (Instr.sliceAt T.string (.string x42) (some (.int .i64 x44)) (some (.int .i64 x46)) none) (.one .str) w19 λx47 w20=>(S6 w20∧Al (.cells #[.int .i64 x40,.string x47] T.brackets_Word (0,0)) w20 λb7 w21=>(S6 w21∧App P (Builtin.append_ #[T.sl_brackets_Word,T.sl_brackets_Word] T.sl_brackets_Word #[.slice s2.1.a s2.1.n s2.1.c,.slice (some ⟨b7,0,none⟩) 1 1]) (.one .sl) w21 λx50 w22=>(S6 w22∧again3 (x50,(w64 (s2.2 + (1:Int)))) w22))))) (K s2.1 w4)) (⟨none,0,0⟩,0) w3)) λj8=>Br (s_0.isNone) (j8 true w) (j8 (t_1.isNone) w)
theorem boxes_Style_Words.ok (s_0 t_1 K w) (h:boxes_Style_Words.M s_0 t_1 K w):boxes_Style_Words.C s_0 t_1 w K :=
 okS [(19,.one .sl),(21,.one .sl),(26,.one (.int .i64)),(30,.tup [.agg [(.int .i64),(.int .i64),(.int .i64),.sl,(.int .i64),(.int .i64)],.one .bool]),(35,.one (.int .i64)),(37,.agg [(.int .i64),(.int .i64),(.int .i64),(.int .i64)]),(40,.one (.int .i64)),(42,.one .str),(44,.one (.int .i64)),(46,.one (.int .i64)),(47,.one .str)] (.n .z (.n (.j [(17,.one .bool)] [1] .z .z) (.n .z (.n .z (.n (.n .z (.l [(6,.one .sl),(23,.one (.int .i64))] [1,5,21,22] .z)) .z))))) [.pointer s_0,.pointer t_1] (.one .sl) rfl rfl h
def boxes_Style_Glued.M (s_0:Option Addr) (a_1:ByteArray) (b_2:ByteArray) (K:Bool→World→Prop) (w:World):Prop :=
 Join (λ(s1:Bool) w1=>Br s1 (K false w1) (NilC s_0 λa28=>Ld .ptr (a28.add 1) w1 λx30=>scan_Scanner_Next.C x30 a_1 0 w1 λx32 w2=>Al (.cells #[.int .i64 0,.int .i64 0,.int .i64 0,.int .i64 0] T.scan_Token (0,0)) w2 λb2 w3=>St (⟨b2,0,none⟩) (.int .i64 x32.1.1) w3 λw4=>St (⟨b2,1,none⟩) (.int .i64 x32.1.2.1) w4 λw5=>St (⟨b2,2,none⟩) (.int .i64 x32.1.2.2.1) w5 λw6=>St (⟨b2,3,none⟩) (.int .i64 x32.1.2.2.2) w6 λw7=>NilC s_0 λa37=>Ld .ptr (a37.add 1) w7 λx39=>scan_Scanner_Next.C x39 b_2 0 w7 λx41 w8=>Al (.cells #[.int .i64 0,.int .i64 0,.int .i64 0,.int .i64 0] T.scan_Token (0,0)) w8 λb3 w9=>St (⟨b3,0,none⟩) (.int .i64 x41.1.1) w9 λw10=>St (⟨b3,1,none⟩) (.int .i64 x41.1.2.1) w10 λw11=>St (⟨b3,2,none⟩) (.int .i64 x41.1.2.2.1) w11 λw12=>St (⟨b3,3,none⟩) (.int .i64 x41.1.2.2.2) w12 λw13=>Need (((a_1.size + b_2.size:Nat):Int)≤IntKind.i64.max) (NilC s_0 λa49=>Ld .ptr (a49.add 1) w13 λx51=>scan_Scanner_Next.C x51 (a_1++b_2) 0 w13 λx53 w14=>Al (.cells #[.int .i64 0,.int .i64 0,.int .i64 0,.int .i64 0] T.scan_Token (0,0)) w14 λb4 w15=>St (⟨b4,0,none⟩) (.int .i64 x53.1.1) w15 λw16=>St (⟨b4,1,none⟩) (.int .i64 x53.1.2.1) w16 λw17=>St (⟨b4,2,none⟩) (.int .i64 x53.1.2.2.1) w17 λw18=>St (⟨b4,3,none⟩) (.int .i64 x53.1.2.2.2) w18 λw19=>Join (λ(s5:Bool) w20=>Br s5 (K true w20) (NilC s_0 λa84=>Ld .ptr (a84.add 1) w20 λx86=>scan_Scanner_Next.C x86 (a_1++b_2) (a_1.size:Int) w20 λx90 w21=>Al (.cells #[.int .i64 0,.int .i64 0,.int .i64 0,.int .i64 0] T.scan_Token (0,0)) w21 λb6 w22=>St (⟨b6,0,none⟩) (.int .i64 x90.1.1) w22 λw23=>St (⟨b6,1,none⟩) (.int .i64 x90.1.2.1) w23 λw24=>St (⟨b6,2,none⟩) (.int .i64 x90.1.2.2.1) w24 λw25=>St (⟨b6,3,none⟩) (.int .i64 x90.1.2.2.2) w25 λw26=>Ld (.int .i64) (⟨b6,2,none⟩) w26 λx94=>Br (x94 != ((a_1++b_2).size:Int)) (K true w26) (Ld (.int .i64) (⟨b6,0,none⟩) w26 λx100=>Ld (.int .i64) (⟨b3,0,none⟩) w26 λx102=>K (x100 != x102) w26))) λj7=>Ld (.int .i64) (⟨b2,2,none⟩) w19 λx57=>Br (x57 != (a_1.size:Int)) (j7 true w19) (Ld (.int .i64) (⟨b3,2,none⟩) w19 λx63=>Br (x63 != (b_2.size:Int)) (j7 true w19) (Ld (.int .i64) (⟨b4,2,none⟩) w19 λx70=>Br (x70 != (a_1.size:Int)) (j7 true w19) (Ld (.int .i64) (⟨b4,0,none⟩) w19 λx77=>Ld (.int .i64) (⟨b2,0,none⟩) w19 λx79=>j7 (x77 != x79) w19)))))) λj8=>Br (s_0.isNone) (j8 true w) (Br (a_1.toList==((⟨#[]⟩):ByteArray).toList) (j8 true w) (j8 (b_2.toList==((⟨#[]⟩):ByteArray).toList) w))
theorem boxes_Style_Glued.ok (s_0 a_1 b_2 K w) (h:boxes_Style_Glued.M s_0 a_1 b_2 K w):boxes_Style_Glued.C s_0 a_1 b_2 w K :=
 okS [(30,.one .ptr),(32,.tup [.agg [(.int .i64),(.int .i64),(.int .i64),(.int .i64)],.one (.int .i64)]),(39,.one .ptr),(41,.tup [.agg [(.int .i64),(.int .i64),(.int .i64),(.int .i64)],.one (.int .i64)]),(51,.one .ptr),(53,.tup [.agg [(.int .i64),(.int .i64),(.int .i64),(.int .i64)],.one (.int .i64)]),(57,.one (.int .i64)),(63,.one (.int .i64)),(70,.one (.int .i64)),(77,.one (.int .i64)),(79,.one (.int .i64)),(86,.one .ptr),(90,.tup [.agg [(.int .i64),(.int .i64),(.int .i64),(.int .i64)],.one (.int .i64)]),(94,.one (.int .i64)),(100,.one (.int .i64)),(102,.one (.int .i64))] (.n .z (.n (.j [(25,.one .bool)] [0,1,2] .z .z) (.n .z (.n .z (.n .z (.n .z (.n (.j [(81,.one .bool)] [0,1,9,11] .z .z) .z))))))) [.pointer s_0,.string a_1,.string b_2] (.one .bool) rfl rfl h
def boxes_Style_Between.M (s_0:Option Addr) (a_1:Int × ByteArray) (b_2:Int × ByteArray) (K:Int→World→Prop) (w:World):Prop :=
 Al (.cells #[.int .i64 a_1.1,.string a_1.2] T.brackets_Word (0,0)) w λb1 w1=>Al (.cells #[.int .i64 b_2.1,.string b_2.2] T.brackets_Word (0,0)) w1 λb2 w2=>Join (λ(s3:Bool) w3=>Br s3 (K 1 w3) (boxes_closing.C  w3 λx19 w4=>boxes_opening.C  w4 λx20 w5=>Al (.cells #[.string (⟨#[]⟩),.string (⟨#[]⟩),.string (⟨#[]⟩),.string (⟨#[]⟩),.string (⟨#[]⟩)] T.a5_string (0,0)) w5 λb4 w6=>Al (.cells #[.string (⟨#[]⟩),.string (⟨#[]⟩),.string (⟨#[]⟩)] T.a3_string (0,0)) w6 λb5 w7=>St (⟨b4,0,none⟩) (.string x19.1) w7 λw8=>St (⟨b4,1,none⟩) (.string x19.2.1) w8 λw9=>St (⟨b4,2,none⟩) (.string x19.2.2.1) w9 λw10=>St (⟨b4,3,none⟩) (.string x19.2.2.2.1) w10 λw11=>St (⟨b4,4,none⟩) (.string x19.2.2.2.2) w11 λw12=>St (⟨b5,0,none⟩) (.string x20.1) w12 λw13=>St (⟨b5,1,none⟩) (.string x20.2.1) w13 λw14=>St (⟨b5,2,none⟩) (.string x20.2.2) w14 λw15=>Draw w15 λS6 w16=>LdS S6 (.int .i64) (⟨b2,0,none⟩) λx23_0=>LdS S6 .str (⟨b2,1,none⟩) λx23_1=>App P (Instr.sliceAt T.a5_string (.pointer (some (⟨b4,0,none⟩))) none none none) (.one .sl) w16 λx24 w17=>(S6 w17∧boxes_Style_literal.C s_0 (x23_0,x23_1) x24 w17 λx25 w18=>(S6 w18∧Br x25 (K 0 w18) (Draw w18 λS7 w19=>LdS S7 (.int .i64) (⟨b1,0,none⟩) λx28_0=>LdS S7 .str (⟨b1,1,none⟩) λx28_1=>App P (Instr.sliceAt T.a3_string (.pointer (some (⟨b5,0,none⟩))) none none none) (.one .sl) w19 λx29 w20=>(S7 w20∧boxes_Style_literal.C s_0 (x28_0,x28_1) x29 w20 λx30 w21=>(S7 w21∧Br x30 (K 2 w21) (K 1 w21)))))))) λj8=>Br (s_0.isNone) (j8 true w2) (Ld .str (⟨b1,1,none⟩) w2 λx14=>Ld .str (⟨b2,1,none⟩) w2 λx16=>boxes_Style_Glued.C s_0 x14 x16 w2 λx17 w22=>j8 x17 w22)
theorem boxes_Style_Between.ok (s_0 a_1 b_2 K w) (h:boxes_Style_Between.M s_0 a_1 b_2 K w):boxes_Style_Between.C s_0 a_1 b_2 w K :=
 okS [(14,.one .str),(16,.one .str),(17,.one .bool),(19,.agg [.str,.str,.str,.str,.str]),(20,.agg [.str,.str,.str]),(23,.agg [(.int .i64),.str]),(24,.one .sl),(25,.one .bool),(28,.agg [(.int .i64),.str]),(29,.one .sl),(30,.one .bool)] (.n .z (.n (.j [(18,.one .bool)] [0,4,5] .z .z) .z)) [.pointer s_0,.agg #[.int .i64 a_1.1,.string a_1.2],.agg #[.int .i64 b_2.1,.string b_2.2]] (.one (.int .i64)) rfl rfl h
def boxes_Style_Make.M (s_0:Option Addr) (t_1:Option Addr) (own_2:Sl) (ahead_3:Sl) (K:Option Addr→World→Prop) (w:World):Prop :=
 Join (λ(s1:Bool) w1=>Br s1 (K none w1) (Al (.cells #[.pointer s_0,.pointer t_1,.int .i64 0,.slice own_2.a own_2.n own_2.c,.slice ahead_3.a ahead_3.n ahead_3.c] T.boxes_maker (0,0)) w1 λb2 w2=>boxes_maker_box.C (some (⟨b2,0,none⟩)) 0 w2 λx26 w3=>K x26.1 w3)) λj3=>Br (s_0.isNone) (j3 true w) (j3 (t_1.isNone) w)
theorem boxes_Style_Make.ok (s_0 t_1 own_2 ahead_3 K w) (h:boxes_Style_Make.M s_0 t_1 own_2 ahead_3 K w):boxes_Style_Make.C s_0 t_1 own_2 ahead_3 w K :=
 okS [(26,.tup [.one .ptr,.one .bool])] (.n .z (.n (.j [(17,.one .bool)] [0,1,2,3] .z .z) .z)) [.pointer s_0,.pointer t_1,.slice own_2.a own_2.n own_2.c,.slice ahead_3.a ahead_3.n ahead_3.c] (.one .ptr) rfl rfl h
def slices_SortedFunc_sets_Symbol.M (seq_0:Value) (cmp_1:Value) (K:Sl→World→Prop) (w:World):Prop :=
 slices_Collect_sets_Symbol.C seq_0 w λx7 w1=>slices_SortFunc_sets_Symbol.C x7 cmp_1 w1 λx10 w2=>K x7 w2
theorem slices_SortedFunc_sets_Symbol.ok (seq_0 cmp_1 K w) (h:slices_SortedFunc_sets_Symbol.M seq_0 cmp_1 K w):slices_SortedFunc_sets_Symbol.C seq_0 cmp_1 w K :=
 okS [(7,.one .sl),(10,.tup [])] .z [seq_0,cmp_1] (.one .sl) rfl rfl h
def table_symbols_S1.M (a_0:Bool × Int) (b_1:Bool × Int) (K:Int→World→Prop) (w:World):Prop :=
 Al (.cells #[.bool a_0.1,.int .i64 a_0.2] T.sets_Symbol (0,0)) w λb1 w1=>Al (.cells #[.bool b_1.1,.int .i64 b_1.2] T.sets_Symbol (0,0)) w1 λb2 w2=>Ld .bool (⟨b1,0,none⟩) w2 λx6=>Ld .bool (⟨b2,0,none⟩) w2 λx8=>Br (!(x6==x8)) (Ld .bool (⟨b2,0,none⟩) w2 λx11=>Br x11 (K (-1) w2) (K 1 w2)) (Ld (.int .i64) (⟨b1,1,none⟩) w2 λx13=>Ld (.int .i64) (⟨b2,1,none⟩) w2 λx15=>cmp_Compare.C x13 x15 w2 λx16 w3=>K x16 w3)
theorem table_symbols_S1.ok (a_0 b_1 K w) (h:table_symbols_S1.M a_0 b_1 K w):table_symbols_S1.C a_0 b_1 w K :=
 okS [(6,.one .bool),(8,.one .bool),(11,.one .bool),(13,.one (.int .i64)),(15,.one (.int .i64)),(16,.one (.int .i64))] .z [.agg #[.bool a_0.1,.int .i64 a_0.2],.agg #[.bool b_1.1,.int .i64 b_1.2]] (.one (.int .i64)) rfl rfl h
def cmp_Compare.M (x_0:Int) (y_1:Int) (K:Int→World→Prop) (w:World):Prop :=
 cmp_isNaN.C x_0 w λx8 w1=>cmp_isNaN.C y_1 w1 λx10 w2=>Br x8 (Br x10 (K 0 w2) (K (-1) w2)) (Br x10 (K 1 w2) (Br (decide (x_0 < y_1)) (K (-1) w2) (Br (decide (y_1 < x_0)) (K 1 w2) (K 0 w2))))
theorem cmp_Compare.ok (x_0 y_1 K w) (h:cmp_Compare.M x_0 y_1 K w):cmp_Compare.C x_0 y_1 w K :=
 okS [(8,.one .bool),(10,.one .bool)] .z [.int .i64 x_0,.int .i64 y_1] (.one (.int .i64)) rfl rfl h
def items_compare.M (a_0:Int × Int × Int) (b_1:Int × Int × Int) (K:Int→World→Prop) (w:World):Prop :=
 Al (.cells #[.int .i64 a_0.1,.int .i64 a_0.2.1,.int .i64 a_0.2.2] T.items_Item (0,0)) w λb1 w1=>Al (.cells #[.int .i64 b_1.1,.int .i64 b_1.2.1,.int .i64 b_1.2.2] T.items_Item (0,0)) w1 λb2 w2=>Draw w2 λS3 w3=>LdS S3 (.int .i64) (⟨b1,0,none⟩) λx6=>LdS S3 (.int .i64) (⟨b2,0,none⟩) λx8=>LdS S3 (.int .i64) (⟨b1,1,none⟩) λx11=>LdS S3 (.int .i64) (⟨b2,1,none⟩) λx13=>LdS S3 (.int .i64) (⟨b1,2,none⟩) λx16=>LdS S3 (.int .i64) (⟨b2,2,none⟩) λx18=>cmp_Compare.C x6 x8 w3 λx9 w4=>(S3 w4∧cmp_Compare.C x11 x13 w4 λx14 w5=>(S3 w5∧cmp_Compare.C x16 x18 w5 λx19 w6=>(S3 w6∧Al (.cells #[.int .i64 x9,.int .i64 x14,.int .i64 x19] T.int (0,0)) w6 λb4 w7=>(S3 w7∧cmp_Or.C (⟨(some ⟨b4,0,none⟩),3,3⟩) w7 λx21 w8=>(S3 w8∧K x21 w8)))))
theorem items_compare.ok (a_0 b_1 K w) (h:items_compare.M a_0 b_1 K w):items_compare.C a_0 b_1 w K :=
 okS [(6,.one (.int .i64)),(8,.one (.int .i64)),(9,.one (.int .i64)),(11,.one (.int .i64)),(13,.one (.int .i64)),(14,.one (.int .i64)),(16,.one (.int .i64)),(18,.one (.int .i64)),(19,.one (.int .i64)),(21,.one (.int .i64))] .z [.agg #[.int .i64 a_0.1,.int .i64 a_0.2.1,.int .i64 a_0.2.2],.agg #[.int .i64 b_1.1,.int .i64 b_1.2.1,.int .i64 b_1.2.2]] (.one (.int .i64)) rfl rfl h
def cmp_isNaN.M (x_0:Int) (K:Bool→World→Prop) (w:World):Prop :=
 K (x_0 != x_0) w
theorem cmp_isNaN.ok (x_0 K w) (h:cmp_isNaN.M x_0 K w):cmp_isNaN.C x_0 w K :=
 okS [] .z [.int .i64 x_0] (.one .bool) rfl rfl h
def cmp_Or.M (vals_0:Sl) (K:Int→World→Prop) (w:World):Prop :=
 Loop (λ(s1:Int) w1 again2=>Br (decide (s1 < (vals_0.n:Int))) (IdxS vals_0 s1 1 λp10=>Ld (.int .i64) p10 w1 λx11=>Br (x11 != (0:Int)) (K x11 w1) (again2 (w64 (s1 + (1:Int))) w1)) (K 0 w1)) 0 w
theorem cmp_Or.ok (vals_0 K w) (h:cmp_Or.M vals_0 K w):cmp_Or.C vals_0 w K :=
 okS [(11,.one (.int .i64))] (.n .z (.n .z (.n (.n .z (.l [(8,.one (.int .i64))] [3,6,7] .z)) .z))) [.slice vals_0.a vals_0.n vals_0.c] (.one (.int .i64)) rfl rfl h
def slices_SortedFunc_items_Item.M (seq_0:Value) (cmp_1:Value) (K:Sl→World→Prop) (w:World):Prop :=
 slices_Collect_items_Item.C seq_0 w λx7 w1=>slices_SortFunc_items_Item.C x7 cmp_1 w1 λx10 w2=>K x7 w2
theorem slices_SortedFunc_items_Item.ok (seq_0 cmp_1 K w) (h:slices_SortedFunc_items_Item.M seq_0 cmp_1 K w):slices_SortedFunc_items_Item.C seq_0 cmp_1 w K :=
 okS [(7,.one .sl),(10,.tup [])] .z [seq_0,cmp_1] (.one .sl) rfl rfl h
def nfa_set_sorted.M (s_0:Option Nat) (K:Sl→World→Prop) (w:World):Prop :=
 maps_Keys.C s_0 w λx4 w1=>slices_Sorted.C x4 w1 λx5 w2=>K x5 w2
theorem nfa_set_sorted.ok (s_0 K w) (h:nfa_set_sorted.M s_0 K w):nfa_set_sorted.C s_0 w K :=
 okS [(4,.one .raw),(5,.one .sl)] .z [.map s_0] (.one .sl) rfl rfl h
end Go.Fk
end
end
