/-
  A part of the proof: what the functions of the program come to, read off the model: no premise of its own, no axiom. Blank space is spared. By an AI agent.
-/
import Derived.OrdersHeld
import Derived.LoopN
import Derived.KernelRfl
import Derived.Deep.RegionHeld
import Derived.Laws.StructEq
import Derived.Tactics
import Derived.Below
import Derived.IntWalk
import Derived.Maps.AppendAt
import Derived.Carry
import Derived.ProofKit
import Derived.SliceStrings
import Derived.Test.YtihllmhdjbomjaaGreatDoorProg
set_option linter.all false
set_option maxRecDepth 100000
noncomputable section
section
namespace Go.Fk
open Go
theorem kA {α:Type _} {l:List α} {i:Nat} {a:α} (h:l[i]?=some a):∃ h:i<l.length,l[i]=a:=List.getElem?_eq_some_iff.1 h
theorem kB {n m:Nat} (h:Nat.beq n m=true):n=m:=Nat.eq_of_beq_eq_true h
theorem kC {α:Type _} {l:List α} {i:Nat} (h:i<l.length):l[i]?=some l[i]:=List.getElem?_eq_getElem h
theorem kD {α:Type _} {l:List α} {i:Nat} {a:α} (h:l[i]?=some a):a∈l:=List.mem_of_getElem? h
theorem kE {α β:Type _} {f:α→β} {x:Option α} {b:β} (h:x.map f=some b):∃ a,x=some a∧f a=b:=Option.map_eq_some_iff.1 h
theorem kF {p:Prop} [inst:Decidable p] (h:decide p=false):¬p:=of_decide_eq_false h
theorem kG {p:Prop} [inst:Decidable p] (h:decide p=true):p:=of_decide_eq_true h
structure Sl where
 a:Option Addr
 n:Nat
 c:Nat
inductive Ty where
 | int (k:IntKind) | bool | str | ptr | addr | sl | map | raw
@[reducible] def Ty.T:Ty→Type
 | .int _=>Int
 | .bool=>Bool
 | .str=>ByteArray
 | .ptr=>Option Addr
 | .addr=>Addr
 | .sl=>Sl
 | .map=>Option Nat
 | .raw=>Value
def Ty.enc:(t:Ty)→t.T→Value
 | .int k,x=>.int k x
 | .bool,x=>.bool x
 | .str,x=>.string x
 | .ptr,x=>.pointer x
 | .addr,x=>.pointer (some x)
 | .sl,x=>.slice x.a x.n x.c
 | .map,x=>.map x
 | .raw,x=>x
def Ty.dec:(t:Ty)→Value→Option t.T
 | .int k,.int k' x=>if k=k' then some x else none
 | .bool,.bool x=>some x
 | .str,.string x=>some x
 | .ptr,.pointer x=>some x
 | .addr,.pointer (some x)=>some x
 | .sl,.slice a n c=>some ⟨a,n,c⟩
 | .map,.map x=>some x
 | .raw,x=>some x
 | _,_=>none
theorem Ty.dec_sound {t:Ty} {v:Value} {x:t.T} (h:t.dec v=some x):v=t.enc x:=by
 cases t <;> cases v <;> simp [Ty.dec,Ty.enc] at h ⊢ <;> try first | exact h | (obtain⟨rfl,rfl⟩:=h;exact⟨rfl,rfl⟩) | (subst h;simp;done) | (simp_all;done)
 rename_i a
 cases a <;> simp_all
inductive RTy where
 | one (t:Ty)
 | agg (ts:List Ty)
 | big
 | tup (ts:List RTy)
@[reducible] def Tys:List Ty→Type
 | []=>Unit
 | [t]=>t.T
 | t::ts=>t.T × Tys ts
def Tys.enc:(ts:List Ty)→Tys ts→List Value
 | [],_=>[]
 | [t],x=>[t.enc x]
 | t::u::ts,x=>t.enc x.1::Tys.enc (u::ts) x.2
mutual
@[reducible] def RTy.T:RTy→Type
 | .one t=>t.T
 | .agg ts=>Tys ts
 | .big=>Array Value
 | .tup ts=>RTy.Ts ts
@[reducible] def RTy.Ts:List RTy→Type
 | []=>Unit
 | [t]=>t.T
 | t::u::ts=>t.T × RTy.Ts (u::ts)
end
mutual
def RTy.enc:(t:RTy)→t.T→Value
 | .one t,x=>t.enc x
 | .agg ts,x=>.agg (Tys.enc ts x).toArray
 | .big,x=>.agg x
 | .tup ts,x=>.tuple (RTy.encs ts x).toArray
def RTy.encs:(ts:List RTy)→RTy.Ts ts→List Value
 | [],_=>[]
 | [t],x=>[t.enc x]
 | t::u::ts,x=>t.enc x.1::RTy.encs (u::ts) x.2
end
def Tys.dec:(ts:List Ty)→List Value→Option (Tys ts)
 | [],[]=>some ()
 | [t],[v]=>t.dec v
 | t::u::ts,v::vs=>match t.dec v with
  | some x=>match Tys.dec (u::ts) vs with
   | some r=>some (x,r)
   | none=>none
  | none=>none
 | _,_=>none
theorem Tys.dec_sound:∀ (ts:List Ty) (vs:List Value) (x:Tys ts),Tys.dec ts vs=some x→vs=Tys.enc ts x
 | [],[],x,h=>rfl
 | [],v::vs,x,h=>by simp [Tys.dec] at h
 | [t],[],x,h=>by simp [Tys.dec] at h
 | [t],[v],x,h=>by simp only [Tys.dec] at h;rw [Ty.dec_sound h];rfl
 | [t],v::u::vs,x,h=>by simp [Tys.dec] at h
 | t::u::ts,[],x,h=>by simp [Tys.dec] at h
 | t::u::ts,v::vs,x,h=>by
  simp only [Tys.dec] at h
  split at h <;> try (cases h;done)
  rename_i y hy
  split at h <;> try (cases h;done)
  rename_i r hr
  simp at h;subst h
  rw [Ty.dec_sound hy,Tys.dec_sound _ _ _ hr];rfl
mutual
def RTy.dec:(t:RTy)→Value→Option t.T
 | .one t,v=>t.dec v
 | .agg ts,.agg cs=>Tys.dec ts cs.toList
 | .big,.agg cs=>some cs
 | .tup ts,.tuple vs=>RTy.decs ts vs.toList
 | _,_=>none
def RTy.decs:(ts:List RTy)→List Value→Option (RTy.Ts ts)
 | [],[]=>some ()
 | [t],[v]=>t.dec v
 | t::u::ts,v::vs=>match t.dec v with
  | some x=>match RTy.decs (u::ts) vs with
   | some r=>some (x,r)
   | none=>none
  | none=>none
 | _,_=>none
end
mutual
theorem RTy.dec_sound:∀ (t:RTy) (v:Value) (x:t.T),t.dec v=some x→v=t.enc x
 | .one t,v,x,h=>by simp only [RTy.dec] at h;exact Ty.dec_sound h
 | .agg ts,v,x,h=>by
  cases v <;> simp only [RTy.dec] at h <;> try (cases h;done)
  have:=Tys.dec_sound _ _ _ h
  simp only [RTy.enc,← this]
 | .big,v,x,h=>by
  cases v <;> simp only [RTy.dec] at h <;> try (cases h;done)
  simp at h;subst h;rfl
 | .tup ts,v,x,h=>by
  cases v <;> simp only [RTy.dec] at h <;> try (cases h;done)
  have:=RTy.decs_sound _ _ _ h
  simp only [RTy.enc,← this]
theorem RTy.decs_sound:∀ (ts:List RTy) (vs:List Value) (x:RTy.Ts ts),RTy.decs ts vs=some x→vs=RTy.encs ts x
 | [],[],x,h=>rfl
 | [],v::vs,x,h=>by simp [RTy.decs] at h
 | [t],[],x,h=>by simp [RTy.decs] at h
 | [t],[v],x,h=>by simp only [RTy.decs] at h;rw [RTy.dec_sound _ _ _ h];rfl
 | [t],v::u::vs,x,h=>by simp [RTy.decs] at h
 | t::u::ts,[],x,h=>by simp [RTy.decs] at h
 | t::u::ts,v::vs,x,h=>by
  simp only [RTy.decs] at h
  split at h <;> try (cases h;done)
  rename_i y hy
  split at h <;> try (cases h;done)
  rename_i r hr
  simp at h;subst h
  rw [RTy.dec_sound _ _ _ hy,RTy.decs_sound _ _ _ hr];rfl
end
abbrev Env:=List (Nat × Value)
def find (t:Nat):Env→Option Value
 | []=>none
 | (s,v)::r=>match Nat.beq s t with | true=>some v | false=>find t r
def ev (e:Env):Operand→Option Value
 | .tmp t=>find t e
 | .const v=>some v
 | .global g=>some (.pointer (some ⟨g,0,none⟩))
 | .func f=>some (.func (.func f) #[] #[])
def rho (e:Env) (x:Operand):Value:=match ev e x with | some v=>v | none=>undef
def known (e:Env) (op:Op):Bool:=op.operands.toList.all λx=>(ev e x).isSome
structure Ag (n:Nat) (e:Env) (a:Act):Prop where
 size:a.tmps.size=n
 defers:a.defers=[]
 get:∀ t v,find t e=some v→a.tmps.getD t undef=v
theorem ev_sound {n:Nat} {e:Env} {a:Act} (h:Ag n e a) {x:Operand} {v:Value} (hx:ev e x=some v):a.eval x=v:=by
 cases x <;> simp only [ev] at hx
 ·exact h.get _ _ hx
 ·simp at hx;subst hx;rfl
 ·simp at hx;subst hx;rfl
 ·simp at hx;subst hx;rfl
theorem rho_sound {n:Nat} {e:Env} {a:Act} (h:Ag n e a) {x:Operand} (hx:(ev e x).isSome=true):a.eval x=rho e x:=by
 obtain⟨v,hv⟩:=Option.isSome_iff_exists.1 hx
 rw [ev_sound h hv];simp [rho,hv]
theorem Ag.put {n:Nat} {e:Env} {a:Act} (h:Ag n e a) {d:Nat} {v:Value} (hd:d < n):Ag n ((d,v)::e) (a.put (some d) v):=by
 refine⟨by simp [Act.put,h.size],by simp [Act.put,h.defers],λt u hu=>?_⟩
 have hs:=h.size
 simp only [find] at hu
 cases hb:Nat.beq d t with
 | true =>
  have:=kB hb
  subst this
  simp [hb] at hu
  subst hu
  simp [Act.put,Array.getD_eq_getD_getElem?,hs,hd]
 | false =>
  have hne:=Nat.ne_of_beq_eq_false hb
  simp [hb] at hu
  have:=h.get _ _ hu
  simp only [Act.put,Array.getD_eq_getD_getElem?] at this ⊢
  rw [Array.getElem?_setIfInBounds_ne hne]
  exact this
theorem Ag.cons_same {n:Nat} {e:Env} {a:Act} (h:Ag n e a) {d:Nat} {v:Value} (hv:a.tmps.getD d undef=v):Ag n ((d,v)::e) a:=by
 refine⟨h.size,h.defers,λt u hu=>?_⟩
 simp only [find] at hu
 cases hb:Nat.beq d t with
 | true =>
  have:=kB hb
  subst this
  simp [hb] at hu
  rw [hv,hu]
 | false =>
  simp [hb] at hu
  exact h.get _ _ hu
def w64 (x:Int):Int:=IntKind.i64.wrap x
def bAnd (k:IntKind) (x y:Int):Int:=k.wrap (BitVec.ofInt k.bits x &&& BitVec.ofInt k.bits y).toNat
def bOr (k:IntKind) (x y:Int):Int:=k.wrap (BitVec.ofInt k.bits x ||| BitVec.ofInt k.bits y).toNat
def bXor (k:IntKind) (x y:Int):Int:=k.wrap (BitVec.ofInt k.bits x ^^^ BitVec.ofInt k.bits y).toNat
def bAndNot (k:IntKind) (x y:Int):Int:=k.wrap (BitVec.ofInt k.bits x &&& ~~~ BitVec.ofInt k.bits y).toNat
def bNot (k:IntKind) (n:Int):Int:=bXor k (if k.signed then -1 else k.max) n
def Br (b:Bool) (x y:Prop):Prop:=match b with | true=>x | false=>y
theorem Br.out {b:Bool} {x y:Prop} (h:Br b x y):(b=true→x)∧(b=false→y):=by
 cases b
 ·exact And.intro (λe=>nomatch e) (λ_=>h)
 ·exact And.intro (λ_=>h) (λe=>nomatch e)
theorem Br.mk {b:Bool} {x y:Prop} (h:b=true→x) (h':b=false→y):Br b x y:=by
 cases b
 ·exact h' rfl
 ·exact h rfl
def Ld (t:Ty) (a:Addr) (w:World) (k:t.T→Prop):Prop:=∃ x,w.cell? a=some (t.enc x)∧k x
def St (a:Addr) (v:Value) (w:World) (k:World→Prop):Prop:=((w.cell? a).isSome=true∧w.frozen? a=false)∧k (w.setCell a v)
def Al (o:Obj) (w:World) (k:Nat→World→Prop):Prop:=k w.heap.size (w.alloc o)
def NilC (p:Option Addr) (k:Addr→Prop):Prop:=match p with | some a=>k a | none=>False
theorem NilC.out {p:Option Addr} {k:Addr→Prop} (h:NilC p k):∃ a,p=some a∧k a:=by cases p with | none=>exact h.elim | some a=>exact⟨a,rfl,h⟩
def IdxS (s:Sl) (i:Int) (size:Nat) (k:Addr→Prop):Prop:=∃ a,s.a=some a∧(0≤i∧i < s.n)∧k (a.add (i.toNat * size))
def IdxA (n:Nat) (a:Addr) (i:Int) (size:Nat) (k:Addr→Prop):Prop:=(0≤i∧i < n)∧k (a.add (i.toNat * size))
def IdxV (t:Ty) (cs:Array Value) (n:Nat) (i:Int) (k:t.T→Prop):Prop:=(0≤i∧i < n)∧∃ x,cs[i.toNat]?=some (t.enc x)∧k x
def IdxStr (s:ByteArray) (i:Int) (k:UInt8→Prop):Prop:=0≤i∧∃ b,s[i.toNat]?=some b∧k b
def Need (p:Prop) (k:Prop):Prop:=p∧k
def Join {σ:Type} (rest:σ→World→Prop) (body:(σ→World→Prop)→Prop):Prop:=body rest
def Loop {σ:Type} (F:σ→World→(σ→World→Prop)→Prop) (s:σ) (w:World):Prop:=∀ R:σ→World→Prop,(∀ s w,F s w R→R s w)→R s w
def CallF (P:Program) (f:FuncId) (args:Array Value) (rt:RTy) (w:World) (k:rt.T→World→Prop):Prop :=
 Calls P f args w λe w'=>∃ r:rt.T,e=.returned (rt.enc r)∧k r w'
def App (P:Program) (s:Sem Value) (rt:RTy) (w:World) (k:rt.T→World→Prop):Prop:=∃ (r:rt.T) (w':World),s.run P w=.ok (rt.enc r) w'∧k r w'
def enters (P:Program) (F:Nat):Bool:=match P.funcs[F]? with
 | some fn=>match fn.body with
  | some _=>!(fn.name== "runtime.NumGoroutine")
  | none=>false
 | none=>false
def CallV (P:Program) (f:Value) (args:List Value) (rt:RTy) (w:World) (k:rt.T→World→Prop):Prop :=
 ∃ (F:Nat) (first cap:Array Value),f=.func (.func F) first cap∧enters P F=true∧CallF P F ((first.toList++args)++cap.toList).toArray rt w k
def App0 (P:Program) (s:Sem Unit) (w:World) (k:World→Prop):Prop:=∃ w':World,s.run P w=.ok () w'∧k w'
def Good (P:Program) (k:Value→World→Prop):Result Next→Prop
 | .ok (.value v) w'=>k v w'
 | .ok .skip w'=>k undef w'
 | .ok (.enter f args) w'=>Calls P f args w' λe w''=>∃ v,e=.returned v∧k v w''
 | _=>False
def isAggD:TypeDesc→Bool
 | .struct _=>true
 | .array _ _=>true
 | _=>false
def LdCells (a:Addr) (w:World) (k:List Value→Prop):List Ty→Nat→List Value→Prop
 | [],_,acc=>k acc.reverse
 | t::ts,i,acc=>Ld t (a.add i) w λx=>LdCells a w k ts (i + 1) (t.enc x::acc)
def LdA (n:Nat) (a:Addr) (w:World) (k:Array Value→Prop):Prop:=∃ cs:Array Value,(cs.size=n∧∀ i v,cs[i]?=some v→w.cell? (a.add i)=some v)∧k cs
def sLoad (P:Program) (t:TypeId) (x:Value) (h:RTy) (k:Value→Prop) (w:World):Prop :=
 match x with
 | .pointer (some a)=>match P.underlying t,P.info? t with
  | some u,some i=>match isAggD u,h with
   | false,.one ty=>Ld ty a w λx=>k (ty.enc x)
   | true,.agg ts=>match Nat.beq ts.length i.size with
    | true=>LdCells a w (λvs=>k (.agg vs.toArray)) ts 0 []
    | false=>False
   | true,.big=>LdA i.size a w λcs=>k (.agg cs)
   | _,_=>False
  | _,_=>False
 | _=>False
def oneCell:Value→Bool
 | .agg _=>false
 | .tuple _=>false
 | _=>true
def cellsL:Value→List Value
 | .agg cs=>cs.toList
 | v=>[v]
def StCells (a:Addr) (k:World→Prop):List Value→Nat→World→Prop
 | [],_,w=>k w
 | v::vs,i,w=>match oneCell v with
  | true=>St (a.add i) v w λw'=>StCells a k vs (i + 1) w'
  | false=>False
def StA (P:Program) (t:TypeId) (a:Addr) (cs:Array Value) (w:World) (k:World→Prop):Prop:=App0 P (storeVar t a (.agg cs)) w k
def sStore (P:Program) (t:TypeId) (x v:Value) (h:RTy) (k:World→Prop) (w:World):Prop :=
 match x with
 | .pointer (some a)=>match P.info? t with
  | none=>False
  | some i=>match h with
   | .big=>match v with
    | .agg cs=>StA P t a cs w k
    | _=>False
   | _=>match Nat.beq (cellsL v).length i.size with
    | true=>StCells a k (cellsL v) 0 w
    | false=>False
 | _=>False
def cellEq (P:Program) (t:TypeId) (x y:Value):Option Bool :=
 match P.underlying t,x,y with
 | some (.int _),.int κ a,.int κ' b=>if κ=κ' then some (a==b) else none
 | some .bool,.bool a,.bool b=>some (a==b)
 | some .string,.string a,.string b=>some (a.toList==b.toList)
 | _,_,_=>none
def recEq (P:Program):List Field→List Value→List Value→Nat→Option Bool
 | [],_,_,_=>some true
 | [f],x::_,y::_,i=>match Nat.beq f.offset i,f.name== "_" with
  | true,false=>cellEq P f.type x y
  | _,_=>none
 | f::g::fs,x::xs,y::ys,i=>match Nat.beq f.offset i,f.name== "_" with
  | true,false=>match cellEq P f.type x y,recEq P (g::fs) xs ys (i + 1) with
   | some a,some b=>some (a&&b)
   | _,_=>none
  | _,_=>none
 | _,_,_,_=>none
def recEqT (P:Program) (t:TypeId) (xs ys:Array Value):Option Bool :=
 match P.underlying t with
 | some (.struct fs)=>match P.stoodInHeld t with
  | false=>recEq P fs.toList xs.toList ys.toList 0
  | true=>none
 | _=>none
def sBin (P:Program) (op:BinOp) (t:TypeId) (x y:Value) (ynil:Bool) (k:Value→Prop) (alt:Prop):Prop :=
 match x,y with
 | .int κ a,.int κ' b =>
  match op with
  | .shl=>Need (0≤b) (k (.int κ (κ.wrap (a * 2 ^ min b.toNat κ.bits))))
  | .shr=>Need (0≤b) (k (.int κ (a.fdiv (2 ^ min b.toNat κ.bits))))
  | op=>if κ=κ' then
   match op with
   | .add=>k (.int κ (κ.wrap (a + b)))
   | .sub=>k (.int κ (κ.wrap (a - b)))
   | .mul=>k (.int κ (κ.wrap (a * b)))
   | .quo=>Need (b≠0) (k (.int κ (κ.wrap (a.tdiv b))))
   | .rem=>Need (b≠0) (k (.int κ (a.tmod b)))
   | .eql=>k (.bool (a==b))
   | .neq=>k (.bool (a != b))
   | .lss=>k (.bool (a < b))
   | .leq=>k (.bool (a≤b))
   | .gtr=>k (.bool (b < a))
   | .geq=>k (.bool (b≤a))
   | .and=>k (.int κ (bAnd κ a b))
   | .or=>k (.int κ (bOr κ a b))
   | .xor=>k (.int κ (bXor κ a b))
   | .andNot=>k (.int κ (bAndNot κ a b))
   | _=>alt
   else False
 | .string a,.string b =>
  match op with
  | .eql=>k (.bool (a.toList==b.toList))
  | .neq=>k (.bool (!(a.toList==b.toList)))
  | .add=>Need (((a.size + b.size:Nat):Int)≤IntKind.i64.max) (k (.string (a++b)))
  | _=>alt
 | .bool a,.bool b =>
  match op,P.underlying t with
  | .eql,some .bool=>k (.bool (a==b))
  | .neq,some .bool=>k (.bool (!(a==b)))
  | _,_=>False
 | .pointer a,.pointer _ =>
  match ynil with
  | true=>match op,P.underlying t with
   | .eql,some (.pointer _)=>k (.bool a.isNone)
   | .neq,some (.pointer _)=>k (.bool (!a.isNone))
   | _,_=>False
  | false=>alt
 | .agg xs,.agg ys =>
  match recEqT P t xs ys with
  | some b=>match op with
   | .eql=>k (.bool b)
   | .neq=>k (.bool (!b))
   | _=>alt
  | none=>alt
 | .slice a _ _,.slice _ _ _ =>
  match ynil with
  | true=>match op,P.underlying t with
   | .eql,some (.slice _)=>k (.bool a.isNone)
   | .neq,some (.slice _)=>k (.bool (!a.isNone))
   | _,_=>False
  | false=>alt
 | .map a,.map _ =>
  match ynil with
  | true=>match op,P.underlying t with
   | .eql,some (.map _ _)=>k (.bool a.isNone)
   | .neq,some (.map _ _)=>k (.bool (!a.isNone))
   | _,_=>False
  | false=>alt
 | _,_=>alt
def isNilC:Operand→Bool
 | .const (.pointer none)=>true
 | .const (.slice none _ _)=>true
 | .const (.map none)=>true
 | _=>false
def hintOf (d:Option Nat):List (Nat × RTy)→RTy
 | []=>.one .raw
 | (s,r)::l=>match d with
  | some t=>match Nat.beq s t with | true=>r | false=>hintOf d l
  | none=>.one .raw
def decided (t:Nat):List (Nat × Bool)→Option Bool
 | []=>none
 | (s,b)::l=>match Nat.beq s t with | true=>some b | false=>decided t l
def Nxt (P:Program) (s:Sem Value) (kt vt:Ty) (w:World) (k0:World→Prop) (k1:kt.T→vt.T→World→Prop):Prop :=
 ∃ w',(s.run P w=.ok (.tuple #[.bool false]) w'∧k0 w')∨∃ x y,s.run P w=.ok (.tuple #[.bool true,kt.enc x,vt.enc y]) w'∧k1 x y w'
def Run (P:Program) (o:Oper) (e:Env) (k:Value→World→Prop) (w:World):Prop:=Good P k ((execOp (rho e) o).run P w)
def semOp (P:Program) (H:List (Nat × RTy)) (g:List (Nat × Bool)) (o:Oper) (e:Env) (k:Value→World→Prop) (w:World):Prop :=
 match known e o.op with
 | false=>False
 | true=>match o.op with
  | .move x=>k (rho e x) w
  | .assign x=>k (rho e x) w
  | .pick c a b=>match (match c with | .tmp t=>decided t g | _=>none) with
   | some x=>match rho e c with
    | .bool y=>match y,x with
     | true,true=>k (rho e a) w
     | false,false=>k (rho e b) w
     | _,_=>False
    | _=>False
   | none=>match rho e c,rho e a,rho e b with
    | .bool x,.bool p,.bool q=>k (.bool (match x with | true=>p | false=>q)) w
    | _,_,_=>False
  | .load t a=>sLoad P t (rho e a) (hintOf o.dst H) (λv=>k v w) w
  | .store t a x=>sStore P t (rho e a) (rho e x) (match rho e x with | .agg _=>(match x with | .tmp d=>hintOf (some d) H | _=>.one .raw) | _=>.one .raw) (k undef) w
  | .nilCheck x=>match rho e x with
   | .pointer p=>NilC p λa=>k (.pointer (some a)) w
   | _=>False
  | .binOp op t x y _=>sBin P op t (rho e x) (rho e y) (isNilC y) (λv=>k v w) (App P (do eqGuard op t x y (rho e x) (rho e y);binOp op t (rho e x) (rho e y)) (hintOf o.dst H) w λr w'=>k ((hintOf o.dst H).enc r) w')
  | .indexAddr t x i=>match rho e x,rho e i,P.underlying t with
   | .slice a n c,.int _ j,some (.slice el)=>match P.info? el with
    | some inf=>IdxS ⟨a,n,c⟩ j inf.size λp=>k (.pointer (some p)) w
    | none=>False
   | .pointer (some a),.int _ j,some (.array n el)=>match P.info? el with
    | some inf=>IdxA n a j inf.size λp=>k (.pointer (some p)) w
    | none=>False
   | _,_,_=>False
  | .index t x i=>match rho e x,rho e i,P.underlying t with
   | .string s,.int _ j,some .string=>IdxStr s j λb=>k (.int .u8 b.toNat) w
   | .agg cs,.int _ j,some (.array n el)=>match P.underlying el,P.info? el,hintOf o.dst H with
    | some u,some inf,.one ty=>match isAggD u,Nat.beq inf.size 1 with
     | false,true=>IdxV ty cs n j λx=>k (ty.enc x) w
     | _,_=>False
    | _,_,_=>False
   | _,_,_=>False
  | .next it str=>match hintOf o.dst H with
   | .tup [.one .bool,.one kt,.one vt]=>Nxt P (Instr.next (rho e it) str o.type) kt vt w (λw'=>k (.tuple #[.bool false]) w') λx y w'=>k (.tuple #[.bool true,kt.enc x,vt.enc y]) w'
   | _=>False
  | .call { callee:=.value (.func F),args,.. }=>match enters P F with
   | true=>CallF P F (args.toList.map (rho e)).toArray (hintOf o.dst H) w λr w'=>k ((hintOf o.dst H).enc r) w'
   | false=>False
  | .call { callee:=.value f,args,.. }=>CallV P (rho e f) (args.toList.map (rho e)) (hintOf o.dst H) w λr w'=>k ((hintOf o.dst H).enc r) w'
  | .build t ps=>match hintOf o.dst H with
   | .big=>App P (Instr.build t (ps.map λ(i,x)=>(i,rho e x))) .big w λr w'=>k (RTy.enc .big r) w'
   | _=>Run P o e k w
  | .buildSlice t n ps=>match hintOf o.dst H with
   | .one .sl=>App P (Instr.buildSlice t n (ps.map λ(i,x)=>(i,rho e x))) (.one .sl) w λr w'=>k (Ty.sl.enc r) w'
   | _=>Run P o e k w
  | .field t x f=>match hintOf o.dst H with
   | .one .raw=>Run P o e k w
   | r=>App P (Instr.field t (rho e x) f) r w λx w'=>k (r.enc x) w'
  | .call { callee:=.builtin .append,argTypes,args }=>App P (Builtin.append_ argTypes o.type (args.map (rho e))) (.one .sl) w λr w'=>k (Ty.sl.enc r) w'
  | .call { callee:=.builtin .copy,argTypes,args }=>App P (Builtin.copy_ argTypes o.type (args.map (rho e))) (.one (.int .i64)) w λr w'=>k ((Ty.int .i64).enc r) w'
  | .call { callee:=.builtin .max,argTypes,args }=>App P (Builtin.max_ argTypes o.type (args.map (rho e))) (hintOf o.dst H) w λr w'=>k ((hintOf o.dst H).enc r) w'
  | .call { callee:=.builtin .min,argTypes,args }=>App P (Builtin.min_ argTypes o.type (args.map (rho e))) (hintOf o.dst H) w λr w'=>k ((hintOf o.dst H).enc r) w'
  | .lookup t x i ok=>App P (Instr.lookup t (rho e x) (rho e i) ok) (hintOf o.dst H) w λr w'=>k ((hintOf o.dst H).enc r) w'
  | .entry it=>App P (Instr.entry (rho e it)) (hintOf o.dst H) w λr w'=>k ((hintOf o.dst H).enc r) w'
  | .range t x=>App P (Instr.range t (rho e x)) (.one .ptr) w λr w'=>k (Ty.ptr.enc r) w'
  | .makeSlice t l c=>App P (Instr.makeSlice t (rho e l) (rho e c)) (.one .sl) w λr w'=>k (Ty.sl.enc r) w'
  | .slice t x lo hi mx=>App P (Instr.sliceAt t (rho e x) (lo.map (rho e)) (hi.map (rho e)) (mx.map (rho e))) (hintOf o.dst H) w λr w'=>k ((hintOf o.dst H).enc r) w'
  | .mapUpdate t m x y=>App0 P (Instr.mapUpdate t (rho e m) (rho e x) (rho e y)) w λw'=>k undef w'
  | .insert t m x y=>App0 P (Instr.mapUpdate t (rho e m) (rho e x) (rho e y)) w λw'=>k undef w'
  | .convert s d x=>match rho e x with
   | .int _ _=>Run P o e k w
   | _=>App P (convert s d (rho e x)) (hintOf o.dst H) w λr w'=>k ((hintOf o.dst H).enc r) w'
  | .call { callee:=.builtin .len,argTypes,args }=>match args.toList with
   | [x]=>match rho e x with
    | .map _=>App P (Builtin.len_ argTypes o.type (args.map (rho e))) (.one (.int .i64)) w λr w'=>k ((Ty.int .i64).enc r) w'
    | _=>Run P o e k w
   | _=>False
  | .call { callee:=.builtin .clear,argTypes,args }=>App P (Builtin.clear_ argTypes o.type (args.map (rho e))) (.tup []) w λr w'=>k ((RTy.tup []).enc r) w'
  | .select _ _=>False
  | _=>Run P o e k w
variable {P:Program}
theorem good_v {s:Sem Value} {w w':World} {v:Value} {k:Value→World→Prop} (h:s.run P w=.ok v w') (hk:k v w') :
  Good P k ((do pure (Next.value (← s)):Sem Next).run P w):=by
 simp only [Sem.run_bind,h,Result.andThen_ok,Sem.run_pure,Good];exact hk
theorem good_u {s:Sem Unit} {w w':World} {k:Value→World→Prop} (h:s.run P w=.ok () w') (hk:k undef w') :
  Good P k ((do s;pure Next.skip:Sem Next).run P w):=by
 simp only [Sem.run_bind,h,Result.andThen_ok,Sem.run_pure,Good];exact hk
theorem good_app {s:Sem Value} {rt:RTy} {w:World} {k:Value→World→Prop} (h:App P s rt w λr w'=>k (rt.enc r) w') :
  Good P k ((do pure (Next.value (← s)):Sem Next).run P w):=by
 obtain⟨r,w',h1,h2⟩:=h;exact good_v h1 h2
theorem good_app0 {s:Sem Unit} {w:World} {k:Value→World→Prop} (h:App0 P s w λw'=>k undef w') :
  Good P k ((do s;pure Next.skip:Sem Next).run P w):=by
 obtain⟨w',h1,h2⟩:=h;exact good_u h1 h2
theorem run_underlying' {t:TypeId} {d:TypeDesc} (w:World) (h:P.underlying t=some d):(underlying t).run P w=.ok d w:=by
 simp only [underlying,Sem.run_bind,run_program,Result.andThen_ok,h,Sem.run_pure]
theorem run_typeInfo' {t:TypeId} {d:TypeInfo} (w:World) (h:P.info? t=some d):(typeInfo t).run P w=.ok d w:=by
 simp only [typeInfo,Sem.run_bind,run_program,Result.andThen_ok,h,Sem.run_pure]
theorem run_sizeOf' {t:TypeId} {d:TypeInfo} (w:World) (h:P.info? t=some d):(sizeOf t).run P w=.ok d.size w:=by
 simp only [sizeOf,Sem.run_bind,run_typeInfo' w h,Result.andThen_ok,Sem.run_pure]
theorem run_isAgg' {t:TypeId} {d:TypeDesc} (w:World) (h:P.underlying t=some d):(isAgg t).run P w=.ok (isAggD d) w:=by
 simp only [isAgg,Sem.run_bind,run_underlying' w h,Result.andThen_ok]
 cases d <;> rfl
theorem ldCells_ok {a:Addr} {w:World} {k:List Value→Prop}:∀ (ts:List Ty) (i:Nat) (acc:List Value),LdCells a w k ts i acc →
  ∃ vs:List Value,vs.length=ts.length∧(∀ j v,vs[j]?=some v→w.cell? (a.add (i + j))=some v)∧k (acc.reverse++vs)
 | [],i,acc,h=>⟨[],rfl,by simp,by simpa [LdCells] using h⟩
 | t::ts,i,acc,⟨x,h1,h2⟩=>by
  obtain⟨vs,e1,e2,e3⟩:=ldCells_ok ts (i + 1) _ h2
  refine⟨t.enc x::vs,by simp [e1],λj v hj=>?_,by simpa using e3⟩
  cases j with
  | zero=>simp at hj;subst hj;simpa using h1
  | succ j=>simp at hj;have:=e2 j v hj;rwa [show i + 1 + j=i + (j + 1) from by omega] at this
theorem sLoad_ok {t:TypeId} {x:Value} {h:RTy} {k:Value→Prop} {w:World} (H:sLoad P t x h k w):∃ v,(Instr.loadAt t x).run P w=.ok v w∧k v:=by
 unfold sLoad at H
 split at H <;> try exact H.elim
 rename_i a
 split at H <;> try exact H.elim
 rename_i u i hu hi
 have key:(Instr.loadAt t (.pointer (some a))).run P w=(if isAggD u then (loadCells a i.size >>= λcs=>pure (Value.agg cs)) else load a).run P w:=by
  simp only [Instr.loadAt,Instr.sureAddr,Sem.run_bind,Sem.run_pure,Result.andThen_ok,loadVar,run_isAgg' w hu]
  cases isAggD u <;> simp [run_sizeOf' w hi]
 rw [key]
 split at H <;> try exact H.elim
 ·rename_i ty hd
  obtain⟨x,h1,h2⟩:=H
  exact⟨_,by simp [hd,h1],h2⟩
 ·rename_i ts hd
  split at H <;> try exact H.elim
  rename_i hl
  obtain⟨vs,e1,e2,e3⟩:=ldCells_ok _ _ _ H
  have hl':vs.length=i.size:=by rw [e1];exact kB hl
  have:=run_loadCells_list (P:=P) w a vs (λj v hj=>by simpa using e2 j v hj)
  rw [hl'] at this
  exact⟨.agg vs.toArray,by simp [hd,this],by simpa using e3⟩
 ·rename_i hd
  obtain⟨cs,⟨h1,h2⟩,h3⟩:=H
  have:=run_loadCells_list (P:=P) w a cs.toList (λj v hj=>h2 j v (by simpa using hj))
  simp only [Array.length_toList,h1] at this
  exact⟨.agg cs,by simp [hd,this],by simpa using h3⟩
theorem stCells_ok {a:Addr} {k:World→Prop}:∀ (vs:List Value) (i:Nat) (w:World),StCells a k vs i w→∃ w',(storeCells a vs i).run P w=.ok () w'∧k w'
 | [],i,w,h=>⟨w,rfl,h⟩
 | v::vs,i,w,h=>by
  unfold StCells at h
  split at h <;> try exact h.elim
  rename_i h1
  obtain⟨⟨hc,hf⟩,h2⟩:=h
  obtain⟨w',e1,e2⟩:=stCells_ok vs (i + 1) _ h2
  obtain⟨u,hu⟩:=Option.isSome_iff_exists.1 hc
  refine⟨w',?_,e2⟩
  have h1':v.oneCell'=true:=by cases v <;> simp_all [oneCell,Value.oneCell']
  simp only [storeCells,Sem.run_bind,run_store P w _ v _ h1',hu,hf,Result.andThen_ok]
  simpa using e1
theorem cellsL_eq (v:Value):cellsL v=v.cells.toList:=by cases v <;> rfl
theorem sStore_ok {t:TypeId} {x v:Value} {h:RTy} {k:World→Prop} {w:World} (H:sStore P t x v h k w):∃ w',(Instr.storeAt t x v).run P w=.ok () w'∧k w':=by
 unfold sStore at H
 split at H <;> try exact H.elim
 split at H <;> try exact H.elim
 rename_i a i hi
 split at H
 ·split at H <;> try exact H.elim
  obtain⟨w',h1,h2⟩:=H
  exact⟨w',by simpa [Instr.storeAt,Instr.sureAddr] using h1,h2⟩
 ·split at H <;> try exact H.elim
  rename_i hl
  obtain⟨w',e1,e2⟩:=stCells_ok (P:=P) _ _ _ H
  refine⟨w',?_,e2⟩
  have hl':v.cells.size=i.size:=by have:=kB hl;rw [cellsL_eq] at this;simpa using this
  simp only [Instr.storeAt,Instr.sureAddr,Sem.run_bind,Sem.run_pure,Result.andThen_ok,storeVar,run_sizeOf' w hi,hl']
  rw [cellsL_eq] at e1
  simpa using e1
theorem run_eqGuard_int {op:BinOp} {t:TypeId} {x y:Operand} {a b:Value} (w:World) (h:∀ c,a≠.agg c) (h':a≠.nilIface) :
  (eqGuard op t x y a b).run P w=.ok () w:=by
 unfold eqGuard
 cases op <;> simp <;> cases a <;> simp_all
theorem equalIn_bool {t:TypeId} (d:Nat) (w:World) (hu:P.underlying t=some .bool) (a b:Bool):(Op.equalIn (d + 1) t (.bool a) (.bool b)).run P w=.ok (a==b) w:=by
 simp [Op.equalIn,run_underlying' w hu]
theorem equalIn_ptr {t e:TypeId} (d:Nat) (w:World) (hu:P.underlying t=some (.pointer e)) (a:Option Addr):(Op.equalIn (d + 1) t (.pointer a) (.pointer none)).run P w=.ok a.isNone w:=by
 cases a <;> simp [Op.equalIn,run_underlying' w hu]
theorem equalIn_sl {t e:TypeId} (d:Nat) (w:World) (hu:P.underlying t=some (.slice e)) (a:Option Addr) (n c n' c':Nat):(Op.equalIn (d + 1) t (.slice a n c) (.slice none n' c')).run P w=.ok a.isNone w:=by
 cases a <;> simp [Op.equalIn,run_underlying' w hu]
theorem equalIn_map {t e k:TypeId} (d:Nat) (w:World) (hu:P.underlying t=some (.map k e)) (a:Option Nat):(Op.equalIn (d + 1) t (.map a) (.map none)).run P w=.ok a.isNone w:=by
 cases a <;> simp [Op.equalIn,run_underlying' w hu]
theorem run_eql {t:TypeId} {x y:Value} {b:Bool} {w:World} (h:(Op.equalIn (9999 + 1) t x y).run P w=.ok b w) :
  (do pure (.bool (← Op.equal t x y)):Sem Value).run P w=.ok (.bool b) w:=by
 rw [Sem.run_bind,show Op.equal t x y=Op.equalIn (9999 + 1) t x y from rfl,h];rfl
theorem run_neq {t:TypeId} {x y:Value} {b:Bool} {w:World} (h:(Op.equalIn (9999 + 1) t x y).run P w=.ok b w) :
  (do pure (.bool (!(← Op.equal t x y))):Sem Value).run P w=.ok (.bool (!b)) w:=by
 rw [Sem.run_bind,show Op.equal t x y=Op.equalIn (9999 + 1) t x y from rfl,h];rfl
theorem isAgg_scalar {t:TypeId} {u:TypeDesc} (w:World) (h:P.underlying t=some u) (hu:isAggD u=false) (cs:Array Value) (off:Nat) {v:Value} (hv:cs[off]?=some v):(part t cs off).run P w=.ok v w:=by
 simp [part,run_isAgg' w h,hu,hv]
theorem cellEq_ok {t:TypeId} {x y:Value} {b:Bool} (h:cellEq P t x y=some b) (d:Nat) (w:World):(Op.equalIn (d + 1) t x y).run P w=.ok b w∧(∃ u,P.underlying t=some u∧isAggD u=false)∧∀ d,P.eqGuardType d t=false∨d=0:=by
 unfold cellEq at h
 split at h
 ·rename_i κ0 κ a κ' b' hu
  split at h
  ·rename_i hk;subst hk;simp at h;subst h
   exact⟨run_equalIn_int w d t _ _ _ _ hu,⟨_,hu,rfl⟩,λd=>by cases d <;> simp [Program.eqGuardType,hu]⟩
  ·cases h
 ·rename_i a b' hu
  simp at h;subst h
  exact⟨run_equalIn_bool' w d t _ _ hu,⟨_,hu,rfl⟩,λd=>by cases d <;> simp [Program.eqGuardType,hu]⟩
 ·rename_i a b' hu
  simp at h;subst h
  exact⟨run_equalIn_string w d t _ _ hu,⟨_,hu,rfl⟩,λd=>by cases d <;> simp [Program.eqGuardType,hu]⟩
 ·cases h
theorem recEq_ok (X Y:Array Value) (d e:Nat) (w:World):∀ (fs:List Field) (xs ys:List Value) (i:Nat) (b:Bool),(∀ j v,xs[j]?=some v→X[i + j]?=some v)→(∀ j v,ys[j]?=some v→Y[i + j]?=some v)→recEq P fs xs ys i=some b →
  (Op.eqFields (d + 1) X Y fs).run P w=.ok b w∧∀ f∈fs,P.eqGuardType (e + 1) f.type=false
 | [],_,_,_,b,_,_,h=>by simp [recEq] at h;subst h;simp [Op.eqFields]
 | [f],[],_,_,b,_,_,h=>by simp [recEq] at h
 | [f],x::xs,[],_,b,_,_,h=>by simp [recEq] at h
 | [f],x::xs,y::ys,i,b,hx,hy,h=>by
  unfold recEq at h
  split at h <;> try (cases h;done)
  rename_i h1 h2
  obtain rfl:=(kB h1)
  have hn:f.name≠ "_":=by simpa using h2
  obtain⟨g1,⟨u,g2,g3⟩,g4⟩:=cellEq_ok h d w
  refine⟨?_,λf' hf=>by simp at hf;subst hf;exact (g4 (e + 1)).resolve_right (by omega)⟩
  have a1:=isAgg_scalar w g2 g3 X f.offset (hx 0 x (by simp))
  have a2:=isAgg_scalar w g2 g3 Y f.offset (hy 0 y (by simp))
  simp only [Op.eqFields,hn,ne_eq,not_false_eq_true,if_true,Sem.run_bind,a1,Result.andThen_ok,a2,g1]
  cases b <;> simp
 | f::g::fs,[],_,_,b,_,_,h=>by simp [recEq] at h
 | f::g::fs,x::xs,[],_,b,_,_,h=>by simp [recEq] at h
 | f::g::fs,x::xs,y::ys,i,b,hx,hy,h=>by
  unfold recEq at h
  split at h <;> try (cases h;done)
  rename_i h1 h2
  obtain rfl:=(kB h1)
  have hn:f.name≠ "_":=by simpa using h2
  split at h <;> try (cases h;done)
  rename_i p q hp hq
  simp at h;subst h
  obtain⟨g1,⟨u,g2,g3⟩,g4⟩:=cellEq_ok hp d w
  obtain⟨r1,r2⟩:=recEq_ok X Y d e w (g::fs) xs ys (f.offset + 1) q (λj v hv=>by have:=hx (j + 1) v (by simpa using hv);rwa [show f.offset + 1 + j=f.offset + (j + 1) from by omega])
   (λj v hv=>by have:=hy (j + 1) v (by simpa using hv);rwa [show f.offset + 1 + j=f.offset + (j + 1) from by omega]) hq
  refine⟨?_,λf' hf=>by
   rcases List.mem_cons.1 hf with rfl | hf
   ·exact (g4 (e + 1)).resolve_right (by omega)
   ·exact r2 f' hf⟩
  have a1:=isAgg_scalar w g2 g3 X f.offset (hx 0 x (by simp))
  have a2:=isAgg_scalar w g2 g3 Y f.offset (hy 0 y (by simp))
  rw [Op.eqFields]
  simp only [hn,ne_eq,not_false_eq_true,if_true,Sem.run_bind,a1,Result.andThen_ok,a2,g1]
  cases p
  ·simp
  ·simpa using r1
theorem recEqT_ok {t:TypeId} {xs ys:Array Value} {b:Bool} (h:recEqT P t xs ys=some b) (w:World):(Op.equalIn 10000 t (.agg xs) (.agg ys)).run P w=.ok b w∧P.eqGuardType P.depth t=false:=by
 unfold recEqT at h
 split at h <;> try (cases h;done)
 rename_i fs hu
 split at h <;> try (cases h;done)
 rename_i hs
 have hf:P.fieldsOf t=fs:=by simp [Program.fieldsOf,hu]
 obtain⟨g1,g2⟩:=recEq_ok xs ys 9998 (2 * (P.types.size + Made.depth)) w fs.toList xs.toList ys.toList 0 b (λj v hv=>by simpa using hv) (λj v hv=>by simpa using hv) h
 refine⟨?_,?_⟩
 ·rw [run_equalIn_struct w 9999 t xs ys (by rw [hf];exact hu) hs,hf];exact g1
 ·show P.eqGuardType ((2 * (P.types.size + Made.depth) + 1) + 1) t=false
  rw [Program.eqGuardType,hu]
  simp only [Array.any_eq_false']
  intro f hfm
  simp [g2 f (by simpa using hfm)]
theorem sBin_pure {op:BinOp} {t:TypeId} {x y:Value} {ox oy:Operand} {yn:Bool} (hyn:yn=true→y=.pointer none∨(∃ l c,y=.slice none l c)∨y=.map none)
  {k:Value→Prop} {alt:Prop}
  (H:sBin P op t x y yn k alt):(∃ v,(∀ w,(do eqGuard op t ox oy x y;binOp op t x y:Sem Value).run P w=.ok v w)∧k v)∨alt:=by
 have fin:∀ v,(∀ c,x≠.agg c)→x≠.nilIface→(∀ w,(binOp op t x y).run P w=.ok v w)→k v→(∃ v,(∀ w,(do eqGuard op t ox oy x y;binOp op t x y:Sem Value).run P w=.ok v w)∧k v)∨alt :=
  λv h1 h2 h3 h4=>.inl ⟨v,λw=>by rw [Sem.run_bind,run_eqGuard_int w h1 h2,Result.andThen_ok,h3],h4⟩
 unfold sBin at H
 split at H
 ·rename_i κ a κ' b
  split at H
  ·obtain⟨h1,h2⟩:=H
   exact fin _ (by simp) (by simp) (λw=>by simp only [binOp,Op.shift];rw [if_neg (by omega)];rfl) h2
  ·obtain⟨h1,h2⟩:=H
   exact fin _ (by simp) (by simp) (λw=>by simp only [binOp,Op.shift];rw [if_neg (by omega)];rfl) h2
  ·rename_i n1 n2
   split at H <;> try exact H.elim
   rename_i hk;subst hk
   split at H
   all_goals first
    | exact .inr H
    | (obtain⟨h1,h2⟩:=H;refine fin _ (by simp) (by simp) (λw=>?_) h2;simp [binOp,Op.intDiv,h1];done)
    | (refine fin _ (by simp) (by simp) (λw=>?_) H;simp [binOp,Op.intArith,Op.intCmp];done)
    | (refine fin _ (by simp) (by simp) (λw=>?_) H;simp [binOp,Op.intBits,bAnd,bOr,bXor,bAndNot];done)
 ·split at H
  ·exact fin _ (by simp) (by simp) (λw=>by simp [binOp,Op.stringOp]) H
  ·exact fin _ (by simp) (by simp) (λw=>by simp [binOp,Op.stringOp]) H
  ·obtain⟨h1,h2⟩:=H
   exact fin _ (by simp) (by simp) (λw=>by simp only [binOp,Op.stringOp];rw [if_neg (by omega)];rfl) h2
  ·exact .inr H
 ·split at H <;> try exact H.elim
  ·rename_i hu
   exact fin _ (by simp) (by simp) (λw=>run_eql (equalIn_bool _ w hu _ _)) H
  ·rename_i hu
   exact fin _ (by simp) (by simp) (λw=>run_neq (equalIn_bool _ w hu _ _)) H
 ·rename_i a b
  split at H
  ·obtain rfl:b=none:=by rcases hyn rfl with h | ⟨_,_,h⟩ | h <;> simp_all
   split at H <;> try exact H.elim
   ·rename_i hu
    exact fin _ (by simp) (by simp) (λw=>run_eql (equalIn_ptr _ w hu _)) H
   ·rename_i hu
    exact fin _ (by simp) (by simp) (λw=>run_neq (equalIn_ptr _ w hu _)) H
  ·exact .inr H
 ·rename_i xs ys
  split at H
  ·rename_i b hb
   split at H
   ·refine .inl ⟨_,λw=>?_,H⟩
    obtain⟨g1,g2⟩:=recEqT_ok hb w
    rw [Sem.run_bind,run_eqGuard_agg w _ _ _ _ _ _ g2,Result.andThen_ok,run_eql_struct,g1];rfl
   ·refine .inl ⟨_,λw=>?_,H⟩
    obtain⟨g1,g2⟩:=recEqT_ok hb w
    rw [Sem.run_bind,run_eqGuard_agg w _ _ _ _ _ _ g2,Result.andThen_ok,run_neq_struct,g1];rfl
   ·exact .inr H
  ·exact .inr H
 ·rename_i a _ _ b _ _
  split at H
  ·obtain rfl:b=none:=by rcases hyn rfl with h | ⟨_,_,h⟩ | h <;> simp_all
   split at H <;> try exact H.elim
   ·rename_i hu
    exact fin _ (by simp) (by simp) (λw=>run_eql (equalIn_sl _ w hu _ _ _ _ _)) H
   ·rename_i hu
    exact fin _ (by simp) (by simp) (λw=>run_neq (equalIn_sl _ w hu _ _ _ _ _)) H
  ·exact .inr H
 ·rename_i a b
  split at H
  ·obtain rfl:b=none:=by rcases hyn rfl with h | ⟨_,_,h⟩ | h <;> simp_all
   split at H <;> try exact H.elim
   ·rename_i hu
    exact fin _ (by simp) (by simp) (λw=>run_eql (equalIn_map _ w hu _)) H
   ·rename_i hu
    exact fin _ (by simp) (by simp) (λw=>run_neq (equalIn_map _ w hu _)) H
  ·exact .inr H
 ·exact .inr H
theorem isNilC_spec {n:Operand→Value} {y:Operand} (hn:isNilC y=true) (hr:∀ v,y=.const v→n y=v):n y=.pointer none∨(∃ l c,n y=.slice none l c)∨n y=.map none:=by
 unfold isNilC at hn
 split at hn
 ·exact .inl (hr _ rfl)
 ·exact .inr (.inl ⟨_,_,hr _ rfl⟩)
 ·exact .inr (.inr (hr _ rfl))
 ·cases hn
end Go.Fk
end
section
namespace Go.Fk
open Go
theorem execOp_rho {n:Nat} {e:Env} {a:Act} (h:Ag n e a) {o:Oper} (hk:known e o.op=true) (hs:∀ cs b,o.op≠.select cs b) :
  execOp a.eval o=execOp (rho e) o :=
 execOp_congr o hs λx hx=>rho_sound h (by
  simp only [known,List.all_eq_true] at hk
  exact hk x (by simpa using hx))
theorem run_callFunc {P:Program} {F:Nat} (w:World) (args:Array Value) (h:enters P F=true) :
  (callFunc F args).run P w=.ok (.enter F args) w:=by
 unfold enters at h
 split at h <;> try (cases h;done)
 rename_i fn hf
 split at h <;> try (cases h;done)
 rename_i c hb
 have hn:(fn.name== "runtime.NumGoroutine")=false:=by simpa using h
 simp only [callFunc,Sem.run_bind,run_program,Result.andThen_ok,hf,hn,hb]
 simp
variable {P:Program}
theorem run_indexAt_sl {t el:TypeId} {inf:TypeInfo} (w:World) (a:Option Addr) (n c:Nat) (κ:IntKind) (j:Int) (hu:P.underlying t=some (.slice el)) (hi:P.info? el=some inf)
  {p:Addr} (ha:a=some p) (hb:0≤j∧j < n):(Instr.indexAt t (.slice a n c) (.int κ j)).run P w=.ok (.pointer (some (p.add (j.toNat * inf.size)))) w:=by
 subst ha
 simp [Instr.indexAt,asIntOf,run_underlying' w hu,hb,run_sizeOf' w hi]
theorem run_indexAt_arr {t el:TypeId} {inf:TypeInfo} (w:World) (p:Addr) (n:Nat) (κ:IntKind) (j:Int) (hu:P.underlying t=some (.array n el)) (hi:P.info? el=some inf)
  (hb:0≤j∧j < n):(Instr.indexAt t (.pointer (some p)) (.int κ j)).run P w=.ok (.pointer (some (p.add (j.toNat * inf.size)))) w:=by
 simp [Instr.indexAt,Instr.sureAddr,asIntOf,run_underlying' w hu,hb,run_sizeOf' w hi]
theorem run_index_str {t:TypeId} (w:World) (s:ByteArray) (κ:IntKind) (j:Int) (b:UInt8) (hu:P.underlying t=some .string) (h0:0≤j) (hb:s[j.toNat]?=some b) :
  (Instr.index t (.string s) (.int κ j)).run P w=.ok (.int .u8 b.toNat) w:=by
 simp [Instr.index,asIntOf,run_underlying' w hu,h0,hb]
theorem run_index_arr {t el:TypeId} {inf:TypeInfo} {u:TypeDesc} (w:World) (cs:Array Value) (n:Nat) (κ:IntKind) (j:Int) (v:Value) (hu:P.underlying t=some (.array n el)) (hel:P.underlying el=some u) (ha:isAggD u=false)
  (hi:P.info? el=some inf) (h1:inf.size=1) (h0:0≤j∧j < n) (hb:cs[j.toNat]?=some v) :
  (Instr.index t (.agg cs) (.int κ j)).run P w=.ok v w:=by
 simp [Instr.index,asIntOf,run_underlying' w hu,h0,part,run_isAgg' w hel,ha,run_sizeOf' w hi,h1,hb]
theorem run_nextv {s:Sem Value} {kt vt:Ty} {w:World} {k:Value→World→Prop}
  (h:Nxt P s kt vt w (λw'=>k (.tuple #[.bool false]) w') λx y w'=>k (.tuple #[.bool true,kt.enc x,vt.enc y]) w') :
  Good P k ((do pure (Next.value (← s)):Sem Next).run P w):=by
 obtain⟨w',⟨h1,h2⟩ | ⟨x,y,h1,h2⟩⟩:=h
 ·exact good_v h1 h2
 ·exact good_v h1 h2
theorem semOp_ok {H:List (Nat × RTy)} {g:List (Nat × Bool)} {o:Oper} {e:Env} {k:Value→World→Prop} {w:World} (h:semOp P H g o e k w) :
  known e o.op=true∧(∀ cs b,o.op≠.select cs b)∧Good P k ((execOp (rho e) o).run P w):=by
 unfold semOp at h
 split at h
 ·exact h.elim
 rename_i hk
 have sel:∀ op,o.op=op→(∀ cs b,op≠.select cs b)→∀ cs b,o.op≠.select cs b:=λop h1 h2=>h1 ▸ h2
 split at h
 all_goals try exact h.elim
 all_goals (rename_i hop;try refine⟨hk,sel _ hop (by simp),?_⟩)
 case h_1=>simp only [execOp,hop,Good,Sem.run_pure];exact h
 case h_2=>simp only [execOp,hop,Good,Sem.run_pure];exact h
 case h_3 c x y =>
  simp only [execOp,hop]
  split at h
  ·rename_i b hb
   split at h <;> try exact h.elim
   rename_i yb hy
   split at h <;> try exact h.elim
   ·simpa [hy,asBool,Good] using h
   ·simpa [hy,asBool,Good] using h
  ·split at h <;> try exact h.elim
   rename_i b p q h1 h2 h3
   simp only [h1,h2,h3,asBool,Sem.run_bind,Sem.run_pure,Result.andThen_ok,Good]
   cases b <;> simpa using h
 case h_4 t a =>
  simp only [execOp,hop]
  obtain⟨v,h1,h2⟩:=sLoad_ok h
  exact good_v h1 h2
 case h_5 t a x =>
  simp only [execOp,hop]
  obtain⟨v,h1,h2⟩:=sStore_ok h
  exact good_u h1 h2
 case h_6 x =>
  simp only [execOp,hop]
  split at h <;> try exact h.elim
  rename_i p hp
  obtain⟨a,rfl,h2⟩:=h.out
  simp only [hp,Sem.run_pure,Good];exact h2
 case h_7 op t x y yt =>
  simp only [execOp,hop]
  rcases sBin_pure (P:=P) (ox:=x) (oy:=y) (λhn=>isNilC_spec (n:=rho e) hn (λv hv=>by subst hv;rfl)) h with⟨v,h1,h2⟩ | ⟨r,w',h1,h2⟩
  ·exact good_v (h1 w) h2
  ·exact good_v h1 h2
 case h_8 t x i =>
  simp only [execOp,hop]
  split at h <;> try exact h.elim
  ·rename_i a n c κ j el hx hi hu
   split at h <;> try exact h.elim
   rename_i inf hinf
   obtain⟨p,h1,h2,h3⟩:=h
   exact good_v (by rw [hx,hi];exact run_indexAt_sl w _ _ _ _ _ hu hinf h1 h2) h3
  ·rename_i p κ j n el hx hi hu
   split at h <;> try exact h.elim
   rename_i inf hinf
   obtain⟨h2,h3⟩:=h
   exact good_v (by rw [hx,hi];exact run_indexAt_arr w _ _ _ _ hu hinf h2) h3
 case h_9 t x i =>
  simp only [execOp,hop]
  split at h <;> try exact h.elim
  ·rename_i s κ j hx hi hu
   obtain⟨h0,b,h1,h2⟩:=h
   exact good_v (by rw [hx,hi];exact run_index_str w _ _ _ _ hu h0 h1) h2
  ·rename_i cs κ j n el hx hi hu
   split at h <;> try exact h.elim
   rename_i u inf ty hel hinf hh
   split at h <;> try exact h.elim
   rename_i hag hsz
   obtain⟨h0,v,h1,h2⟩:=h
   exact good_v (by rw [hx,hi];exact run_index_arr w _ _ _ _ _ hu hel hag hinf (kB hsz) h0 h1) h2
 case h_10 it _ =>
  simp only [execOp,hop]
  split at h <;> try exact h.elim
  exact run_nextv h
 case h_11 F args ats =>
  simp only [execOp,hop]
  split at h <;> try exact h.elim
  rename_i hF
  have:(do let d ← resolve (rho e) { callee:=.value (.func F),args:=args,argTypes:=ats } o.type;invoke d.target d.args:Sem Next).run P w =
    .ok (.enter F (args.toList.map (rho e)).toArray) w:=by
   simp only [resolve,rho,ev,Deferred.ofValue,Sem.run_bind,Sem.run_pure,Result.andThen_ok,invoke]
   rw [run_callFunc w _ hF]
   congr 2
   apply Array.ext'
   simp [rho]
  rw [this]
  simp only [Good]
  exact h.mono λe w'' ⟨r,h1,h2⟩=>⟨_,h1,h2⟩
 case h_12 f args ats _ =>
  simp only [execOp,hop]
  obtain⟨F,first,cap,hf,hF,h⟩:=h
  have:(do let d ← resolve (rho e) { callee:=.value f,args:=args,argTypes:=ats } o.type;invoke d.target d.args:Sem Next).run P w =
    .ok (.enter F ((first.toList++args.toList.map (rho e))++cap.toList).toArray) w:=by
   simp only [resolve,hf,Deferred.ofValue,Sem.run_bind,Sem.run_pure,Result.andThen_ok,invoke]
   rw [run_callFunc w _ hF]
   congr 2
   apply Array.ext'
   simp
  rw [this]
  simp only [Good]
  exact h.mono λe w'' ⟨r,h1,h2⟩=>⟨_,h1,h2⟩
 case h_13 t ps =>
  simp only [execOp,hop]
  split at h
  ·exact good_app h
  ·unfold Run at h;simpa only [execOp,hop] using h
 case h_14 t n ps =>
  simp only [execOp,hop]
  split at h
  ·exact good_app h
  ·unfold Run at h;simpa only [execOp,hop] using h
 case h_15 t x f =>
  simp only [execOp,hop]
  split at h
  ·unfold Run at h;simpa only [execOp,hop] using h
  ·exact good_app h
 case h_16 =>
  simp only [execOp,hop]
  simp only [resolve,Sem.run_bind,Sem.run_pure,Result.andThen_ok,invoke,builtin]
  simpa only [Sem.run_bind,Sem.run_pure] using good_app h
 case h_17 =>
  simp only [execOp,hop]
  simp only [resolve,Sem.run_bind,Sem.run_pure,Result.andThen_ok,invoke,builtin]
  simpa only [Sem.run_bind,Sem.run_pure] using good_app h
 case h_18 =>
  simp only [execOp,hop]
  simp only [resolve,Sem.run_bind,Sem.run_pure,Result.andThen_ok,invoke,builtin]
  simpa only [Sem.run_bind,Sem.run_pure] using good_app h
 case h_19 =>
  simp only [execOp,hop]
  simp only [resolve,Sem.run_bind,Sem.run_pure,Result.andThen_ok,invoke,builtin]
  simpa only [Sem.run_bind,Sem.run_pure] using good_app h
 case h_20=>simp only [execOp,hop];exact good_app h
 case h_21=>simp only [execOp,hop];exact good_app h
 case h_22=>simp only [execOp,hop];exact good_app h
 case h_23=>simp only [execOp,hop];exact good_app h
 case h_24=>simp only [execOp,hop];exact good_app h
 case h_25=>simp only [execOp,hop];exact good_app0 h
 case h_26=>simp only [execOp,hop];exact good_app0 h
 case h_27 s d x =>
  split at h
  ·exact h
  ·simp only [execOp,hop];exact good_app h
 case h_28 args ats =>
  split at h <;> try exact h.elim
  split at h
  ·simp only [execOp,hop]
   simp only [resolve,Sem.run_bind,Sem.run_pure,Result.andThen_ok,invoke,builtin]
   simpa only [Sem.run_bind,Sem.run_pure] using good_app h
  ·exact h
 case h_29 =>
  simp only [execOp,hop]
  simp only [resolve,Sem.run_bind,Sem.run_pure,Result.andThen_ok,invoke,builtin]
  simpa only [Sem.run_bind,Sem.run_pure] using good_app h
 case h_31 =>
  refine⟨hk,?_,h⟩
  intro cs b he
  simp_all
end Go.Fk
end
section
namespace Go.Fk
open Go
@[reducible] def LT:List (Nat × RTy)→Type
 | []=>Unit
 | [x]=>x.2.T
 | x::y::l=>x.2.T × LT (y::l)
def embed:(l:List (Nat × RTy))→LT l→Env
 | [],_=>[]
 | [x],v=>[(x.1,x.2.enc v)]
 | x::y::l,v=>(x.1,x.2.enc v.1)::embed (y::l) v.2
def decs:(l:List (Nat × RTy))→Env→Option (LT l)
 | [],_=>some ()
 | [x],e=>match find x.1 e with
  | some v=>x.2.dec v
  | none=>none
 | x::y::l,e=>match find x.1 e with
  | some v=>match x.2.dec v with
   | some u=>match decs (y::l) e with
    | some r=>some (u,r)
    | none=>none
   | none=>none
  | none=>none
def jump (l:List (Nat × RTy)) (e:Env) (k:LT l→Prop):Prop:=match decs l e with
 | some s=>k s
 | none=>False
def restrict:List Nat→Env→Env
 | [],_=>[]
 | t::l,e=>match find t e with
  | some v=>(t,v)::restrict l e
  | none=>restrict l e
def memN (t:Nat):List Nat→Bool
 | []=>false
 | s::l=>match Nat.beq s t with | true=>true | false=>memN t l
def dsts:List Oper→List Nat
 | []=>[]
 | o::l=>match o.dst with
  | some d=>d::dsts l
  | none=>dsts l
def asg:Code→List Nat
 | .region _ ops _=>dsts ops.toList
 | .seq a b=>asg a++asg b
 | .cond _ a b=>asg a++asg b
 | .block _ b=>asg b
 | .loop b=>asg b
 | _=>[]
def keepOk (l:List Nat):List Nat→Bool
 | []=>true
 | t::r=>match memN t l with | true=>false | false=>keepOk l r
def bltAll (n:Nat):List Nat→Bool
 | []=>true
 | t::r=>match Nat.blt t n with | true=>bltAll n r | false=>false
def codeOk (n:Nat):Code→Bool
 | .skip=>true
 | .region _ ops d=>match bltAll n (dsts ops.toList) with
  | true=>match d with
   | true=>Region.noSelect ops
   | false=>true
  | false=>false
 | .seq a b=>match codeOk n a with | true=>codeOk n b | false=>false
 | .cond _ a b=>match codeOk n a with | true=>codeOk n b | false=>false
 | .block _ b=>codeOk n b
 | .loop b=>codeOk n b
 | .exit _=>true
 | .ret=>true
 | _=>false
inductive Ann where
 | z
 | n (x y:Ann)
 | j (live:List (Nat × RTy)) (keep:List Nat) (x y:Ann)
 | l (live:List (Nat × RTy)) (keep:List Nat) (x:Ann)
 | d
 | e (l:List Nat)
def pushE:Option Nat→Value→Env→Env
 | some d,v,e=>(d,v)::e
 | none,_,e=>e
def semOps (P:Program) (H:List (Nat × RTy)) (ops:Array Oper):List Oper→List (Nat × Bool)→Env→(Env→World→Prop)→World→Prop
 | [],_,e,k,w=>k e w
 | o::rest,g,e,k,w=>match o.guard with
  | none=>semOp P H g o e (λv w'=>semOps P H ops rest g (pushE o.dst v e) k w') w
  | some (j,b)=>match (ops[j]?).bind (·.dst) with
   | none=>False
   | some t=>match decided t g with
    | some c=>match find t e with
     | some (.bool y)=>match y,c,b with
      | true,true,true=>semOp P H g o e (λv w'=>semOps P H ops rest g (pushE o.dst v e) k w') w
      | true,true,false=>semOps P H ops rest g (pushE o.dst undef e) k w
      | false,false,false=>semOp P H g o e (λv w'=>semOps P H ops rest g (pushE o.dst v e) k w') w
      | false,false,true=>semOps P H ops rest g (pushE o.dst undef e) k w
      | _,_,_=>False
     | _=>False
    | none=>match find t e with
     | some (.tuple _)=>semOps P H ops rest g (pushE o.dst undef e) k w
     | some (.bool y)=>match b with
      | true=>Br y (semOp P H ((t,true)::g) o ((t,.bool true)::e) (λv w'=>semOps P H ops rest ((t,true)::g) (pushE o.dst v ((t,.bool true)::e)) k w') w)
        (semOps P H ops rest ((t,false)::g) (pushE o.dst undef ((t,.bool false)::e)) k w)
      | false=>Br y (semOps P H ops rest ((t,true)::g) (pushE o.dst undef ((t,.bool true)::e)) k w)
        (semOp P H ((t,false)::g) o ((t,.bool false)::e) (λv w'=>semOps P H ops rest ((t,false)::g) (pushE o.dst v ((t,.bool false)::e)) k w') w)
     | _=>False
def peval (P:Program) {α:Type}:Sem α→Option α
 | .pure a=>some a
 | .program k=>peval P (k P)
 | _=>none
theorem peval_ok {P:Program} {α:Type} (s:Sem α) (a:α) (h:peval P s=some a) (w:World):s.run P w=.ok a w:=by
 induction s with
 | pure b=>simp [peval] at h;subst h;rfl
 | program k ih=>simp only [peval] at h;simpa [Sem.run] using ih _ h
 | _=>simp [peval] at h
def LdS (S:World→Prop) (t:Ty) (a:Addr) (k:t.T→Prop):Prop:=∃ x,(∀ w,S w→w.cell? a=some (t.enc x))∧k x
def LdSCells (S:World→Prop) (a:Addr) (k:List Value→Prop):List Ty→Nat→List Value→Prop
 | [],_,acc=>k acc.reverse
 | t::ts,i,acc=>LdS S t (a.add i) λx=>LdSCells S a k ts (i + 1) (t.enc x::acc)
def LdSA (S:World→Prop) (n:Nat) (a:Addr) (k:Array Value→Prop):Prop:=∃ cs:Array Value,(cs.size=n∧∀ w,S w→∀ i v,cs[i]?=some v→w.cell? (a.add i)=some v)∧k cs
def AppS (P:Program) (S:World→Prop) (s:Sem Value) (rt:RTy) (k:rt.T→Prop):Prop:=∃ r:rt.T,(∀ w,S w→s.run P w=.ok (rt.enc r) w)∧k r
def takes:Op→Bool
 | .move _=>true
 | .assign _=>true
 | .pick ..=>true
 | .load ..=>true
 | .nilCheck _=>true
 | .fieldAddr ..=>true
 | .indexAddr ..=>true
 | .extract ..=>true
 | .binOp ..=>true
 | .build ..=>true
 | .unOp ..=>true
 | .convert ..=>true
 | .field ..=>true
 | .call { callee:=.builtin .len,.. }=>true
 | _=>false
def semTake (P:Program) (H:List (Nat × RTy)) (g:List (Nat × Bool)) (S:World→Prop) (o:Oper) (e:Env) (k:Value→Prop):Prop :=
 match known e o.op with
 | false=>False
 | true=>match o.op with
  | .load t x=>match rho e x with
   | .pointer (some a)=>match P.underlying t,P.info? t with
    | some u,some i=>match isAggD u,hintOf o.dst H with
     | false,.one ty=>LdS S ty a λx=>k (ty.enc x)
     | true,.agg ts=>match Nat.beq ts.length i.size with
      | true=>LdSCells S a (λvs=>k (.agg vs.toArray)) ts 0 []
      | false=>False
     | true,.big=>LdSA S i.size a λcs=>k (.agg cs)
     | _,_=>False
    | _,_=>False
   | _=>False
  | .nilCheck x=>match rho e x with
   | .pointer p=>NilC p λa=>k (.pointer (some a))
   | _=>False
  | .indexAddr t x i=>match rho e x,rho e i,P.underlying t with
   | .slice a n c,.int _ j,some (.slice el)=>match P.info? el with
    | some inf=>IdxS ⟨a,n,c⟩ j inf.size λp=>k (.pointer (some p))
    | none=>False
   | .pointer (some a),.int _ j,some (.array n el)=>match P.info? el with
    | some inf=>IdxA n a j inf.size λp=>k (.pointer (some p))
    | none=>False
   | _,_,_=>False
  | .pick c a b=>match (match c with | .tmp t=>decided t g | _=>none) with
   | some x=>match rho e c with
    | .bool y=>match y,x with
     | true,true=>k (rho e a)
     | false,false=>k (rho e b)
     | _,_=>False
    | _=>False
   | none=>match rho e c,rho e a,rho e b with
    | .bool x,.bool p,.bool q=>k (.bool (match x with | true=>p | false=>q))
    | _,_,_=>False
  | .binOp op t x y _=>sBin P op t (rho e x) (rho e y) (isNilC y) k (AppS P S (do eqGuard op t x y (rho e x) (rho e y);binOp op t (rho e x) (rho e y)) (hintOf o.dst H) λr=>k ((hintOf o.dst H).enc r))
  | .build t ps=>match hintOf o.dst H with
   | .big=>AppS P S (Instr.build t (ps.map λ(i,x)=>(i,rho e x))) .big λr=>k (RTy.enc .big r)
   | _=>match peval P (execOp (rho e) o) with
    | some (.value v)=>k v
    | _=>False
  | .field t x f=>match hintOf o.dst H with
   | .one .raw=>match peval P (execOp (rho e) o) with
    | some (.value v)=>k v
    | _=>False
   | r=>AppS P S (Instr.field t (rho e x) f) r λx=>k (r.enc x)
  | .call { callee:=.builtin .len,argTypes,args }=>match args.toList with
   | [x]=>match rho e x with
    | .map _=>AppS P S (Builtin.len_ argTypes o.type (args.map (rho e))) (.one (.int .i64)) λr=>k ((Ty.int .i64).enc r)
    | _=>match peval P (execOp (rho e) o) with
     | some (.value v)=>k v
     | _=>False
   | _=>False
  | _=>match peval P (execOp (rho e) o) with
   | some (.value v)=>k v
   | _=>False
def isLoad:Op→Bool
 | .load ..=>true
 | _=>false
def firstTake (ld:Nat→Bool) (ops:Array Oper) (listed:Array Bool):List Nat→Option Nat
 | []=>none
 | i::l=>match ops[i]? with
  | some o=>match takes o.op,Region.free .any ops listed i with
   | true,true=>match ld i,isLoad o.op with
    | false,true=>firstTake ld ops listed l
    | _,_=>some i
   | _,_=>firstTake ld ops listed l
  | none=>firstTake ld ops listed l
def semGuard (ops:Array Oper) (o:Oper) (g:List (Nat × Bool)) (e:Env) (yes no:List (Nat × Bool)→Env→Prop):Prop :=
 match o.guard with
 | none=>yes g e
 | some (j,b)=>match (ops[j]?).bind (·.dst) with
  | none=>False
  | some t=>match decided t g with
   | some c=>match find t e with
    | some (.bool y)=>match y,c,b with
     | true,true,true=>yes g e
     | true,true,false=>no g e
     | false,false,false=>yes g e
     | false,false,true=>no g e
     | _,_,_=>False
    | _=>False
   | none=>match find t e with
    | some (.tuple _)=>no g e
    | some (.bool y)=>match b with
     | true=>Br y (yes ((t,true)::g) ((t,.bool true)::e)) (no ((t,false)::g) ((t,.bool false)::e))
     | false=>Br y (no ((t,true)::g) ((t,.bool true)::e)) (yes ((t,false)::g) ((t,.bool false)::e))
    | _=>False
def allOf:List Nat→(Nat→Prop)→Prop
 | [],_=>True
 | [i],f=>f i
 | i::j::l,f=>f i∧allOf (j::l) f
def semD (P:Program) (H:List (Nat × RTy)) (ld:Nat→Bool) (ops:Array Oper) (S:World→Prop) (k:Env→World→Prop):Nat→Array Bool→List (Nat × Bool)→Env→World→Prop
 | 0,listed,_,e,w=>match Region.ready .any ops listed with
  | []=>k e w
  | _::_=>False
 | fuel + 1,listed,g,e,w =>
  match Region.ready .any ops listed with
  | []=>k e w
  | i₀::l=>match firstTake ld ops listed (i₀::l) with
   | some i=>match ops[i]? with
    | none=>False
    | some o=>semGuard ops o g e
      (λg e=>semTake P H g S o e λv=>semD P H ld ops S k fuel (listed.setIfInBounds i true) g (pushE o.dst v e) w)
      (λg e=>semD P H ld ops S k fuel (listed.setIfInBounds i true) g (pushE o.dst undef e) w)
   | none=>allOf (i₀::l) λi=>match ops[i]? with
    | none=>False
    | some o=>semGuard ops o g e
      (λg e=>semOp P H g o e (λv w'=>S w'∧semD P H ld ops S k fuel (listed.setIfInBounds i true) g (pushE o.dst v e) w') w)
      (λg e=>semD P H ld ops S k fuel (listed.setIfInBounds i true) g (pushE o.dst undef e) w)
def Draw (w:World) (F:(World→Prop)→World→Prop):Prop:=∃ S:World→Prop,S w.drew∧F S w.drew
def DrawN (w:World) (F:(World→Prop)→World→Prop):Prop:=F (λ_=>True) w.drew
inductive LdM where
 | all | none | but (l:List Nat)
def isD:Ann→LdM
 | .d=>.none
 | .e l=>.but l
 | _=>.all
def elemN (i:Nat):List Nat→Bool
 | []=>false
 | j::l=>match Nat.beq j i with | true=>true | false=>elemN i l
def notIn (l:List Nat) (i:Nat):Bool:=match elemN i l with | true=>false | false=>true
def semReg (P:Program) (H:List (Nat × RTy)) (ld:LdM) (ops:Array Oper) (d:Bool) (e:Env) (k:Env→World→Prop) (w:World):Prop :=
 match d with
 | false=>semOps P H ops ops.toList [] e k w
 | true=>match ld with
  | .all=>Draw w λS w'=>semD P H (λ_=>true) ops S k ops.size (Array.replicate ops.size false) [] e w'
  | .none=>DrawN w λS w'=>semD P H (λ_=>false) ops S k ops.size (Array.replicate ops.size false) [] e w'
  | .but l=>Draw w λS w'=>semD P H (notIn l) ops S k ops.size (Array.replicate ops.size false) [] e w'
def exitK (id:Nat) (e:Env) (w:World):List (Nat × (Env→World→Prop))→Prop
 | []=>False
 | (i,k)::l=>match Nat.beq i id with | true=>k e w | false=>exitK id e w l
def sem (P:Program) (H:List (Nat × RTy)):Code→Ann→Env→(Env→World→Prop)→List (Nat × (Env→World→Prop))→(Env→World→Prop)→World→Prop
 | .skip,_,e,kn,_,_,w=>kn e w
 | .region _ ops d,ann,e,kn,_,_,w=>match ann with
  | .j live keep x _=>match keepOk (dsts ops.toList) keep with
   | true=>Join (λs w'=>kn (embed live s++restrict keep e) w') λj=>semReg P H (isD x) ops d e (λe' w'=>jump live e' λs=>j s w') w
   | false=>False
  | _=>semReg P H (isD ann) ops d e kn w
 | .seq a b,ann,e,kn,kx,kr,w=>match ann with
  | .n x y=>sem P H a x e (λe' w'=>sem P H b y e' kn kx kr w') kx kr w
  | .j live keep x y=>match keepOk (asg a) keep with
   | true=>Join (λs w'=>sem P H b y (embed live s++restrict keep e) kn kx kr w') λj=>sem P H a x e (λe' w'=>jump live e' λs=>j s w') kx kr w
   | false=>False
  | _=>sem P H a .z e (λe' w'=>sem P H b .z e' kn kx kr w') kx kr w
 | .cond c a b,ann,e,kn,kx,kr,w=>match ev e c with
  | some (.bool v)=>match ann with
   | .n x y=>Br v (sem P H a x e kn kx kr w) (sem P H b y e kn kx kr w)
   | _=>Br v (sem P H a .z e kn kx kr w) (sem P H b .z e kn kx kr w)
  | _=>False
 | .block id b,ann,e,kn,kx,kr,w=>sem P H b ann e kn ((id,kn)::kx) kr w
 | .loop b,ann,e,_,kx,kr,w=>match ann with
  | .l live keep x=>match keepOk (asg b) keep with
   | true=>match decs live e with
    | some s₀=>Loop (λs w' again=>sem P H b x (embed live s++restrict keep e) (λe' w''=>jump live e' λs'=>again s' w'') kx kr w') s₀ w
    | none=>False
   | false=>False
  | _=>False
 | .exit id,_,e,_,kx,_,w=>exitK id e w kx
 | .ret,_,e,_,_,kr,w=>kr e w
 | _,_,_,_,_,_,_=>False
variable {P:Program}
theorem mem_beq {t s:Nat} (h:t≠s):Nat.beq s t=false:=by
 cases hb:Nat.beq s t with
 | false=>rfl
 | true=>exact absurd (kB hb).symm h
theorem memN_cons {t s:Nat} {l:List Nat} (h:memN t (s::l)=false):t≠s∧memN t l=false:=by
 simp only [memN] at h
 cases hb:Nat.beq s t with
 | true=>simp [hb] at h
 | false=>exact⟨λhe=>by subst he;simp at hb,by simpa [hb] using h⟩
theorem memN_append {t:Nat}:∀ {l r:List Nat},memN t (l++r)=false→memN t l=false∧memN t r=false
 | [],r,h=>⟨rfl,h⟩
 | s::l,r,h=>by
  obtain⟨h1,h2⟩:=memN_cons h
  obtain⟨h3,h4⟩:=memN_append h2
  exact⟨by simp [memN,mem_beq h1,h3],h4⟩
def Same (l:List Nat) (a a':Act):Prop:=∀ t,memN t l=false→a'.tmps.getD t undef=a.tmps.getD t undef
theorem Same.refl (l:List Nat) (a:Act):Same l a a:=λ_ _=>rfl
theorem Same.trans {l:List Nat} {a b c:Act} (h:Same l a b) (h':Same l b c):Same l a c:=λt ht=>(h' t ht).trans (h t ht)
theorem Same.left {l r:List Nat} {a b:Act} (h:Same l a b):Same (l++r) a b:=λt ht=>h t (memN_append ht).1
theorem Same.right {l r:List Nat} {a b:Act} (h:Same r a b):Same (l++r) a b:=λt ht=>h t (memN_append ht).2
theorem getD_put {a:Act} {d t:Nat} {v:Value} (h:t≠d):(a.put (some d) v).tmps.getD t undef=a.tmps.getD t undef:=by
 simp only [Act.put,Array.getD_eq_getD_getElem?]
 rw [Array.getElem?_setIfInBounds_ne (Ne.symm h)]
theorem Same.put {o:Oper} {l:List Oper} {a:Act} (v:Value):Same (dsts (o::l)) a (a.put o.dst v):=by
 intro t ht
 cases ho:o.dst with
 | none=>simp [Act.put]
 | some d =>
  simp only [dsts,ho] at ht
  exact getD_put (memN_cons ht).1
theorem bltAll_cons {n t:Nat} {l:List Nat} (h:bltAll n (t::l)=true):t < n∧bltAll n l=true:=by
 simp only [bltAll] at h
 cases hb:Nat.blt t n with
 | true=>exact⟨by simpa using hb,by simpa [hb] using h⟩
 | false=>simp [hb] at h
theorem dsts_cons (o:Oper) (l:List Oper):dsts (o::l)=match o.dst with | some d=>d::dsts l | none=>dsts l:=rfl
theorem dsts_mem {n:Nat} {o:Oper} {d:Nat} (hd:o.dst=some d) (l:List Oper):bltAll n (dsts l)=true→o∈l→d < n:=by
 induction l with
 | nil=>intro _ hm;cases hm
 | cons o' l ih =>
  intro h hm
  rw [dsts_cons] at h
  cases hm with
  | head=>rw [hd] at h;exact (bltAll_cons h).1
  | tail _ hm =>
   cases ho:o'.dst with
   | none=>rw [ho] at h;exact ih h hm
   | some d'=>rw [ho] at h;exact ih (bltAll_cons h).2 hm
theorem Ag.pushE {n:Nat} {e:Env} {a:Act} (h:Ag n e a) {d:Option Nat} (hd:∀ t,d=some t→t < n) (v:Value):Ag n (pushE d v e) (a.put d v):=by
 cases d with
 | none=>exact h
 | some t=>exact h.put (hd t rfl)
theorem upon_of_good {o:Oper} {a:Act} {k:Value→World→Prop} {next:Act→World→Prop} {Q:Exit→Act→World→Prop} {r:Result Next}
  (h:Good P k r) (hk:∀ v w,k v w→next (a.put o.dst v) w):o.upon P a next Q r:=by
 unfold Good at h
 split at h
 ·exact hk _ _ h
 ·exact hk _ _ h
 ·rw [Oper.upon_enter]
  exact h.mono λe w'' ⟨v,h1,h2⟩=>by subst h1;exact hk _ _ h2
 ·exact h.elim
theorem semOp_wp {n:Nat} {H:List (Nat × RTy)} {g:List (Nat × Bool)} {o:Oper} {e:Env} {a:Act} {w:World} {k:Value→World→Prop} {next:Act→World→Prop} {Q:Exit→Act→World→Prop}
  (hA:Ag n e a) (h:semOp P H g o e k w) (hk:∀ v w,k v w→next (a.put o.dst v) w):o.wp P a w next Q:=by
 obtain⟨h1,h2,h3⟩:=semOp_ok h
 unfold Oper.wp
 rw [execOp_rho hA h1 h2]
 exact upon_of_good (P:=P) h3 hk
theorem yielded_find {n:Nat} {ops:Array Oper} {e:Env} {a:Act} (hA:Ag n e a) {j t:Nat} {b:Bool} (hj:(ops[j]?).bind (·.dst)=some t) (hf:find t e=some (.bool b)) :
  yielded ops a.tmps j=some b:=by
 have h1:=hA.get _ _ hf
 unfold yielded
 rw [hj]
 simp only [Option.bind_some]
 rw [Array.getD_eq_getD_getElem?] at h1
 cases ht:a.tmps[t]? with
 | none=>simp [ht,undef] at h1
 | some v=>simp [ht] at h1;simp [h1]
theorem yielded_undef {n:Nat} {ops:Array Oper} {e:Env} {a:Act} (hA:Ag n e a) {j t:Nat} {vs:Array Value} (hj:(ops[j]?).bind (·.dst)=some t) (hf:find t e=some (.tuple vs)) :
  yielded ops a.tmps j=none:=by
 have h1:=hA.get _ _ hf
 unfold yielded
 rw [hj]
 simp only [Option.bind_some]
 rw [Array.getD_eq_getD_getElem?] at h1
 cases ht:a.tmps[t]? with
 | none=>simp
 | some v=>simp [ht] at h1;simp [h1]
theorem semGuard_ok {n:Nat} {ops:Array Oper} {o:Oper} {g:List (Nat × Bool)} {e:Env} {a:Act} {yes no:List (Nat × Bool)→Env→Prop} (hA:Ag n e a)
  (h:semGuard ops o g e yes no):∃ g' e',Ag n e' a∧((Region.wanted o (yielded ops a.tmps)=true∧yes g' e')∨(Region.wanted o (yielded ops a.tmps)=false∧no g' e')):=by
 unfold semGuard at h
 split at h
 ·rename_i hg
  exact⟨g,e,hA,.inl ⟨by simp [Region.wanted,hg],h⟩⟩
 rename_i j b hg
 split at h
 ·exact h.elim
 rename_i t hj
 split at h
 ·rename_i c hc
  split at h <;> try exact h.elim
  rename_i y hy
  have hyd:=yielded_find hA hj hy
  split at h <;> try exact h.elim
  ·exact⟨g,e,hA,.inl ⟨by simp [Region.wanted,hg,hyd],h⟩⟩
  ·exact⟨g,e,hA,.inr ⟨by simp [Region.wanted,hg,hyd],h⟩⟩
  ·exact⟨g,e,hA,.inl ⟨by simp [Region.wanted,hg,hyd],h⟩⟩
  ·exact⟨g,e,hA,.inr ⟨by simp [Region.wanted,hg,hyd],h⟩⟩
 ·split at h <;> try exact h.elim
  ·rename_i vs hy
   exact⟨g,e,hA,.inr ⟨by simp [Region.wanted,hg,yielded_undef hA hj hy],h⟩⟩
  rename_i y hy
  have hyd:=yielded_find hA hj hy
  have hv:=hA.get _ _ hy
  split at h
  ·obtain⟨h1,h2⟩:=h.out
   cases y with
   | true=>exact⟨_,_,hA.cons_same hv,.inl ⟨by simp [Region.wanted,hg,hyd],h1 rfl⟩⟩
   | false=>exact⟨_,_,hA.cons_same hv,.inr ⟨by simp [Region.wanted,hg,hyd],h2 rfl⟩⟩
  ·obtain⟨h1,h2⟩:=h.out
   cases y with
   | true=>exact⟨_,_,hA.cons_same hv,.inr ⟨by simp [Region.wanted,hg,hyd],h1 rfl⟩⟩
   | false=>exact⟨_,_,hA.cons_same hv,.inl ⟨by simp [Region.wanted,hg,hyd],h2 rfl⟩⟩
theorem semOps_guard {H:List (Nat × RTy)} {ops:Array Oper} {o:Oper} {rest:List Oper} {g:List (Nat × Bool)} {e:Env} {k:Env→World→Prop} {w:World}
  (h:semOps P H ops (o::rest) g e k w):semGuard ops o g e (λg e=>semOp P H g o e (λv w'=>semOps P H ops rest g (pushE o.dst v e) k w') w)
   (λg e=>semOps P H ops rest g (pushE o.dst undef e) k w):=by
 unfold semOps at h
 unfold semGuard
 split at h
 ·exact h
 rename_i j b hg
 try simp only [hg]
 split at h
 ·exact h.elim
 rename_i t ht
 try simp only [ht]
 split at h
 ·rename_i c hc
  try simp only [hc]
  split at h <;> try exact h.elim
  rename_i y hy
  try simp only [hy]
  split at h <;> first | exact h | exact h.elim
 ·rename_i hc
  try simp only [hc]
  split at h <;> try exact h.elim
  ·exact h
  rename_i y hy
  try simp only [hy]
  split at h
  ·exact h
  ·exact h
theorem semOps_ok {n:Nat} {H:List (Nat × RTy)} {ops:Array Oper} {Q:Exit→Act→World→Prop} {k:Env→World→Prop} {a₀:Act} {all:List Nat} :
  ∀ (l:List Oper) (g:List (Nat × Bool)) (e:Env) (a:Act) (w:World),bltAll n (dsts l)=true→(∀ t,memN t all=false→memN t (dsts l)=false)→Ag n e a→Same all a₀ a →
   (∀ e' a' w',Ag n e' a'→Same all a₀ a'→k e' w'→Q .normal a' w')→semOps P H ops l g e k w→wpList P ops Q l a w
 | [],g,e,a,w,hb,hall,hA,hS,hQ,h=>hQ _ _ _ hA hS h
 | o::l,g,e,a,w,hb,hall,hA,hS,hQ,h=>by
  obtain⟨g',e',hA',hh⟩:=semGuard_ok hA (semOps_guard h)
  have hd:∀ t,o.dst=some t→t < n:=λt ht=>dsts_mem ht _ hb (by simp)
  have hb':bltAll n (dsts l)=true:=by
   cases ho:o.dst with
   | none=>rw [dsts_cons,ho] at hb;exact hb
   | some d=>rw [dsts_cons,ho] at hb;exact (bltAll_cons hb).2
  have hall':∀ t,memN t all=false→memN t (dsts l)=false:=λt ht=>by
   have:=hall t ht
   cases ho:o.dst with
   | none=>rw [dsts_cons,ho] at this;exact this
   | some d=>rw [dsts_cons,ho] at this;exact (memN_cons this).2
  have hput:∀ v,Same all a₀ (a.put o.dst v):=λv=>hS.trans λt ht=>Same.put (l:=l) v t (hall t ht)
  unfold wpList
  rcases hh with⟨hw,hh⟩ | ⟨hw,hh⟩
  ·rw [if_pos hw]
   exact .inl (semOp_wp hA' hh λv w' h'=>semOps_ok l _ _ _ _ hb' hall' (hA'.pushE hd v) (hput v) hQ h')
  ·rw [if_neg (by simp [hw])]
   exact semOps_ok l _ _ _ _ hb' hall' (hA'.pushE hd _) (hput _) hQ hh
end Go.Fk
end
section
namespace Go.Fk
open Go
variable {P:Program}
theorem ldSCells_ok {S:World→Prop} {a:Addr} {k:List Value→Prop}:∀ (ts:List Ty) (i:Nat) (acc:List Value),LdSCells S a k ts i acc →
  ∃ vs:List Value,vs.length=ts.length∧(∀ w,S w→∀ j v,vs[j]?=some v→w.cell? (a.add (i + j))=some v)∧k (acc.reverse++vs)
 | [],i,acc,h=>⟨[],rfl,by simp,by simpa [LdSCells] using h⟩
 | t::ts,i,acc,⟨x,h1,h2⟩=>by
  obtain⟨vs,e1,e2,e3⟩:=ldSCells_ok ts (i + 1) _ h2
  refine⟨t.enc x::vs,by simp [e1],λw hw j v hj=>?_,by simpa using e3⟩
  cases j with
  | zero=>simp at hj;subst hj;simpa using h1 w hw
  | succ j=>simp at hj;have:=e2 w hw j v hj;rwa [show i + 1 + j=i + (j + 1) from by omega] at this
theorem semTake_ok {H:List (Nat × RTy)} {g:List (Nat × Bool)} {S:World→Prop} {o:Oper} {e:Env} {k:Value→Prop} (h:semTake P H g S o e k) (hs:∀ cs b,o.op≠.select cs b) :
  known e o.op=true∧∃ v,(∀ w,S w→(execOp (rho e) o).run P w=.ok (.value v) w)∧k v:=by
 unfold semTake at h
 split at h
 ·exact h.elim
 rename_i hk
 refine⟨hk,?_⟩
 split at h
 ·rename_i t x hop
  split at h <;> try exact h.elim
  rename_i a hx
  split at h <;> try exact h.elim
  rename_i u i hu hi
  have key:∀ w,(execOp (rho e) o).run P w=((if isAggD u then (loadCells a i.size >>= λcs=>pure (Value.agg cs)) else load a).run P w).andThen λv w'=>.ok (.value v) w':=by
   intro w
   simp only [execOp,hop,hx,Instr.loadAt,Instr.sureAddr,loadVar,Sem.run_bind,Sem.run_pure,Result.andThen_ok,run_isAgg' w hu]
   cases isAggD u <;> simp [run_sizeOf' w hi]
  split at h <;> try exact h.elim
  ·rename_i ty hag hh
   obtain⟨v,h1,h2⟩:=h
   refine⟨_,λw hw=>?_,h2⟩
   rw [key]
   simp [hag,h1 w hw]
  ·rename_i ts hag hh
   split at h <;> try exact h.elim
   rename_i hl
   obtain⟨vs,e1,e2,e3⟩:=ldSCells_ok _ _ _ h
   have hl':vs.length=i.size:=by rw [e1];exact kB hl
   refine⟨.agg vs.toArray,λw hw=>?_,by simpa using e3⟩
   have:=run_loadCells_list (P:=P) w a vs (λj v hj=>by simpa using e2 w hw j v hj)
   rw [hl'] at this
   rw [key]
   simp [hag,this]
  ·rename_i hag hh
   obtain⟨cs,⟨h1,h2⟩,h3⟩:=h
   refine⟨.agg cs,λw hw=>?_,h3⟩
   have:=run_loadCells_list (P:=P) w a cs.toList (λj v hj=>h2 w hw j v (by simpa using hj))
   simp only [Array.length_toList,h1] at this
   rw [key]
   simp [hag,this]
 ·rename_i x hop
  split at h <;> try exact h.elim
  rename_i p hp
  obtain⟨a,rfl,h2⟩:=h.out
  exact⟨_,λw _=>by simp only [execOp,hop,hp,Sem.run_pure],h2⟩
 ·rename_i t x i hop
  split at h <;> try exact h.elim
  ·rename_i a n c κ j el hx hi hu
   split at h <;> try exact h.elim
   rename_i inf hinf
   obtain⟨p,h1,h2,h3⟩:=h
   refine⟨_,λw _=>?_,h3⟩
   simp only [execOp,hop,Sem.run_bind,hx,hi,run_indexAt_sl w _ _ _ _ _ hu hinf h1 h2,Result.andThen_ok,Sem.run_pure]
  ·rename_i p κ j n el hx hi hu
   split at h <;> try exact h.elim
   rename_i inf hinf
   obtain⟨h2,h3⟩:=h
   refine⟨_,λw _=>?_,h3⟩
   simp only [execOp,hop,Sem.run_bind,hx,hi,run_indexAt_arr w _ _ _ _ hu hinf h2,Result.andThen_ok,Sem.run_pure]
 ·rename_i c x y hop
  split at h
  ·rename_i b hb
   split at h <;> try exact h.elim
   rename_i yb hy
   split at h <;> try exact h.elim
   ·exact⟨_,λw _=>by simp [execOp,hop,hy,asBool],h⟩
   ·exact⟨_,λw _=>by simp [execOp,hop,hy,asBool],h⟩
  ·split at h <;> try exact h.elim
   rename_i b p q h1 h2 h3
   refine⟨_,λw _=>?_,h⟩
   simp only [execOp,hop,h1,h2,h3,asBool,Sem.run_bind,Sem.run_pure,Result.andThen_ok]
   cases b <;> rfl
 ·rename_i op t x y yt hop
  rcases sBin_pure (P:=P) (ox:=x) (oy:=y) (λhn=>isNilC_spec (n:=rho e) hn (λv hv=>by subst hv;rfl)) h with⟨v,h1,h2⟩ | hf
  ·refine⟨v,λw _=>?_,h2⟩
   have e1:execOp (rho e) o=(do pure (Next.value (← (do eqGuard op t x y (rho e x) (rho e y);binOp op t (rho e x) (rho e y):Sem Value))):Sem Next):=by simp only [execOp,hop]
   rw [e1,Sem.run_bind,h1 w];rfl
  ·obtain⟨r,h1,h2⟩:=hf
   refine⟨_,λw hw=>?_,h2⟩
   have e1:execOp (rho e) o=(do pure (Next.value (← (do eqGuard op t x y (rho e x) (rho e y);binOp op t (rho e x) (rho e y):Sem Value))):Sem Next):=by simp only [execOp,hop]
   rw [e1,Sem.run_bind,h1 w hw];rfl
 ·rename_i t ps hop
  split at h
  ·obtain⟨r,h1,h2⟩:=h
   refine⟨_,λw hw=>?_,h2⟩
   simp only [execOp,hop,Sem.run_bind]
   rw [h1 w hw];rfl
  ·split at h <;> try exact h.elim
   rename_i v hv
   exact⟨v,λw _=>peval_ok _ _ hv w,h⟩
 ·rename_i t x f hop
  split at h
  ·split at h <;> try exact h.elim
   rename_i v hv
   exact⟨v,λw _=>peval_ok _ _ hv w,h⟩
  ·obtain⟨r,h1,h2⟩:=h
   refine⟨_,λw hw=>?_,h2⟩
   simp only [execOp,hop,Sem.run_bind]
   rw [h1 w hw];rfl
 ·rename_i ats args hop
  split at h <;> try exact h.elim
  split at h
  ·obtain⟨r,h1,h2⟩:=h
   refine⟨_,λw hw=>?_,h2⟩
   simp only [execOp,hop,resolve,Sem.run_bind,Sem.run_pure,Result.andThen_ok,invoke,builtin]
   rw [h1 w hw];rfl
  ·split at h <;> try exact h.elim
   rename_i v hv
   exact⟨v,λw _=>peval_ok _ _ hv w,h⟩
 ·split at h <;> try exact h.elim
  rename_i v hv
  exact⟨v,λw _=>peval_ok _ _ hv w,h⟩
theorem firstTake_mem {ld:Nat→Bool} {ops:Array Oper} {listed:Array Bool} {i:Nat}:∀ {l:List Nat},firstTake ld ops listed l=some i→i∈l∧Region.free .any ops listed i=true
 | [],h=>by cases h
 | j::l,h=>by
  unfold firstTake at h
  split at h
  ·split at h
   ·rename_i hf
    split at h
    ·have:=firstTake_mem h;exact⟨by simp [this.1],this.2⟩
    ·simp at h;subst h;exact⟨by simp,hf⟩
   ·have:=firstTake_mem h;exact⟨by simp [this.1],this.2⟩
  ·have:=firstTake_mem h;exact⟨by simp [this.1],this.2⟩
theorem allOf_mem {f:Nat→Prop}:∀ {l:List Nat},allOf l f→∀ i∈l,f i
 | [],_,i,hi=>by cases hi
 | [j],h,i,hi=>by simp at hi;subst hi;exact h
 | j::k::l,h,i,hi=>by
  cases hi with
  | head=>exact h.1
  | tail _ hi=>exact allOf_mem h.2 i hi
theorem same_dst {ops:Array Oper} {all:List Nat} {o:Oper} (ho:o∈ops.toList) (hall:∀ t,memN t all=false→memN t (dsts ops.toList)=false) {a₀ a:Act} (hS:Same all a₀ a) (v:Value) :
  Same all a₀ (a.put o.dst v):=by
 refine hS.trans λt ht=>?_
 cases hd:o.dst with
 | none=>simp [Act.put]
 | some d =>
  refine getD_put λhtd=>?_
  subst htd
  have h1:=hall t ht
  have:∀ (l:List Oper),o∈l→memN t (dsts l)=false→False:=by
   intro l
   induction l with
   | nil=>intro hm;cases hm
   | cons o' l ih =>
    intro hm hmem
    rw [dsts_cons] at hmem
    cases hm with
    | head=>rw [hd] at hmem;exact (memN_cons hmem).1 rfl
    | tail _ hm =>
     cases ho':o'.dst with
     | none=>rw [ho'] at hmem;exact ih hm hmem
     | some d'=>rw [ho'] at hmem;exact ih hm (memN_cons hmem).2
  exact this _ ho h1
theorem semD_ok {ld:Nat→Bool} {n:Nat} {H:List (Nat × RTy)} {ops:Array Oper} {Q:Exit→Act→World→Prop} {S:World→Prop} {k:Env→World→Prop} {a₀:Act} {all:List Nat}
  (hb:bltAll n (dsts ops.toList)=true) (hall:∀ t,memN t all=false→memN t (dsts ops.toList)=false) (hns:Region.noSelect ops=true)
  (hQ:∀ e' a' w',Ag n e' a'→Same all a₀ a'→k e' w'→Q .normal a' w') (hP:∀ c a w,¬ Q (.panic c) a w) :
  ∀ (fuel:Nat) (listed:Array Bool) (g:List (Nat × Bool)) (e:Env) (a:Act) (w:World),Ag n e a→Same all a₀ a→S w →
   semD P H ld ops S k fuel listed g e w→wpAnyH P .any ops Q S fuel listed a w:=by
 intro fuel
 induction fuel with
 | zero =>
  intro listed g e a w hA hS hw h
  unfold semD at h
  split at h
  ·rename_i hr;exact wpAnyH_done hr (hQ _ _ _ hA hS h) 0
  ·exact h.elim
 | succ fuel ih =>
  intro listed g e a w hA hS hw h
  unfold semD at h
  split at h
  ·rename_i hr;exact wpAnyH_done hr (hQ _ _ _ hA hS h) _
  rename_i i₀ l hr
  split at h
  ·rename_i i hi
   obtain⟨hmem,hfree⟩:=firstTake_mem hi
   split at h
   ·exact h.elim
   rename_i o ho
   have hom:o∈ops.toList:=by simpa using Array.mem_of_getElem? ho
   have hd:∀ t,o.dst=some t→t < n:=λt ht=>dsts_mem ht _ hb hom
   have hsel:=λcs b=>Region.noSelect_spec hns i o cs b ho
   obtain⟨g',e',hA',hh⟩:=semGuard_ok hA h
   rcases hh with⟨hwt,hh⟩ | ⟨hwt,hh⟩
   ·obtain⟨hk,v,h1,h2⟩:=semTake_ok hh hsel
    refine wpAnyH_take (v:=v) ho hns hfree (by rw [hr];simpa using hmem) (λc a w hq=>(hP _ _ _ hq).elim) (.inl ⟨hwt,λw hw=>?_⟩) hw ?_
    ·rw [execOp_rho hA' hk hsel];exact h1 w hw
    ·exact ih _ _ _ _ _ (hA'.pushE hd v) (same_dst hom hall hS v) hw h2
   ·exact wpAnyH_take (v:=undef) ho hns hfree (by rw [hr];simpa using hmem) (λc a w hq=>(hP _ _ _ hq).elim) (.inr ⟨hwt,rfl⟩) hw
     (ih _ _ _ _ _ (hA'.pushE hd _) (same_dst hom hall hS _) hw hh)
  ·refine wpAnyH_all hr (by simp) λi hi=>?_
   have hf:=allOf_mem h i hi
   split at hf
   ·exact hf.elim
   rename_i o ho
   have hom:o∈ops.toList:=by simpa using Array.mem_of_getElem? ho
   have hd:∀ t,o.dst=some t→t < n:=λt ht=>dsts_mem ht _ hb hom
   obtain⟨g',e',hA',hh⟩:=semGuard_ok hA hf
   unfold wpOp
   rw [ho]
   simp only []
   rcases hh with⟨hwt,hh⟩ | ⟨hwt,hh⟩
   ·rw [if_pos hwt]
    exact .inl (semOp_wp hA' hh λv w' ⟨h1,h2⟩=>⟨h1,ih _ _ _ _ _ (hA'.pushE hd v) (same_dst hom hall hS v) h1 h2⟩)
   ·rw [if_neg (by simp [hwt])]
    exact⟨hw,ih _ _ _ _ _ (hA'.pushE hd _) (same_dst hom hall hS _) hw hh⟩
end Go.Fk
end
section
namespace Go.Fk
open Go
variable {P:Program}
theorem find_cons_eq {t:Nat} {v:Value} {e:Env}:find t ((t,v)::e)=some v:=by simp [find]
theorem find_cons_ne {s t:Nat} {v:Value} {e:Env} (h:t≠s):find t ((s,v)::e)=find t e:=by simp [find,mem_beq h]
def Says (e:Env) (a:Act):Prop:=∀ t v,find t e=some v→a.tmps.getD t undef=v
theorem Says.cons {e:Env} {a:Act} {s:Nat} {v:Value} (h:Says e a) (hv:a.tmps.getD s undef=v):Says ((s,v)::e) a:=by
 intro t u hu
 by_cases hts:t=s
 ·subst hts;rw [find_cons_eq] at hu;simp at hu;rw [hv,hu]
 ·rw [find_cons_ne hts] at hu;exact h _ _ hu
theorem Says.embed {e₀ e:Env} {a:Act} {n:Nat} (hA:Ag n e a) (h₀:Says e₀ a):∀ (l:List (Nat × RTy)) (s:LT l),decs l e=some s→Says (embed l s++e₀) a
 | [],s,_=>h₀
 | [x],s,h=>by
  simp only [decs] at h
  split at h <;> try (cases h;done)
  rename_i v hv
  have:=RTy.dec_sound _ _ _ h
  subst this
  exact h₀.cons (hA.get _ _ hv)
 | x::y::l,s,h=>by
  simp only [decs] at h
  split at h <;> try (cases h;done)
  rename_i v hv
  split at h <;> try (cases h;done)
  rename_i u hu
  split at h <;> try (cases h;done)
  rename_i r hr
  simp at h
  subst h
  have:=RTy.dec_sound _ _ _ hu
  subst this
  exact (Says.embed hA h₀ (y::l) r hr).cons (hA.get _ _ hv)
theorem Says.restrict {e:Env} {n:Nat} {a a':Act} {ws:List Nat} (hA:Ag n e a) (hS:Same ws a a'):∀ (keep:List Nat),keepOk ws keep=true→Says (restrict keep e) a'
 | [],_=>λt v h=>by cases h
 | t::l,h=>by
  simp only [keepOk] at h
  split at h
  ·cases h
  rename_i ht
  have ih:=Says.restrict hA hS l h
  unfold Go.Fk.restrict
  split
  ·rename_i v hv
   exact ih.cons (by rw [hS t ht];exact hA.get _ _ hv)
  ·exact ih
theorem Ag.rest {n:Nat} {e e':Env} {a a':Act} {ws keep:List Nat} {l:List (Nat × RTy)} {s:LT l} (hA:Ag n e a) (hA':Ag n e' a') (hS:Same ws a a') (hk:keepOk ws keep=true)
  (hd:decs l e'=some s):Ag n (embed l s++restrict keep e) a' :=
 ⟨hA'.size,hA'.defers,Says.embed hA' (Says.restrict hA hS keep hk) l s hd⟩
def Post (n:Nat) (ws:List Nat) (a₀:Act) (kn:Env→World→Prop) (kx:List (Nat × (Env→World→Prop))) (kr:Env→World→Prop):Exit→Act→World→Prop
 | .normal,a,w=>Same ws a₀ a∧∃ e,Ag n e a∧kn e w
 | .exit id,a,w=>Same ws a₀ a∧∃ e,Ag n e a∧exitK id e w kx
 | .ret,a,w=>∃ e,Ag n e a∧kr e w
 | _,_,_=>False
theorem Post.mono {n:Nat} {ws ws':List Nat} {a₀ a₁:Act} {kn kn':Env→World→Prop} {kx:List (Nat × (Env→World→Prop))} {kr:Env→World→Prop}
  (hS:∀ a,Same ws a₀ a→Same ws' a₁ a) (hn:∀ e a w,Ag n e a→Same ws a₀ a→kn e w→∃ e',Ag n e' a∧kn' e' w):∀ (ex:Exit) (a:Act) (w:World),Post n ws a₀ kn kx kr ex a w→Post n ws' a₁ kn' kx kr ex a w:=by
 intro ex a w h
 cases ex <;> simp only [Post] at h ⊢
 ·obtain⟨h1,e,h2,h3⟩:=h;exact⟨hS _ h1,hn _ _ _ h2 h1 h3⟩
 ·exact⟨hS _ h.1,h.2⟩
 ·exact h
def LoopAt (P:Program) (c:Code) (Q:Exit→Act→World→Prop) (a:Act) (w:World):Prop :=
 ∀ (b:Frame) (k:List Item) (cs:List Frame),∃ e a' w',Q e a' w'∧Arrives P (lone (b.at a (.code c::.inLoop c::k)) cs w) b k cs e a' w'
theorem loopAt_step {c:Code} {Q:Exit→Act→World→Prop} {a:Act} {w:World} (h:c.wp P (Exit.then (LoopAt P c Q) Q) a w):LoopAt P c Q a w:=by
 intro b k cs
 obtain⟨e,a₁,w₁,hq,harr⟩:=h b (.inLoop c::k) cs
 cases e with
 | normal =>
  obtain⟨e₂,a₂,w₂,hq₂,harr₂⟩:=hq b k cs
  exact⟨e₂,a₂,w₂,hq₂,.of_steps (Steps.trans harr (.one step_inLoop)) harr₂⟩
 | exit id=>exact⟨_,a₁,w₁,hq,.pass (x:=.inLoop c) rfl (λ_ _=>.inl (by simp)) harr⟩
 | goto l=>exact⟨_,a₁,w₁,hq,.pass (x:=.inLoop c) rfl (λ_ _=>.inl (by simp)) harr⟩
 | ret=>exact⟨_,a₁,w₁,hq,.pass (x:=.inLoop c) rfl (λ_ _=>.inl (by simp)) harr⟩
 | panic ch=>exact⟨_,a₁,w₁,hq,.pass (x:=.inLoop c) rfl (λ_ _=>.inl (by simp)) harr⟩
 | outgrown=>exact⟨_,a₁,w₁,hq,.pass (x:=.inLoop c) rfl (λ_ _=>.inl (by simp)) harr⟩
theorem wp_of_loopAt {c:Code} {Q:Exit→Act→World→Prop} {a:Act} {w:World} (h:LoopAt P c Q a w):(Code.loop c).wp P Q a w:=by
 intro b k cs
 obtain⟨e,a',w',hq,harr⟩:=h b k cs
 exact⟨e,a',w',hq,.of_steps (.one step_loop) harr⟩
theorem semReg_ok {ld:LdM} {n:Nat} {H:List (Nat × RTy)} {id:Nat} {ops:Array Oper} {d:Bool} {e:Env} {a:Act} {w:World} {k:Env→World→Prop} {kx:List (Nat × (Env→World→Prop))} {kr:Env→World→Prop}
  (hm:P.follows .mixedOrders=true) (hok:codeOk n (.region id ops d)=true) (hA:Ag n e a) (h:semReg P H ld ops d e k w) :
  (Code.region id ops d).wp P (Post n (dsts ops.toList) a k kx kr) a w:=by
 simp only [codeOk] at hok
 split at hok <;> try (cases hok;done)
 rename_i hb
 unfold semReg at h
 split at h
 ·exact wp_region_list (semOps_ok (all:=dsts ops.toList) _ _ _ _ _ hb (λ_ h=>h) hA (Same.refl _ _) (λe' a' w' h1 h2 h3=>⟨h2,e',h1,h3⟩) h)
 ·split at h
  case h_2 =>
   exact wp_region_held_drew (S:=λ_=>True) hm trivial λh1=>semD_ok (all:=dsts ops.toList) (a₀:=a) hb (λ_ h=>h) hok (λe' a' w' h1 h2 h3=>⟨h2,e',h1,h3⟩) (λ_ _ _ h=>h) _ _ _ _ _ _ hA (Same.refl _ _) trivial h
  all_goals
   obtain⟨S,h1,h2⟩:=h
   exact wp_region_held_drew (S:=S) hm h1 λh1=>semD_ok (all:=dsts ops.toList) (a₀:=a) hb (λ_ h=>h) hok (λe' a' w' h1 h2 h3=>⟨h2,e',h1,h3⟩) (λ_ _ _ h=>h) _ _ _ _ _ _ hA (Same.refl _ _) h1 h2
theorem sem_ok {n:Nat} {H:List (Nat × RTy)} (hm:P.follows .mixedOrders=true):∀ (c:Code) (ann:Ann) (e:Env) (kn:Env→World→Prop) (kx:List (Nat × (Env→World→Prop))) (kr:Env→World→Prop) (a:Act) (w:World),
  codeOk n c=true→Ag n e a→sem P H c ann e kn kx kr w→c.wp P (Post n (asg c) a kn kx kr) a w:=by
 intro c
 induction c with
 | skip=>intro ann e kn kx kr a w hok hA h;exact wp_skip ⟨Same.refl _ _,e,hA,h⟩
 | region id ops d =>
  intro ann e kn kx kr a w hok hA h
  unfold sem at h
  split at h
  ·rename_i live keep x y
   split at h <;> try exact h.elim
   rename_i hk
   refine Code.wp_mono (Post.mono (λ_ h=>h) λe' a' w' h1 h2 h3=>?_) (semReg_ok hm hok hA h)
   unfold jump at h3
   split at h3 <;> try exact h3.elim
   rename_i s hs
   exact⟨_,hA.rest h1 h2 hk hs,h3⟩
  ·exact semReg_ok hm hok hA h
 | seq x y ihx ihy =>
  intro ann e kn kx kr a w hok hA h
  simp only [codeOk] at hok
  split at hok <;> try (cases hok;done)
  rename_i hx
  unfold sem at h
  have fin:∀ (kn':Env→World→Prop) (annx:Ann),sem P H x annx e kn' kx kr w →
    (∀ e' a' w',Ag n e' a'→Same (asg x) a a'→kn' e' w'→y.wp P (Post n (asg x++asg y) a kn kx kr) a' w')→(Code.seq x y).wp P (Post n (asg (.seq x y)) a kn kx kr) a w:=by
   intro kn' annx h1 h2
   refine wp_seq (Code.wp_mono (λex a' w' hp=>?_) (ihx annx e kn' kx kr a w hx hA h1))
   cases ex <;> simp only [Exit.then,Post] at hp ⊢
   ·obtain⟨hS,e',hA',hk⟩:=hp
    exact h2 e' a' w' hA' hS hk
   ·exact⟨Same.left hp.1,hp.2⟩
   ·exact hp
  split at h
  ·rename_i ax ay
   refine fin _ ax h λe' a' w' hA' hS hk=>?_
   exact Code.wp_mono (Post.mono (λ_ h=>(Same.left hS).trans (Same.right h)) λ_ _ _ h1 _ h3=>⟨_,h1,h3⟩) (ihy ay e' kn kx kr a' w' hok hA' hk)
  ·rename_i live keep ax ay
   split at h <;> try exact h.elim
   rename_i hk
   refine fin _ ax h λe' a' w' hA' hS hj=>?_
   unfold jump at hj
   split at hj <;> try exact hj.elim
   rename_i s hs
   exact Code.wp_mono (Post.mono (λ_ h=>(Same.left hS).trans (Same.right h)) λ_ _ _ h1 _ h3=>⟨_,h1,h3⟩) (ihy ay _ kn kx kr a' w' hok (hA.rest hA' hS hk hs) hj)
  ·refine fin _ .z h λe' a' w' hA' hS hk=>?_
   exact Code.wp_mono (Post.mono (λ_ h=>(Same.left hS).trans (Same.right h)) λ_ _ _ h1 _ h3=>⟨_,h1,h3⟩) (ihy .z e' kn kx kr a' w' hok hA' hk)
 | cond v x y ihx ihy =>
  intro ann e kn kx kr a w hok hA h
  simp only [codeOk] at hok
  split at hok <;> try (cases hok;done)
  rename_i hx
  unfold sem at h
  split at h <;> try exact h.elim
  rename_i b hv
  have fin:∀ (ax ay:Ann),Br b (sem P H x ax e kn kx kr w) (sem P H y ay e kn kx kr w)→(Code.cond v x y).wp P (Post n (asg (.cond v x y)) a kn kx kr) a w:=by
   intro ax ay hbr
   obtain⟨h1,h2⟩:=hbr.out
   refine wp_cond (ev_sound hA hv) ?_
   cases b with
   | true=>exact Code.wp_mono (Post.mono (λ_ h=>Same.left h) λ_ _ _ h1 _ h3=>⟨_,h1,h3⟩) (ihx ax e kn kx kr a w hx hA (h1 rfl))
   | false=>exact Code.wp_mono (Post.mono (λ_ h=>Same.right h) λ_ _ _ h1 _ h3=>⟨_,h1,h3⟩) (ihy ay e kn kx kr a w hok hA (h2 rfl))
  split at h
  ·exact fin _ _ h
  ·exact fin _ _ h
 | block id b ih =>
  intro ann e kn kx kr a w hok hA h
  unfold sem at h
  refine wp_block (Code.wp_mono (λex a' w' hp=>?_) (ih ann e kn _ kr a w hok hA h))
  cases ex <;> simp only [Exit.inBlock,Post] at hp ⊢
  ·exact hp
  ·rename_i id'
   obtain⟨hS,e',hA',hk⟩:=hp
   simp only [exitK] at hk
   by_cases hid:id'=id
   ·subst hid
    rw [if_pos rfl]
    exact⟨hS,e',hA',by simpa using hk⟩
   ·rw [if_neg hid]
    exact⟨hS,e',hA',by simpa [mem_beq hid] using hk⟩
  ·exact hp
 | loop b ih =>
  intro ann e kn kx kr a w hok hA h
  unfold sem at h
  split at h <;> try exact h.elim
  rename_i live keep ax
  split at h <;> try exact h.elim
  rename_i hk
  split at h <;> try exact h.elim
  rename_i s₀ hs₀
  refine wp_of_loopAt ?_
  have:=h (λs w'=>∀ a',Same (asg b) a a'→Ag n (embed live s++restrict keep e) a'→LoopAt P b (Post n (asg b) a kn kx kr) a' w') λs w' hF a' hS hA'=>?_
  ·exact this a (Same.refl _ _) (hA.rest hA (Same.refl _ _) hk hs₀)
  ·refine loopAt_step (Code.wp_mono (λex a'' w'' hp=>?_) (ih ax _ _ kx kr a' w' hok hA' hF))
   cases ex <;> simp only [Exit.then,Post] at hp ⊢
   ·obtain⟨hS',e',hA'',hj⟩:=hp
    unfold jump at hj
    split at hj <;> try exact hj.elim
    rename_i s hs
    exact hj a'' (hS.trans hS') (hA.rest hA'' (hS.trans hS') hk hs)
   ·exact⟨hS.trans hp.1,hp.2⟩
   ·exact hp
 | exit id=>intro ann e kn kx kr a w hok hA h;exact wp_exit ⟨Same.refl _ _,e,hA,h⟩
 | ret=>intro ann e kn kx kr a w hok hA h;exact wp_ret ⟨e,hA,h⟩
 | rangeFunc f ps x y=>intro ann e kn kx kr a w hok hA h;cases hok
 | scope b ih=>intro ann e kn kx kr a w hok hA h;cases hok
 | label l=>intro ann e kn kx kr a w hok hA h;cases hok
 | goto l=>intro ann e kn kx kr a w hok hA h;cases hok
 | refuse l=>intro ann e kn kx kr a w hok hA h;cases hok
end Go.Fk
end
section
namespace Go.Fk
open Go
def semRes (P:Program) (H:List (Nat × RTy)):List ResultVar→Env→List Value→(List Value→Prop)→World→Prop
 | [],_,acc,k,_=>k acc.reverse
 | .tmp t::l,e,acc,k,w=>match find t e with
  | some v=>semRes P H l e (v::acc) k w
  | none=>False
 | .cell a t::l,e,acc,k,w=>match find a e with
  | some v=>sLoad P t v (hintOf (some a) H) (λu=>semRes P H l e (u::acc) k w) w
  | none=>False
def semRet (P:Program) (H:List (Nat × RTy)) (rs:List ResultVar) (rt:RTy) (K:rt.T→World→Prop) (e:Env) (w:World):Prop :=
 semRes P H rs e [] (λvs=>match (match vs with | [v]=>rt.dec v | vs=>rt.dec (.tuple vs.toArray)) with
  | some r=>K r w
  | none=>False) w
variable {P:Program}
def resOf (tmps:Array Value):ResultVar→Sem Value
 | .tmp t=>pure (tmps.getD t undef)
 | .cell a t=>do loadVar t (← asAddr (tmps.getD a undef))
theorem sLoad_var {t:TypeId} {x:Value} {h:RTy} {k:Value→Prop} {w:World} (H:sLoad P t x h k w):∃ v,(do loadVar t (← asAddr x):Sem Value).run P w=.ok v w∧k v:=by
 have hx:∃ a,x=.pointer (some a):=by
  unfold sLoad at H
  split at H <;> try exact H.elim
  exact⟨_,rfl⟩
 obtain⟨a,rfl⟩:=hx
 obtain⟨v,h1,h2⟩:=sLoad_ok H
 exact⟨v,by simpa [Instr.loadAt,Instr.sureAddr,asAddr] using h1,h2⟩
theorem semRes_ok {n:Nat} {H:List (Nat × RTy)} {e:Env} {a:Act} {w:World} {k:List Value→Prop} (hA:Ag n e a):∀ (l:List ResultVar) (acc:List Value),semRes P H l e acc k w →
  ∃ vs,(l.mapM (resOf a.tmps)).run P w=.ok vs w∧k (acc.reverse++vs)
 | [],acc,h=>⟨[],rfl,by simpa [semRes] using h⟩
 | .tmp t::l,acc,h=>by
  simp only [semRes] at h
  split at h <;> try exact h.elim
  rename_i v hv
  obtain⟨vs,h1,h2⟩:=semRes_ok hA l _ h
  refine⟨v::vs,?_,by simpa using h2⟩
  simp only [List.mapM_cons,resOf,Sem.run_bind,Sem.run_pure,Result.andThen_ok,hA.get _ _ hv,h1]
 | .cell c t::l,acc,h=>by
  simp only [semRes] at h
  split at h <;> try exact h.elim
  rename_i v hv
  obtain⟨u,h0,h⟩:=sLoad_var h
  obtain⟨vs,h1,h2⟩:=semRes_ok hA l _ h
  refine⟨u::vs,?_,by simpa using h2⟩
  have h0':(resOf a.tmps (.cell c t)).run P w=.ok u w:=by simp only [resOf,hA.get _ _ hv];exact h0
  simp only [List.mapM_cons,Sem.run_bind,h0',Result.andThen_ok,h1,Sem.run_pure]
theorem run_results {n:Nat} {fn:Func} {H:List (Nat × RTy)} {rt:RTy} {K:rt.T→World→Prop} {e:Env} {a:Act} {w:World} (hA:Ag n e a) (h:semRet P H fn.results.toList rt K e w) :
  ∃ r:rt.T,(results fn a.tmps).run P w=.ok (rt.enc r) w∧K r w:=by
 obtain⟨vs,h1,h2⟩:=semRes_ok hA _ _ h
 simp only [List.reverse_nil,List.nil_append] at h2
 have hres:(results fn a.tmps).run P w=.ok (if h:vs.toArray.size=1 then vs.toArray[0] else .tuple vs.toArray) w:=by
  have e1:results fn a.tmps=(fn.results.mapM (resOf a.tmps) >>= λvs=>pure (if h:vs.size=1 then vs[0] else .tuple vs)):=by
   unfold results
   congr 2
  rw [e1,Array.mapM_eq_mapM_toList]
  simp only [Sem.run_bind,Sem.run_map,h1,Result.andThen_ok,Sem.run_pure]
 rw [hres]
 split at h2 <;> try exact h2.elim
 rename_i r hr
 refine⟨r,?_,h2⟩
 split at hr
 ·rename_i v
  rw [RTy.dec_sound _ _ _ hr];rfl
 ·rename_i hne
  rw [← RTy.dec_sound _ _ _ hr]
  have:¬ vs.toArray.size=1:=by
   intro hs
   simp at hs
   obtain⟨v,rfl⟩:=List.length_eq_one_iff.1 hs
   exact hne v rfl
  rw [dif_neg this]
def argEnv:Nat→List Value→Env
 | _,[]=>[]
 | i,v::l=>(i,v)::argEnv (i + 1) l
theorem argEnv_get (n:Nat):∀ (l:List Value) (i t:Nat) (v:Value),find t (argEnv i l)=some v→i≤t∧l[t - i]?=some v
 | [],i,t,v,h=>by cases h
 | u::l,i,t,v,h=>by
  unfold argEnv at h
  by_cases hti:t=i
  ·subst hti;rw [find_cons_eq] at h;simp at h;subst h;simp
  ·rw [find_cons_ne hti] at h
   obtain⟨h1,h2⟩:=argEnv_get n l (i + 1) t v h
   refine⟨by omega,?_⟩
   rw [show t - i=(t - (i + 1)) + 1 from by omega]
   simpa using h2
theorem calls_of_sem {f:FuncId} {fn:Func} {c:Code} {H:List (Nat × RTy)} {ann:Ann} {args:List Value} {rt:RTy} {K:rt.T→World→Prop} {w:World} (hm:P.follows .mixedOrders=true)
  (hf:P.funcs[f]?=some fn) (hb:fn.body=some c) (hok:codeOk fn.ntmps c=true) (hn:Nat.ble args.length fn.ntmps=true)
  (h:sem P H c ann (argEnv 0 args) (semRet P H fn.results.toList rt K) [] (semRet P H fn.results.toList rt K) w):CallF P f args.toArray rt w K:=by
 refine calls_of_wp hf hb ?_
 have hn':args.length≤fn.ntmps:=Nat.le_of_ble_eq_true hn
 refine Code.wp_mono (λex a w' hp=>?_) (sem_ok hm c ann _ _ _ _ _ w hok (n:=fn.ntmps) ?_ h)
 ·cases ex <;> simp only [Post] at hp
  ·obtain⟨_,e,hA,hk⟩:=hp
   obtain⟨r,h1,h2⟩:=run_results hA hk
   exact⟨hA.defers,_,h1,r,rfl,h2⟩
  ·obtain⟨_,e,hA,hk⟩:=hp
   exact hk.elim
  ·obtain⟨e,hA,hk⟩:=hp
   obtain⟨r,h1,h2⟩:=run_results hA hk
   exact⟨hA.defers,_,h1,r,rfl,h2⟩
 ·refine⟨by simp;omega,rfl,λt v hv=>?_⟩
  obtain⟨_,h2⟩:=argEnv_get fn.ntmps args 0 t v hv
  simp only [Nat.sub_zero] at h2
  have ht:t < args.length:=(kA h2).1
  simp only [Array.getD_eq_getD_getElem?]
  rw [Array.getElem?_append_left (by simpa using ht)]
  simp [h2]
end Go.Fk
end
section
namespace Go.Fk
open Go
structure Keeps (M:Nat→Prop) (w w':World):Prop where
 os:w'.os=w.os
 tape:w'.tape=w.tape
 output:w'.output=w.output
 size:w.heap.size≤w'.heap.size
 keep:∀ b,b < w.heap.size→¬ M b→w'.heap[b]?=w.heap[b]?
def No:Nat→Prop:=λ_=>False
theorem Keeps.refl {M:Nat→Prop} {w:World}:Keeps M w w:=⟨rfl,rfl,rfl,Nat.le_refl _,λ_ _ _=>rfl⟩
theorem Keeps.trans {M:Nat→Prop} {a b c:World} (h:Keeps M a b) (k:Keeps M b c):Keeps M a c :=
 ⟨k.os.trans h.os,k.tape.trans h.tape,k.output.trans h.output,Nat.le_trans h.size k.size,λi hi hm=>(k.keep i (Nat.lt_of_lt_of_le hi h.size) hm).trans (h.keep i hi hm)⟩
theorem Keeps.then {M N:Nat→Prop} {a b c:World} (h:Keeps M a b) (k:Keeps N b c) (hN:∀ i,i < a.heap.size→N i→M i):Keeps M a c :=
 ⟨k.os.trans h.os,k.tape.trans h.tape,k.output.trans h.output,Nat.le_trans h.size k.size,λi hi hm=>(k.keep i (Nat.lt_of_lt_of_le hi h.size) (λhn=>hm (hN i hi hn))).trans (h.keep i hi hm)⟩
theorem Keeps.mono {M N:Nat→Prop} {w w':World} (h:Keeps N w w') (hN:∀ i,i < w.heap.size→N i→M i):Keeps M w w' :=
 ⟨h.os,h.tape,h.output,h.size,λi hi hm=>h.keep i hi λhn=>hm (hN i hi hn)⟩
theorem Keeps.no {M:Nat→Prop} {w w':World} (h:Keeps No w w'):Keeps M w w':=h.mono λ_ _ h=>h.elim
theorem Keeps.then0 {M:Nat→Prop} {a b c:World} (h:Keeps M a b) (k:Keeps No b c):Keeps M a c:=h.then k λ_ _ h=>h.elim
theorem Keeps.of_below {w w':World} (h:RowKit.Below w.heap.size w w'):Keeps No w w':=⟨h.os,h.tape,h.output,h.size,λk hk _=>h.block k hk⟩
theorem Keeps.drew {w:World}:Keeps No w w.drew:=⟨rfl,rfl,rfl,Nat.le_refl _,λ_ _ _=>rfl⟩
theorem lt_of_some {w:World} {b:Nat} {o:Obj} (h:w.heap[b]?=some o):b < w.heap.size:=(Array.getElem?_eq_some_iff.1 h).1
theorem Keeps.blk {M:Nat→Prop} {w w':World} (h:Keeps M w w') {b:Nat} {o:Obj} (hb:w.heap[b]?=some o) (hm:¬ M b):w'.heap[b]?=some o:=by
 rw [h.keep b (lt_of_some hb) hm,hb]
theorem Keeps.blk0 {w w':World} (h:Keeps No w w') {b:Nat} {o:Obj} (hb:w.heap[b]?=some o):w'.heap[b]?=some o:=h.blk hb id
abbrev View:=Nat→Obj→Prop
def V (M:Nat→Prop) (w:World):View:=λb o=>¬ M b∧w.heap[b]?=some o
def Vle (H H':View):Prop:=∀ b o,H b o→H' b o
theorem Vle.refl {H:View}:Vle H H:=λ_ _ h=>h
theorem Vle.trans {H H' H'':View} (h:Vle H H') (h':Vle H' H''):Vle H H'':=λb o x=>h' b o (h b o x)
theorem V.move {M M' N:Nat→Prop} {w w':World} (hk:Keeps N w w') (hN:∀ b,b < w.heap.size→N b→M b) (hM:∀ b,b < w.heap.size→M' b→M b):Vle (V M w) (V M' w') :=
 λb o ⟨h1,h2⟩=>⟨λh=>h1 (hM b (lt_of_some h2) h),hk.blk h2 λh=>h1 (hN b (lt_of_some h2) h)⟩
theorem V.keeps {M:Nat→Prop} {w w':World} (hk:Keeps M w w'):Vle (V M w) (V M w'):=V.move hk (λ_ _ h=>h) (λ_ _ h=>h)
theorem V.keeps0 {M:Nat→Prop} {w w':World} (hk:Keeps No w w'):Vle (V M w) (V M w'):=V.move hk (λ_ _ h=>h.elim) (λ_ _ h=>h)
theorem V.sub {M M':Nat→Prop} {w:World} (h:∀ b,b < w.heap.size→M' b→M b):Vle (V M w) (V M' w):=V.move (N:=No) Keeps.refl (λ_ _ h=>h.elim) h
structure New (b:Nat) (o:Obj) (w w':World):Prop where
 eq:b=w.heap.size
 at_:w'.heap[b]?=some o
 keeps:Keeps No w w'
 size:w'.heap.size=w.heap.size + 1
theorem Al.mk {o:Obj} {w:World} {k:Nat→World→Prop} (h:∀ b w',New b o w w'→k b w'):Al o w k:=by
 refine h _ _ ⟨rfl,?_,⟨rfl,rfl,rfl,by simp,λb hb _=>?_⟩,by simp⟩
 ·show (w.heap.push o)[w.heap.size]?=some o
  simp
 ·show (w.heap.push o)[b]?=_
  rw [Array.getElem?_push,if_neg (by omega)]
structure Upd (b:Nat) (o:Obj) (w w':World):Prop where
 at_:w'.heap[b]?=some o
 keeps:Keeps (·=b) w w'
 size:w'.heap.size=w.heap.size
theorem cell_of {w:World} {b off:Nat} {cs:Array Value} {E:TypeId} {fr:Nat × Nat} {v:Value} (hb:w.heap[b]?=some (.cells cs E fr)) (hc:cs[off]?=some v) :
  w.cell? ⟨b,off,none⟩=some v:=by simp [World.cell?,hb,hc]
theorem upd_setCell {w:World} {b off:Nat} {cs:Array Value} {E:TypeId} {fr:Nat × Nat} {v:Value} (hb:w.heap[b]?=some (.cells cs E fr)) :
  Upd b (.cells (cs.setIfInBounds off v) E fr) w (w.setCell ⟨b,off,none⟩ v):=by
 refine⟨?_,⟨rfl,rfl,rfl,by simp [World.setCell],λi hi hm=>?_⟩,by simp [World.setCell]⟩
 ·simp only [World.setCell,Array.getElem?_modify,hb]
  simp
 ·simp only [World.setCell,Array.getElem?_modify]
  rw [if_neg (λh=>hm h.symm)]
theorem St.blk {b off:Nat} {cs:Array Value} {E:TypeId} {v:Value} {w:World} {k:World→Prop} (hb:w.heap[b]?=some (.cells cs E (0,0))) (ho:off < cs.size)
  (h:∀ w',Upd b (.cells (cs.setIfInBounds off v) E (0,0)) w w'→k w'):St ⟨b,off,none⟩ v w k:=by
 refine⟨⟨?_,?_⟩,h _ (upd_setCell hb)⟩
 ·simp [World.cell?,hb,ho]
 ·simp [World.frozen?,hb]
theorem Ld.int {κ:IntKind} {a:Addr} {w:World} {k:Int→Prop} {i:Int} (h:w.cell? a=some (.int κ i)) (hk:k i):Ld (.int κ) a w k:=⟨i,h,hk⟩
theorem Ld.bool {a:Addr} {w:World} {k:Bool→Prop} {i:Bool} (h:w.cell? a=some (.bool i)) (hk:k i):Ld .bool a w k:=⟨i,h,hk⟩
theorem Ld.str {a:Addr} {w:World} {k:ByteArray→Prop} {i:ByteArray} (h:w.cell? a=some (.string i)) (hk:k i):Ld .str a w k:=⟨i,h,hk⟩
theorem Ld.ptr {a:Addr} {w:World} {k:Option Addr→Prop} {i:Option Addr} (h:w.cell? a=some (.pointer i)) (hk:k i):Ld .ptr a w k:=⟨i,h,hk⟩
theorem Ld.map {a:Addr} {w:World} {k:Option Nat→Prop} {i:Option Nat} (h:w.cell? a=some (.map i)) (hk:k i):Ld .map a w k:=⟨i,h,hk⟩
theorem Ld.sl {a:Addr} {w:World} {k:Sl→Prop} {p:Option Addr} {n c:Nat} (h:w.cell? a=some (.slice p n c)) (hk:k ⟨p,n,c⟩):Ld .sl a w k:=⟨⟨p,n,c⟩,h,hk⟩
@[simp] theorem Br_true {x y:Prop}:Br true x y=x:=rfl
@[simp] theorem Br_false {x y:Prop}:Br false x y=y:=rfl
@[simp] theorem NilC_some {a:Addr} {k:Addr→Prop}:NilC (some a) k=k a:=rfl
theorem w64_eq {x:Int} (h:-9223372036854775808≤x∧x≤9223372036854775807):w64 x=x:=IntWalk.i64_in x h
theorem Loop.mk {σ:Type} {F:σ→World→(σ→World→Prop)→Prop} {s:σ} {w:World} (I:σ→World→Prop) (μ:σ→Nat) (h:I s w)
  (step:∀ s w,I s w→∀ R:σ→World→Prop,(∀ s' w',I s' w'→μ s' < μ s→R s' w')→F s w R):Loop F s w:=by
 intro R hR
 have:∀ n s w,μ s=n→I s w→R s w:=by
  intro n
  induction n using Nat.strongRecOn with
  | _ n ih =>
   intro s w hn hI
   exact hR s w (step s w hI R λs' w' hI' hlt=>ih (μ s') (hn ▸ hlt) s' w' rfl hI')
 exact this _ s w rfl h
theorem Join.cut {σ:Type} {rest:σ→World→Prop} {body:(σ→World→Prop)→Prop} (I:σ→World→Prop) (hr:∀ s w,I s w→rest s w)
  (hb:∀ j:σ→World→Prop,(∀ s w,I s w→j s w)→body j):Join rest body:=hb rest hr
theorem DrawN.mk {w:World} {F:(World→Prop)→World→Prop} (h:∀ w',w'.heap=w.heap→Keeps No w w'→F (λ_=>True) w'):DrawN w F:=h _ rfl Keeps.drew
theorem Loop.mkn {σ:Type} {F:σ→World→(σ→World→Prop)→Prop} {s:σ} {w:World} (I:Nat→σ→World→Prop) (n:Nat) (h:I n s w)
  (step:∀ n s w,I n s w→∀ R:σ→World→Prop,(∀ m s' w',m < n→I m s' w'→R s' w')→F s w R):Loop F s w:=by
 intro R hR
 have:∀ n s w,I n s w→R s w:=by
  intro n
  induction n using Nat.strongRecOn with
  | _ n ih=>intro s w hI;exact hR s w (step n s w hI R λm s' w' hlt hI'=>ih m hlt s' w' hI')
 exact this n s w h
theorem Draw.mk {w:World} {F:(World→Prop)→World→Prop} (h:∀ w',w'.heap=w.heap→Keeps No w w'→F (λx=>x=w') w'):Draw w F :=
 ⟨λx=>x=w.drew,rfl,h _ rfl Keeps.drew⟩
theorem LdS.int {w:World} {κ:IntKind} {a:Addr} {k:Int→Prop} {i:Int} (h:w.cell? a=some (.int κ i)) (hk:k i):LdS (λx=>x=w) (.int κ) a k:=⟨i,λ_ e=>e ▸ h,hk⟩
theorem LdS.str {w:World} {a:Addr} {k:ByteArray→Prop} {i:ByteArray} (h:w.cell? a=some (.string i)) (hk:k i):LdS (λx=>x=w) .str a k:=⟨i,λ_ e=>e ▸ h,hk⟩
inductive All2 {α β:Type} (R:α→β→Prop):List α→List β→Prop where
 | nil:All2 R [] []
 | cons {a b l m} (h:R a b) (t:All2 R l m):All2 R (a::l) (b::m)
theorem All2.mono {α β:Type} {R S:α→β→Prop} (h:∀ a b,R a b→S a b) {l:List α} {m:List β} (x:All2 R l m):All2 S l m:=by
 induction x with
 | nil=>exact .nil
 | cons hd _ ih=>exact .cons (h _ _ hd) ih
theorem All2.length {α β:Type} {R:α→β→Prop} {l:List α} {m:List β} (x:All2 R l m):l.length=m.length:=by
 induction x with
 | nil=>rfl
 | cons _ _ ih=>simp [ih]
theorem All2.append {α β:Type} {R:α→β→Prop} {l l':List α} {m m':List β} (x:All2 R l m) (y:All2 R l' m'):All2 R (l++l') (m++m'):=by
 induction x with
 | nil=>exact y
 | cons hd _ ih=>exact .cons hd ih
theorem All2.get {α β:Type} {R:α→β→Prop} {l:List α} {m:List β} (x:All2 R l m):∀ (i:Nat) (a:α),l[i]?=some a→∃ b,m[i]?=some b∧R a b:=by
 induction x with
 | nil=>intro i a h;simp at h
 | cons hd _ ih =>
  intro i a h
  cases i with
  | zero=>simp at h;subst h;exact⟨_,rfl,hd⟩
  | succ i=>simp at h;simpa using ih i a h
def SlT (t:Ty) (H:View) (l:Sl) (xs:List t.T):Prop :=
 l.n=xs.length∧(xs=[]∨∃ b off cs E fr,l.a=some ⟨b,off,none⟩∧H b (.cells cs E fr)∧∀ i x,xs[i]?=some x→cs[off + i]?=some (t.enc x))
theorem SlT.mono {t:Ty} {H H':View} {l:Sl} {xs:List t.T} (h:SlT t H l xs) (hv:Vle H H'):SlT t H' l xs:=by
 obtain⟨h1,h2⟩:=h
 refine⟨h1,h2.imp id ?_⟩
 rintro⟨b,off,cs,E,fr,h3,h4,h5⟩
 exact⟨b,off,cs,E,fr,h3,hv _ _ h4,h5⟩
theorem SlT.nil {t:Ty} {H:View} {a:Option Addr} {c:Nat}:SlT t H ⟨a,0,c⟩ []:=⟨rfl,.inl rfl⟩
theorem add_eq (b off n:Nat):(⟨b,off,none⟩:Addr).add n=⟨b,off + n,none⟩:=by
 unfold Addr.add;split
 ·rename_i h;subst h;rfl
 ·rfl
theorem IdxS.get {t:Ty} {M:Nat→Prop} {w:World} {l:Sl} {xs:List t.T} {i:Int} {K:t.T→Prop} (h:SlT t (V M w) l xs) (h0:0≤i) (h1:i < xs.length)
  (hk:∀ x,xs[i.toNat]?=some x→K x):IdxS l i 1 λp=>Ld t p w K:=by
 obtain⟨e1,e2⟩:=h
 have hlt:i.toNat < xs.length:=by omega
 have hx:xs[i.toNat]?=some xs[i.toNat]:=kC hlt
 rcases e2 with rfl | ⟨b,off,cs,E,fr,e3,e4,e5⟩
 ·simp at hlt
 ·refine⟨_,e3,⟨h0,by omega⟩,xs[i.toNat],?_,hk _ hx⟩
  rw [add_eq,Nat.mul_one]
  exact cell_of e4.2 (e5 _ _ hx)
structure Elem (P:Program) (T E:TypeId) (z:Value) (size bytes:Nat):Prop where
 sl:P.underlying T=some (.slice E)
 inf:(P.info? E).map (λi=>(i.zero,i.size,i.bytes))=some (some z,size,bytes)
 cells:z.cells.size=size
 pos:0 < size
def Sl.val (l:Sl):Value:=.slice l.a l.n l.c
def Sl.blk (l:Sl):Nat→Prop:=λb=>∃ a,l.a=some a∧a.block=b
def Own (w:World) (base:Nat) (E size:Nat) (l:Sl) (xs:List Value):Prop:=w.ownsRow base E size l.val l.n xs
theorem ownBlock_val (l:Sl):l.val.ownBlock=l.a.map (·.block):=by
 unfold Sl.val Value.ownBlock;cases l.a <;> rfl
theorem Keeps.of_grown {w w':World} {row:Option Nat} (h:w.grownBy w' row):Keeps (λb=>row=some b) w w' :=
 ⟨h.os,h.tape,h.output,h.size,λb hb hm=>h.block b hb λe=>hm e.symm⟩
theorem Own.nil (w:World) (base E size:Nat):Own w base E size ⟨none,0,0⟩ []:=World.ownsRow_nil w base E size
theorem Own.ge {w:World} {base E size:Nat} {l:Sl} {xs:List Value} (h:Own w base E size l xs) {b:Nat} (hb:l.blk b):base≤b∧b < w.heap.size:=by
 obtain⟨a,ha,rfl⟩:=hb
 rcases h.2 with⟨hv,_⟩ | ⟨g,cap,cur,hv,hge,hg,_⟩
 ·simp [Sl.val,ha] at hv
 ·simp [Sl.val,ha] at hv
  obtain⟨rfl,_⟩:=hv
  exact⟨hge,lt_of_some hg⟩
theorem Own.len {w:World} {base E size:Nat} {l:Sl} {xs:List Value} (h:Own w base E size l xs):xs.length=l.n * size:=h.1
theorem Own.keep {w w':World} {base E size:Nat} {l:Sl} {xs:List Value} {M:Nat→Prop} (h:Own w base E size l xs) (hk:Keeps M w w') (hM:∀ b,M b→¬ l.blk b):Own w' base E size l xs:=by
 refine⟨h.1,?_⟩
 rcases h.2 with h2 | ⟨g,cap,cur,hv,hge,hg,h3⟩
 ·exact .inl h2
 ·refine .inr ⟨g,cap,cur,hv,hge,hk.blk hg (λhm=>hM g hm ?_),h3⟩
  simp only [Sl.val,Value.slice.injEq] at hv
  exact⟨_,hv.1,rfl⟩
theorem Own.keep0 {w w':World} {base E size:Nat} {l:Sl} {xs:List Value} (h:Own w base E size l xs) (hk:Keeps No w w'):Own w' base E size l xs:=h.keep hk λ_ h=>h.elim
theorem Own.reads {t:Ty} {w:World} {base E:Nat} {l:Sl} {xs:List t.T} {M:Nat→Prop} (h:Own w base E 1 l (xs.map t.enc)) (hM:∀ b,l.blk b→¬ M b):SlT t (V M w) l xs:=by
 have h1:=h.1
 simp at h1
 refine⟨h1.symm,?_⟩
 rcases h.2 with⟨hv,hn⟩ | ⟨g,cap,cur,hv,hge,hg,hnc,hcm,hcs,htake⟩
 ·exact .inl (List.eq_nil_of_length_eq_zero (by omega))
 ·simp only [Sl.val,Value.slice.injEq] at hv
  refine .inr ⟨g,0,cur,E,(0,0),hv.1,⟨hM g ⟨_,hv.1,rfl⟩,hg⟩,λi x hx=>?_⟩
  have:(xs.map t.enc)[i]?=some (t.enc x):=by simp [hx]
  rw [← htake,List.getElem?_take] at this
  split at this
  ·simpa using this
  ·cases this
theorem append_own {P:Program} {T T' E size bytes base:Nat} {z:Value} {w:World} {l:Sl} {xs:List Value} {b off m c:Nat} {news:List Value} {k:Sl→World→Prop} (hE:Elem P T E z size bytes)
  (hown:Own w base E size l xs) (hl:news.length=m * size) (hnews:∀ j u,news[j]?=some u→w.cell? ⟨b,off + j,none⟩=some u) (h1:∀ u∈news,u.oneCell'=true)
  (hbytes:(l.n + m) * bytes≤140737488355328) (h63:l.n + m≤9223372036854775807) (hbase:base≤w.heap.size)
  (hk:∀ l' w',Own w' base E size l' (xs++news)→l'.n=l.n + m→Keeps l.blk w w'→((l'.a=none∧l.a=none∧m=0)∨∃ g,l'.a=some ⟨g,0,none⟩∧(l.blk g∨w.heap.size≤g))→k l' w') :
  App P (Builtin.append_ #[T,T] T' #[.slice l.a l.n l.c,.slice (some ⟨b,off,none⟩) m c]) (.one .sl) w k:=by
 obtain⟨i,hi,hzz⟩:=kE hE.inf
 simp only [Prod.mk.injEq] at hzz
 obtain⟨hz,hs,hb⟩:=hzz
 obtain⟨v',w',hr,h2,h3,h4,h5⟩:=run_append_own_at (P:=P) w base T T' E i z size bytes hE.sl hi hz hs hb hE.cells hE.pos l.val l.n xs hown ⟨b,off,none⟩ m c news hl
  (λj u hu=>by rw [add_eq];exact hnews j u hu) h1 h63 hbytes hbase
 obtain⟨a',n',c',rfl,rfl⟩:∃ a' n' c',v'=.slice a' n' c'∧n'=l.n + m:=by
  rcases h2.2 with⟨rfl,h⟩ | ⟨g,cap,cur,rfl,_⟩
  ·exact⟨none,0,0,rfl,h.symm⟩
  ·exact⟨_,_,_,rfl,rfl⟩
 refine⟨⟨a',l.n + m,c'⟩,w',hr,hk _ _ h2 rfl ((Keeps.of_grown h3).mono λb _ hb=>?_) ?_⟩
 ·rw [ownBlock_val] at hb
  cases ha:l.a with
  | none=>simp [ha] at hb
  | some a=>simp [ha] at hb;exact⟨a,ha,hb⟩
 ·rcases h2.2 with⟨hv,hn⟩ | ⟨g,cap,cur,hv,hge,hg,_⟩
  ·simp only [Value.slice.injEq] at hv
   obtain⟨rfl,h6,h7⟩:=hv
   have hln:l.n=0:=by omega
   have hm:m=0:=by omega
   subst hm
   refine .inl ⟨rfl,?_,rfl⟩
   have:=(h4.1 (by simp [hln,h7])).1
   simpa [Sl.val] using congrArg (λv=>match v with | .slice a _ _=>a | _=>none) this
  ·simp only [Value.slice.injEq] at hv
   obtain⟨rfl,-,-⟩:=hv
   refine .inr ⟨g,rfl,?_⟩
   rw [ownBlock_val] at h5
   simp only [Value.ownBlock] at h5
   rcases h5 with h5 | h5
   ·left
    cases ha:l.a with
    | none=>simp [ha] at h5
    | some a=>simp [ha] at h5;exact⟨a,ha,h5.symm⟩
   ·right;simp at h5;omega
theorem append1 {P:Program} {T T' E bytes base:Nat} {t:Ty} {z:Value} {w:World} {l:Sl} {xs:List t.T} {x:t.T} {k:Sl→World→Prop} (hE:Elem P T E z 1 bytes)
  (hown:Own w base E 1 l (xs.map t.enc)) (h1:(t.enc x).oneCell'=true) (hbytes:(l.n + 1) * bytes≤140737488355328) (h63:l.n + 1≤9223372036854775807) (hbase:base≤w.heap.size)
  (hk:∀ l' w',Own w' base E 1 l' ((xs++[x]).map t.enc)→l'.n=l.n + 1→Keeps l.blk w w'→(∃ g,l'.a=some ⟨g,0,none⟩∧(l.blk g∨w.heap.size≤g))→k l' w') :
  Al (.cells #[t.enc x] E (0,0)) w λb w1=>App P (Builtin.append_ #[T,T] T' #[.slice l.a l.n l.c,.slice (some ⟨b,0,none⟩) 1 1]) (.one .sl) w1 k:=by
 refine Al.mk λb w1 h=>?_
 refine append_own (news:=[t.enc x]) hE (hown.keep0 h.keeps) (by simp) (λj u hu=>?_) (by simpa using h1) hbytes h63 (by have:=h.size;omega) λl' w' h1 h2 h3 h4=>?_
 ·cases j with
  | zero=>simp at hu;subst hu;exact cell_of h.at_ rfl
  | succ j=>simp at hu
 ·refine hk l' w' (by simpa using h1) h2 ((h.keeps.no).trans h3) ?_
  rcases h4 with⟨_,_,h4⟩ | ⟨g,h4,h5⟩
  ·cases h4
  ·exact⟨g,h4,h5.imp id λh5=>by have:=h.size;omega⟩
def SlC (H:View) (l:Sl) (sz:Nat) (xs:List (List Value)):Prop :=
 l.n=xs.length∧(xs=[]∨∃ b off cs E fr,l.a=some ⟨b,off,none⟩∧H b (.cells cs E fr)∧∀ i c,xs[i]?=some c→∀ j u,c[j]?=some u→cs[off + i * sz + j]?=some u)
theorem SlC.mono {H H':View} {l:Sl} {sz:Nat} {xs:List (List Value)} (h:SlC H l sz xs) (hv:Vle H H'):SlC H' l sz xs:=by
 obtain⟨h1,h2⟩:=h
 refine⟨h1,h2.imp id ?_⟩
 rintro⟨b,off,cs,E,fr,h3,h4,h5⟩
 exact⟨b,off,cs,E,fr,h3,hv _ _ h4,h5⟩
theorem SlC.nil {H:View} {a:Option Addr} {c sz:Nat}:SlC H ⟨a,0,c⟩ sz []:=⟨rfl,.inl rfl⟩
theorem IdxS.recd {M:Nat→Prop} {w:World} {l:Sl} {sz:Nat} {xs:List (List Value)} {i:Int} {K:Addr→Prop} (h:SlC (V M w) l sz xs) (h0:0≤i) (h1:i < xs.length)
  (hk:∀ g off c,xs[i.toNat]?=some c→(∀ j u,c[j]?=some u→w.cell? ⟨g,off + j,none⟩=some u)→K ⟨g,off,none⟩):IdxS l i sz K:=by
 obtain⟨e1,e2⟩:=h
 have hlt:i.toNat < xs.length:=by omega
 have hx:xs[i.toNat]?=some xs[i.toNat]:=kC hlt
 rcases e2 with rfl | ⟨b,off,cs,E,fr,e3,e4,e5⟩
 ·simp at hlt
 ·refine⟨_,e3,⟨h0,by omega⟩,?_⟩
  rw [add_eq]
  exact hk _ _ _ hx λj u hu=>cell_of e4.2 (e5 _ _ hx _ _ hu)
theorem flatten_get {α:Type} {sz:Nat}:∀ {xs:List (List α)},(∀ c∈xs,c.length=sz)→∀ {i:Nat} {c:List α} {j:Nat} {u:α},xs[i]?=some c→c[j]?=some u→xs.flatten[i * sz + j]?=some u
 | [],_,i,c,j,u,h,_=>by simp at h
 | x::xs,hl,0,c,j,u,h,hu=>by
  simp at h;subst h
  have:=(kA hu).1
  rw [Nat.zero_mul,Nat.zero_add,List.flatten_cons,List.getElem?_append_left this];exact hu
 | x::xs,hl,i + 1,c,j,u,h,hu=>by
  simp at h
  have h1:=flatten_get (λc hc=>hl c (by simp [hc])) h hu
  have h2:=hl x (by simp)
  rw [List.flatten_cons,List.getElem?_append_right (by rw [h2,Nat.add_mul];omega),h2]
  rw [← h1]
  congr 1
  rw [Nat.add_mul];omega
theorem flatten_len {α:Type} {sz:Nat}:∀ {xs:List (List α)},(∀ c∈xs,c.length=sz)→xs.flatten.length=xs.length * sz
 | [],_=>by simp
 | x::xs,hl=>by
  rw [List.flatten_cons,List.length_append,flatten_len (λc hc=>hl c (by simp [hc])),hl x (by simp),List.length_cons,Nat.add_mul];omega
theorem Own.readsC {w:World} {base E sz:Nat} {l:Sl} {xs:List (List Value)} {M:Nat→Prop} (h:Own w base E sz l xs.flatten) (hsz:0 < sz) (hl:∀ c∈xs,c.length=sz) (hM:∀ b,l.blk b→¬ M b):SlC (V M w) l sz xs:=by
 have h1:=h.1
 rw [flatten_len hl] at h1
 have hn:l.n=xs.length:=(Nat.eq_of_mul_eq_mul_right hsz h1).symm
 refine⟨hn,?_⟩
 rcases h.2 with⟨hv,hn0⟩ | ⟨g,cap,cur,hv,hge,hg,hnc,hcm,hcs,htake⟩
 ·exact .inl (List.eq_nil_of_length_eq_zero (by omega))
 ·simp only [Sl.val,Value.slice.injEq] at hv
  refine .inr ⟨g,0,cur,E,(0,0),hv.1,⟨hM g ⟨_,hv.1,rfl⟩,hg⟩,λi c hc j u hu=>?_⟩
  have:=flatten_get hl hc hu
  rw [← htake,List.getElem?_take] at this
  split at this
  ·simpa using this
  ·cases this
theorem appendC {P:Program} {T T' E sz bytes base:Nat} {z:Value} {w:World} {l:Sl} {xs:List (List Value)} {c:List Value} {b:Nat} {k:Sl→World→Prop} (hE:Elem P T E z sz bytes)
  (hown:Own w base E sz l xs.flatten) (hl:c.length=sz) (hb:w.heap[b]?=some (.cells c.toArray E (0,0))) (h1:∀ u∈c,u.oneCell'=true)
  (hbytes:(l.n + 1) * bytes≤140737488355328) (h63:l.n + 1≤9223372036854775807) (hbase:base≤w.heap.size)
  (hk:∀ l' w',Own w' base E sz l' (xs++[c]).flatten→l'.n=l.n + 1→Keeps l.blk w w'→(∃ g,l'.a=some ⟨g,0,none⟩∧(l.blk g∨w.heap.size≤g))→k l' w') :
  App P (Builtin.append_ #[T,T] T' #[.slice l.a l.n l.c,.slice (some ⟨b,0,none⟩) 1 1]) (.one .sl) w k:=by
 refine append_own (news:=c) hE hown (by simp [hl]) (λj u hu=>?_) h1 hbytes h63 hbase λl' w' h1 h2 h3 h4=>?_
 ·rw [Nat.zero_add];exact cell_of hb (by simpa using hu)
 ·refine hk l' w' (by simpa using h1) h2 h3 ?_
  rcases h4 with⟨_,_,h4⟩ | h4
  ·cases h4
  ·exact h4
theorem Upd.trans {b:Nat} {o o':Obj} {w w1 w2:World} (h:Upd b o w w1) (h':Upd b o' w1 w2):Upd b o' w w2:=⟨h'.at_,h.keeps.trans h'.keeps,h'.size.trans h.size⟩
theorem St3 {b:Nat} {x0 x1 x2 v0 v1 v2:Value} {E:TypeId} {w:World} {k:World→Prop} (hb:w.heap[b]?=some (.cells #[x0,x1,x2] E (0,0))) (h:∀ w',Upd b (.cells #[v0,v1,v2] E (0,0)) w w'→k w') :
  St ⟨b,0,none⟩ v0 w λw1=>St ⟨b,1,none⟩ v1 w1 λw2=>St ⟨b,2,none⟩ v2 w2 k :=
 St.blk hb (by simp) λw1 u1=>St.blk u1.at_ (by simp) λw2 u2=>St.blk u2.at_ (by simp) λw3 u3=>h w3 ((u1.trans u2).trans u3)
theorem St6 {b:Nat} {x0 x1 x2 x3 x4 x5 v0 v1 v2 v3 v4 v5:Value} {E:TypeId} {w:World} {k:World→Prop} (hb:w.heap[b]?=some (.cells #[x0,x1,x2,x3,x4,x5] E (0,0))) (h:∀ w',Upd b (.cells #[v0,v1,v2,v3,v4,v5] E (0,0)) w w'→k w') :
  St ⟨b,0,none⟩ v0 w λw1=>St ⟨b,1,none⟩ v1 w1 λw2=>St ⟨b,2,none⟩ v2 w2 λw3=>St ⟨b,3,none⟩ v3 w3 λw4=>St ⟨b,4,none⟩ v4 w4 λw5=>St ⟨b,5,none⟩ v5 w5 k :=
 St.blk hb (by simp) λw1 u1=>St.blk u1.at_ (by simp) λw2 u2=>St.blk u2.at_ (by simp) λw3 u3=>St.blk u3.at_ (by simp) λw4 u4=>St.blk u4.at_ (by simp) λw5 u5=>St.blk u5.at_ (by simp) λw6 u6=>h w6 (((((u1.trans u2).trans u3).trans u4).trans u5).trans u6)
theorem Keeps.step {Ft Ft1:Nat→Prop} {w a b:World} (h:Keeps Ft w a) (k:Keeps Ft1 a b) (hF:∀ i,Ft1 i→Ft i∨w.heap.size≤i):Keeps Ft w b:=h.then k λi hi h1=>(hF i h1).resolve_right (by omega)
theorem St4 {b:Nat} {x0 x1 x2 x3 v0 v1 v2 v3:Value} {E:TypeId} {w:World} {k:World→Prop} (hb:w.heap[b]?=some (.cells #[x0,x1,x2,x3] E (0,0))) (h:∀ w',Upd b (.cells #[v0,v1,v2,v3] E (0,0)) w w'→k w') :
  St ⟨b,0,none⟩ v0 w λw1=>St ⟨b,1,none⟩ v1 w1 λw2=>St ⟨b,2,none⟩ v2 w2 λw3=>St ⟨b,3,none⟩ v3 w3 k :=
 St.blk hb (by simp) λw1 u1=>St.blk u1.at_ (by simp) λw2 u2=>St.blk u2.at_ (by simp) λw3 u3=>St.blk u3.at_ (by simp) λw4 u4=>h w4 (((u1.trans u2).trans u3).trans u4)
theorem Upd.keeps0 {b:Nat} {o:Obj} {w w1 w2:World} (k:Keeps No w w1) (hb:w.heap.size≤b) (u:Upd b o w1 w2):Keeps No w w2:=(k.no (M:=No)).then u.keeps λi hi e=>by omega
theorem LdS.of {t:Ty} {S:World→Prop} {a:Addr} {k:t.T→Prop} {v:t.T} (h:∀ w',S w'→w'.cell? a=some (t.enc v)) (hk:k v):LdS S t a k:=⟨v,h,hk⟩
end Go.Fk
end
section
namespace Go.Fk
open Go Go.ChangeShapes Go.WideShapes Go.ChangeAt Go.RowKit
theorem trodAll_stays {H:Type} {enc:TypeId × Value→H} {P:Program} (hl:laidOutB P=true) {W W':World} (hb:Below W.heap.size W W'):∀ {ts:List TypeId} {vs:List Value} {ds:List (DataW H)} {ps:List MemPlace},
  (∀ t∈ts,P.readableRec t=true∧t < P.types.size)→DataW.TrodAll enc P W 0 (λ_=>true) true ts vs ds ps→(∀ x∈ps,x.block < W.heap.size)→DataW.TrodAll enc P W' 0 (λb=>decide (b < W.heap.size)) true ts vs ds ps
 | [],[],[],_,_,h,_=>h
 | t::ts,v::vs,d::ds,ps,hr,h,hlt=>by
  obtain⟨p,q,h1,h2,rfl⟩:=h
  exact⟨p,q,Below.trod hl (hr t (by simp)).1 (hr t (by simp)).2 h1 hb λx hx=>hlt x (by simp [hx]),trodAll_stays hl hb (λt ht=>hr t (by simp [ht])) h2 λx hx=>hlt x (by simp [hx]),rfl⟩
 | [],_::_,_,_,_,h,_=>by cases h
 | [],[],_::_,_,_,h,_=>by cases h
 | _::_,[],_,_,_,h,_=>by cases h
 | _::_,_::_,[],_,_,h,_=>by cases h
theorem post_law {H:Type} {enc:TypeId × Value→H} {P:Program} {f:Func} {s:ChangeSpec} {apart fresh handsOn:Bool} {W W':World} {args:Array Value} {ds:List (DataW H)} {before:List MemPlace} {tb:TypeId}
  (hl:laidOutB P=true) (hr:∀ t∈f.params.toList,P.readableRec t=true∧t < P.types.size) (hres:f.resultTypes=#[tb]) (htb:P.underlying tb=some .bool) (hv:s.vars=[])
  (hs:s.fn H (ds++[])={ results:=[.lit (.bool true)],args:=ds }) (hW:DataW.Whole enc P f.params.toList s.vars apart W args.toList ds [] before) (hb:Below W.heap.size W W'):s.post enc P f apart fresh handsOn false W args (.bool true) W':=by
 have hlt:=hW.lt
 refine⟨ds,[],before,[],before,[],hW,?_,?_,?_,hb.frame _,λh=>by cases h⟩
 ·rw [hres,hs]
  show DataW.TrodAll _ _ _ _ _ _ [tb] [Value.bool true] [.lit (.bool true)] []
  refine trodAll_mk1 ⟨1,?_⟩
  simp [DataW.trod,Value.cells,htb]
 ·rw [hs]
  obtain⟨p,q,h1,h2,rfl,_⟩:=hW
  rw [hv] at h2
  obtain⟨_,rfl⟩:=trodVars_none h2
  rw [List.append_nil] at hlt ⊢
  exact trodAll_stays hl hb hr h1 hlt
 ·rw [hs,hv];rfl
theorem cell_spot {w:World} {a:Addr} {v:Value} (h:w.cell? a=some v):∃ cs E fr,w.heap[a.block]?=some (.cells cs E fr)∧a=⟨a.block,a.off,none⟩:=by
 unfold World.cell? at h
 split at h
 ·rename_i c E fr hb
  split at h
  ·cases h
  ·rename_i hs
   refine⟨c,E,fr,hb,?_⟩
   cases a with
   | mk b o s =>
    cases s with
    | none=>rfl
    | some s=>simp at hs
 ·cases h
end Go.Fk
end
section
namespace Go.Fk
open Go
abbrev P:Program:=Go.Proofs.Tryz.prog
theorem P_mixed:P.follows .mixedOrders=true:=by kernel_rfl
theorem okS {f:FuncId} {fn:Func} {c:Code} {w:World} (H:List (Nat×RTy)) (ann:Ann) (args:List Value) (rt:RTy) {K:rt.T→World→Prop} {Q:Prop} (hf:P.funcs[f]?=some fn) (hb:fn.body=some c) (h:Q) (hok:codeOk fn.ntmps c=true:=by kernel_rfl) (hn:Nat.ble args.length fn.ntmps=true:=by kernel_rfl) (e:sem P H c ann (argEnv 0 args) (semRet P H fn.results.toList rt K) [] (semRet P H fn.results.toList rt K) w=Q:=by kernel_rfl):CallF P f args.toArray rt w K:=
 calls_of_sem P_mixed hf hb hok hn (e.mpr h)
abbrev T.int:Nat:=3
abbrev T.bool:Nat:=4
abbrev T.uint8:Nat:=5
abbrev T.string:Nat:=9
abbrev T.sl_int:Nat:=24
abbrev T.brackets_Word:Nat:=27
abbrev T.map_brackets_goal_brackets_way:Nat:=78
abbrev T.brackets_way:Nat:=89
abbrev T.map_string_int:Nat:=98
abbrev T.sl_string:Nat:=106
abbrev T.scan_Token:Nat:=124
abbrev T.sl_scan_Class:Nat:=145
abbrev T.map_int_int:Nat:=146
abbrev T.sl_bool:Nat:=175
abbrev T.sl_uint8:Nat:=187
abbrev T.scan_Class:Nat:=216
abbrev T.scan_Scanner:Nat:=276
abbrev T.sl_p_regex_Node:Nat:=299
abbrev T.p_regex_Node:Nat:=300
abbrev T.sl_nfa_position:Nat:=364
abbrev T.sl_nfa_known:Nat:=365
abbrev T.nfa_Machine:Nat:=367
abbrev T.map_int_bool:Nat:=368
abbrev T.nfa_set:Nat:=369
abbrev T.nfa_known:Nat:=371
abbrev T.dfa_state:Nat:=375
abbrev T.sl_dfa_state:Nat:=376
abbrev T.dfa_Dfa:Nat:=378
abbrev T.dfa_build:Nat:=381
abbrev T.sl_least_state:Nat:=384
abbrev T.least_Least:Nat:=386
abbrev T.least_state:Nat:=388
abbrev T.regex_parser:Nat:=423
abbrev T.a4_uint64:Nat:=428
abbrev T.nfa_position:Nat:=431
abbrev T.least_rounds:Nat:=441
abbrev T.regex_Node:Nat:=465
abbrev T.map_least_row_int:Nat:=470
abbrev T.least_row:Nat:=472
abbrev FN.maps_Keys_S1:Nat:=365
def frisketlaw23_BracketsJoin.C (x0:Sl) (x1:ByteArray) (w:World) (k:Bool→World→Prop):Prop:=CallF P 3 #[.slice x0.a x0.n x0.c,.string x1] (.one .bool) w k
def frisketlaw23_awake.C  (w:World) (k:Bool→World→Prop):Prop:=CallF P 6 #[] (.one .bool) w k
def brackets_Classes.C (x0:Sl) (w:World) (k:Sl→World→Prop):Prop:=CallF P 7 #[.slice x0.a x0.n x0.c] (.one .sl) w k
def brackets_Maker_Words.C (x0:Option Addr) (x1:Sl) (w:World) (k:(Sl × Int × Int)→World→Prop):Prop:=CallF P 8 #[.pointer x0,.slice x1.a x1.n x1.c] (.tup [.one .sl,.one (.int .i64),.one (.int .i64)]) w k
def brackets_Maker_Cost.C (x0:Option Addr) (x1:Sl) (w:World) (k:(Int × Bool)→World→Prop):Prop:=CallF P 9 #[.pointer x0,.slice x1.a x1.n x1.c] (.tup [.one (.int .i64),.one .bool]) w k
def brackets_Maker_Least.C (x0:Option Addr) (x1:Int) (x2:ByteArray) (w:World) (k:(Int × Bool)→World→Prop):Prop:=CallF P 10 #[.pointer x0,.int .i64 x1,.string x2] (.tup [.one (.int .i64),.one .bool]) w k
def brackets_New.C (x0:Option Addr) (w:World) (k:(Option Addr × Int)→World→Prop):Prop:=CallF P 11 #[.pointer x0] (.tup [.one .ptr,.one (.int .i64)]) w k
def brackets_Join.C (x0:Sl) (x1:ByteArray) (w:World) (k:ByteArray→World→Prop):Prop:=CallF P 12 #[.slice x0.a x0.n x0.c,.string x1] (.one .str) w k
def sig_Sig_Check.C (x0:Option Addr) (x1:Sl) (w:World) (k:(Int × Int)→World→Prop):Prop:=CallF P 30 #[.pointer x0,.slice x1.a x1.n x1.c] (.tup [.one (.int .i64),.one (.int .i64)]) w k
def brackets_Maker_write.C (x0:Option Addr) (x1:Sl) (w:World) (k:Option Addr→World→Prop):Prop:=CallF P 31 #[.pointer x0,.slice x1.a x1.n x1.c] (.one .ptr) w k
def strings_Join.C (x0:Sl) (x1:ByteArray) (w:World) (k:ByteArray→World→Prop):Prop:=CallF P 37 #[.slice x0.a x0.n x0.c,.string x1] (.one .str) w k
def scan_Scanner_next.C (x0:Option Addr) (x1:ByteArray) (x2:Int) (w:World) (k:(Int × Int × Int × Int)→World→Prop):Prop:=CallF P 79 #[.pointer x0,.string x1,.int .i64 x2] (.agg [(.int .i64),(.int .i64),(.int .i64),(.int .i64)]) w k
def scan_New.C (x0:Sl) (w:World) (k:(Option Addr × Int × Int)→World→Prop):Prop:=CallF P 97 #[.slice x0.a x0.n x0.c] (.tup [.one .ptr,.one (.int .i64),.one (.int .i64)]) w k
def least_Least_Longest.C (x0:Option Addr) (x1:ByteArray) (w:World) (k:(Int × Int × Int)→World→Prop):Prop:=CallF P 124 #[.pointer x0,.string x1] (.tup [.one (.int .i64),.one (.int .i64),.one (.int .i64)]) w k
def least_Least_Run.C (x0:Option Addr) (x1:ByteArray) (w:World) (k:(Int × Bool)→World→Prop):Prop:=CallF P 125 #[.pointer x0,.string x1] (.tup [.one (.int .i64),.one .bool]) w k
def slices_Clone_scan_Class.C (x0:Sl) (w:World) (k:Sl→World→Prop):Prop:=CallF P 127 #[.slice x0.a x0.n x0.c] (.one .sl) w k
def scan_Scanner_class.C (x0:Option Addr) (x1:Int) (x2:ByteArray × ByteArray × Bool) (w:World) (k:(Option Addr × Int)→World→Prop):Prop:=CallF P 145 #[.pointer x0,.int .i64 x1,.agg #[.string x2.1,.string x2.2.1,.bool x2.2.2]] (.tup [.one .ptr,.one (.int .i64)]) w k
def nfa_New.C (x0:Sl) (w:World) (k:(Option Addr × Int)→World→Prop):Prop:=CallF P 146 #[.slice x0.a x0.n x0.c] (.tup [.one .ptr,.one (.int .i64)]) w k
def dfa_New.C (x0:Option Addr) (w:World) (k:(Option Addr × Int)→World→Prop):Prop:=CallF P 147 #[.pointer x0] (.tup [.one .ptr,.one (.int .i64)]) w k
def least_New.C (x0:Option Addr) (w:World) (k:(Option Addr × Int)→World→Prop):Prop:=CallF P 148 #[.pointer x0] (.tup [.one .ptr,.one (.int .i64)]) w k
def least_Least_Next.C (x0:Option Addr) (x1:Int) (x2:Int) (w:World) (k:(Int × Bool)→World→Prop):Prop:=CallF P 178 #[.pointer x0,.int .i64 x1,.int .u8 x2] (.tup [.one (.int .i64),.one .bool]) w k
def least_Least_Accept.C (x0:Option Addr) (x1:Int) (w:World) (k:Int→World→Prop):Prop:=CallF P 179 #[.pointer x0,.int .i64 x1] (.one (.int .i64)) w k
def strings_IndexByte.C (x0:ByteArray) (x1:Int) (w:World) (k:Int→World→Prop):Prop:=CallF P 194 #[.string x0,.int .u8 x1] (.one (.int .i64)) w k
def scan_named.C (x0:ByteArray) (w:World) (k:Bool→World→Prop):Prop:=CallF P 195 #[.string x0] (.one .bool) w k
def regex_Parse.C (x0:ByteArray) (w:World) (k:(Option Addr × Int × Int)→World→Prop):Prop:=CallF P 196 #[.string x0] (.tup [.one .ptr,.one (.int .i64),.one (.int .i64)]) w k
def scan_means.C (x0:Option Addr) (w:World) (k:Bool→World→Prop):Prop:=CallF P 197 #[.pointer x0] (.one .bool) w k
def slices_Contains.C (x0:Sl) (x1:Option Addr) (w:World) (k:Bool→World→Prop):Prop:=CallF P 198 #[.slice x0.a x0.n x0.c,.pointer x1] (.one .bool) w k
def nfa_count.C (x0:Option Addr) (x1:Int) (w:World) (k:Int→World→Prop):Prop:=CallF P 199 #[.pointer x0,.int .i64 x1] (.one (.int .i64)) w k
def nfa_Machine_add.C (x0:Option Addr) (x1:Int) (x2:Option Addr) (w:World) (k:(Option Nat × Option Nat × Bool)→World→Prop):Prop:=CallF P 200 #[.pointer x0,.int .i64 x1,.pointer x2] (.agg [.map,.map,.bool]) w k
def dfa_build_fill.C (x0:Option Addr) (x1:Int) (w:World) (k:Unit→World→Prop):Prop:=CallF P 201 #[.pointer x0,.int .i64 x1] (.tup []) w k
def dfa_Dfa_group.C (x0:Option Addr) (w:World) (k:Unit→World→Prop):Prop:=CallF P 202 #[.pointer x0] (.tup []) w k
def least_live.C (x0:Option Addr) (w:World) (k:Sl→World→Prop):Prop:=CallF P 203 #[.pointer x0] (.one .sl) w k
def least_kinds.C (x0:Option Addr) (x1:Sl) (w:World) (k:Sl→World→Prop):Prop:=CallF P 204 #[.pointer x0,.slice x1.a x1.n x1.c] (.one .sl) w k
def dfa_Dfa_States.C (x0:Option Addr) (w:World) (k:Int→World→Prop):Prop:=CallF P 205 #[.pointer x0] (.one (.int .i64)) w k
def dfa_Dfa_Accept.C (x0:Option Addr) (x1:Int) (w:World) (k:Int→World→Prop):Prop:=CallF P 206 #[.pointer x0,.int .i64 x1] (.one (.int .i64)) w k
def dfa_Dfa_Next.C (x0:Option Addr) (x1:Int) (x2:Int) (w:World) (k:(Int × Bool)→World→Prop):Prop:=CallF P 207 #[.pointer x0,.int .i64 x1,.int .u8 x2] (.tup [.one (.int .i64),.one .bool]) w k
def scan_Scanner_One.C (x0:Option Addr) (x1:Int) (x2:ByteArray) (w:World) (k:Bool→World→Prop):Prop:=CallF P 208 #[.pointer x0,.int .i64 x1,.string x2] (.one .bool) w k
def least_Least_has.C (x0:Option Addr) (x1:Int) (w:World) (k:Bool→World→Prop):Prop:=CallF P 227 #[.pointer x0,.int .i64 x1] (.one .bool) w k
def regex_parser_or.C (x0:Option Addr) (w:World) (k:Option Addr→World→Prop):Prop:=CallF P 241 #[.pointer x0] (.one .ptr) w k
def regex_Size.C (x0:Option Addr) (w:World) (k:Int→World→Prop):Prop:=CallF P 242 #[.pointer x0] (.one (.int .i64)) w k
def regex_Nullable.C (x0:Option Addr) (w:World) (k:Bool→World→Prop):Prop:=CallF P 243 #[.pointer x0] (.one .bool) w k
def slices_Index.C (x0:Sl) (x1:Option Addr) (w:World) (k:Int→World→Prop):Prop:=CallF P 244 #[.slice x0.a x0.n x0.c,.pointer x1] (.one (.int .i64)) w k
def regex_Kind.C (x0:Option Addr) (w:World) (k:Int→World→Prop):Prop:=CallF P 245 #[.pointer x0] (.one (.int .i64)) w k
def regex_Parts.C (x0:Option Addr) (w:World) (k:Sl→World→Prop):Prop:=CallF P 246 #[.pointer x0] (.one .sl) w k
def regex_Bytes.C (x0:Option Addr) (w:World) (k:(Int × Int × Int × Int)→World→Prop):Prop:=CallF P 247 #[.pointer x0] (.agg [(.int .u64),(.int .u64),(.int .u64),(.int .u64)]) w k
def nfa_Machine_cat.C (x0:Option Addr) (x1:Option Nat × Option Nat × Bool) (x2:Option Nat × Option Nat × Bool) (w:World) (k:(Option Nat × Option Nat × Bool)→World→Prop):Prop:=CallF P 248 #[.pointer x0,.agg #[.map x1.1,.map x1.2.1,.bool x1.2.2],.agg #[.map x2.1,.map x2.2.1,.bool x2.2.2]] (.agg [.map,.map,.bool]) w k
def nfa_set_with.C (x0:Option Nat) (x1:Option Nat) (w:World) (k:Option Nat→World→Prop):Prop:=CallF P 249 #[.map x0,.map x1] (.one .map) w k
def nfa_Machine_link.C (x0:Option Addr) (x1:Option Nat) (x2:Option Nat) (w:World) (k:Unit→World→Prop):Prop:=CallF P 250 #[.pointer x0,.map x1,.map x2] (.tup []) w k
def dfa_behind.C (x0:Option Addr) (x1:Sl) (w:World) (k:Sl→World→Prop):Prop:=CallF P 251 #[.pointer x0,.slice x1.a x1.n x1.c] (.one .sl) w k
def nfa_Machine_Has.C (x0:Option Addr) (x1:Int) (x2:Int) (w:World) (k:Bool→World→Prop):Prop:=CallF P 252 #[.pointer x0,.int .i64 x1,.int .u8 x2] (.one .bool) w k
def dfa_build_place.C (x0:Option Addr) (x1:Sl) (w:World) (k:Int→World→Prop):Prop:=CallF P 253 #[.pointer x0,.slice x1.a x1.n x1.c] (.one (.int .i64)) w k
def dfa_text.C (x0:Sl) (w:World) (k:ByteArray→World→Prop):Prop:=CallF P 254 #[.slice x0.a x0.n x0.c] (.one .str) w k
def least_rounds_again.C (x0:Option Addr) (w:World) (k:Bool→World→Prop):Prop:=CallF P 255 #[.pointer x0] (.one .bool) w k
def dfa_Dfa_has.C (x0:Option Addr) (x1:Int) (w:World) (k:Bool→World→Prop):Prop:=CallF P 256 #[.pointer x0,.int .i64 x1] (.one .bool) w k
def least_Least_States.C (x0:Option Addr) (w:World) (k:Int→World→Prop):Prop:=CallF P 274 #[.pointer x0] (.one (.int .i64)) w k
def regex_parser_cat.C (x0:Option Addr) (w:World) (k:Option Addr→World→Prop):Prop:=CallF P 280 #[.pointer x0] (.one .ptr) w k
def regex_reader_is.C (x0:Option Addr) (x1:Int) (w:World) (k:Bool→World→Prop):Prop:=CallF P 281 #[.pointer x0,.int .u8 x1] (.one .bool) w k
def regex_Or.C (x0:Sl) (w:World) (k:Option Addr→World→Prop):Prop:=CallF P 282 #[.slice x0.a x0.n x0.c] (.one .ptr) w k
def maps_Clone.C (x0:Option Nat) (w:World) (k:Option Nat→World→Prop):Prop:=CallF P 283 #[.map x0] (.one .map) w k
def maps_Copy.C (x0:Option Nat) (x1:Option Nat) (w:World) (k:Unit→World→Prop):Prop:=CallF P 284 #[.map x0,.map x1] (.tup []) w k
def nfa_Machine_Rules.C (x0:Option Addr) (w:World) (k:Int→World→Prop):Prop:=CallF P 285 #[.pointer x0] (.one (.int .i64)) w k
def nfa_Machine_First.C (x0:Option Addr) (x1:Int) (w:World) (k:Sl→World→Prop):Prop:=CallF P 286 #[.pointer x0,.int .i64 x1] (.one .sl) w k
def nfa_Machine_Follow.C (x0:Option Addr) (x1:Int) (w:World) (k:Sl→World→Prop):Prop:=CallF P 287 #[.pointer x0,.int .i64 x1] (.one .sl) w k
def slices_Sort.C (x0:Sl) (w:World) (k:Unit→World→Prop):Prop:=CallF P 288 #[.slice x0.a x0.n x0.c] (.tup []) w k
def slices_Compact_int.C (x0:Sl) (w:World) (k:Sl→World→Prop):Prop:=CallF P 289 #[.slice x0.a x0.n x0.c] (.one .sl) w k
def nfa_Machine_at.C (x0:Option Addr) (x1:Int) (w:World) (k:((Int × Int × Int × Int × Int × Option Nat) × Bool)→World→Prop):Prop:=CallF P 290 #[.pointer x0,.int .i64 x1] (.tup [.agg [(.int .u64),(.int .u64),(.int .u64),(.int .u64),(.int .i64),.map],.one .bool]) w k
def dfa_accept.C (x0:Option Addr) (x1:Sl) (w:World) (k:Int→World→Prop):Prop:=CallF P 291 #[.pointer x0,.slice x1.a x1.n x1.c] (.one (.int .i64)) w k
def least_rounds_row.C (x0:Option Addr) (x1:Int) (w:World) (k:Array Value→World→Prop):Prop:=CallF P 292 #[.pointer x0,.int .i64 x1] (.big) w k
def regex_reader_peek.C (x0:Option Addr) (w:World) (k:(Int × Bool)→World→Prop):Prop:=CallF P 315 #[.pointer x0] (.tup [.one (.int .u8),.one .bool]) w k
def regex_parser_factor.C (x0:Option Addr) (w:World) (k:Option Addr→World→Prop):Prop:=CallF P 316 #[.pointer x0] (.one .ptr) w k
def regex_Cat.C (x0:Sl) (w:World) (k:Option Addr→World→Prop):Prop:=CallF P 317 #[.slice x0.a x0.n x0.c] (.one .ptr) w k
def regex_two.C (x0:Int) (x1:Option Addr) (x2:Sl) (w:World) (k:Option Addr→World→Prop):Prop:=CallF P 318 #[.int .i64 x0,.pointer x1,.slice x2.a x2.n x2.c] (.one .ptr) w k
def regex_Set.C (x0:Int × Int × Int × Int) (w:World) (k:Option Addr→World→Prop):Prop:=CallF P 319 #[.agg #[.int .u64 x0.1,.int .u64 x0.2.1,.int .u64 x0.2.2.1,.int .u64 x0.2.2.2]] (.one .ptr) w k
def nfa_Machine_rule.C (x0:Option Addr) (x1:Int) (w:World) (k:(Option Nat × Option Nat × Bool)→World→Prop):Prop:=CallF P 321 #[.pointer x0,.int .i64 x1] (.agg [.map,.map,.bool]) w k
def nfa_set_sorted.C (x0:Option Nat) (w:World) (k:Sl→World→Prop):Prop:=CallF P 322 #[.map x0] (.one .sl) w k
def nfa_Machine_Len.C (x0:Option Addr) (w:World) (k:Int→World→Prop):Prop:=CallF P 324 #[.pointer x0] (.one (.int .i64)) w k
def nfa_Machine_Rule.C (x0:Option Addr) (x1:Int) (w:World) (k:Int→World→Prop):Prop:=CallF P 325 #[.pointer x0,.int .i64 x1] (.one (.int .i64)) w k
def slices_Contains_int.C (x0:Sl) (x1:Int) (w:World) (k:Bool→World→Prop):Prop:=CallF P 326 #[.slice x0.a x0.n x0.c,.int .i64 x1] (.one .bool) w k
def nfa_Machine_Last.C (x0:Option Addr) (x1:Int) (w:World) (k:Sl→World→Prop):Prop:=CallF P 327 #[.pointer x0,.int .i64 x1] (.one .sl) w k
def regex_parser_atom.C (x0:Option Addr) (w:World) (k:Option Addr→World→Prop):Prop:=CallF P 336 #[.pointer x0] (.one .ptr) w k
def regex_Star.C (x0:Option Addr) (w:World) (k:Option Addr→World→Prop):Prop:=CallF P 337 #[.pointer x0] (.one .ptr) w k
def regex_Empty.C  (w:World) (k:Option Addr→World→Prop):Prop:=CallF P 338 #[] (.one .ptr) w k
def regex_parser_fail.C (x0:Option Addr) (w:World) (k:Option Addr→World→Prop):Prop:=CallF P 339 #[.pointer x0] (.one .ptr) w k
def slices_Sorted.C (x0:Value) (w:World) (k:Sl→World→Prop):Prop:=CallF P 340 #[x0] (.one .sl) w k
def maps_Keys.C (x0:Option Nat) (w:World) (k:Value→World→Prop):Prop:=CallF P 341 #[.map x0] (.one .raw) w k
def slices_Index_int.C (x0:Sl) (x1:Int) (w:World) (k:Int→World→Prop):Prop:=CallF P 351 #[.slice x0.a x0.n x0.c,.int .i64 x1] (.one (.int .i64)) w k
def regex_one.C (x0:Int) (w:World) (k:(Int × Int × Int × Int)→World→Prop):Prop:=CallF P 361 #[.int .u8 x0] (.agg [(.int .u64),(.int .u64),(.int .u64),(.int .u64)]) w k
def regex_parser_class.C (x0:Option Addr) (w:World) (k:Option Addr→World→Prop):Prop:=CallF P 362 #[.pointer x0] (.one .ptr) w k
def regex_parser_letter.C (x0:Option Addr) (x1:ByteArray) (w:World) (k:Int→World→Prop):Prop:=CallF P 363 #[.pointer x0,.string x1] (.one (.int .u8)) w k
def regex_parser_span.C (x0:Option Addr) (x1:Option Addr) (w:World) (k:Unit→World→Prop):Prop:=CallF P 372 #[.pointer x0,.pointer x1] (.tup []) w k
def regex_parser_escaped.C (x0:Option Addr) (x1:ByteArray) (w:World) (k:Int→World→Prop):Prop:=CallF P 373 #[.pointer x0,.string x1] (.one (.int .u8)) w k
def regex_parser_digit.C (x0:Option Addr) (w:World) (k:Int→World→Prop):Prop:=CallF P 377 #[.pointer x0] (.one (.int .u8)) w k
def slices_Clone_scan_Class.M (s_0:Sl) (K:Sl→World→Prop) (w:World):Prop :=
 Br (s_0.a.isNone) (K (⟨none,0,0⟩) w) (Al (.cells #[] T.scan_Class (0,0)) w λb1 w1=>App P (Builtin.append_ #[T.sl_scan_Class,T.sl_scan_Class] T.sl_scan_Class #[.slice (some ⟨b1,0,none⟩) 0 0,.slice s_0.a s_0.n s_0.c]) (.one .sl) w1 λx7 w2=>K x7 w2)
theorem slices_Clone_scan_Class.ok (s_0 K w) (h:slices_Clone_scan_Class.M s_0 K w):slices_Clone_scan_Class.C s_0 w K :=
 okS [] .z [.slice s_0.a s_0.n s_0.c] (.one .sl) rfl rfl h
def nfa_New.M (l_0:Sl) (K:(Option Addr × Int)→World→Prop) (w:World):Prop :=
 Join (λ(s1:Bool) w1=>Br s1 (K (none,1) w1) (Loop (λ(s2:Int × Int) w2 again3=>Br (decide (s2.2 < (l_0.n:Int))) (IdxS l_0 s2.2 1 λp21=>Ld .ptr p21 w2 λx22=>nfa_count.C x22 2000 w2 λx25 w3=>Br (decide ((2000:Int) < (w64 (s2.1 + x25)))) (K (none,3) w3) (again3 ((w64 (s2.1 + x25)),(w64 (s2.2 + (1:Int)))) w3)) (Al (.cells #[.slice none 0 0,.slice none 0 0] T.nfa_Machine (0,0)) w2 λb4 w4=>Loop (λ(s5:Int) w5 again6=>Br (decide (s5 < (l_0.n:Int))) (IdxS l_0 s5 1 λp37=>Ld .ptr p37 w5 λx38=>DrawN w5 λS7 w6=>(Ld .sl (⟨b4,1,none⟩) w6 λx43=>(S7 w6∧nfa_Machine_add.C (some (⟨b4,0,none⟩)) s5 x38 w6 λx47 w7=>(S7 w7∧Al (.cells #[.map x47.1,.map x47.2.1,.bool x47.2.2] T.nfa_known (0,0)) w7 λb8 w8=>(S7 w8∧App P (Builtin.append_ #[T.sl_nfa_known,T.sl_nfa_known] T.sl_nfa_known #[.slice x43.a x43.n x43.c,.slice (some ⟨b8,0,none⟩) 1 1]) (.one .sl) w8 λx49 w9=>(S7 w9∧St (⟨b4,1,none⟩) (.slice x49.a x49.n x49.c) w9 λw10=>(S7 w10∧again6 (w64 (s5 + (1:Int))) w10))))))∧(nfa_Machine_add.C (some (⟨b4,0,none⟩)) s5 x38 w6 λx47 w11=>(S7 w11∧(Ld .sl (⟨b4,1,none⟩) w11 λx43=>(S7 w11∧Al (.cells #[.map x47.1,.map x47.2.1,.bool x47.2.2] T.nfa_known (0,0)) w11 λb9 w12=>(S7 w12∧App P (Builtin.append_ #[T.sl_nfa_known,T.sl_nfa_known] T.sl_nfa_known #[.slice x43.a x43.n x43.c,.slice (some ⟨b9,0,none⟩) 1 1]) (.one .sl) w12 λx49 w13=>(S7 w13∧St (⟨b4,1,none⟩) (.slice x49.a x49.n x49.c) w13 λw14=>(S7 w14∧again6 (w64 (s5 + (1:Int))) w14)))))∧(Al (.cells #[.map x47.1,.map x47.2.1,.bool x47.2.2] T.nfa_known (0,0)) w11 λb10 w15=>(S7 w15∧Ld .sl (⟨b4,1,none⟩) w15 λx43=>(S7 w15∧App P (Builtin.append_ #[T.sl_nfa_known,T.sl_nfa_known] T.sl_nfa_known #[.slice x43.a x43.n x43.c,.slice (some ⟨b10,0,none⟩) 1 1]) (.one .sl) w15 λx49 w16=>(S7 w16∧St (⟨b4,1,none⟩) (.slice x49.a x49.n x49.c) w16 λw17=>(S7 w17∧again6 (w64 (s5 + (1:Int))) w17)))))))) (K ((some (⟨b4,0,none⟩)),0) w5)) 0 w4)) (0,0) w1)) λj11=>Br ((l_0.n:Int)==(0:Int)) (j11 true w) (slices_Contains.C l_0 none w λx15 w18=>j11 x15 w18)
theorem nfa_New.ok (l_0 K w) (h:nfa_New.M l_0 K w):nfa_New.C l_0 w K :=
 okS [(15,.one .bool),(22,.one .ptr),(25,.one (.int .i64)),(38,.one .ptr),(43,.one .sl),(47,.agg [.map,.map,.bool])] (.n .z (.n (.j [(16,.one .bool)] [0] .z .z) (.n .z (.n (.n .z (.l [(4,.one (.int .i64)),(19,.one (.int .i64))] [0,17,18] .z)) (.n .z (.n (.n .z (.l [(34,.one (.int .i64))] [7,32,33] (.n .z (.n .z (.n (.n .z .d) .z))))) .z)))))) [.slice l_0.a l_0.n l_0.c] (.tup [.one .ptr,.one (.int .i64)]) rfl rfl h
def regex_Parse.M (s_0:ByteArray) (K:(Option Addr × Int × Int)→World→Prop) (w:World):Prop :=
 Al (.cells #[.string s_0,.int .i64 0,.bool false,.bool false,.int .i64 0] T.regex_parser (0,0)) w λb1 w1=>regex_parser_or.C (some (⟨b1,0,none⟩)) w1 λx12 w2=>Ld .bool (⟨b1,3,none⟩) w2 λx17=>Br x17 (K (none,0,3) w2) (Join (λ(s2:Bool) w3=>Br s2 (Draw w3 λS3 w4=>LdS S3 (.int .i64) (⟨b1,1,none⟩) λx37=>K (none,x37,4) w4) (regex_Size.C x12 w3 λx40 w5=>Br (decide ((400:Int) < x40)) (K (none,0,3) w5) (K (x12,0,0) w5))) λj4=>Ld .bool (⟨b1,2,none⟩) w2 λx22=>Br x22 (j4 true w2) (Ld (.int .i64) (⟨b1,1,none⟩) w2 λx28=>j4 (decide (x28 < (s_0.size:Int))) w2))
theorem regex_Parse.ok (s_0 K w) (h:regex_Parse.M s_0 K w):regex_Parse.C s_0 w K :=
 okS [(12,.one .ptr),(17,.one .bool),(22,.one .bool),(28,.one (.int .i64)),(37,.one (.int .i64)),(40,.one (.int .i64))] (.n .z (.n .z (.n .z (.n (.n .z (.n .z (.j [(18,.one .bool)] [5,6] .z .z))) .z)))) [.string s_0] (.tup [.one .ptr,.one (.int .i64),.one (.int .i64)]) rfl rfl h
def slices_Contains.M (s_0:Sl) (v_1:Option Addr) (K:Bool→World→Prop) (w:World):Prop :=
 slices_Index.C s_0 v_1 w λx7 w1=>K (decide ((0:Int)≤x7)) w1
theorem slices_Contains.ok (s_0 v_1 K w) (h:slices_Contains.M s_0 v_1 K w):slices_Contains.C s_0 v_1 w K :=
 okS [(7,.one (.int .i64))] .z [.slice s_0.a s_0.n s_0.c,.pointer v_1] (.one .bool) rfl rfl h
def nfa_count.M (n_0:Option Addr) (most_1:Int) (K:Int→World→Prop) (w:World):Prop :=
 regex_Kind.C n_0 w λx9 w1=>Br (x9==(0:Int)) (K 1 w1) (regex_Parts.C n_0 w1 λx12 w2=>Loop (λ(s1:Int × Int) w3 again2=>Br (decide (s1.2 < (x12.n:Int))) (IdxS x12 s1.2 1 λp16=>Ld .ptr p16 w3 λx17=>Br (decide (most_1 < s1.1)) (K s1.1 w3) (nfa_count.C x17 most_1 w3 λx24 w4=>again2 ((w64 (s1.1 + x24)),(w64 (s1.2 + (1:Int)))) w4)) (K s1.1 w3)) (0,0) w2)
theorem nfa_count.ok (n_0 most_1 K w) (h:nfa_count.M n_0 most_1 K w):nfa_count.C n_0 most_1 w K :=
 okS [(9,.one (.int .i64)),(12,.one .sl),(17,.one .ptr),(24,.one (.int .i64))] (.n .z (.n .z (.n .z (.n (.n .z (.l [(5,.one (.int .i64)),(14,.one (.int .i64))] [1,12,13] .z)) .z)))) [.pointer n_0,.int .i64 most_1] (.one (.int .i64)) rfl rfl h
def nfa_Machine_add.M (m_0:Option Addr) (rule_1:Int) (n_2:Option Addr) (K:(Option Nat × Option Nat × Bool)→World→Prop) (w:World):Prop :=
 Al (.cells #[.map none,.map none,.bool false] T.nfa_known (0,0)) w λb1 w1=>regex_Parts.C n_2 w1 λx13 w2=>regex_Kind.C n_2 w2 λx15 w3=>Br (x15==(0:Int)) (NilC m_0 λa19=>Ld .sl a19 w3 λx21=>Join (λ(s2:Unit) w4=>Al (.map #[] 0) w4 λm3 w5=>App0 P (Instr.mapUpdate T.nfa_set (.map (some m3)) (.int .i64 (x21.n:Int)) (.bool true)) w5 λw6=>Al (.map #[] 0) w6 λm4 w7=>App0 P (Instr.mapUpdate T.nfa_set (.map (some m4)) (.int .i64 (x21.n:Int)) (.bool true)) w7 λw8=>St (⟨b1,0,none⟩) (.map (some m3)) w8 λw9=>St (⟨b1,1,none⟩) (.map (some m4)) w9 λw10=>St (⟨b1,2,none⟩) (.bool false) w10 λw11=>Ld .map (⟨b1,0,none⟩) w11 λr0_0=>Ld .map (⟨b1,1,none⟩) w11 λr0_1=>Ld .bool (⟨b1,2,none⟩) w11 λr0_2=>K (r0_0,r0_1,r0_2) w11) λj5=>DrawN w3 λS6 w12=>NilC m_0 λa25=>(Ld .sl a25 w12 λx27=>(S6 w12∧(regex_Bytes.C n_2 w12 λx29 w13=>(S6 w13∧Al (.map #[] 0) w13 λm7 w14=>(S6 w14∧Al (.cells #[.int .u64 x29.1,.int .u64 x29.2.1,.int .u64 x29.2.2.1,.int .u64 x29.2.2.2,.int .i64 rule_1,.map (some m7)] T.nfa_position (0,0)) w14 λb8 w15=>(S6 w15∧App P (Builtin.append_ #[T.sl_nfa_position,T.sl_nfa_position] T.sl_nfa_position #[.slice x27.a x27.n x27.c,.slice (some ⟨b8,0,none⟩) 1 1]) (.one .sl) w15 λx34 w16=>(S6 w16∧NilC m_0 λa35=>St a35 (.slice x34.a x34.n x34.c) w16 λw17=>(S6 w17∧j5 () w17))))))∧(Al (.map #[] 0) w12 λm9 w18=>(S6 w18∧regex_Bytes.C n_2 w18 λx29 w19=>(S6 w19∧Al (.cells #[.int .u64 x29.1,.int .u64 x29.2.1,.int .u64 x29.2.2.1,.int .u64 x29.2.2.2,.int .i64 rule_1,.map (some m9)] T.nfa_position (0,0)) w19 λb10 w20=>(S6 w20∧App P (Builtin.append_ #[T.sl_nfa_position,T.sl_nfa_position] T.sl_nfa_position #[.slice x27.a x27.n x27.c,.slice (some ⟨b10,0,none⟩) 1 1]) (.one .sl) w20 λx34 w21=>(S6 w21∧NilC m_0 λa35=>St a35 (.slice x34.a x34.n x34.c) w21 λw22=>(S6 w22∧j5 () w22))))))))∧(regex_Bytes.C n_2 w12 λx29 w23=>(S6 w23∧(Ld .sl a25 w23 λx27=>(S6 w23∧Al (.map #[] 0) w23 λm11 w24=>(S6 w24∧Al (.cells #[.int .u64 x29.1,.int .u64 x29.2.1,.int .u64 x29.2.2.1,.int .u64 x29.2.2.2,.int .i64 rule_1,.map (some m11)] T.nfa_position (0,0)) w24 λb12 w25=>(S6 w25∧App P (Builtin.append_ #[T.sl_nfa_position,T.sl_nfa_position] T.sl_nfa_position #[.slice x27.a x27.n x27.c,.slice (some ⟨b12,0,none⟩) 1 1]) (.one .sl) w25 λx34 w26=>(S6 w26∧NilC m_0 λa35=>St a35 (.slice x34.a x34.n x34.c) w26 λw27=>(S6 w27∧j5 () w27))))))∧(Al (.map #[] 0) w23 λm13 w28=>(S6 w28∧(Ld .sl a25 w28 λx27=>(S6 w28∧Al (.cells #[.int .u64 x29.1,.int .u64 x29.2.1,.int .u64 x29.2.2.1,.int .u64 x29.2.2.2,.int .i64 rule_1,.map (some m13)] T.nfa_position (0,0)) w28 λb14 w29=>(S6 w29∧App P (Builtin.append_ #[T.sl_nfa_position,T.sl_nfa_position] T.sl_nfa_position #[.slice x27.a x27.n x27.c,.slice (some ⟨b14,0,none⟩) 1 1]) (.one .sl) w29 λx34 w30=>(S6 w30∧NilC m_0 λa35=>St a35 (.slice x34.a x34.n x34.c) w30 λw31=>(S6 w31∧j5 () w31)))))∧(Al (.cells #[.int .u64 x29.1,.int .u64 x29.2.1,.int .u64 x29.2.2.1,.int .u64 x29.2.2.2,.int .i64 rule_1,.map (some m13)] T.nfa_position (0,0)) w28 λb15 w32=>(S6 w32∧Ld .sl a25 w32 λx27=>(S6 w32∧App P (Builtin.append_ #[T.sl_nfa_position,T.sl_nfa_position] T.sl_nfa_position #[.slice x27.a x27.n x27.c,.slice (some ⟨b15,0,none⟩) 1 1]) (.one .sl) w32 λx34 w33=>(S6 w33∧NilC m_0 λa35=>St a35 (.slice x34.a x34.n x34.c) w33 λw34=>(S6 w34∧j5 () w34)))))))))∧(Al (.map #[] 0) w12 λm16 w35=>(S6 w35∧(Ld .sl a25 w35 λx27=>(S6 w35∧regex_Bytes.C n_2 w35 λx29 w36=>(S6 w36∧Al (.cells #[.int .u64 x29.1,.int .u64 x29.2.1,.int .u64 x29.2.2.1,.int .u64 x29.2.2.2,.int .i64 rule_1,.map (some m16)] T.nfa_position (0,0)) w36 λb17 w37=>(S6 w37∧App P (Builtin.append_ #[T.sl_nfa_position,T.sl_nfa_position] T.sl_nfa_position #[.slice x27.a x27.n x27.c,.slice (some ⟨b17,0,none⟩) 1 1]) (.one .sl) w37 λx34 w38=>(S6 w38∧NilC m_0 λa35=>St a35 (.slice x34.a x34.n x34.c) w38 λw39=>(S6 w39∧j5 () w39))))))∧(regex_Bytes.C n_2 w35 λx29 w40=>(S6 w40∧(Ld .sl a25 w40 λx27=>(S6 w40∧Al (.cells #[.int .u64 x29.1,.int .u64 x29.2.1,.int .u64 x29.2.2.1,.int .u64 x29.2.2.2,.int .i64 rule_1,.map (some m16)] T.nfa_position (0,0)) w40 λb18 w41=>(S6 w41∧App P (Builtin.append_ #[T.sl_nfa_position,T.sl_nfa_position] T.sl_nfa_position #[.slice x27.a x27.n x27.c,.slice (some ⟨b18,0,none⟩) 1 1]) (.one .sl) w41 λx34 w42=>(S6 w42∧NilC m_0 λa35=>St a35 (.slice x34.a x34.n x34.c) w42 λw43=>(S6 w43∧j5 () w43)))))∧(Al (.cells #[.int .u64 x29.1,.int .u64 x29.2.1,.int .u64 x29.2.2.1,.int .u64 x29.2.2.2,.int .i64 rule_1,.map (some m16)] T.nfa_position (0,0)) w40 λb19 w44=>(S6 w44∧Ld .sl a25 w44 λx27=>(S6 w44∧App P (Builtin.append_ #[T.sl_nfa_position,T.sl_nfa_position] T.sl_nfa_position #[.slice x27.a x27.n x27.c,.slice (some ⟨b19,0,none⟩) 1 1]) (.one .sl) w44 λx34 w45=>(S6 w45∧NilC m_0 λa35=>St a35 (.slice x34.a x34.n x34.c) w45 λw46=>(S6 w46∧j5 () w46)))))))))) (Br (x15==(2:Int)) (Draw w3 λS20 w47=>IdxS x13 0 1 λp50=>LdS S20 .ptr p50 λx51=>IdxS x13 1 1 λp56=>LdS S20 .ptr p56 λx57=>nfa_Machine_add.C m_0 rule_1 x51 w47 λx52 w48=>(S20 w48∧nfa_Machine_add.C m_0 rule_1 x57 w48 λx58 w49=>(S20 w49∧nfa_Machine_cat.C m_0 (x52.1,x52.2.1,x52.2.2) (x58.1,x58.2.1,x58.2.2) w49 λx59 w50=>(S20 w50∧St (⟨b1,0,none⟩) (.map x59.1) w50 λw51=>St (⟨b1,1,none⟩) (.map x59.2.1) w51 λw52=>St (⟨b1,2,none⟩) (.bool x59.2.2) w52 λw53=>(S20 w53∧Ld .map (⟨b1,0,none⟩) w53 λr0_0=>Ld .map (⟨b1,1,none⟩) w53 λr0_1=>Ld .bool (⟨b1,2,none⟩) w53 λr0_2=>K (r0_0,r0_1,r0_2) w53))))) (Br (x15==(3:Int)) (Join (λ(s21:Addr × Addr) w54=>Draw w54 λS22 w55=>LdS S22 .map s21.1 λx75=>LdS S22 .map s21.2 λx77=>LdS S22 .map (s21.1.add 1) λx80=>LdS S22 .map (s21.2.add 1) λx82=>LdS S22 .bool (s21.1.add 2) λx85=>nfa_set_with.C x75 x77 w55 λx78 w56=>(S22 w56∧nfa_set_with.C x80 x82 w56 λx83 w57=>(S22 w57∧Br x85 (St (⟨b1,0,none⟩) (.map x78) w57 λw58=>St (⟨b1,1,none⟩) (.map x83) w58 λw59=>St (⟨b1,2,none⟩) (.bool true) w59 λw60=>(S22 w60∧Ld .map (⟨b1,0,none⟩) w60 λr0_0=>Ld .map (⟨b1,1,none⟩) w60 λr0_1=>Ld .bool (⟨b1,2,none⟩) w60 λr0_2=>K (r0_0,r0_1,r0_2) w60)) (LdS S22 .bool (s21.2.add 2) λx88=>St (⟨b1,0,none⟩) (.map x78) w57 λw61=>St (⟨b1,1,none⟩) (.map x83) w61 λw62=>St (⟨b1,2,none⟩) (.bool x88) w62 λw63=>(S22 w63∧Ld .map (⟨b1,0,none⟩) w63 λr0_0=>Ld .map (⟨b1,1,none⟩) w63 λr0_1=>Ld .bool (⟨b1,2,none⟩) w63 λr0_2=>K (r0_0,r0_1,r0_2) w63))))) λj23=>Draw w3 λS24 w65=>IdxS x13 0 1 λp65=>LdS S24 .ptr p65 λx66=>IdxS x13 1 1 λp71=>LdS S24 .ptr p71 λx72=>(nfa_Machine_add.C m_0 rule_1 x66 w65 λx67 w66=>(S24 w66∧(nfa_Machine_add.C m_0 rule_1 x72 w66 λx73 w67=>(S24 w67∧(Al (.cells #[.map none,.map none,.bool false] T.nfa_known (0,0)) w67 λb25 w68=>(S24 w68∧Al (.cells #[.map none,.map none,.bool false] T.nfa_known (0,0)) w68 λb26 w69=>(S24 w69∧St (⟨b25,0,none⟩) (.map x67.1) w69 λw70=>St (⟨b25,1,none⟩) (.map x67.2.1) w70 λw71=>St (⟨b25,2,none⟩) (.bool x67.2.2) w71 λw72=>(S24 w72∧St (⟨b26,0,none⟩) (.map x73.1) w72 λw73=>St (⟨b26,1,none⟩) (.map x73.2.1) w73 λw74=>St (⟨b26,2,none⟩) (.bool x73.2.2) w74 λw75=>(S24 w75∧j23 (⟨b25,0,none⟩,⟨b26,0,none⟩) w75)))))∧(Al (.cells #[.map none,.map none,.bool false] T.nfa_known (0,0)) w67 λb27 w76=>(S24 w76∧Al (.cells #[.map none,.map none,.bool false] T.nfa_known (0,0)) w76 λb28 w77=>(S24 w77∧St (⟨b28,0,none⟩) (.map x67.1) w77 λw78=>St (⟨b28,1,none⟩) (.map x67.2.1) w78 λw79=>St (⟨b28,2,none⟩) (.bool x67.2.2) w79 λw80=>(S24 w80∧St (⟨b27,0,none⟩) (.map x73.1) w80 λw81=>St (⟨b27,1,none⟩) (.map x73.2.1) w81 λw82=>St (⟨b27,2,none⟩) (.bool x73.2.2) w82 λw83=>(S24 w83∧j23 (⟨b28,0,none⟩,⟨b27,0,none⟩) w83)))))))∧(Al (.cells #[.map none,.map none,.bool false] T.nfa_known (0,0)) w66 λb29 w84=>(S24 w84∧(nfa_Machine_add.C m_0 rule_1 x72 w84 λx73 w85=>(S24 w85∧Al (.cells #[.map none,.map none,.bool false] T.nfa_known (0,0)) w85 λb30 w86=>(S24 w86∧St (⟨b29,0,none⟩) (.map x67.1) w86 λw87=>St (⟨b29,1,none⟩) (.map x67.2.1) w87 λw88=>St (⟨b29,2,none⟩) (.bool x67.2.2) w88 λw89=>(S24 w89∧St (⟨b30,0,none⟩) (.map x73.1) w89 λw90=>St (⟨b30,1,none⟩) (.map x73.2.1) w90 λw91=>St (⟨b30,2,none⟩) (.bool x73.2.2) w91 λw92=>(S24 w92∧j23 (⟨b29,0,none⟩,⟨b30,0,none⟩) w92)))))∧(Al (.cells #[.map none,.map none,.bool false] T.nfa_known (0,0)) w84 λb31 w93=>(S24 w93∧nfa_Machine_add.C m_0 rule_1 x72 w93 λx73 w94=>(S24 w94∧St (⟨b29,0,none⟩) (.map x67.1) w94 λw95=>St (⟨b29,1,none⟩) (.map x67.2.1) w95 λw96=>St (⟨b29,2,none⟩) (.bool x67.2.2) w96 λw97=>(S24 w97∧St (⟨b31,0,none⟩) (.map x73.1) w97 λw98=>St (⟨b31,1,none⟩) (.map x73.2.1) w98 λw99=>St (⟨b31,2,none⟩) (.bool x73.2.2) w99 λw100=>(S24 w100∧j23 (⟨b29,0,none⟩,⟨b31,0,none⟩) w100)))))))∧(Al (.cells #[.map none,.map none,.bool false] T.nfa_known (0,0)) w66 λb32 w101=>(S24 w101∧(nfa_Machine_add.C m_0 rule_1 x72 w101 λx73 w102=>(S24 w102∧Al (.cells #[.map none,.map none,.bool false] T.nfa_known (0,0)) w102 λb33 w103=>(S24 w103∧St (⟨b33,0,none⟩) (.map x67.1) w103 λw104=>St (⟨b33,1,none⟩) (.map x67.2.1) w104 λw105=>St (⟨b33,2,none⟩) (.bool x67.2.2) w105 λw106=>(S24 w106∧St (⟨b32,0,none⟩) (.map x73.1) w106 λw107=>St (⟨b32,1,none⟩) (.map x73.2.1) w107 λw108=>St (⟨b32,2,none⟩) (.bool x73.2.2) w108 λw109=>(S24 w109∧j23 (⟨b33,0,none⟩,⟨b32,0,none⟩) w109)))))∧(Al (.cells #[.map none,.map none,.bool false] T.nfa_known (0,0)) w101 λb34 w110=>(S24 w110∧nfa_Machine_add.C m_0 rule_1 x72 w110 λx73 w111=>(S24 w111∧St (⟨b34,0,none⟩) (.map x67.1) w111 λw112=>St (⟨b34,1,none⟩) (.map x67.2.1) w112 λw113=>St (⟨b34,2,none⟩) (.bool x67.2.2) w113 λw114=>(S24 w114∧St (⟨b32,0,none⟩) (.map x73.1) w114 λw115=>St (⟨b32,1,none⟩) (.map x73.2.1) w115 λw116=>St (⟨b32,2,none⟩) (.bool x73.2.2) w116 λw117=>(S24 w117∧j23 (⟨b34,0,none⟩,⟨b32,0,none⟩) w117)))))))))∧(Al (.cells #[.map none,.map none,.bool false] T.nfa_known (0,0)) w65 λb35 w118=>(S24 w118∧(nfa_Machine_add.C m_0 rule_1 x66 w118 λx67 w119=>(S24 w119∧(nfa_Machine_add.C m_0 rule_1 x72 w119 λx73 w120=>(S24 w120∧Al (.cells #[.map none,.map none,.bool false] T.nfa_known (0,0)) w120 λb36 w121=>(S24 w121∧St (⟨b35,0,none⟩) (.map x67.1) w121 λw122=>St (⟨b35,1,none⟩) (.map x67.2.1) w122 λw123=>St (⟨b35,2,none⟩) (.bool x67.2.2) w123 λw124=>(S24 w124∧St (⟨b36,0,none⟩) (.map x73.1) w124 λw125=>St (⟨b36,1,none⟩) (.map x73.2.1) w125 λw126=>St (⟨b36,2,none⟩) (.bool x73.2.2) w126 λw127=>(S24 w127∧j23 (⟨b35,0,none⟩,⟨b36,0,none⟩) w127)))))∧(Al (.cells #[.map none,.map none,.bool false] T.nfa_known (0,0)) w119 λb37 w128=>(S24 w128∧nfa_Machine_add.C m_0 rule_1 x72 w128 λx73 w129=>(S24 w129∧St (⟨b35,0,none⟩) (.map x67.1) w129 λw130=>St (⟨b35,1,none⟩) (.map x67.2.1) w130 λw131=>St (⟨b35,2,none⟩) (.bool x67.2.2) w131 λw132=>(S24 w132∧St (⟨b37,0,none⟩) (.map x73.1) w132 λw133=>St (⟨b37,1,none⟩) (.map x73.2.1) w133 λw134=>St (⟨b37,2,none⟩) (.bool x73.2.2) w134 λw135=>(S24 w135∧j23 (⟨b35,0,none⟩,⟨b37,0,none⟩) w135)))))))∧(Al (.cells #[.map none,.map none,.bool false] T.nfa_known (0,0)) w118 λb38 w136=>(S24 w136∧nfa_Machine_add.C m_0 rule_1 x66 w136 λx67 w137=>(S24 w137∧nfa_Machine_add.C m_0 rule_1 x72 w137 λx73 w138=>(S24 w138∧St (⟨b35,0,none⟩) (.map x67.1) w138 λw139=>St (⟨b35,1,none⟩) (.map x67.2.1) w139 λw140=>St (⟨b35,2,none⟩) (.bool x67.2.2) w140 λw141=>(S24 w141∧St (⟨b38,0,none⟩) (.map x73.1) w141 λw142=>St (⟨b38,1,none⟩) (.map x73.2.1) w142 λw143=>St (⟨b38,2,none⟩) (.bool x73.2.2) w143 λw144=>(S24 w144∧j23 (⟨b35,0,none⟩,⟨b38,0,none⟩) w144))))))))∧(Al (.cells #[.map none,.map none,.bool false] T.nfa_known (0,0)) w65 λb39 w145=>(S24 w145∧(nfa_Machine_add.C m_0 rule_1 x66 w145 λx67 w146=>(S24 w146∧(nfa_Machine_add.C m_0 rule_1 x72 w146 λx73 w147=>(S24 w147∧Al (.cells #[.map none,.map none,.bool false] T.nfa_known (0,0)) w147 λb40 w148=>(S24 w148∧St (⟨b40,0,none⟩) (.map x67.1) w148 λw149=>St (⟨b40,1,none⟩) (.map x67.2.1) w149 λw150=>St (⟨b40,2,none⟩) (.bool x67.2.2) w150 λw151=>(S24 w151∧St (⟨b39,0,none⟩) (.map x73.1) w151 λw152=>St (⟨b39,1,none⟩) (.map x73.2.1) w152 λw153=>St (⟨b39,2,none⟩) (.bool x73.2.2) w153 λw154=>(S24 w154∧j23 (⟨b40,0,none⟩,⟨b39,0,none⟩) w154)))))∧(Al (.cells #[.map none,.map none,.bool false] T.nfa_known (0,0)) w146 λb41 w155=>(S24 w155∧nfa_Machine_add.C m_0 rule_1 x72 w155 λx73 w156=>(S24 w156∧St (⟨b41,0,none⟩) (.map x67.1) w156 λw157=>St (⟨b41,1,none⟩) (.map x67.2.1) w157 λw158=>St (⟨b41,2,none⟩) (.bool x67.2.2) w158 λw159=>(S24 w159∧St (⟨b39,0,none⟩) (.map x73.1) w159 λw160=>St (⟨b39,1,none⟩) (.map x73.2.1) w160 λw161=>St (⟨b39,2,none⟩) (.bool x73.2.2) w161 λw162=>(S24 w162∧j23 (⟨b41,0,none⟩,⟨b39,0,none⟩) w162)))))))∧(Al (.cells #[.map none,.map none,.bool false] T.nfa_known (0,0)) w145 λb42 w163=>(S24 w163∧nfa_Machine_add.C m_0 rule_1 x66 w163 λx67 w164=>(S24 w164∧nfa_Machine_add.C m_0 rule_1 x72 w164 λx73 w165=>(S24 w165∧St (⟨b42,0,none⟩) (.map x67.1) w165 λw166=>St (⟨b42,1,none⟩) (.map x67.2.1) w166 λw167=>St (⟨b42,2,none⟩) (.bool x67.2.2) w167 λw168=>(S24 w168∧St (⟨b39,0,none⟩) (.map x73.1) w168 λw169=>St (⟨b39,1,none⟩) (.map x73.2.1) w169 λw170=>St (⟨b39,2,none⟩) (.bool x73.2.2) w170 λw171=>(S24 w171∧j23 (⟨b42,0,none⟩,⟨b39,0,none⟩) w171))))))))) (Br (x15==(4:Int)) (IdxS x13 0 1 λp96=>Ld .ptr p96 w3 λx97=>nfa_Machine_add.C m_0 rule_1 x97 w3 λx98 w172=>Al (.cells #[.map none,.map none,.bool false] T.nfa_known (0,0)) w172 λb43 w173=>St (⟨b43,0,none⟩) (.map x98.1) w173 λw174=>St (⟨b43,1,none⟩) (.map x98.2.1) w174 λw175=>St (⟨b43,2,none⟩) (.bool x98.2.2) w175 λw176=>Ld .map (⟨b43,1,none⟩) w176 λx101=>Ld .map (⟨b43,0,none⟩) w176 λx103=>nfa_Machine_link.C m_0 x101 x103 w176 λx104 w177=>Ld .map (⟨b43,0,none⟩) w177 λx106=>Ld .map (⟨b43,1,none⟩) w177 λx108=>St (⟨b1,0,none⟩) (.map x106) w177 λw178=>St (⟨b1,1,none⟩) (.map x108) w178 λw179=>St (⟨b1,2,none⟩) (.bool true) w179 λw180=>Ld .map (⟨b1,0,none⟩) w180 λr0_0=>Ld .map (⟨b1,1,none⟩) w180 λr0_1=>Ld .bool (⟨b1,2,none⟩) w180 λr0_2=>K (r0_0,r0_1,r0_2) w180) (Al (.map #[] 0) w3 λm44 w181=>Al (.map #[] 0) w181 λm45 w182=>St (⟨b1,0,none⟩) (.map (some m44)) w182 λw183=>St (⟨b1,1,none⟩) (.map (some m45)) w183 λw184=>St (⟨b1,2,none⟩) (.bool true) w184 λw185=>Ld .map (⟨b1,0,none⟩) w185 λr0_0=>Ld .map (⟨b1,1,none⟩) w185 λr0_1=>Ld .bool (⟨b1,2,none⟩) w185 λr0_2=>K (r0_0,r0_1,r0_2) w185))))
theorem nfa_Machine_add.ok (m_0 rule_1 n_2 K w) (h:nfa_Machine_add.M m_0 rule_1 n_2 K w):nfa_Machine_add.C m_0 rule_1 n_2 w K :=
 okS [(6,.agg [.map,.map,.bool]),(13,.one .sl),(15,.one (.int .i64)),(21,.one .sl),(27,.one .sl),(29,.agg [(.int .u64),(.int .u64),(.int .u64),(.int .u64)]),(51,.one .ptr),(52,.agg [.map,.map,.bool]),(57,.one .ptr),(58,.agg [.map,.map,.bool]),(59,.agg [.map,.map,.bool]),(66,.one .ptr),(67,.agg [.map,.map,.bool]),(72,.one .ptr),(73,.agg [.map,.map,.bool]),(75,.one .map),(77,.one .map),(78,.one .map),(80,.one .map),(82,.one .map),(83,.one .map),(85,.one .bool),(88,.one .bool),(97,.one .ptr),(98,.agg [.map,.map,.bool]),(101,.one .map),(103,.one .map),(104,.tup []),(106,.one .map),(108,.one .map)] (.n .z (.n .z (.n (.n .z (.n .z (.n (.n .z (.j [] [6,8] .d .z)) (.n .z (.n .z (.n .z (.n (.j [(9,.one .addr),(10,.one .addr)] [6] .z .z) .z))))))) .z))) [.pointer m_0,.int .i64 rule_1,.pointer n_2] (.agg [.map,.map,.bool]) rfl rfl h
def regex_parser_or.M (p_0:Option Addr) (K:Option Addr→World→Prop) (w:World):Prop :=
 regex_parser_cat.C p_0 w λx5 w1=>Al (.cells #[.pointer x5] T.p_regex_Node (0,0)) w1 λb1 w2=>Loop (λ(s2:Sl) w3 again3=>Join (λ(s4:Bool) w4=>Br s4 (regex_parser_cat.C p_0 w4 λx20 w5=>Al (.cells #[.pointer x20] T.p_regex_Node (0,0)) w5 λb5 w6=>App P (Builtin.append_ #[T.sl_p_regex_Node,T.sl_p_regex_Node] T.sl_p_regex_Node #[.slice s2.a s2.n s2.c,.slice (some ⟨b5,0,none⟩) 1 1]) (.one .sl) w6 λx22 w7=>again3 x22 w7) (regex_Or.C s2 w4 λx24 w8=>K x24 w8)) λj6=>NilC p_0 λa8=>Ld .bool (a8.add 2) w3 λx10=>Br (!x10) (NilC p_0 λa14=>regex_reader_is.C (some a14) 124 w3 λx16 w9=>j6 x16 w9) (j6 false w3)) (⟨(some ⟨b1,0,none⟩),1,1⟩) w2
theorem regex_parser_or.ok (p_0 K w) (h:regex_parser_or.M p_0 K w):regex_parser_or.C p_0 w K :=
 okS [(5,.one .ptr),(10,.one .bool),(16,.one .bool),(20,.one .ptr),(24,.one .ptr)] (.n .z (.n .z (.n (.l [(3,.one .sl)] [0] (.n (.j [(17,.one .bool)] [0,3] .z .z) .z)) .z))) [.pointer p_0] (.one .ptr) rfl rfl h
def regex_Size.M (n_0:Option Addr) (K:Int→World→Prop) (w:World):Prop :=
 Br (n_0.isNone) (K 0 w) (NilC n_0 λa9=>Ld .sl (a9.add 5) w λx11=>Loop (λ(s1:Int × Int) w1 again2=>Br (decide (s1.2 < (x11.n:Int))) (IdxS x11 s1.2 1 λp15=>Ld .ptr p15 w1 λx16=>regex_Size.C x16 w1 λx19 w2=>again2 ((w64 (s1.1 + x19)),(w64 (s1.2 + (1:Int)))) w2) (K s1.1 w1)) (1,0) w)
theorem regex_Size.ok (n_0 K w) (h:regex_Size.M n_0 K w):regex_Size.C n_0 w K :=
 okS [(11,.one .sl),(16,.one .ptr),(19,.one (.int .i64))] (.n .z (.n .z (.n .z (.n (.n .z (.l [(3,.one (.int .i64)),(13,.one (.int .i64))] [11,12] .z)) .z)))) [.pointer n_0] (.one (.int .i64)) rfl rfl h
def regex_Nullable.M (n_0:Option Addr) (K:Bool→World→Prop) (w:World):Prop :=
 regex_Kind.C n_0 w λx4 w1=>Join (λ(s1:Bool) w2=>Br s1 (K true w2) (Br (x4==(2:Int)) (NilC n_0 λa11=>Ld .sl (a11.add 5) w2 λx13=>IdxS x13 0 1 λp14=>Ld .ptr p14 w2 λx15=>regex_Nullable.C x15 w2 λx16 w3=>Br x16 (NilC n_0 λa19=>Ld .sl (a19.add 5) w3 λx21=>IdxS x21 1 1 λp22=>Ld .ptr p22 w3 λx23=>regex_Nullable.C x23 w3 λx24 w4=>K x24 w4) (K false w3)) (Br (x4==(3:Int)) (NilC n_0 λa29=>Ld .sl (a29.add 5) w2 λx31=>IdxS x31 0 1 λp32=>Ld .ptr p32 w2 λx33=>regex_Nullable.C x33 w2 λx34 w5=>Br x34 (K true w5) (NilC n_0 λa37=>Ld .sl (a37.add 5) w5 λx39=>IdxS x39 1 1 λp40=>Ld .ptr p40 w5 λx41=>regex_Nullable.C x41 w5 λx42 w6=>K x42 w6)) (K false w2)))) λj2=>Br (x4==(1:Int)) (j2 (x4==(1:Int)) w1) (j2 (x4==(4:Int)) w1)
theorem regex_Nullable.ok (n_0 K w) (h:regex_Nullable.M n_0 K w):regex_Nullable.C n_0 w K :=
 okS [(4,.one (.int .i64)),(13,.one .sl),(15,.one .ptr),(16,.one .bool),(21,.one .sl),(23,.one .ptr),(24,.one .bool),(31,.one .sl),(33,.one .ptr),(34,.one .bool),(39,.one .sl),(41,.one .ptr),(42,.one .bool)] (.n .z (.n (.n .z (.j [(5,.one .bool)] [0,4] .z .z)) .z)) [.pointer n_0] (.one .bool) rfl rfl h
def slices_Index.M (s_0:Sl) (v_1:Option Addr) (K:Int→World→Prop) (w:World):Prop :=
 Loop (λ(s1:Int) w1 again2=>Br (decide (s1 < (s_0.n:Int))) (IdxS s_0 s1 1 λp14=>Ld .ptr p14 w1 λx15=>App P (do eqGuard .eql T.p_regex_Node (.tmp 11) (.tmp 15) (.pointer v_1) (.pointer x15);binOp .eql T.p_regex_Node (.pointer v_1) (.pointer x15)) (.one .bool) w1 λx16 w2=>Br x16 (K s1 w2) (again2 (w64 (s1 + (1:Int))) w2)) (K (-1) w1)) 0 w
theorem slices_Index.ok (s_0 v_1 K w) (h:slices_Index.M s_0 v_1 K w):slices_Index.C s_0 v_1 w K :=
 okS [(15,.one .ptr),(16,.one .bool)] (.n .z (.n (.n .z (.l [(8,.one (.int .i64))] [0,1,7] .z)) .z)) [.slice s_0.a s_0.n s_0.c,.pointer v_1] (.one (.int .i64)) rfl rfl h
def regex_Kind.M (n_0:Option Addr) (K:Int→World→Prop) (w:World):Prop :=
 Br (n_0.isNone) (K (-1) w) (NilC n_0 λa6=>Ld (.int .i64) a6 w λx8=>K x8 w)
theorem regex_Kind.ok (n_0 K w) (h:regex_Kind.M n_0 K w):regex_Kind.C n_0 w K :=
 okS [(8,.one (.int .i64))] .z [.pointer n_0] (.one (.int .i64)) rfl rfl h
def regex_Parts.M (n_0:Option Addr) (K:Sl→World→Prop) (w:World):Prop :=
 Br (n_0.isNone) (K (⟨none,0,0⟩) w) (NilC n_0 λa6=>Ld .sl (a6.add 5) w λx8=>App P (Builtin.append_ #[T.sl_p_regex_Node,T.sl_p_regex_Node] T.sl_p_regex_Node #[.slice none 0 0,.slice x8.a x8.n x8.c]) (.one .sl) w λx9 w1=>K x9 w1)
theorem regex_Parts.ok (n_0 K w) (h:regex_Parts.M n_0 K w):regex_Parts.C n_0 w K :=
 okS [(8,.one .sl)] .z [.pointer n_0] (.one .sl) rfl rfl h
def regex_Bytes.M (n_0:Option Addr) (K:(Int × Int × Int × Int)→World→Prop) (w:World):Prop :=
 Al (.cells #[.int .u64 0,.int .u64 0,.int .u64 0,.int .u64 0] T.a4_uint64 (0,0)) w λb1 w1=>Br (n_0.isNone) (St (⟨b1,0,none⟩) (.int .u64 0) w1 λw2=>St (⟨b1,1,none⟩) (.int .u64 0) w2 λw3=>St (⟨b1,2,none⟩) (.int .u64 0) w3 λw4=>St (⟨b1,3,none⟩) (.int .u64 0) w4 λw5=>Ld (.int .u64) (⟨b1,0,none⟩) w5 λr0_0=>Ld (.int .u64) (⟨b1,1,none⟩) w5 λr0_1=>Ld (.int .u64) (⟨b1,2,none⟩) w5 λr0_2=>Ld (.int .u64) (⟨b1,3,none⟩) w5 λr0_3=>K (r0_0,r0_1,r0_2,r0_3) w5) (NilC n_0 λa7=>Ld (.int .u64) (a7.add 1) w1 λx9_0=>Ld (.int .u64) ((a7.add 1).add 1) w1 λx9_1=>Ld (.int .u64) ((a7.add 1).add 2) w1 λx9_2=>Ld (.int .u64) ((a7.add 1).add 3) w1 λx9_3=>St (⟨b1,0,none⟩) (.int .u64 x9_0) w1 λw6=>St (⟨b1,1,none⟩) (.int .u64 x9_1) w6 λw7=>St (⟨b1,2,none⟩) (.int .u64 x9_2) w7 λw8=>St (⟨b1,3,none⟩) (.int .u64 x9_3) w8 λw9=>Ld (.int .u64) (⟨b1,0,none⟩) w9 λr0_0=>Ld (.int .u64) (⟨b1,1,none⟩) w9 λr0_1=>Ld (.int .u64) (⟨b1,2,none⟩) w9 λr0_2=>Ld (.int .u64) (⟨b1,3,none⟩) w9 λr0_3=>K (r0_0,r0_1,r0_2,r0_3) w9)
theorem regex_Bytes.ok (n_0 K w) (h:regex_Bytes.M n_0 K w):regex_Bytes.C n_0 w K :=
 okS [(2,.agg [(.int .u64),(.int .u64),(.int .u64),(.int .u64)]),(9,.agg [(.int .u64),(.int .u64),(.int .u64),(.int .u64)])] .z [.pointer n_0] (.agg [(.int .u64),(.int .u64),(.int .u64),(.int .u64)]) rfl rfl h
def nfa_Machine_cat.M (m_0:Option Addr) (a_1:Option Nat × Option Nat × Bool) (b_2:Option Nat × Option Nat × Bool) (K:(Option Nat × Option Nat × Bool)→World→Prop) (w:World):Prop :=
 Al (.cells #[.map a_1.1,.map a_1.2.1,.bool a_1.2.2] T.nfa_known (0,0)) w λb1 w1=>Al (.cells #[.map b_2.1,.map b_2.2.1,.bool b_2.2.2] T.nfa_known (0,0)) w1 λb2 w2=>Al (.cells #[.map none,.map none,.bool false] T.nfa_known (0,0)) w2 λb3 w3=>Ld .map (⟨b1,1,none⟩) w3 λx10=>Ld .map (⟨b2,0,none⟩) w3 λx12=>nfa_Machine_link.C m_0 x10 x12 w3 λx13 w4=>Join (λ(s4:Addr) w5=>Join (λ(s5:Unit) w6=>Ld .bool (⟨b2,2,none⟩) w6 λx34=>Br x34 (Ld .map (⟨b2,1,none⟩) w6 λx36=>Ld .map (⟨b1,1,none⟩) w6 λx38=>nfa_set_with.C x36 x38 w6 λx39 w7=>St (s4.add 1) (.map x39) w7 λw8=>Ld .map s4 w8 λx41_0=>Ld .map (s4.add 1) w8 λx41_1=>Ld .bool (s4.add 2) w8 λx41_2=>St (⟨b3,0,none⟩) (.map x41_0) w8 λw9=>St (⟨b3,1,none⟩) (.map x41_1) w9 λw10=>St (⟨b3,2,none⟩) (.bool x41_2) w10 λw11=>Ld .map (⟨b3,0,none⟩) w11 λr0_0=>Ld .map (⟨b3,1,none⟩) w11 λr0_1=>Ld .bool (⟨b3,2,none⟩) w11 λr0_2=>K (r0_0,r0_1,r0_2) w11) (Ld .map s4 w6 λx41_0=>Ld .map (s4.add 1) w6 λx41_1=>Ld .bool (s4.add 2) w6 λx41_2=>St (⟨b3,0,none⟩) (.map x41_0) w6 λw12=>St (⟨b3,1,none⟩) (.map x41_1) w12 λw13=>St (⟨b3,2,none⟩) (.bool x41_2) w13 λw14=>Ld .map (⟨b3,0,none⟩) w14 λr0_0=>Ld .map (⟨b3,1,none⟩) w14 λr0_1=>Ld .bool (⟨b3,2,none⟩) w14 λr0_2=>K (r0_0,r0_1,r0_2) w14)) λj6=>Ld .bool (⟨b1,2,none⟩) w5 λx26=>Br x26 (Ld .map (⟨b1,0,none⟩) w5 λx28=>Ld .map (⟨b2,0,none⟩) w5 λx30=>nfa_set_with.C x28 x30 w5 λx31 w15=>St s4 (.map x31) w15 λw16=>j6 () w16) (j6 () w5)) λj7=>Ld .map (⟨b1,0,none⟩) w4 λx15=>Ld .map (⟨b2,1,none⟩) w4 λx17=>Ld .bool (⟨b1,2,none⟩) w4 λx19=>Br x19 (Ld .bool (⟨b2,2,none⟩) w4 λx22=>Al (.cells #[.map none,.map none,.bool false] T.nfa_known (0,0)) w4 λb8 w17=>St (⟨b8,0,none⟩) (.map x15) w17 λw18=>St (⟨b8,1,none⟩) (.map x17) w18 λw19=>St (⟨b8,2,none⟩) (.bool x22) w19 λw20=>j7 (⟨b8,0,none⟩) w20) (Al (.cells #[.map none,.map none,.bool false] T.nfa_known (0,0)) w4 λb9 w21=>St (⟨b9,0,none⟩) (.map x15) w21 λw22=>St (⟨b9,1,none⟩) (.map x17) w22 λw23=>St (⟨b9,2,none⟩) (.bool false) w23 λw24=>j7 (⟨b9,0,none⟩) w24)
theorem nfa_Machine_cat.ok (m_0 a_1 b_2 K w) (h:nfa_Machine_cat.M m_0 a_1 b_2 K w):nfa_Machine_cat.C m_0 a_1 b_2 w K :=
 okS [(6,.agg [.map,.map,.bool]),(10,.one .map),(12,.one .map),(13,.tup []),(15,.one .map),(17,.one .map),(19,.one .bool),(22,.one .bool),(26,.one .bool),(28,.one .map),(30,.one .map),(31,.one .map),(34,.one .bool),(36,.one .map),(38,.one .map),(39,.one .map),(41,.agg [.map,.map,.bool])] (.n .z (.n .z (.j [(7,.one .addr)] [4,5,6] .z (.j [] [4,5,6,7] .z .z)))) [.pointer m_0,.agg #[.map a_1.1,.map a_1.2.1,.bool a_1.2.2],.agg #[.map b_2.1,.map b_2.2.1,.bool b_2.2.2]] (.agg [.map,.map,.bool]) rfl rfl h
def nfa_set_with.M (s_0:Option Nat) (more_1:Option Nat) (K:Option Nat→World→Prop) (w:World):Prop :=
 maps_Clone.C s_0 w λx7 w1=>maps_Copy.C x7 more_1 w1 λx10 w2=>K x7 w2
theorem nfa_set_with.ok (s_0 more_1 K w) (h:nfa_set_with.M s_0 more_1 K w):nfa_set_with.C s_0 more_1 w K :=
 okS [(7,.one .map),(10,.tup [])] .z [.map s_0,.map more_1] (.one .map) rfl rfl h
def nfa_Machine_link.M (m_0:Option Addr) (from_1:Option Nat) (to_2:Option Nat) (K:Unit→World→Prop) (w:World):Prop :=
 App P (Instr.range T.nfa_set (.map from_1)) (.one .ptr) w λx8 w1=>Loop (λ(s1:Unit) w2 again2=>Join (λ(s3:Bool) w3=>Br s3 (App P (Instr.entry (.pointer x8)) (.tup [.one (.int .i64),.one .bool]) w3 λx11 w4=>NilC m_0 λa14=>Ld .sl a14 w4 λx16=>IdxS x16 x11.1 6 λp18=>Ld .map (p18.add 5) w4 λx20=>maps_Copy.C x20 to_2 w4 λx22 w5=>again2 () w5) (K () w3)) λj4=>Nxt P (Instr.next (.pointer x8) false 0) (.int .i64) .bool w2 (λw6=>j4 false w6) (λk9 v9 w7=>j4 true w7)) () w1
theorem nfa_Machine_link.ok (m_0 from_1 to_2 K w) (h:nfa_Machine_link.M m_0 from_1 to_2 K w):nfa_Machine_link.C m_0 from_1 to_2 w K :=
 okS [(8,.one .ptr),(9,.tup [.one .bool,.one (.int .i64),.one .bool]),(11,.tup [.one (.int .i64),.one .bool]),(16,.one .sl),(20,.one .map),(22,.tup [])] (.n .z (.l [] [0,2,8] (.j [(10,.one .bool)] [0,2,8] .z .z))) [.pointer m_0,.map from_1,.map to_2] (.tup []) rfl rfl h
def nfa_Machine_Has.M (m_0:Option Addr) (p_1:Int) (b_2:Int) (K:Bool→World→Prop) (w:World):Prop :=
 nfa_Machine_at.C m_0 p_1 w λx12 w1=>Al (.cells #[.int .u64 0,.int .u64 0,.int .u64 0,.int .u64 0,.int .i64 0,.map none] T.nfa_position (0,0)) w1 λb1 w2=>St (⟨b1,0,none⟩) (.int .u64 x12.1.1) w2 λw3=>St (⟨b1,1,none⟩) (.int .u64 x12.1.2.1) w3 λw4=>St (⟨b1,2,none⟩) (.int .u64 x12.1.2.2.1) w4 λw5=>St (⟨b1,3,none⟩) (.int .u64 x12.1.2.2.2.1) w5 λw6=>St (⟨b1,4,none⟩) (.int .i64 x12.1.2.2.2.2.1) w6 λw7=>St (⟨b1,5,none⟩) (.map x12.1.2.2.2.2.2) w7 λw8=>Br x12.2 (Need ((64:Int)≠0) (IdxA 4 (⟨b1,0,none⟩) (IntKind.wrap .u8 (Int.tdiv b_2 (64:Int))) 1 λp20=>Ld (.int .u64) p20 w8 λx21=>Need ((64:Int)≠0) (Need (0≤(Int.tmod b_2 (64:Int))) (K ((bAnd .u64 (Int.fdiv x21 (2 ^ min (Int.toNat (Int.tmod b_2 (64:Int))) (IntKind.bits .u64))) (1:Int))==(1:Int)) w8)))) (K false w8)
theorem nfa_Machine_Has.ok (m_0 p_1 b_2 K w) (h:nfa_Machine_Has.M m_0 p_1 b_2 K w):nfa_Machine_Has.C m_0 p_1 b_2 w K :=
 okS [(12,.tup [.agg [(.int .u64),(.int .u64),(.int .u64),(.int .u64),(.int .i64),.map],.one .bool]),(21,.one (.int .u64))] .z [.pointer m_0,.int .i64 p_1,.int .u8 b_2] (.one .bool) rfl rfl h
def regex_parser_cat.M (p_0:Option Addr) (K:Option Addr→World→Prop) (w:World):Prop :=
 Loop (λ(s1:Sl) w1 again2=>NilC p_0 λa7=>Ld .bool (a7.add 2) w1 λx9=>Br (!x9) (NilC p_0 λa13=>regex_reader_peek.C (some a13) w1 λx15 w2=>Join (λ(s3:Bool) w3=>Br s3 (regex_Cat.C s1 w3 λx34 w4=>K x34 w4) (regex_parser_factor.C p_0 w3 λx30 w5=>Al (.cells #[.pointer x30] T.p_regex_Node (0,0)) w5 λb4 w6=>App P (Builtin.append_ #[T.sl_p_regex_Node,T.sl_p_regex_Node] T.sl_p_regex_Node #[.slice s1.a s1.n s1.c,.slice (some ⟨b4,0,none⟩) 1 1]) (.one .sl) w6 λx32 w7=>again2 x32 w7)) λj5=>Br (!x15.2) (j5 true w2) (Br (x15.1==(124:Int)) (j5 true w2) (j5 (x15.1==(41:Int)) w2))) (regex_Cat.C s1 w1 λx34 w8=>K x34 w8)) (⟨none,0,0⟩) w
theorem regex_parser_cat.ok (p_0 K w) (h:regex_parser_cat.M p_0 K w):regex_parser_cat.C p_0 w K :=
 okS [(9,.one .bool),(15,.tup [.one (.int .u8),.one .bool]),(30,.one .ptr),(34,.one .ptr)] (.n .z (.n .z (.n (.l [(3,.one .sl)] [0] (.n .z (.n .z (.n (.j [(27,.one .bool)] [0,3] .z .z) .z)))) .z))) [.pointer p_0] (.one .ptr) rfl rfl h
def regex_reader_is.M (r_0:Option Addr) (b_1:Int) (K:Bool→World→Prop) (w:World):Prop :=
 regex_reader_peek.C r_0 w λx9 w1=>Join (λ(s1:Bool) w2=>Br s1 (K false w2) (NilC r_0 λa20=>Ld (.int .i64) (a20.add 1) w2 λx22=>NilC r_0 λa24=>St (a24.add 1) (.int .i64 (w64 (x22 + (1:Int)))) w2 λw3=>K true w3)) λj2=>Br (!x9.2) (j2 true w1) (j2 (x9.1 != b_1) w1)
theorem regex_reader_is.ok (r_0 b_1 K w) (h:regex_reader_is.M r_0 b_1 K w):regex_reader_is.C r_0 b_1 w K :=
 okS [(9,.tup [.one (.int .u8),.one .bool]),(22,.one (.int .i64))] (.n .z (.n .z (.n (.j [(18,.one .bool)] [0] .z .z) .z))) [.pointer r_0,.int .u8 b_1] (.one .bool) rfl rfl h
def regex_Or.M (l_0:Sl) (K:Option Addr→World→Prop) (w:World):Prop :=
 regex_Set.C (0,0,0,0) w λx4 w1=>regex_two.C 3 x4 l_0 w1 λx6 w2=>K x6 w2
theorem regex_Or.ok (l_0 K w) (h:regex_Or.M l_0 K w):regex_Or.C l_0 w K :=
 okS [(4,.one .ptr),(6,.one .ptr)] .z [.slice l_0.a l_0.n l_0.c] (.one .ptr) rfl rfl h
def maps_Copy.M (dst_0:Option Nat) (src_1:Option Nat) (K:Unit→World→Prop) (w:World):Prop :=
 App P (Instr.range T.nfa_set (.map src_1)) (.one .ptr) w λx7 w1=>Loop (λ(s1:Unit) w2 again2=>Join (λ(s3:Bool) w3=>Br s3 (App P (Instr.entry (.pointer x7)) (.tup [.one (.int .i64),.one .bool]) w3 λx10 w4=>App0 P (Instr.mapUpdate T.nfa_set (.map dst_0) (.int .i64 x10.1) (.bool x10.2)) w4 λw5=>again2 () w5) (K () w3)) λj4=>Nxt P (Instr.next (.pointer x7) false 0) (.int .i64) .bool w2 (λw6=>j4 false w6) (λk8 v8 w7=>j4 true w7)) () w1
theorem maps_Copy.ok (dst_0 src_1 K w) (h:maps_Copy.M dst_0 src_1 K w):maps_Copy.C dst_0 src_1 w K :=
 okS [(7,.one .ptr),(8,.tup [.one .bool,.one (.int .i64),.one .bool]),(10,.tup [.one (.int .i64),.one .bool])] (.n .z (.l [] [0,7] (.j [(9,.one .bool)] [0,7] .z .z))) [.map dst_0,.map src_1] (.tup []) rfl rfl h
def nfa_Machine_Rules.M (m_0:Option Addr) (K:Int→World→Prop) (w:World):Prop :=
 Br (m_0.isNone) (K 0 w) (NilC m_0 λa6=>Ld .sl (a6.add 1) w λx8=>K (x8.n:Int) w)
theorem nfa_Machine_Rules.ok (m_0 K w) (h:nfa_Machine_Rules.M m_0 K w):nfa_Machine_Rules.C m_0 w K :=
 okS [(8,.one .sl)] .z [.pointer m_0] (.one (.int .i64)) rfl rfl h
def nfa_Machine_First.M (m_0:Option Addr) (rule_1:Int) (K:Sl→World→Prop) (w:World):Prop :=
 nfa_Machine_rule.C m_0 rule_1 w λx7 w1=>nfa_set_sorted.C x7.1 w1 λx9 w2=>K x9 w2
theorem nfa_Machine_First.ok (m_0 rule_1 K w) (h:nfa_Machine_First.M m_0 rule_1 K w):nfa_Machine_First.C m_0 rule_1 w K :=
 okS [(7,.agg [.map,.map,.bool]),(9,.one .sl)] .z [.pointer m_0,.int .i64 rule_1] (.one .sl) rfl rfl h
def nfa_Machine_Follow.M (m_0:Option Addr) (p_1:Int) (K:Sl→World→Prop) (w:World):Prop :=
 nfa_Machine_at.C m_0 p_1 w λx10 w1=>Al (.cells #[.int .u64 0,.int .u64 0,.int .u64 0,.int .u64 0,.int .i64 0,.map none] T.nfa_position (0,0)) w1 λb1 w2=>St (⟨b1,0,none⟩) (.int .u64 x10.1.1) w2 λw3=>St (⟨b1,1,none⟩) (.int .u64 x10.1.2.1) w3 λw4=>St (⟨b1,2,none⟩) (.int .u64 x10.1.2.2.1) w4 λw5=>St (⟨b1,3,none⟩) (.int .u64 x10.1.2.2.2.1) w5 λw6=>St (⟨b1,4,none⟩) (.int .i64 x10.1.2.2.2.2.1) w6 λw7=>St (⟨b1,5,none⟩) (.map x10.1.2.2.2.2.2) w7 λw8=>Ld .map (⟨b1,5,none⟩) w8 λx14=>nfa_set_sorted.C x14 w8 λx15 w9=>K x15 w9
theorem nfa_Machine_Follow.ok (m_0 p_1 K w) (h:nfa_Machine_Follow.M m_0 p_1 K w):nfa_Machine_Follow.C m_0 p_1 w K :=
 okS [(10,.tup [.agg [(.int .u64),(.int .u64),(.int .u64),(.int .u64),(.int .i64),.map],.one .bool]),(14,.one .map),(15,.one .sl)] .z [.pointer m_0,.int .i64 p_1] (.one .sl) rfl rfl h
def nfa_Machine_at.M (m_0:Option Addr) (p_1:Int) (K:((Int × Int × Int × Int × Int × Option Nat) × Bool)→World→Prop) (w:World):Prop :=
 Al (.cells #[.int .u64 0,.int .u64 0,.int .u64 0,.int .u64 0,.int .i64 0,.map none] T.nfa_position (0,0)) w λb1 w1=>Join (λ(s2:Bool) w2=>Br s2 (St (⟨b1,0,none⟩) (.int .u64 0) w2 λw3=>St (⟨b1,1,none⟩) (.int .u64 0) w3 λw4=>St (⟨b1,2,none⟩) (.int .u64 0) w4 λw5=>St (⟨b1,3,none⟩) (.int .u64 0) w5 λw6=>St (⟨b1,4,none⟩) (.int .i64 0) w6 λw7=>St (⟨b1,5,none⟩) (.map none) w7 λw8=>Ld (.int .u64) (⟨b1,0,none⟩) w8 λr0_0=>Ld (.int .u64) (⟨b1,1,none⟩) w8 λr0_1=>Ld (.int .u64) (⟨b1,2,none⟩) w8 λr0_2=>Ld (.int .u64) (⟨b1,3,none⟩) w8 λr0_3=>Ld (.int .i64) (⟨b1,4,none⟩) w8 λr0_4=>Ld .map (⟨b1,5,none⟩) w8 λr0_5=>K ((r0_0,r0_1,r0_2,r0_3,r0_4,r0_5),false) w8) (NilC m_0 λa16=>Ld .sl a16 w2 λx18=>IdxS x18 p_1 6 λp20=>Ld (.int .u64) p20 w2 λx21_0=>Ld (.int .u64) (p20.add 1) w2 λx21_1=>Ld (.int .u64) (p20.add 2) w2 λx21_2=>Ld (.int .u64) (p20.add 3) w2 λx21_3=>Ld (.int .i64) (p20.add 4) w2 λx21_4=>Ld .map (p20.add 5) w2 λx21_5=>St (⟨b1,0,none⟩) (.int .u64 x21_0) w2 λw9=>St (⟨b1,1,none⟩) (.int .u64 x21_1) w9 λw10=>St (⟨b1,2,none⟩) (.int .u64 x21_2) w10 λw11=>St (⟨b1,3,none⟩) (.int .u64 x21_3) w11 λw12=>St (⟨b1,4,none⟩) (.int .i64 x21_4) w12 λw13=>St (⟨b1,5,none⟩) (.map x21_5) w13 λw14=>Ld (.int .u64) (⟨b1,0,none⟩) w14 λr0_0=>Ld (.int .u64) (⟨b1,1,none⟩) w14 λr0_1=>Ld (.int .u64) (⟨b1,2,none⟩) w14 λr0_2=>Ld (.int .u64) (⟨b1,3,none⟩) w14 λr0_3=>Ld (.int .i64) (⟨b1,4,none⟩) w14 λr0_4=>Ld .map (⟨b1,5,none⟩) w14 λr0_5=>K ((r0_0,r0_1,r0_2,r0_3,r0_4,r0_5),true) w14)) λj3=>Br (decide (p_1 < (0:Int))) (j3 true w1) (nfa_Machine_Len.C m_0 w1 λx11 w15=>j3 (decide (x11≤p_1)) w15)
theorem nfa_Machine_at.ok (m_0 p_1 K w) (h:nfa_Machine_at.M m_0 p_1 K w):nfa_Machine_at.C m_0 p_1 w K :=
 okS [(4,.agg [(.int .u64),(.int .u64),(.int .u64),(.int .u64),(.int .i64),.map]),(11,.one (.int .i64)),(18,.one .sl),(21,.agg [(.int .u64),(.int .u64),(.int .u64),(.int .u64),(.int .i64),.map])] (.n .z (.n (.j [(13,.one .bool)] [0,1,4] .z .z) .z)) [.pointer m_0,.int .i64 p_1] (.tup [.agg [(.int .u64),(.int .u64),(.int .u64),(.int .u64),(.int .i64),.map],.one .bool]) rfl rfl h
def regex_reader_peek.M (r_0:Option Addr) (K:(Int × Bool)→World→Prop) (w:World):Prop :=
 Draw w λS1 w1=>NilC r_0 λa5=>LdS S1 (.int .i64) (a5.add 1) λx7=>NilC r_0 λa9=>LdS S1 .str a9 λx11=>Br (decide ((x11.size:Int)≤x7)) (K (0,false) w1) (Draw w1 λS2 w2=>NilC r_0 λa15=>LdS S2 .str a15 λx17=>NilC r_0 λa19=>LdS S2 (.int .i64) (a19.add 1) λx21=>IdxStr x17 x21 λx22=>(S2 w2∧K ((x22.toNat:Int),true) w2))
theorem regex_reader_peek.ok (r_0 K w) (h:regex_reader_peek.M r_0 K w):regex_reader_peek.C r_0 w K :=
 okS [(7,.one (.int .i64)),(11,.one .str),(17,.one .str),(21,.one (.int .i64))] .z [.pointer r_0] (.tup [.one (.int .u8),.one .bool]) rfl rfl h
def regex_parser_factor.M (p_0:Option Addr) (K:Option Addr→World→Prop) (w:World):Prop :=
 regex_parser_atom.C p_0 w λx5 w1=>Loop (λ(s1:Option Addr) w2 again2=>NilC p_0 λa7=>Ld .bool (a7.add 2) w2 λx9=>Br (!x9) (Join (λ(s3:Option Addr) w3=>regex_Size.C s3 w3 λx39 w4=>Br (decide ((400:Int) < x39)) (NilC p_0 λa42=>St (a42.add 3) (.bool true) w4 λw5=>regex_parser_fail.C p_0 w5 λx45 w6=>K x45 w6) (again2 s3 w4)) λj4=>NilC p_0 λa14=>regex_reader_is.C (some a14) 42 w2 λx16 w7=>Br x16 (regex_Star.C s1 w7 λx18 w8=>j4 x18 w8) (NilC p_0 λa21=>regex_reader_is.C (some a21) 43 w7 λx23 w9=>Br x23 (regex_Star.C s1 w9 λx26 w10=>Al (.cells #[.pointer s1,.pointer x26] T.p_regex_Node (0,0)) w10 λb5 w11=>regex_Cat.C (⟨(some ⟨b5,0,none⟩),2,2⟩) w11 λx28 w12=>j4 x28 w12) (NilC p_0 λa31=>regex_reader_is.C (some a31) 63 w9 λx33 w13=>Br x33 (regex_Empty.C  w13 λx35 w14=>Al (.cells #[.pointer s1,.pointer x35] T.p_regex_Node (0,0)) w14 λb6 w15=>regex_Or.C (⟨(some ⟨b6,0,none⟩),2,2⟩) w15 λx37 w16=>j4 x37 w16) (K s1 w13)))) (K s1 w2)) x5 w1
theorem regex_parser_factor.ok (p_0 K w) (h:regex_parser_factor.M p_0 K w):regex_parser_factor.C p_0 w K :=
 okS [(5,.one .ptr),(9,.one .bool),(16,.one .bool),(18,.one .ptr),(23,.one .bool),(26,.one .ptr),(28,.one .ptr),(33,.one .bool),(35,.one .ptr),(37,.one .ptr),(39,.one (.int .i64)),(45,.one .ptr)] (.n .z (.n .z (.n (.l [(3,.one .ptr)] [0] (.n .z (.j [(3,.one .ptr)] [0] .z .z))) .z))) [.pointer p_0] (.one .ptr) rfl rfl h
def regex_Cat.M (l_0:Sl) (K:Option Addr→World→Prop) (w:World):Prop :=
 regex_Empty.C  w λx3 w1=>regex_two.C 2 x3 l_0 w1 λx5 w2=>K x5 w2
theorem regex_Cat.ok (l_0 K w) (h:regex_Cat.M l_0 K w):regex_Cat.C l_0 w K :=
 okS [(3,.one .ptr),(5,.one .ptr)] .z [.slice l_0.a l_0.n l_0.c] (.one .ptr) rfl rfl h
def regex_two.M (kind_0:Int) (none_1:Option Addr) (l_2:Sl) (K:Option Addr→World→Prop) (w:World):Prop :=
 Loop (λ(s1:Int) w1 again2=>Br (decide (s1 < (l_2.n:Int))) (IdxS l_2 s1 1 λp15=>Ld .ptr p15 w1 λx16=>Br (x16.isNone) (K none w1) (again2 (w64 (s1 + (1:Int))) w1)) (Br ((l_2.n:Int)==(0:Int)) (K none_1 w1) (IdxS l_2 (w64 ((l_2.n:Int) - (1:Int))) 1 λp28=>Ld .ptr p28 w1 λx29=>Loop (λ(s3:Option Addr × Int) w2 again4=>Br (decide ((0:Int)≤s3.2)) (IdxS l_2 s3.2 1 λp40=>Ld .ptr p40 w2 λx41=>Al (.cells #[.pointer x41,.pointer s3.1] T.p_regex_Node (0,0)) w2 λb5 w3=>Al (.cells #[.int .i64 kind_0,.int .u64 0,.int .u64 0,.int .u64 0,.int .u64 0,.slice (some ⟨b5,0,none⟩) 2 2] T.regex_Node (0,0)) w3 λb6 w4=>again4 ((some (⟨b6,0,none⟩)),(w64 (s3.2 - (1:Int)))) w4) (K s3.1 w2)) (x29,(w64 ((l_2.n:Int) - (2:Int)))) w1))) 0 w
theorem regex_two.ok (kind_0 none_1 l_2 K w) (h:regex_two.M kind_0 none_1 l_2 K w):regex_two.C kind_0 none_1 l_2 w K :=
 okS [(16,.one .ptr),(29,.one .ptr),(41,.one .ptr)] (.n .z (.n (.n .z (.l [(13,.one (.int .i64))] [0,1,2,11,12] .z)) (.n .z (.n .z (.n (.n .z (.l [(9,.one .ptr),(10,.one (.int .i64))] [0,2] .z)) .z))))) [.int .i64 kind_0,.pointer none_1,.slice l_2.a l_2.n l_2.c] (.one .ptr) rfl rfl h
def regex_Set.M (b_0:Int × Int × Int × Int) (K:Option Addr→World→Prop) (w:World):Prop :=
 Al (.cells #[.int .u64 b_0.1,.int .u64 b_0.2.1,.int .u64 b_0.2.2.1,.int .u64 b_0.2.2.2] T.a4_uint64 (0,0)) w λb1 w1=>Ld (.int .u64) (⟨b1,0,none⟩) w1 λx3_0=>Ld (.int .u64) (⟨b1,1,none⟩) w1 λx3_1=>Ld (.int .u64) (⟨b1,2,none⟩) w1 λx3_2=>Ld (.int .u64) (⟨b1,3,none⟩) w1 λx3_3=>Al (.cells #[.int .i64 0,.int .u64 x3_0,.int .u64 x3_1,.int .u64 x3_2,.int .u64 x3_3,.slice none 0 0] T.regex_Node (0,0)) w1 λb2 w2=>K (some (⟨b2,0,none⟩)) w2
theorem regex_Set.ok (b_0 K w) (h:regex_Set.M b_0 K w):regex_Set.C b_0 w K :=
 okS [(3,.agg [(.int .u64),(.int .u64),(.int .u64),(.int .u64)])] .z [.agg #[.int .u64 b_0.1,.int .u64 b_0.2.1,.int .u64 b_0.2.2.1,.int .u64 b_0.2.2.2]] (.one .ptr) rfl rfl h
def nfa_Machine_rule.M (m_0:Option Addr) (i_1:Int) (K:(Option Nat × Option Nat × Bool)→World→Prop) (w:World):Prop :=
 Al (.cells #[.map none,.map none,.bool false] T.nfa_known (0,0)) w λb1 w1=>Join (λ(s2:Bool) w2=>Br s2 (St (⟨b1,0,none⟩) (.map none) w2 λw3=>St (⟨b1,1,none⟩) (.map none) w3 λw4=>St (⟨b1,2,none⟩) (.bool false) w4 λw5=>Ld .map (⟨b1,0,none⟩) w5 λr0_0=>Ld .map (⟨b1,1,none⟩) w5 λr0_1=>Ld .bool (⟨b1,2,none⟩) w5 λr0_2=>K (r0_0,r0_1,r0_2) w5) (NilC m_0 λa15=>Ld .sl (a15.add 1) w2 λx17=>IdxS x17 i_1 3 λp19=>Ld .map p19 w2 λx20_0=>Ld .map (p19.add 1) w2 λx20_1=>Ld .bool (p19.add 2) w2 λx20_2=>St (⟨b1,0,none⟩) (.map x20_0) w2 λw6=>St (⟨b1,1,none⟩) (.map x20_1) w6 λw7=>St (⟨b1,2,none⟩) (.bool x20_2) w7 λw8=>Ld .map (⟨b1,0,none⟩) w8 λr0_0=>Ld .map (⟨b1,1,none⟩) w8 λr0_1=>Ld .bool (⟨b1,2,none⟩) w8 λr0_2=>K (r0_0,r0_1,r0_2) w8)) λj3=>Br (decide (i_1 < (0:Int))) (j3 true w1) (nfa_Machine_Rules.C m_0 w1 λx10 w9=>j3 (decide (x10≤i_1)) w9)
theorem nfa_Machine_rule.ok (m_0 i_1 K w) (h:nfa_Machine_rule.M m_0 i_1 K w):nfa_Machine_rule.C m_0 i_1 w K :=
 okS [(4,.agg [.map,.map,.bool]),(10,.one (.int .i64)),(17,.one .sl),(20,.agg [.map,.map,.bool])] (.n .z (.n (.j [(12,.one .bool)] [0,1,4] .z .z) .z)) [.pointer m_0,.int .i64 i_1] (.agg [.map,.map,.bool]) rfl rfl h
def nfa_set_sorted.M (s_0:Option Nat) (K:Sl→World→Prop) (w:World):Prop :=
 maps_Keys.C s_0 w λx4 w1=>slices_Sorted.C x4 w1 λx5 w2=>K x5 w2
theorem nfa_set_sorted.ok (s_0 K w) (h:nfa_set_sorted.M s_0 K w):nfa_set_sorted.C s_0 w K :=
 okS [(4,.one .raw),(5,.one .sl)] .z [.map s_0] (.one .sl) rfl rfl h
def nfa_Machine_Len.M (m_0:Option Addr) (K:Int→World→Prop) (w:World):Prop :=
 Br (m_0.isNone) (K 0 w) (NilC m_0 λa6=>Ld .sl a6 w λx8=>K (x8.n:Int) w)
theorem nfa_Machine_Len.ok (m_0 K w) (h:nfa_Machine_Len.M m_0 K w):nfa_Machine_Len.C m_0 w K :=
 okS [(8,.one .sl)] .z [.pointer m_0] (.one (.int .i64)) rfl rfl h
def nfa_Machine_Rule.M (m_0:Option Addr) (p_1:Int) (K:Int→World→Prop) (w:World):Prop :=
 nfa_Machine_at.C m_0 p_1 w λx10 w1=>Al (.cells #[.int .u64 0,.int .u64 0,.int .u64 0,.int .u64 0,.int .i64 0,.map none] T.nfa_position (0,0)) w1 λb1 w2=>St (⟨b1,0,none⟩) (.int .u64 x10.1.1) w2 λw3=>St (⟨b1,1,none⟩) (.int .u64 x10.1.2.1) w3 λw4=>St (⟨b1,2,none⟩) (.int .u64 x10.1.2.2.1) w4 λw5=>St (⟨b1,3,none⟩) (.int .u64 x10.1.2.2.2.1) w5 λw6=>St (⟨b1,4,none⟩) (.int .i64 x10.1.2.2.2.2.1) w6 λw7=>St (⟨b1,5,none⟩) (.map x10.1.2.2.2.2.2) w7 λw8=>Br (!x10.2) (K (-1) w8) (Ld (.int .i64) (⟨b1,4,none⟩) w8 λx16=>K x16 w8)
theorem nfa_Machine_Rule.ok (m_0 p_1 K w) (h:nfa_Machine_Rule.M m_0 p_1 K w):nfa_Machine_Rule.C m_0 p_1 w K :=
 okS [(10,.tup [.agg [(.int .u64),(.int .u64),(.int .u64),(.int .u64),(.int .i64),.map],.one .bool]),(16,.one (.int .i64))] .z [.pointer m_0,.int .i64 p_1] (.one (.int .i64)) rfl rfl h
def nfa_Machine_Last.M (m_0:Option Addr) (rule_1:Int) (K:Sl→World→Prop) (w:World):Prop :=
 nfa_Machine_rule.C m_0 rule_1 w λx7 w1=>nfa_set_sorted.C x7.2.1 w1 λx9 w2=>K x9 w2
theorem nfa_Machine_Last.ok (m_0 rule_1 K w) (h:nfa_Machine_Last.M m_0 rule_1 K w):nfa_Machine_Last.C m_0 rule_1 w K :=
 okS [(7,.agg [.map,.map,.bool]),(9,.one .sl)] .z [.pointer m_0,.int .i64 rule_1] (.one .sl) rfl rfl h
def regex_parser_atom.M (p_0:Option Addr) (K:Option Addr→World→Prop) (w:World):Prop :=
 NilC p_0 λa8=>regex_reader_is.C (some a8) 40 w λx10 w1=>Br x10 (NilC p_0 λa12=>Ld (.int .i64) (a12.add 4) w1 λx14=>NilC p_0 λa16=>St (a16.add 4) (.int .i64 (w64 (x14 + (1:Int)))) w1 λw2=>NilC p_0 λa19=>Ld (.int .i64) (a19.add 4) w2 λx21=>Br (decide ((50:Int) < x21)) (NilC p_0 λa24=>St (a24.add 3) (.bool true) w2 λw3=>regex_parser_fail.C p_0 w3 λx27 w4=>K x27 w4) (regex_parser_or.C p_0 w2 λx29 w5=>Join (λ(s1:Bool) w6=>Br s1 (regex_parser_fail.C p_0 w6 λx43 w7=>K x43 w7) (NilC p_0 λa45=>Ld (.int .i64) (a45.add 4) w6 λx47=>NilC p_0 λa49=>St (a49.add 4) (.int .i64 (w64 (x47 - (1:Int)))) w6 λw8=>K x29 w8)) λj2=>NilC p_0 λa31=>Ld .bool (a31.add 2) w5 λx33=>Br (!x33) (NilC p_0 λa37=>regex_reader_is.C (some a37) 41 w5 λx39 w9=>j2 (!x39) w9) (j2 false w5))) (NilC p_0 λa54=>regex_reader_is.C (some a54) 46 w1 λx56 w10=>Br x56 (regex_one.C 10 w10 λx57 w11=>Al (.cells #[.int .u64 0,.int .u64 0,.int .u64 0,.int .u64 0] T.a4_uint64 (0,0)) w11 λb3 w12=>St (⟨b3,0,none⟩) (.int .u64 x57.1) w12 λw13=>St (⟨b3,1,none⟩) (.int .u64 x57.2.1) w13 λw14=>St (⟨b3,2,none⟩) (.int .u64 x57.2.2.1) w14 λw15=>St (⟨b3,3,none⟩) (.int .u64 x57.2.2.2) w15 λw16=>Loop (λ(s4:Int) w17 again5=>Br (decide (s4 < (4:Int))) (IdxA 4 (⟨b3,0,none⟩) s4 1 λp63=>Ld (.int .u64) p63 w17 λx64=>IdxA 4 (⟨b3,0,none⟩) s4 1 λp66=>St p66 (.int .u64 (bNot .u64 x64)) w17 λw18=>again5 (w64 (s4 + (1:Int))) w18) (Ld (.int .u64) (⟨b3,0,none⟩) w17 λx68_0=>Ld (.int .u64) (⟨b3,1,none⟩) w17 λx68_1=>Ld (.int .u64) (⟨b3,2,none⟩) w17 λx68_2=>Ld (.int .u64) (⟨b3,3,none⟩) w17 λx68_3=>regex_Set.C (x68_0,x68_1,x68_2,x68_3) w17 λx69 w19=>K x69 w19)) 0 w16) (NilC p_0 λa72=>regex_reader_is.C (some a72) 91 w10 λx74 w20=>Br x74 (regex_parser_class.C p_0 w20 λx76 w21=>K x76 w21) (regex_parser_letter.C p_0 (⟨#[124,42,43,63,40,41,91,93,46,92]⟩) w20 λx78 w22=>regex_one.C x78 w22 λx79 w23=>regex_Set.C (x79.1,x79.2.1,x79.2.2.1,x79.2.2.2) w23 λx80 w24=>K x80 w24)))
theorem regex_parser_atom.ok (p_0 K w) (h:regex_parser_atom.M p_0 K w):regex_parser_atom.C p_0 w K :=
 okS [(10,.one .bool),(14,.one (.int .i64)),(21,.one (.int .i64)),(27,.one .ptr),(29,.one .ptr),(33,.one .bool),(39,.one .bool),(43,.one .ptr),(47,.one (.int .i64)),(56,.one .bool),(57,.agg [(.int .u64),(.int .u64),(.int .u64),(.int .u64)]),(64,.one (.int .u64)),(68,.agg [(.int .u64),(.int .u64),(.int .u64),(.int .u64)]),(69,.one .ptr),(74,.one .bool),(76,.one .ptr),(78,.one (.int .u8)),(79,.agg [(.int .u64),(.int .u64),(.int .u64),(.int .u64)]),(80,.one .ptr)] (.n .z (.n (.n .z (.n (.n .z (.n .z (.n (.j [(41,.one .bool)] [0,3] .z .z) .z))) (.n .z (.n (.n .z (.n (.n .z (.l [(58,.one (.int .i64))] [4] .z)) .z)) .z)))) .z)) [.pointer p_0] (.one .ptr) rfl rfl h
def regex_Star.M (n_0:Option Addr) (K:Option Addr→World→Prop) (w:World):Prop :=
 Br (n_0.isNone) (K none w) (Al (.cells #[.pointer n_0] T.p_regex_Node (0,0)) w λb1 w1=>Al (.cells #[.int .i64 4,.int .u64 0,.int .u64 0,.int .u64 0,.int .u64 0,.slice (some ⟨b1,0,none⟩) 1 1] T.regex_Node (0,0)) w1 λb2 w2=>K (some (⟨b2,0,none⟩)) w2)
theorem regex_Star.ok (n_0 K w) (h:regex_Star.M n_0 K w):regex_Star.C n_0 w K :=
 okS [] .z [.pointer n_0] (.one .ptr) rfl rfl h
def regex_Empty.M  (K:Option Addr→World→Prop) (w:World):Prop :=
 Al (.cells #[.int .i64 1,.int .u64 0,.int .u64 0,.int .u64 0,.int .u64 0,.slice none 0 0] T.regex_Node (0,0)) w λb1 w1=>K (some (⟨b1,0,none⟩)) w1
theorem regex_Empty.ok (K w) (h:regex_Empty.M  K w):regex_Empty.C  w K :=
 okS [] .z [] (.one .ptr) rfl rfl h
def regex_parser_fail.M (p_0:Option Addr) (K:Option Addr→World→Prop) (w:World):Prop :=
 NilC p_0 λa4=>St (a4.add 2) (.bool true) w λw1=>regex_Empty.C  w1 λx6 w2=>K x6 w2
theorem regex_parser_fail.ok (p_0 K w) (h:regex_parser_fail.M p_0 K w):regex_parser_fail.C p_0 w K :=
 okS [(6,.one .ptr)] .z [.pointer p_0] (.one .ptr) rfl rfl h
def regex_one.M (b_0:Int) (K:(Int × Int × Int × Int)→World→Prop) (w:World):Prop :=
 Al (.cells #[.int .u64 0,.int .u64 0,.int .u64 0,.int .u64 0] T.a4_uint64 (0,0)) w λb1 w1=>Al (.cells #[.int .u64 0,.int .u64 0,.int .u64 0,.int .u64 0] T.a4_uint64 (0,0)) w1 λb2 w2=>Need ((64:Int)≠0) (Need ((64:Int)≠0) (Need (0≤(Int.tmod b_0 (64:Int))) (IdxA 4 (⟨b2,0,none⟩) (IntKind.wrap .u8 (Int.tdiv b_0 (64:Int))) 1 λp9=>St p9 (.int .u64 (IntKind.wrap .u64 ((1:Int) * 2 ^ min (Int.toNat (Int.tmod b_0 (64:Int))) (IntKind.bits .u64)))) w2 λw3=>Ld (.int .u64) (⟨b2,0,none⟩) w3 λx10_0=>Ld (.int .u64) (⟨b2,1,none⟩) w3 λx10_1=>Ld (.int .u64) (⟨b2,2,none⟩) w3 λx10_2=>Ld (.int .u64) (⟨b2,3,none⟩) w3 λx10_3=>St (⟨b1,0,none⟩) (.int .u64 x10_0) w3 λw4=>St (⟨b1,1,none⟩) (.int .u64 x10_1) w4 λw5=>St (⟨b1,2,none⟩) (.int .u64 x10_2) w5 λw6=>St (⟨b1,3,none⟩) (.int .u64 x10_3) w6 λw7=>Ld (.int .u64) (⟨b1,0,none⟩) w7 λr0_0=>Ld (.int .u64) (⟨b1,1,none⟩) w7 λr0_1=>Ld (.int .u64) (⟨b1,2,none⟩) w7 λr0_2=>Ld (.int .u64) (⟨b1,3,none⟩) w7 λr0_3=>K (r0_0,r0_1,r0_2,r0_3) w7)))
theorem regex_one.ok (b_0 K w) (h:regex_one.M b_0 K w):regex_one.C b_0 w K :=
 okS [(2,.agg [(.int .u64),(.int .u64),(.int .u64),(.int .u64)]),(10,.agg [(.int .u64),(.int .u64),(.int .u64),(.int .u64)])] .z [.int .u8 b_0] (.agg [(.int .u64),(.int .u64),(.int .u64),(.int .u64)]) rfl rfl h
def regex_parser_class.M (p_0:Option Addr) (K:Option Addr→World→Prop) (w:World):Prop :=
 NilC p_0 λa7=>regex_reader_is.C (some a7) 94 w λx9 w1=>Al (.cells #[.int .u64 0,.int .u64 0,.int .u64 0,.int .u64 0] T.a4_uint64 (0,0)) w1 λb1 w2=>regex_parser_span.C p_0 (some (⟨b1,0,none⟩)) w2 λx11 w3=>Loop (λ(s2:Unit) w4 again3=>Join (λ(s4:Bool) w5=>Br s4 (regex_parser_span.C p_0 (some (⟨b1,0,none⟩)) w5 λx25 w6=>again3 () w6) (Br x9 (Loop (λ(s5:Int) w7 again6=>Br (decide (s5 < (4:Int))) (IdxA 4 (⟨b1,0,none⟩) s5 1 λp32=>Ld (.int .u64) p32 w7 λx33=>IdxA 4 (⟨b1,0,none⟩) s5 1 λp35=>St p35 (.int .u64 (bNot .u64 x33)) w7 λw8=>again6 (w64 (s5 + (1:Int))) w8) (Ld (.int .u64) (⟨b1,0,none⟩) w7 λx37_0=>Ld (.int .u64) (⟨b1,1,none⟩) w7 λx37_1=>Ld (.int .u64) (⟨b1,2,none⟩) w7 λx37_2=>Ld (.int .u64) (⟨b1,3,none⟩) w7 λx37_3=>regex_Set.C (x37_0,x37_1,x37_2,x37_3) w7 λx38 w9=>K x38 w9)) 0 w5) (Ld (.int .u64) (⟨b1,0,none⟩) w5 λx37_0=>Ld (.int .u64) (⟨b1,1,none⟩) w5 λx37_1=>Ld (.int .u64) (⟨b1,2,none⟩) w5 λx37_2=>Ld (.int .u64) (⟨b1,3,none⟩) w5 λx37_3=>regex_Set.C (x37_0,x37_1,x37_2,x37_3) w5 λx38 w10=>K x38 w10))) λj7=>NilC p_0 λa13=>Ld .bool (a13.add 2) w4 λx15=>Br (!x15) (NilC p_0 λa19=>regex_reader_is.C (some a19) 93 w4 λx21 w11=>j7 (!x21) w11) (j7 false w4)) () w3
theorem regex_parser_class.ok (p_0 K w) (h:regex_parser_class.M p_0 K w):regex_parser_class.C p_0 w K :=
 okS [(9,.one .bool),(11,.tup []),(15,.one .bool),(21,.one .bool),(25,.tup []),(33,.one (.int .u64)),(37,.agg [(.int .u64),(.int .u64),(.int .u64),(.int .u64)]),(38,.one .ptr)] (.n .z (.n .z (.n .z (.n .z (.n (.l [] [0,3,4] (.n (.j [(23,.one .bool)] [0,3,4] .z .z) .z)) (.n (.n .z (.n (.n .z (.l [(27,.one (.int .i64))] [4] .z)) .z)) .z)))))) [.pointer p_0] (.one .ptr) rfl rfl h
def regex_parser_letter.M (p_0:Option Addr) (special_1:ByteArray) (K:Int→World→Prop) (w:World):Prop :=
 NilC p_0 λa9=>regex_reader_peek.C (some a9) w λx11 w1=>Br (!x11.2) (regex_parser_fail.C p_0 w1 λx18 w2=>K 0 w2) (Br (x11.1==(92:Int)) (NilC p_0 λa23=>Ld (.int .i64) (a23.add 1) w1 λx26=>NilC p_0 λa28=>St (a28.add 1) (.int .i64 (w64 (x26 + (1:Int)))) w1 λw3=>regex_parser_escaped.C p_0 special_1 w3 λx33 w4=>K x33 w4) (Join (λ(s1:Bool) w5=>Br s1 (regex_parser_fail.C p_0 w5 λx48 w6=>K 0 w6) (NilC p_0 λa50=>Ld (.int .i64) (a50.add 1) w5 λx53=>NilC p_0 λa55=>St (a55.add 1) (.int .i64 (w64 (x53 + (1:Int)))) w5 λw7=>K x11.1 w7)) λj2=>Br (decide (x11.1≤(32:Int))) (j2 true w1) (Br (decide ((127:Int)≤x11.1)) (j2 true w1) (strings_IndexByte.C special_1 x11.1 w1 λx44 w8=>j2 (decide ((0:Int)≤x44)) w8))))
theorem regex_parser_letter.ok (p_0 special_1 K w) (h:regex_parser_letter.M p_0 special_1 K w):regex_parser_letter.C p_0 special_1 w K :=
 okS [(11,.tup [.one (.int .u8),.one .bool]),(18,.one .ptr),(26,.one (.int .i64)),(33,.one (.int .u8)),(44,.one (.int .i64)),(48,.one .ptr),(53,.one (.int .i64))] (.n .z (.n .z (.n (.n .z (.n .z (.n .z (.n .z (.j [(34,.one .bool)] [0,5] .z .z))))) .z))) [.pointer p_0,.string special_1] (.one (.int .u8)) rfl rfl h
def regex_parser_span.M (p_0:Option Addr) (set_1:Option Addr) (K:Unit→World→Prop) (w:World):Prop :=
 regex_parser_letter.C p_0 (⟨#[93,94,45,92]⟩) w λx9 w1=>Join (λ(s1:Int) w2=>Loop (λ(s2:Int) w3 again3=>Join (λ(s4:Bool) w4=>Br s4 (DrawN w4 λS5 w5=>Need ((64:Int)≠0) (NilC set_1 λa64=>IdxA 4 a64 (w64 (Int.tdiv s2 (64:Int))) 1 λp65=>Need ((64:Int)≠0) (Need (0≤(Int.tmod s2 (64:Int))) (NilC set_1 λa71=>Ld (.int .u64) p65 w5 λx66=>(S5 w5∧IdxA 4 a71 (w64 (Int.tdiv s2 (64:Int))) 1 λp72=>St p72 (.int .u64 (bOr .u64 x66 (IntKind.wrap .u64 ((1:Int) * 2 ^ min (Int.toNat (Int.tmod s2 (64:Int))) (IntKind.bits .u64))))) w5 λw6=>(S5 w6∧again3 (w64 (s2 + (1:Int))) w6)))))) (K () w4)) λj6=>Br (decide (s2≤(w64 (s1)))) (NilC p_0 λa54=>Ld .bool (a54.add 2) w3 λx56=>j6 (!x56) w3) (j6 false w3)) (w64 (x9)) w2) λj7=>Join (λ(s8:Bool) w7=>Br s8 (NilC p_0 λa23=>Ld (.int .i64) (a23.add 1) w7 λx26=>regex_parser_letter.C p_0 (⟨#[93,94,45,92]⟩) w7 λx28 w8=>Join (λ(s9:Bool) w9=>Br s9 (NilC p_0 λa41=>St (a41.add 1) (.int .i64 x26) w9 λw10=>regex_parser_fail.C p_0 w10 λx45 w11=>j7 x28 w11) (j7 x28 w9)) λj10=>NilC p_0 λa30=>Ld .bool (a30.add 2) w8 λx32=>Br (!x32) (j10 (decide (x28 < x9)) w8) (j10 false w8)) (j7 x9 w7)) λj11=>NilC p_0 λa12=>Ld .bool (a12.add 2) w1 λx14=>Br (!x14) (NilC p_0 λa18=>regex_reader_is.C (some a18) 45 w1 λx20 w12=>j11 x20 w12) (j11 false w1)
theorem regex_parser_span.ok (p_0 set_1 K w) (h:regex_parser_span.M p_0 set_1 K w):regex_parser_span.C p_0 set_1 w K :=
 okS [(9,.one (.int .u8)),(14,.one .bool),(20,.one .bool),(26,.one (.int .i64)),(28,.one (.int .u8)),(32,.one .bool),(45,.one .ptr),(56,.one .bool),(66,.one (.int .u64))] (.n .z (.n .z (.j [(5,.one (.int .u8))] [0,1,4] (.j [(21,.one .bool)] [0,1,4,5] .z (.n (.n .z (.n .z (.j [(38,.one .bool)] [0,1,4,5,6] .z .z))) .z)) (.n .z (.l [(7,.one (.int .i64))] [0,1,5] (.n (.j [(58,.one .bool)] [0,1,5,7] .z .z) (.n .d .z))))))) [.pointer p_0,.pointer set_1] (.tup []) rfl rfl h
def regex_parser_escaped.M (p_0:Option Addr) (special_1:ByteArray) (K:Int→World→Prop) (w:World):Prop :=
 NilC p_0 λa10=>regex_reader_peek.C (some a10) w λx12 w1=>Br (!x12.2) (regex_parser_fail.C p_0 w1 λx18 w2=>K 0 w2) (Join (λ(s1:Int) w3=>NilC p_0 λa59=>Ld (.int .i64) (a59.add 1) w3 λx62=>NilC p_0 λa64=>St (a64.add 1) (.int .i64 (w64 (x62 + (1:Int)))) w3 λw4=>K s1 w4) λj2=>Br (x12.1==(110:Int)) (j2 10 w1) (Br (x12.1==(116:Int)) (j2 9 w1) (Br (x12.1==(115:Int)) (j2 32 w1) (Br (x12.1==(120:Int)) (NilC p_0 λa32=>Ld (.int .i64) (a32.add 1) w1 λx35=>NilC p_0 λa37=>St (a37.add 1) (.int .i64 (w64 (x35 + (1:Int)))) w1 λw5=>regex_parser_digit.C p_0 w5 λx41 w6=>NilC p_0 λa43=>Ld .bool (a43.add 2) w6 λx45=>Br x45 (K 0 w6) (regex_parser_digit.C p_0 w6 λx49 w7=>K (IntKind.wrap .u8 ((IntKind.wrap .u8 ((16:Int) * x41)) + x49)) w7)) (strings_IndexByte.C special_1 x12.1 w1 λx54 w8=>Br (decide (x54 < (0:Int))) (regex_parser_fail.C p_0 w8 λx57 w9=>K 0 w9) (j2 x12.1 w8))))))
theorem regex_parser_escaped.ok (p_0 special_1 K w) (h:regex_parser_escaped.M p_0 special_1 K w):regex_parser_escaped.C p_0 special_1 w K :=
 okS [(12,.tup [.one (.int .u8),.one .bool]),(18,.one .ptr),(35,.one (.int .i64)),(41,.one (.int .u8)),(45,.one .bool),(49,.one (.int .u8)),(54,.one (.int .i64)),(57,.one .ptr),(62,.one (.int .i64))] (.n .z (.n .z (.n .z (.j [(5,.one (.int .u8))] [0] .z .z)))) [.pointer p_0,.string special_1] (.one (.int .u8)) rfl rfl h
def regex_parser_digit.M (p_0:Option Addr) (K:Int→World→Prop) (w:World):Prop :=
 NilC p_0 λa8=>regex_reader_peek.C (some a8) w λx10 w1=>strings_IndexByte.C (⟨#[48,49,50,51,52,53,54,55,56,57,97,98,99,100,101,102]⟩) x10.1 w1 λx14 w2=>Join (λ(s1:Bool) w3=>Br s1 (regex_parser_fail.C p_0 w3 λx22 w4=>K 0 w4) (NilC p_0 λa24=>Ld (.int .i64) (a24.add 1) w3 λx27=>NilC p_0 λa29=>St (a29.add 1) (.int .i64 (w64 (x27 + (1:Int)))) w3 λw5=>K (IntKind.wrap .u8 (x14)) w5)) λj2=>Br (!x10.2) (j2 true w2) (j2 (decide (x14 < (0:Int))) w2)
theorem regex_parser_digit.ok (p_0 K w) (h:regex_parser_digit.M p_0 K w):regex_parser_digit.C p_0 w K :=
 okS [(10,.tup [.one (.int .u8),.one .bool]),(14,.one (.int .i64)),(22,.one .ptr),(27,.one (.int .i64))] (.n .z (.n .z (.n .z (.n (.j [(20,.one .bool)] [0,5] .z .z) .z)))) [.pointer p_0] (.one (.int .u8)) rfl rfl h
def scan_Scanner_next.M (s_0:Option Addr) (text_1:ByteArray) (at_2:Int) (K:(Int × Int × Int × Int)→World→Prop) (w:World):Prop :=
 Al (.cells #[.int .i64 0,.int .i64 0,.int .i64 0,.int .i64 0] T.scan_Token (0,0)) w λb1 w1=>Draw w1 λS2 w2=>NilC s_0 λa15=>LdS S2 .ptr a15 λx17=>App P (Instr.sliceAt T.string (.string text_1) (some (.int .i64 at_2)) none none) (.one .str) w2 λx20 w3=>(S2 w3∧least_Least_Longest.C x17 x20 w3 λx21 w4=>(S2 w4∧Join (λ(s3:Int) w5=>Join (λ(s4:Int) w6=>St (⟨b1,0,none⟩) (.int .i64 x21.1) w6 λw7=>St (⟨b1,1,none⟩) (.int .i64 at_2) w7 λw8=>St (⟨b1,2,none⟩) (.int .i64 (w64 (at_2 + s4))) w8 λw9=>St (⟨b1,3,none⟩) (.int .i64 s3) w9 λw10=>Ld (.int .i64) (⟨b1,0,none⟩) w10 λr0_0=>Ld (.int .i64) (⟨b1,1,none⟩) w10 λr0_1=>Ld (.int .i64) (⟨b1,2,none⟩) w10 λr0_2=>Ld (.int .i64) (⟨b1,3,none⟩) w10 λr0_3=>K (r0_0,r0_1,r0_2,r0_3) w10) λj5=>Br (x21.1==(-1:Int)) (j5 1 w5) (j5 x21.2.1 w5)) λj6=>Draw w4 λS7 w11=>NilC s_0 λa30=>LdS S7 .ptr a30 λx32=>App P (Instr.sliceAt T.string (.string text_1) (some (.int .i64 at_2)) (some (.int .i64 (w64 (at_2 + x21.2.2)))) none) (.one .str) w11 λx36 w12=>(S7 w12∧least_Least_Run.C x32 x36 w12 λx37 w13=>(S7 w13∧Join (λ(s8:Bool) w14=>Br s8 (j6 (w64 ((w64 (at_2 + x21.2.2)) + (1:Int))) w14) (j6 (w64 (at_2 + x21.2.2)) w14)) λj9=>Br x37.2 (j9 ((w64 (at_2 + x21.2.2))==(text_1.size:Int)) w13) (j9 false w13)))))
theorem scan_Scanner_next.ok (s_0 text_1 at_2 K w) (h:scan_Scanner_next.M s_0 text_1 at_2 K w):scan_Scanner_next.C s_0 text_1 at_2 w K :=
 okS [(6,.agg [(.int .i64),(.int .i64),(.int .i64),(.int .i64)]),(17,.one .ptr),(20,.one .str),(21,.tup [.one (.int .i64),.one (.int .i64),.one (.int .i64)]),(32,.one .ptr),(36,.one .str),(37,.tup [.one (.int .i64),.one .bool])] (.n .z (.n .z (.n .z (.j [(10,.one (.int .i64))] [2,6,7,8] (.n .z (.j [(46,.one .bool)] [2,6,7,8,10] .z .z)) (.j [(8,.one (.int .i64))] [2,6,7,10] .z .z))))) [.pointer s_0,.string text_1,.int .i64 at_2] (.agg [(.int .i64),(.int .i64),(.int .i64),(.int .i64)]) rfl rfl h
def scan_New.M (l_0:Sl) (K:(Option Addr × Int × Int)→World→Prop) (w:World):Prop :=
 Br ((l_0.n:Int)==(0:Int)) (K (none,0,12) w) (slices_Clone_scan_Class.C l_0 w λx18 w1=>Al (.map #[] 0) w1 λm1 w2=>Al (.cells #[.pointer none,.slice x18.a x18.n x18.c,.map (some m1)] T.scan_Scanner (0,0)) w2 λb2 w3=>Loop (λ(s3:Sl × Int) w4 again4=>Br (decide (s3.2 < (l_0.n:Int))) (IdxS l_0 s3.2 3 λp27=>Ld .str p27 w4 λx28_0=>Ld .str (p27.add 1) w4 λx28_1=>Ld .bool (p27.add 2) w4 λx28_2=>Al (.cells #[.string (⟨#[]⟩),.string (⟨#[]⟩),.bool false] T.scan_Class (0,0)) w4 λb5 w5=>St (⟨b5,0,none⟩) (.string x28_0) w5 λw6=>St (⟨b5,1,none⟩) (.string x28_1) w6 λw7=>St (⟨b5,2,none⟩) (.bool x28_2) w7 λw8=>Ld .str (⟨b5,0,none⟩) w8 λx32_0=>Ld .str (⟨b5,1,none⟩) w8 λx32_1=>Ld .bool (⟨b5,2,none⟩) w8 λx32_2=>scan_Scanner_class.C (some (⟨b2,0,none⟩)) s3.2 (x32_0,x32_1,x32_2) w8 λx33 w9=>Br (x33.2 != (0:Int)) (K (none,s3.2,x33.2) w9) (Draw w9 λS6 w10=>LdS S6 .map (⟨b2,2,none⟩) λx43=>LdS S6 .str (⟨b5,0,none⟩) λx45=>App0 P (Instr.mapUpdate T.map_string_int (.map x43) (.string x45) (.int .i64 s3.2)) w10 λw11=>(S6 w11∧Al (.cells #[.pointer x33.1] T.p_regex_Node (0,0)) w11 λb7 w12=>App P (Builtin.append_ #[T.sl_p_regex_Node,T.sl_p_regex_Node] T.sl_p_regex_Node #[.slice s3.1.a s3.1.n s3.1.c,.slice (some ⟨b7,0,none⟩) 1 1]) (.one .sl) w12 λx50 w13=>again4 (x50,(w64 (s3.2 + (1:Int)))) w13))) (nfa_New.C s3.1 w4 λx54 w14=>Br (x54.2 != (0:Int)) (K (none,0,x54.2) w14) (dfa_New.C x54.1 w14 λx62 w15=>Br (x62.2 != (0:Int)) (K (none,0,x62.2) w15) (least_New.C x62.1 w15 λx71 w16=>St (⟨b2,0,none⟩) (.pointer x71.1) w16 λw17=>K ((some (⟨b2,0,none⟩)),(l_0.n:Int),x71.2) w17)))) (⟨none,0,0⟩,0) w3)
theorem scan_New.ok (l_0 K w) (h:scan_New.M l_0 K w):scan_New.C l_0 w K :=
 okS [(18,.one .sl),(28,.agg [.str,.str,.bool]),(32,.agg [.str,.str,.bool]),(33,.tup [.one .ptr,.one (.int .i64)]),(43,.one .map),(45,.one .str),(54,.tup [.one .ptr,.one (.int .i64)]),(62,.tup [.one .ptr,.one (.int .i64)]),(71,.tup [.one .ptr,.one (.int .i64)])] (.n .z (.n .z (.n .z (.n .z (.n (.n .z (.l [(6,.one .sl),(24,.one (.int .i64))] [0,5,22,23] .z)) .z))))) [.slice l_0.a l_0.n l_0.c] (.tup [.one .ptr,.one (.int .i64),.one (.int .i64)]) rfl rfl h
def scan_Scanner_class.M (s_0:Option Addr) (i_1:Int) (c_2:ByteArray × ByteArray × Bool) (K:(Option Addr × Int)→World→Prop) (w:World):Prop :=
 Al (.cells #[.string c_2.1,.string c_2.2.1,.bool c_2.2.2] T.scan_Class (0,0)) w λb1 w1=>Draw w1 λS2 w2=>NilC s_0 λa15=>LdS S2 .map (a15.add 2) λx17=>LdS S2 .str (⟨b1,0,none⟩) λx19=>App P (Instr.lookup T.map_string_int (.map x17) (.string x19) true) (.tup [.one (.int .i64),.one .bool]) w2 λx20 w3=>(S2 w3∧Br (decide ((40:Int)≤i_1)) (K (none,3) w3) (Join (λ(s3:Bool) w4=>Br s3 (K (none,9) w4) (Ld .str (⟨b1,1,none⟩) w4 λx36=>regex_Parse.C x36 w4 λx37 w5=>Br (x37.2.2 != (0:Int)) (K (none,x37.2.2) w5) (scan_means.C x37.1 w5 λx45 w6=>Br (!x45) (K (none,11) w6) (K (x37.1,0) w6)))) λj4=>Ld .str (⟨b1,0,none⟩) w3 λx28=>scan_named.C x28 w3 λx29 w7=>Br (!x29) (j4 true w7) (j4 x20.2 w7)))
theorem scan_Scanner_class.ok (s_0 i_1 c_2 K w) (h:scan_Scanner_class.M s_0 i_1 c_2 K w):scan_Scanner_class.C s_0 i_1 c_2 w K :=
 okS [(17,.one .map),(19,.one .str),(20,.tup [.one (.int .i64),.one .bool]),(28,.one .str),(29,.one .bool),(36,.one .str),(37,.tup [.one .ptr,.one (.int .i64),.one (.int .i64)]),(45,.one .bool)] (.n .z (.n .z (.n (.n .z (.n .z (.j [(26,.one .bool)] [5] .z .z))) .z))) [.pointer s_0,.int .i64 i_1,.agg #[.string c_2.1,.string c_2.2.1,.bool c_2.2.2]] (.tup [.one .ptr,.one (.int .i64)]) rfl rfl h
def scan_named.M (s_0:ByteArray) (K:Bool→World→Prop) (w:World):Prop :=
 Loop (λ(s1:Int) w1 again2=>Br (decide (s1 < (s_0.size:Int))) (IdxStr s_0 s1 λx12=>Join (λ(s3:Bool) w2=>Br s3 (K false w2) (again2 (w64 (s1 + (1:Int))) w2)) λj4=>Br (decide ((97:Int)≤(x12.toNat:Int))) (Br (decide ((x12.toNat:Int)≤(122:Int))) (j4 false w1) (Br (decide ((0:Int) < s1)) (Br (decide ((48:Int)≤(x12.toNat:Int))) (j4 (!(decide ((x12.toNat:Int)≤(57:Int)))) w1) (j4 true w1)) (j4 true w1))) (Br (decide ((0:Int) < s1)) (Br (decide ((48:Int)≤(x12.toNat:Int))) (j4 (!(decide ((x12.toNat:Int)≤(57:Int)))) w1) (j4 true w1)) (j4 true w1))) (Br (!(s_0.toList==((⟨#[]⟩):ByteArray).toList)) (K (decide ((s_0.size:Int)≤(20:Int))) w1) (K false w1))) 0 w
theorem scan_named.ok (s_0 K w) (h:scan_named.M s_0 K w):scan_named.C s_0 w K :=
 okS [] (.n .z (.n (.n .z (.l [(7,.one (.int .i64))] [0,6] (.n .z (.n .z (.n (.n .z (.n .z (.j [(31,.one .bool)] [0,6,7] .z .z))) .z))))) .z)) [.string s_0] (.one .bool) rfl rfl h
def scan_means.M (n_0:Option Addr) (K:Bool→World→Prop) (w:World):Prop :=
 regex_Nullable.C n_0 w λx8 w1=>Br x8 (K false w1) (Al (.cells #[.pointer n_0] T.p_regex_Node (0,0)) w1 λb1 w2=>nfa_New.C (⟨(some ⟨b1,0,none⟩),1,1⟩) w2 λx12 w3=>Br (x12.2 != (0:Int)) (K (x12.2==(3:Int)) w3) (dfa_New.C x12.1 w3 λx21 w4=>Br (x21.2 != (0:Int)) (K true w4) (dfa_Dfa_States.C x21.1 w4 λx27 w5=>Loop (λ(s2:Int) w6 again3=>Br (decide (s2 < x27)) (dfa_Dfa_Accept.C x21.1 s2 w6 λx33 w7=>Br (x33 != (-1:Int)) (K true w7) (again3 (w64 (s2 + (1:Int))) w7)) (K false w6)) 0 w5)))
theorem scan_means.ok (n_0 K w) (h:scan_means.M n_0 K w):scan_means.C n_0 w K :=
 okS [(8,.one .bool),(12,.tup [.one .ptr,.one (.int .i64)]),(21,.tup [.one .ptr,.one (.int .i64)]),(27,.one (.int .i64)),(33,.one (.int .i64))] (.n .z (.n .z (.n .z (.n .z (.n .z (.n .z (.n (.n .z (.l [(28,.one (.int .i64))] [5,27] .z)) .z))))))) [.pointer n_0] (.one .bool) rfl rfl h
def scan_Scanner_One.M (s_0:Option Addr) (class_1:Int) (text_2:ByteArray) (K:Bool→World→Prop) (w:World):Prop :=
 Join (λ(s1:Bool) w1=>Br s1 (K false w1) (scan_Scanner_next.C s_0 text_2 0 w1 λx20 w2=>Al (.cells #[.int .i64 0,.int .i64 0,.int .i64 0,.int .i64 0] T.scan_Token (0,0)) w2 λb2 w3=>St (⟨b2,0,none⟩) (.int .i64 x20.1) w3 λw4=>St (⟨b2,1,none⟩) (.int .i64 x20.2.1) w4 λw5=>St (⟨b2,2,none⟩) (.int .i64 x20.2.2.1) w5 λw6=>St (⟨b2,3,none⟩) (.int .i64 x20.2.2.2) w6 λw7=>Ld (.int .i64) (⟨b2,0,none⟩) w7 λx22=>Br (x22==class_1) (Ld (.int .i64) (⟨b2,2,none⟩) w7 λx27=>K (x27==(text_2.size:Int)) w7) (K false w7))) λj3=>Br (s_0.isNone) (j3 true w) (Br (text_2.toList==((⟨#[]⟩):ByteArray).toList) (j3 true w) (j3 (decide (class_1 < (0:Int))) w))
theorem scan_Scanner_One.ok (s_0 class_1 text_2 K w) (h:scan_Scanner_One.M s_0 class_1 text_2 K w):scan_Scanner_One.C s_0 class_1 text_2 w K :=
 okS [(20,.agg [(.int .i64),(.int .i64),(.int .i64),(.int .i64)]),(22,.one (.int .i64)),(27,.one (.int .i64))] (.n .z (.n (.j [(17,.one .bool)] [0,1,2] .z .z) .z)) [.pointer s_0,.int .i64 class_1,.string text_2] (.one .bool) rfl rfl h
def dfa_New.M (m_0:Option Addr) (K:(Option Addr × Int)→World→Prop) (w:World):Prop :=
 Br (m_0.isNone) (K (none,1) w) (App P (Instr.build T.dfa_state #[(2,.int .i64 (-1))]) .big w λx10 w1=>App P (Instr.buildSlice T.sl_dfa_state 1 #[(0,.agg x10)]) (.one .sl) w1 λx11 w2=>App P (Instr.build T.dfa_Dfa #[(0,.pointer m_0),(1,.slice x11.a x11.n x11.c)]) .big w2 λx12 w3=>Al (.cells x12 T.dfa_Dfa (0,0)) w3 λb1 w4=>Al (.map #[] 0) w4 λm2 w5=>Al (.cells #[.pointer (some (⟨b1,0,none⟩)),.map (some m2)] T.dfa_build (0,0)) w5 λb3 w6=>Loop (λ(s4:Int) w7 again5=>Ld .sl (⟨b1,1,none⟩) w7 λx22=>Br (decide (s4 < (x22.n:Int))) (dfa_build_fill.C (some (⟨b3,0,none⟩)) s4 w7 λx29 w8=>Ld .sl (⟨b1,1,none⟩) w8 λx33=>Br (decide ((2000:Int) < (x33.n:Int))) (K (none,3) w8) (again5 (w64 (s4 + (1:Int))) w8)) (dfa_Dfa_group.C (some (⟨b1,0,none⟩)) w7 λx37 w9=>K ((some (⟨b1,0,none⟩)),0) w9)) 0 w6)
theorem dfa_New.ok (m_0 K w) (h:dfa_New.M m_0 K w):dfa_New.C m_0 w K :=
 okS [(10,.big),(11,.one .sl),(12,.big),(22,.one .sl),(29,.tup []),(33,.one .sl),(37,.tup [])] (.n .z (.n .z (.n .z (.n .z (.n (.n .z (.l [(6,.one (.int .i64))] [4,5] .z)) .z))))) [.pointer m_0] (.tup [.one .ptr,.one (.int .i64)]) rfl rfl h
def dfa_build_fill.M (b_0:Option Addr) (n_1:Int) (K:Unit→World→Prop) (w:World):Prop :=
 Draw w λS1 w1=>NilC b_0 λa11=>LdS S1 .ptr a11 λx13=>NilC x13 λa14=>LdS S1 .ptr a14 λx16=>NilC b_0 λa18=>LdS S1 .ptr a18 λx20=>NilC x20 λa21=>LdS S1 .sl (a21.add 1) λx23=>IdxS x23 n_1 258 λp25=>LdS S1 .sl p25 λx27=>dfa_behind.C x16 x27 w1 λx28 w2=>(S1 w2∧Loop (λ(s2:Int) w3 again3=>Br (decide (s2 < (256:Int))) (Loop (λ(s4:Sl × Int) w4 again5=>Br (decide (s4.2 < (x28.n:Int))) (IdxS x28 s4.2 1 λp36=>Ld (.int .i64) p36 w4 λx37=>NilC b_0 λa39=>Ld .ptr a39 w4 λx41=>NilC x41 λa42=>Ld .ptr a42 w4 λx44=>nfa_Machine_Has.C x44 x37 (IntKind.wrap .u8 (s2)) w4 λx48 w5=>Br x48 (Al (.cells #[.int .i64 x37] T.int (0,0)) w5 λb6 w6=>App P (Builtin.append_ #[T.sl_int,T.sl_int] T.sl_int #[.slice s4.1.a s4.1.n s4.1.c,.slice (some ⟨b6,0,none⟩) 1 1]) (.one .sl) w6 λx52 w7=>again5 (x52,(w64 (s4.2 + (1:Int)))) w7) (again5 (s4.1,(w64 (s4.2 + (1:Int)))) w5)) (dfa_build_place.C b_0 s4.1 w4 λx56 w8=>NilC b_0 λa58=>Ld .ptr a58 w8 λx60=>NilC x60 λa61=>Ld .sl (a61.add 1) w8 λx63=>IdxS x63 n_1 258 λp67=>IdxA 256 (p67.add 1) s2 1 λp69=>St p69 (.int .i64 x56) w8 λw9=>again3 (w64 (s2 + (1:Int))) w9)) (⟨none,0,0⟩,0) w3) (K () w3)) 0 w2)
theorem dfa_build_fill.ok (b_0 n_1 K w) (h:dfa_build_fill.M b_0 n_1 K w):dfa_build_fill.C b_0 n_1 w K :=
 okS [(13,.one .ptr),(16,.one .ptr),(20,.one .ptr),(23,.one .sl),(27,.one .sl),(28,.one .sl),(37,.one (.int .i64)),(41,.one .ptr),(44,.one .ptr),(48,.one .bool),(56,.one (.int .i64)),(60,.one .ptr),(63,.one .sl)] (.n .z (.n .z (.l [(29,.one (.int .i64))] [0,1,4] (.n .z (.n .z (.n (.n .z (.n .z (.n (.n .z (.l [(6,.one .sl),(34,.one (.int .i64))] [0,1,4,5,29,32,33] .z)) .z))) .z)))))) [.pointer b_0,.int .i64 n_1] (.tup []) rfl rfl h
def dfa_Dfa_group.M (d_0:Option Addr) (K:Unit→World→Prop) (w:World):Prop :=
 Al (.map #[] 0) w λm1 w1=>Loop (λ(s2:Int) w2 again3=>Br (decide (s2 < (256:Int))) (NilC d_0 λa15=>Ld .sl (a15.add 1) w2 λx17=>App P (Instr.makeSlice T.sl_int (.int .i64 0) (.int .i64 (x17.n:Int))) (.one .sl) w2 λx19 w3=>NilC d_0 λa21=>Ld .sl (a21.add 1) w3 λx23=>Loop (λ(s4:Sl × Int) w4 again5=>Br (decide (s4.2 < (x23.n:Int))) (IdxS x23 s4.2 258 λp27=>LdA 258 p27 w4 λx28=>Al (.cells (#[(.slice none 0 0:Value)]++Array.replicate 257 (.int .i64 0:Value)) T.dfa_state (0,0)) w4 λb6 w5=>StA P T.dfa_state (⟨b6,0,none⟩) x28 w5 λw6=>IdxA 256 (⟨b6,1,none⟩) s2 1 λp32=>Ld (.int .i64) p32 w6 λx33=>Al (.cells #[.int .i64 (w64 (x33 + (1:Int)))] T.int (0,0)) w6 λb7 w7=>App P (Builtin.append_ #[T.sl_int,T.sl_int] T.sl_int #[.slice s4.1.a s4.1.n s4.1.c,.slice (some ⟨b7,0,none⟩) 1 1]) (.one .sl) w7 λx36 w8=>again5 (x36,(w64 (s4.2 + (1:Int)))) w8) (dfa_text.C s4.1 w4 λx39 w9=>App P (Instr.lookup T.map_string_int (.map (some m1)) (.string x39) true) (.tup [.one (.int .i64),.one .bool]) w9 λx43 w10=>Join (λ(s8:Int) w11=>NilC d_0 λa56=>IdxA 256 (a56.add 2) s2 1 λp58=>St p58 (.int .i64 s8) w11 λw12=>again3 (w64 (s2 + (1:Int))) w12) λj9=>Br (!x43.2) (App P (Builtin.len_ #[T.map_string_int] T.int #[.map (some m1)]) (.one (.int .i64)) w10 λx49 w13=>App0 P (Instr.mapUpdate T.map_string_int (.map (some m1)) (.string x39) (.int .i64 x49)) w13 λw14=>j9 x49 w14) (j9 x43.1 w10))) (x19,0) w3) (App P (Builtin.len_ #[T.map_string_int] T.int #[.map (some m1)]) (.one (.int .i64)) w2 λx62 w15=>NilC d_0 λa63=>St (a63.add 258) (.int .i64 x62) w15 λw16=>K () w16)) 0 w1
theorem dfa_Dfa_group.ok (d_0 K w) (h:dfa_Dfa_group.M d_0 K w):dfa_Dfa_group.C d_0 w K :=
 okS [(17,.one .sl),(19,.one .sl),(23,.one .sl),(28,.big),(33,.one (.int .i64)),(39,.one .str),(43,.tup [.one (.int .i64),.one .bool])] (.n .z (.n (.n .z (.l [(11,.one (.int .i64))] [0,2] (.n .z (.n .z (.n (.n .z (.n .z (.n (.n .z (.l [(4,.one .sl),(25,.one (.int .i64))] [0,2,3,11,23,24] .z)) (.n .z (.n .z (.j [(8,.one (.int .i64))] [0,2,3,11] .z .z)))))) .z))))) .z)) [.pointer d_0] (.tup []) rfl rfl h
def dfa_Dfa_States.M (d_0:Option Addr) (K:Int→World→Prop) (w:World):Prop :=
 Br (d_0.isNone) (K 0 w) (NilC d_0 λa6=>Ld .sl (a6.add 1) w λx8=>K (x8.n:Int) w)
theorem dfa_Dfa_States.ok (d_0 K w) (h:dfa_Dfa_States.M d_0 K w):dfa_Dfa_States.C d_0 w K :=
 okS [(8,.one .sl)] .z [.pointer d_0] (.one (.int .i64)) rfl rfl h
def dfa_Dfa_Accept.M (d_0:Option Addr) (n_1:Int) (K:Int→World→Prop) (w:World):Prop :=
 dfa_Dfa_has.C d_0 n_1 w λx7 w1=>Br (!x7) (K (-1) w1) (NilC d_0 λa10=>Ld .sl (a10.add 1) w1 λx12=>IdxS x12 n_1 258 λp14=>Ld (.int .i64) (p14.add 257) w1 λx16=>K x16 w1)
theorem dfa_Dfa_Accept.ok (d_0 n_1 K w) (h:dfa_Dfa_Accept.M d_0 n_1 K w):dfa_Dfa_Accept.C d_0 n_1 w K :=
 okS [(7,.one .bool),(12,.one .sl),(16,.one (.int .i64))] .z [.pointer d_0,.int .i64 n_1] (.one (.int .i64)) rfl rfl h
def dfa_Dfa_Next.M (d_0:Option Addr) (n_1:Int) (b_2:Int) (K:(Int × Bool)→World→Prop) (w:World):Prop :=
 Join (λ(s1:Bool) w1=>Br s1 (K (0,false) w1) (NilC d_0 λa26=>Ld .sl (a26.add 1) w1 λx28=>IdxS x28 n_1 258 λp31=>IdxA 256 (p31.add 1) b_2 1 λp33=>Ld (.int .i64) p33 w1 λx34=>K (x34,true) w1)) λj2=>dfa_Dfa_has.C d_0 n_1 w λx10 w2=>Br (!x10) (j2 true w2) (NilC d_0 λa14=>Ld .sl (a14.add 1) w2 λx16=>IdxS x16 n_1 258 λp19=>IdxA 256 (p19.add 1) b_2 1 λp21=>Ld (.int .i64) p21 w2 λx22=>j2 (x22==(-1:Int)) w2)
theorem dfa_Dfa_Next.ok (d_0 n_1 b_2 K w) (h:dfa_Dfa_Next.M d_0 n_1 b_2 K w):dfa_Dfa_Next.C d_0 n_1 b_2 w K :=
 okS [(10,.one .bool),(16,.one .sl),(22,.one (.int .i64)),(28,.one .sl),(34,.one (.int .i64))] (.n .z (.n (.j [(24,.one .bool)] [0,1,2] .z .z) .z)) [.pointer d_0,.int .i64 n_1,.int .u8 b_2] (.tup [.one (.int .i64),.one .bool]) rfl rfl h
def dfa_behind.M (m_0:Option Addr) (at_1:Sl) (K:Sl→World→Prop) (w:World):Prop :=
 Join (λ(s1:Sl) w1=>Loop (λ(s2:Sl × Int) w2 again3=>Br (decide (s2.2 < (at_1.n:Int))) (IdxS at_1 s2.2 1 λp26=>Ld (.int .i64) p26 w2 λx27=>nfa_Machine_Follow.C m_0 x27 w2 λx31 w3=>App P (Builtin.append_ #[T.sl_int,T.sl_int] T.sl_int #[.slice s2.1.a s2.1.n s2.1.c,.slice x31.a x31.n x31.c]) (.one .sl) w3 λx32 w4=>again3 (x32,(w64 (s2.2 + (1:Int)))) w4) (slices_Sort.C s2.1 w2 λx35 w5=>slices_Compact_int.C s2.1 w5 λx37 w6=>K x37 w6)) (s1,0) w1) λj4=>Br (at_1.a.isNone) (nfa_Machine_Rules.C m_0 w λx12 w7=>Loop (λ(s5:Sl × Int) w8 again6=>Br (decide (s5.2 < x12)) (nfa_Machine_First.C m_0 s5.2 w8 λx19 w9=>App P (Builtin.append_ #[T.sl_int,T.sl_int] T.sl_int #[.slice s5.1.a s5.1.n s5.1.c,.slice x19.a x19.n x19.c]) (.one .sl) w9 λx20 w10=>again6 (x20,(w64 (s5.2 + (1:Int)))) w10) (j4 s5.1 w8)) (⟨none,0,0⟩,0) w7) (j4 (⟨none,0,0⟩) w)
theorem dfa_behind.ok (m_0 at_1 K w) (h:dfa_behind.M m_0 at_1 K w):dfa_behind.C m_0 at_1 w K :=
 okS [(12,.one (.int .i64)),(19,.one .sl),(27,.one (.int .i64)),(31,.one .sl),(35,.tup []),(37,.one .sl)] (.n .z (.n .z (.j [(5,.one .sl)] [0,1] (.n .z (.n (.n .z (.l [(5,.one .sl),(13,.one (.int .i64))] [0,1,12] .z)) .z)) (.n (.n .z (.l [(5,.one .sl),(24,.one (.int .i64))] [0,22,23] .z)) .z)))) [.pointer m_0,.slice at_1.a at_1.n at_1.c] (.one .sl) rfl rfl h
def dfa_build_place.M (b_0:Option Addr) (at_1:Sl) (K:Int→World→Prop) (w:World):Prop :=
 Br ((at_1.n:Int)==(0:Int)) (K (-1) w) (dfa_text.C at_1 w λx12 w1=>NilC b_0 λa15=>Ld .map (a15.add 1) w1 λx17=>App P (Instr.lookup T.map_string_int (.map x17) (.string x12) true) (.tup [.one (.int .i64),.one .bool]) w1 λx19 w2=>Br (!x19.2) (NilC b_0 λa25=>Ld .ptr a25 w2 λx27=>NilC x27 λa28=>Ld .sl (a28.add 1) w2 λx30=>NilC b_0 λa33=>Ld .map (a33.add 1) w2 λx35=>App0 P (Instr.mapUpdate T.map_string_int (.map x35) (.string x12) (.int .i64 (x30.n:Int))) w2 λw3=>Draw w3 λS1 w4=>NilC b_0 λa39=>LdS S1 .ptr a39 λx41=>NilC b_0 λa43=>LdS S1 .ptr a43 λx45=>NilC x45 λa46=>NilC b_0 λa51=>LdS S1 .ptr a51 λx53=>NilC x53 λa54=>LdS S1 .ptr a54 λx56=>(Ld .sl (a46.add 1) w4 λx48=>(S1 w4∧dfa_accept.C x56 at_1 w4 λx58 w5=>(S1 w5∧AppS P S1 (Instr.build T.dfa_state #[(0,.slice at_1.a at_1.n at_1.c),(2,.int .i64 x58)]) .big λx59=>App P (Instr.buildSlice T.sl_dfa_state 1 #[(0,.agg x59)]) (.one .sl) w5 λx60 w6=>(S1 w6∧App P (Builtin.append_ #[T.sl_dfa_state,T.sl_dfa_state] T.sl_dfa_state #[.slice x48.a x48.n x48.c,.slice x60.a x60.n x60.c]) (.one .sl) w6 λx61 w7=>(S1 w7∧NilC x41 λa62=>St (a62.add 1) (.slice x61.a x61.n x61.c) w7 λw8=>(S1 w8∧K (x30.n:Int) w8))))))∧(dfa_accept.C x56 at_1 w4 λx58 w9=>(S1 w9∧AppS P S1 (Instr.build T.dfa_state #[(0,.slice at_1.a at_1.n at_1.c),(2,.int .i64 x58)]) .big λx59=>(Ld .sl (a46.add 1) w9 λx48=>(S1 w9∧App P (Instr.buildSlice T.sl_dfa_state 1 #[(0,.agg x59)]) (.one .sl) w9 λx60 w10=>(S1 w10∧App P (Builtin.append_ #[T.sl_dfa_state,T.sl_dfa_state] T.sl_dfa_state #[.slice x48.a x48.n x48.c,.slice x60.a x60.n x60.c]) (.one .sl) w10 λx61 w11=>(S1 w11∧NilC x41 λa62=>St (a62.add 1) (.slice x61.a x61.n x61.c) w11 λw12=>(S1 w12∧K (x30.n:Int) w12)))))∧(App P (Instr.buildSlice T.sl_dfa_state 1 #[(0,.agg x59)]) (.one .sl) w9 λx60 w13=>(S1 w13∧Ld .sl (a46.add 1) w13 λx48=>(S1 w13∧App P (Builtin.append_ #[T.sl_dfa_state,T.sl_dfa_state] T.sl_dfa_state #[.slice x48.a x48.n x48.c,.slice x60.a x60.n x60.c]) (.one .sl) w13 λx61 w14=>(S1 w14∧NilC x41 λa62=>St (a62.add 1) (.slice x61.a x61.n x61.c) w14 λw15=>(S1 w15∧K (x30.n:Int) w15)))))))) (K x19.1 w2))
theorem dfa_build_place.ok (b_0 at_1 K w) (h:dfa_build_place.M b_0 at_1 K w):dfa_build_place.C b_0 at_1 w K :=
 okS [(12,.one .str),(17,.one .map),(19,.tup [.one (.int .i64),.one .bool]),(27,.one .ptr),(30,.one .sl),(35,.one .map),(41,.one .ptr),(45,.one .ptr),(48,.one .sl),(53,.one .ptr),(56,.one .ptr),(58,.one (.int .i64)),(59,.big),(60,.one .sl)] (.n .z (.n .z (.n .z (.n .z (.n (.n .z (.n (.n .z (.n .z (.e [10]))) .z)) .z))))) [.pointer b_0,.slice at_1.a at_1.n at_1.c] (.one (.int .i64)) rfl rfl h
def dfa_text.M (l_0:Sl) (K:ByteArray→World→Prop) (w:World):Prop :=
 App P (Instr.makeSlice T.sl_uint8 (.int .i64 0) (.int .i64 (w64 ((2:Int) * (l_0.n:Int))))) (.one .sl) w λx9 w1=>Loop (λ(s1:Sl × Int) w2 again2=>Br (decide (s1.2 < (l_0.n:Int))) (IdxS l_0 s1.2 1 λp14=>Ld (.int .i64) p14 w2 λx15=>Need (0≤(8:Int)) (Al (.cells #[.int .u8 (IntKind.wrap .u8 (x15)),.int .u8 (IntKind.wrap .u8 ((Int.fdiv x15 (2 ^ min (Int.toNat (8:Int)) (IntKind.bits .i64)))))] T.uint8 (0,0)) w2 λb3 w3=>App P (Builtin.append_ #[T.sl_uint8,T.sl_uint8] T.sl_uint8 #[.slice s1.1.a s1.1.n s1.1.c,.slice (some ⟨b3,0,none⟩) 2 2]) (.one .sl) w3 λx23 w4=>again2 (x23,(w64 (s1.2 + (1:Int)))) w4)) (App P (convert T.sl_uint8 T.string (.slice s1.1.a s1.1.n s1.1.c)) (.one .str) w2 λx26 w5=>K x26 w5)) (x9,0) w1
theorem dfa_text.ok (l_0 K w) (h:dfa_text.M l_0 K w):dfa_text.C l_0 w K :=
 okS [(9,.one .sl),(15,.one (.int .i64)),(26,.one .str)] (.n .z (.n .z (.n (.n .z (.l [(3,.one .sl),(12,.one (.int .i64))] [10,11] .z)) .z))) [.slice l_0.a l_0.n l_0.c] (.one .str) rfl rfl h
def dfa_Dfa_has.M (d_0:Option Addr) (n_1:Int) (K:Bool→World→Prop) (w:World):Prop :=
 Br (decide ((0:Int)≤n_1)) (dfa_Dfa_States.C d_0 w λx10 w1=>K (decide (n_1 < x10)) w1) (K false w)
theorem dfa_Dfa_has.ok (d_0 n_1 K w) (h:dfa_Dfa_has.M d_0 n_1 K w):dfa_Dfa_has.C d_0 n_1 w K :=
 okS [(10,.one (.int .i64))] .z [.pointer d_0,.int .i64 n_1] (.one .bool) rfl rfl h
def dfa_accept.M (m_0:Option Addr) (at_1:Sl) (K:Int→World→Prop) (w:World):Prop :=
 Loop (λ(s1:Int × Int) w1 again2=>Br (decide (s1.2 < (at_1.n:Int))) (IdxS at_1 s1.2 1 λp13=>Ld (.int .i64) p13 w1 λx14=>nfa_Machine_Rule.C m_0 x14 w1 λx17 w2=>Join (λ(s3:Bool) w3=>Br s3 (again2 (x17,(w64 (s1.2 + (1:Int)))) w3) (again2 (s1.1,(w64 (s1.2 + (1:Int)))) w3)) λj4=>Br (s1.1==(-1:Int)) (nfa_Machine_Last.C m_0 x17 w2 λx28 w4=>slices_Contains_int.C x28 x14 w4 λx30 w5=>j4 x30 w5) (Br (decide (x17 < s1.1)) (nfa_Machine_Last.C m_0 x17 w2 λx28 w6=>slices_Contains_int.C x28 x14 w6 λx30 w7=>j4 x30 w7) (j4 false w2))) (K s1.1 w1)) ((-1),0) w
theorem dfa_accept.ok (m_0 at_1 K w) (h:dfa_accept.M m_0 at_1 K w):dfa_accept.C m_0 at_1 w K :=
 okS [(14,.one (.int .i64)),(17,.one (.int .i64)),(28,.one .sl),(30,.one .bool)] (.n .z (.n .z (.n (.n .z (.l [(5,.one (.int .i64)),(11,.one (.int .i64))] [0,9,10] (.n .z (.n .z (.n (.n .z (.n .z (.j [(31,.one .bool)] [0,5,8,9,10,11] .z .z))) .z))))) .z))) [.pointer m_0,.slice at_1.a at_1.n at_1.c] (.one (.int .i64)) rfl rfl h
def slices_Contains_int.M (s_0:Sl) (v_1:Int) (K:Bool→World→Prop) (w:World):Prop :=
 slices_Index_int.C s_0 v_1 w λx7 w1=>K (decide ((0:Int)≤x7)) w1
theorem slices_Contains_int.ok (s_0 v_1 K w) (h:slices_Contains_int.M s_0 v_1 K w):slices_Contains_int.C s_0 v_1 w K :=
 okS [(7,.one (.int .i64))] .z [.slice s_0.a s_0.n s_0.c,.int .i64 v_1] (.one .bool) rfl rfl h
def slices_Index_int.M (s_0:Sl) (v_1:Int) (K:Int→World→Prop) (w:World):Prop :=
 Loop (λ(s1:Int) w1 again2=>Br (decide (s1 < (s_0.n:Int))) (IdxS s_0 s1 1 λp14=>Ld (.int .i64) p14 w1 λx15=>Br (v_1==x15) (K s1 w1) (again2 (w64 (s1 + (1:Int))) w1)) (K (-1) w1)) 0 w
theorem slices_Index_int.ok (s_0 v_1 K w) (h:slices_Index_int.M s_0 v_1 K w):slices_Index_int.C s_0 v_1 w K :=
 okS [(15,.one (.int .i64))] (.n .z (.n (.n .z (.l [(8,.one (.int .i64))] [0,1,7] .z)) .z)) [.slice s_0.a s_0.n s_0.c,.int .i64 v_1] (.one (.int .i64)) rfl rfl h
inductive Re where
 | set (f:Nat→Bool) | empty | cat (a b:Re) | or (a b:Re) | star (a:Re)
def Word (f:Nat→Bool) (k n:Nat):Prop:=n < 2 ^ 64∧∀ i,i < 64→n.testBit i=f (64 * k + i)
def Words (f:Nat→Bool) (n0 n1 n2 n3:Nat):Prop:=Word f 0 n0∧Word f 1 n1∧Word f 2 n2∧Word f 3 n3
def nobj (kind:Int) (n0 n1 n2 n3:Nat) (l:Sl):Obj :=
 .cells #[.int .i64 kind,.int .u64 n0,.int .u64 n1,.int .u64 n2,.int .u64 n3,.slice l.a l.n l.c] T.regex_Node (0,0)
inductive Nd (H:View):Option Addr→Re→Prop
 | set {b n0 n1 n2 n3:Nat} {f:Nat→Bool} (h:H b (nobj 0 n0 n1 n2 n3 ⟨none,0,0⟩)) (hw:Words f n0 n1 n2 n3):Nd H (some ⟨b,0,none⟩) (.set f)
 | empty {b:Nat} (h:H b (nobj 1 0 0 0 0 ⟨none,0,0⟩)):Nd H (some ⟨b,0,none⟩) .empty
 | cat {b c:Nat} {p q:Option Addr} {x y:Re} (h:H b (nobj 2 0 0 0 0 ⟨some ⟨c,0,none⟩,2,2⟩)) (h':H c (.cells #[.pointer p,.pointer q] T.p_regex_Node (0,0))) (hp:Nd H p x) (hq:Nd H q y):Nd H (some ⟨b,0,none⟩) (.cat x y)
 | or {b c:Nat} {p q:Option Addr} {x y:Re} (h:H b (nobj 3 0 0 0 0 ⟨some ⟨c,0,none⟩,2,2⟩)) (h':H c (.cells #[.pointer p,.pointer q] T.p_regex_Node (0,0))) (hp:Nd H p x) (hq:Nd H q y):Nd H (some ⟨b,0,none⟩) (.or x y)
 | star {b c:Nat} {p:Option Addr} {x:Re} (h:H b (nobj 4 0 0 0 0 ⟨some ⟨c,0,none⟩,1,1⟩)) (h':H c (.cells #[.pointer p] T.p_regex_Node (0,0))) (hp:Nd H p x):Nd H (some ⟨b,0,none⟩) (.star x)
theorem Nd.mono {H H':View} {p:Option Addr} {x:Re} (h:Nd H p x) (hv:Vle H H'):Nd H' p x:=by
 induction h with
 | set h hw=>exact .set (hv _ _ h) hw
 | empty h=>exact .empty (hv _ _ h)
 | cat h h' _ _ ih1 ih2=>exact .cat (hv _ _ h) (hv _ _ h') ih1 ih2
 | or h h' _ _ ih1 ih2=>exact .or (hv _ _ h) (hv _ _ h') ih1 ih2
 | star h h' _ ih=>exact .star (hv _ _ h) (hv _ _ h') ih
def Re.kind:Re→Int
 | .set _=>0 | .empty=>1 | .cat _ _=>2 | .or _ _=>3 | .star _=>4
def Re.parts:Re→List Re
 | .cat a b=>[a,b] | .or a b=>[a,b] | .star a=>[a] | _=>[]
def Re.size:Re→Nat
 | .set _=>1 | .empty=>1 | .cat a b=>1 + a.size + b.size | .or a b=>1 + a.size + b.size | .star a=>1 + a.size
theorem row1 {H:View} {c:Nat} {p:Option Addr} {E:Nat} (h:H c (.cells #[.pointer p] E (0,0))):SlT .ptr H ⟨some ⟨c,0,none⟩,1,1⟩ [p] :=
 ⟨rfl,.inr ⟨c,0,_,_,_,rfl,h,λi x hx=>by
  rcases i with _ | i
  ·simp at hx;subst hx;rfl
  ·simp at hx⟩⟩
theorem row2 {H:View} {c:Nat} {p q:Option Addr} {E:Nat} (h:H c (.cells #[.pointer p,.pointer q] E (0,0))):SlT .ptr H ⟨some ⟨c,0,none⟩,2,2⟩ [p,q] :=
 ⟨rfl,.inr ⟨c,0,_,_,_,rfl,h,λi x hx=>by
  rcases i with _ | _ | i
  ·simp at hx;subst hx;rfl
  ·simp at hx;subst hx;rfl
  ·simp at hx⟩⟩
theorem Nd.out {H:View} {p:Option Addr} {x:Re} (h:Nd H p x):∃ b n0 n1 n2 n3 l ps,p=some ⟨b,0,none⟩∧H b (nobj x.kind n0 n1 n2 n3 l)∧SlT .ptr H l ps∧All2 (Nd H) ps x.parts:=by
 cases h with
 | set h hw=>exact⟨_,_,_,_,_,_,[],rfl,h,SlT.nil,.nil⟩
 | empty h=>exact⟨_,0,0,0,0,_,[],rfl,h,SlT.nil,.nil⟩
 | cat h h' hp hq=>exact⟨_,0,0,0,0,_,[_,_],rfl,h,row2 h',.cons hp (.cons hq .nil)⟩
 | or h h' hp hq=>exact⟨_,0,0,0,0,_,[_,_],rfl,h,row2 h',.cons hp (.cons hq .nil)⟩
 | star h h' hp=>exact⟨_,0,0,0,0,_,[_],rfl,h,row1 h',.cons hp .nil⟩
theorem Re.size_parts (x:Re):x.size=1 + (x.parts.map Re.size).sum:=by cases x <;> simp [Re.size,Re.parts] <;> omega
def Old (M:Nat→Prop) (w:World):Prop:=∀ b,M b→b < w.heap.size
theorem Old.keeps {M N:Nat→Prop} {w w':World} (h:Old M w) (hk:Keeps N w w'):Old M w':=λb hb=>Nat.lt_of_lt_of_le (h b hb) hk.size
theorem regex_Kind_spec {M:Nat→Prop} {w:World} {p:Option Addr} {x:Re} {K:Int→World→Prop} (h:Nd (V M w) p x) (hk:K x.kind w):regex_Kind.C p w K:=by
 obtain⟨b,n0,n1,n2,n3,l,ps,rfl,hb,-⟩:=h.out
 refine regex_Kind.ok _ _ _ ?_
 unfold regex_Kind.M
 exact Ld.int (cell_of hb.2 rfl) hk
theorem size_pos (x:Re):1≤x.size:=by rw [Re.size_parts];omega
theorem sum_take_succ (l:List Nat) (i:Nat) (x:Nat) (h:l[i]?=some x):(l.take (i + 1)).sum=(l.take i).sum + x:=by
 rw [List.take_add_one,h];simp
theorem sum_take_le (l:List Nat) (i:Nat):(l.take i).sum≤l.sum:=by
 have h:=congrArg List.sum (List.take_append_drop i l)
 rw [List.sum_append] at h;omega
theorem regex_Size_spec:∀ (n:Nat) (x:Re),x.size≤n→∀ {M:Nat→Prop} {w:World} {p:Option Addr} {K:Int→World→Prop} (hs:x.size < 1000000000000) (h:Nd (V M w) p x) (hk:∀ w',Keeps No w w'→K x.size w'),regex_Size.C p w K:=by
 intro n
 induction n with
 | zero=>intro x hx;have:=size_pos x;omega
 | succ n ih =>
  intro x hx M w p K hs h hk
  obtain⟨b,n0,n1,n2,n3,l,ps,rfl,hb,hl,ha⟩:=h.out
  have hsz:=Re.size_parts x
  have hp2:x.parts.length≤2:=by cases x <;> simp [Re.parts]
  refine regex_Size.ok _ _ _ ?_
  unfold regex_Size.M
  refine Ld.sl (cell_of hb.2 rfl) ?_
  have hlen:=hl.1;have hal:=ha.length
  refine Loop.mk (λs w'=>Keeps No w w'∧∃ k:Nat,k≤ps.length∧s=(((1 + ((x.parts.map Re.size).take k).sum:Nat):Int),(k:Int))) (λs=>(ps.length:Nat) - s.2.toNat) ⟨Keeps.refl,0,by omega,by simp⟩ ?_
  rintro s w1 ⟨hk1,k,hkl,rfl⟩ R hR
  refine Br.mk (λht=>?_) (λhf=>?_)
  ·have ht:k < ps.length:=by simpa [hlen] using ht
   refine IdxS.get (M:=M) (hl.mono (V.keeps0 hk1)) (by simp) (by simp;omega) λq hq=>?_
   simp at hq
   obtain⟨y,hy,hN⟩:=ha.get _ _ hq
   have hy':(x.parts.map Re.size)[k]?=some y.size:=by simp [hy]
   have h2:=sum_take_succ _ _ _ hy'
   have h3:=sum_take_le (x.parts.map Re.size) (k + 1)
   refine ih y (by omega) (by omega) (hN.mono (V.keeps0 hk1)) λw2 hk2=>?_
   refine hR _ _ ⟨hk1.trans hk2,k + 1,by omega,?_⟩ ?_
   ·rw [w64_eq (by simp;omega),w64_eq (by simp;omega),h2]
    simp;omega
   ·dsimp only;rw [w64_eq (by omega)];omega
  ·have hf:ps.length≤k:=by simpa [hlen] using hf
   have:k=x.parts.length:=by omega
   subst this
   have:=hk w1 hk1
   rw [hsz] at this
   simpa [List.take_of_length_le] using this
theorem regex_Set_spec {w:World} {f:Nat→Bool} {n0 n1 n2 n3:Nat} {K:Option Addr→World→Prop} (hw:Words f n0 n1 n2 n3)
  (hk:∀ p w',Keeps No w w'→(∀ M:Nat→Prop,Old M w→Nd (V M w') p (.set f))→K p w'):regex_Set.C (n0,n1,n2,n3) w K:=by
 refine regex_Set.ok _ _ _ ?_
 unfold regex_Set.M
 refine Al.mk λb1 w1 h1=>?_
 refine Ld.int (cell_of h1.at_ rfl) (Ld.int (cell_of h1.at_ rfl) (Ld.int (cell_of h1.at_ rfl) (Ld.int (cell_of h1.at_ rfl) ?_)))
 refine Al.mk λb2 w2 h2=>?_
 refine hk _ _ (h1.keeps.trans h2.keeps) λM hM=>?_
 refine .set (n0:=n0) (n1:=n1) (n2:=n2) (n3:=n3) ⟨λhm=>?_,h2.at_⟩ hw
 have:=hM _ hm;have:=h1.size;have:=h2.eq;omega
theorem regex_Empty_spec {w:World} {K:Option Addr→World→Prop}
  (hk:∀ p w',Keeps No w w'→(∀ M:Nat→Prop,Old M w→Nd (V M w') p .empty)→K p w'):regex_Empty.C w K:=by
 refine regex_Empty.ok _ _ ?_
 unfold regex_Empty.M
 refine Al.mk λb1 w1 h1=>?_
 exact hk _ _ h1.keeps λM hM=>.empty ⟨λhm=>by have:=hM _ hm;have:=h1.eq;omega,h1.at_⟩
def twoOf (f:Re→Re→Re) (none:Re):List Re→Re
 | []=>none
 | [a]=>a
 | a::b::l=>f a (twoOf f none (b::l))
theorem twoOf_cons (f:Re→Re→Re) (none a:Re) {l:List Re} (h:l≠[]):twoOf f none (a::l)=f a (twoOf f none l):=by
 cases l with
 | nil=>exact absurd rfl h
 | cons b l=>rfl
theorem regex_two_spec {kind:Int} {f:Re→Re→Re} {M:Nat→Prop} {w:World} {none:Option Addr} {nx:Re} {l:Sl} {ps:List (Option Addr)} {xs:List Re} {K:Option Addr→World→Prop}
  (hkf:(kind=2∧f=.cat)∨(kind=3∧f=.or)) (hM:Old M w) (hl:SlT .ptr (V M w) l ps) (ha:All2 (Nd (V M w)) ps xs) (hn:Nd (V M w) none nx) (hlen:ps.length < 1000000000)
  (hk:∀ p w',Keeps No w w'→Nd (V M w') p (twoOf f nx xs)→K p w'):regex_two.C kind none l w K:=by
 refine regex_two.ok _ _ _ _ _ ?_
 unfold regex_two.M
 have hln:=hl.1;have hal:=ha.length
 refine Loop.mk (λs w'=>w'=w∧0≤s∧s≤ps.length) (λs=>(ps.length:Nat) - s.toNat) ⟨rfl,by omega,by omega⟩ ?_
 rintro s w1 ⟨rfl,h0,h1⟩ R hR
 refine Br.mk (λht=>?_) (λhf=>?_)
 ·have ht:s < ps.length:=by simpa [hln] using ht
  refine IdxS.get (M:=M) hl h0 ht λq hq=>?_
  obtain⟨y,hy,hN⟩:=ha.get _ _ hq
  obtain⟨b,_,_,_,_,_,_,rfl,-⟩:=hN.out
  refine hR _ _ ⟨rfl,?_,?_⟩ ?_ <;> rw [w64_eq (by omega)] <;> omega
 ·refine Br.mk (λht=>?_) (λhf=>?_)
  ·have:ps.length=0:=by simpa [hln] using ht
   have hx:xs=[]:=List.eq_nil_of_length_eq_zero (by omega)
   subst hx
   exact hk _ _ Keeps.refl hn
  ·have hpos:0 < ps.length:=by
    have:¬ ps.length=0:=by simpa [hln] using hf
    omega
   rw [w64_eq (by omega),w64_eq (by omega)]
   refine IdxS.get (M:=M) hl (by omega) (by omega) λq hq=>?_
   obtain⟨y,hy,hN⟩:=ha.get _ _ hq
   refine Loop.mk (λs w'=>Keeps No w1 w'∧∃ k:Nat,k < ps.length∧s.2=(k:Int) - 1∧Nd (V M w') s.1 (twoOf f nx (xs.drop k))) (λs=>(s.2 + 1).toNat) ?_ ?_
   ·refine⟨Keeps.refl,ps.length - 1,by omega,by simp only [];omega,?_⟩
    have e:((l.n:Int) - 1).toNat=ps.length - 1:=by omega
    rw [e] at hy
    have h2:xs.drop (ps.length - 1)=[y]:=by
     rw [List.drop_eq_getElem_cons (by omega),List.drop_of_length_le (by omega)]
     rw [kC (by omega)] at hy
     simpa using hy
    rw [h2];exact hN
   ·rintro⟨o,i⟩ w2 ⟨hk2,k,hkl,hi,hNo⟩ R hR
    simp only [] at hi hNo ⊢
    refine Br.mk (λht=>?_) (λhf2=>?_)
    ·have ht:0≤i:=by simpa using ht
     refine IdxS.get (M:=M) (hl.mono (V.keeps0 hk2)) (by omega) (by omega) λq hq=>?_
     obtain⟨y,hy,hN⟩:=ha.get _ _ hq
     refine Al.mk λb1 w3 h3=>Al.mk λb2 w4 h4=>?_
     have hk4:=hk2.trans (h3.keeps.trans h4.keeps)
     have e:i.toNat=k - 1:=by omega
     rw [e] at hy
     have hd:xs.drop (k - 1)=y::xs.drop k:=by
      have hy2:=hy
      rw [kC (by omega)] at hy2
      rw [List.drop_eq_getElem_cons (by omega),show k - 1 + 1=k from by omega]
      simp at hy2;rw [hy2]
     have hne:xs.drop k≠[]:=by
      intro h;have:=congrArg List.length h;simp at this;omega
     have hs3:=h3.size;have hs4:=h4.size;have he3:=h3.eq;have he4:=h4.eq;have hs2:=hk2.size
     have hb2:V M w4 b2 (nobj kind 0 0 0 0 ⟨some ⟨b1,0,Option.none⟩,2,2⟩):=⟨λhm=>by have:=hM _ hm;omega,h4.at_⟩
     have hb1:V M w4 b1 (.cells #[.pointer q,.pointer o] T.p_regex_Node (0,0)):=⟨λhm=>by have:=hM _ hm;omega,h4.keeps.blk0 h3.at_⟩
     have hNq:=hN.mono (V.keeps0 hk4)
     have hNo':=hNo.mono (V.keeps0 (h3.keeps.trans h4.keeps))
     refine hR _ _ ⟨hk4,k - 1,by omega,?_,?_⟩ ?_
     ·simp only [];rw [w64_eq (by omega)];omega
     ·simp only []
      rw [hd,twoOf_cons _ _ _ hne]
      rcases hkf with⟨rfl,rfl⟩ | ⟨rfl,rfl⟩
      ·exact .cat hb2 hb1 hNq hNo'
      ·exact .or hb2 hb1 hNq hNo'
     ·simp only [];rw [w64_eq (by omega)];omega
    ·have:k=0:=by simp at hf2;omega
     subst this
     exact hk _ _ hk2 (by simpa using hNo)
end Go.Fk
end
section
namespace Go.Fk
def Re.cnt:Re→Nat
 | .set _=>1 | .empty=>0 | .cat a b=>a.cnt + b.cnt | .or a b=>a.cnt + b.cnt | .star a=>a.cnt
def Re.emp:Re→Bool
 | .set _=>false | .empty=>true | .cat a b=>a.emp&&b.emp | .or a b=>a.emp||b.emp | .star _=>true
def Re.first:Re→Int→Int→Prop
 | .set _,n,p=>p=n
 | .empty,_,_=>False
 | .cat a b,n,p=>a.first n p∨(a.emp=true∧b.first (n + a.cnt) p)
 | .or a b,n,p=>a.first n p∨b.first (n + a.cnt) p
 | .star a,n,p=>a.first n p
def Re.last:Re→Int→Int→Prop
 | .set _,n,p=>p=n
 | .empty,_,_=>False
 | .cat a b,n,p=>b.last (n + a.cnt) p∨(b.emp=true∧a.last n p)
 | .or a b,n,p=>a.last n p∨b.last (n + a.cnt) p
 | .star a,n,p=>a.last n p
def Re.fol:Re→Int→Int→Int→Prop
 | .set _,_,_,_=>False
 | .empty,_,_,_=>False
 | .cat a b,n,p,q=>(a.fol n p q∨b.fol (n + a.cnt) p q)∨(a.last n p∧b.first (n + a.cnt) q)
 | .or a b,n,p,q=>a.fol n p q∨b.fol (n + a.cnt) p q
 | .star a,n,p,q=>a.fol n p q∨(a.last n p∧a.first n q)
def Re.poss:Re→List (Nat→Bool)
 | .set f=>[f] | .empty=>[] | .cat a b=>a.poss++b.poss | .or a b=>a.poss++b.poss | .star a=>a.poss
theorem Re.poss_len (x:Re):x.poss.length=x.cnt:=by
 induction x <;> simp [Re.poss,Re.cnt, *]
theorem Re.first_in {x:Re} {n p:Int} (h:x.first n p):n≤p∧p < n + x.cnt:=by
 induction x generalizing n with
 | set f=>simp [Re.first,Re.cnt] at *;omega
 | empty=>exact h.elim
 | cat a b iha ihb =>
  simp only [Re.cnt]
  rcases h with h | ⟨_,h⟩
  ·have:=iha h;omega
  ·have:=ihb h;omega
 | or a b iha ihb =>
  simp only [Re.cnt]
  rcases h with h | h
  ·have:=iha h;omega
  ·have:=ihb h;omega
 | star a ih=>exact ih h
theorem Re.last_in {x:Re} {n p:Int} (h:x.last n p):n≤p∧p < n + x.cnt:=by
 induction x generalizing n with
 | set f=>simp [Re.last,Re.cnt] at *;omega
 | empty=>exact h.elim
 | cat a b iha ihb =>
  simp only [Re.cnt]
  rcases h with h | ⟨_,h⟩
  ·have:=ihb h;omega
  ·have:=iha h;omega
 | or a b iha ihb =>
  simp only [Re.cnt]
  rcases h with h | h
  ·have:=iha h;omega
  ·have:=ihb h;omega
 | star a ih=>exact ih h
theorem Re.fol_in {x:Re} {n p q:Int} (h:x.fol n p q):(n≤p∧p < n + x.cnt)∧n≤q∧q < n + x.cnt:=by
 induction x generalizing n with
 | set f=>exact h.elim
 | empty=>exact h.elim
 | cat a b iha ihb =>
  simp only [Re.cnt]
  rcases h with (h | h) | ⟨h1,h2⟩
  ·have:=iha h;omega
  ·have:=ihb h;omega
  ·have:=a.last_in h1;have:=b.first_in h2;omega
 | or a b iha ihb =>
  simp only [Re.cnt]
  rcases h with h | h
  ·have:=iha h;omega
  ·have:=ihb h;omega
 | star a ih =>
  simp only [Re.cnt]
  rcases h with h | ⟨h1,h2⟩
  ·exact ih h
  ·have:=a.last_in h1;have:=a.first_in h2;omega
theorem Re.cnt_size (x:Re):x.cnt≤x.size:=by
 induction x <;> simp only [Re.cnt,Re.size] <;> omega
end Go.Fk
end
end
