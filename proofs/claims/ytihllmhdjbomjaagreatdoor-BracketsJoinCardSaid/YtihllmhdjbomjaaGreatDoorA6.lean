/-
  A part of the proof: what the functions of the program come to, read off the model: no premise of its own, no axiom. Blank space is spared. By an AI agent.
-/
import Derived.Test.YtihllmhdjbomjaaGreatDoorA5
import Derived.Test.YtihllmhdjbomjaaGreatDoorA4
import Derived.Test.YtihllmhdjbomjaaGreatDoorA1
import Derived.Laws.MakeOwn
import Derived.Deep.AppendSrc
import Derived.Laws.BytesString
import Derived.Maps.RangeRun
set_option linter.all false
set_option maxRecDepth 100000
noncomputable section
section
namespace Go.Ev
open Go Go.Fk
inductive OK where
  | mv | new (z:List V) (ty:Nat) | box (ty:Nat) | build (z:List V) (n:Nat) (ps:List (Nat × Nat)) | bsl (z:List V) (ty sz len n:Nat) (ps:List (Nat × Nat))
  | ld | ldA (n:Nat) | st (n:Nat) | nil | eq (neg:Bool) (ek:EK) | bin (op:BinOp) | shl | shr | cat | not | neg | cpl
  | fa (off:Nat) | fld (agg:Bool) (off n:Nat) | ia (sz:Nat) | iaa (len sz:Nat) | is | iv (agg:Bool) (len sz:Nat) | ext (j:Nat) | len (kd:Nat)
  | slS (lo hi:Bool) | sl (sz:Nat) (lo hi:Bool) | sl3 (sz:Nat) (lo:Bool) | slA (len sz:Nat) (lo hi:Bool)
  | mks (z:List V) (ty sz bytes:Nat) | mkm (kT:Nat) (ks:KS) | look (kT:Nat) (ks:KS) (z:V) (ok:Bool) | putm (kT:Nat) (ks:KS) | app (ty sz bytes:Nat)
  | mkf (F n:Nat) | mki (t:Nat) | mm (mx:Bool) | conv (κ:IntKind) | b2s | s2s | rng | ent
inductive O where
  | op (k:OK) (args:List Opd) | pick (c a b:Opd) | call (F:Nat) (args:List Opd) | callv (f:Opd) (args:List Opd) | inv (name:String) (x:Opd) (args:List Opd)
  | nxt (x:Opd) | bad (n:Nat)
structure S where
  g:Option (Opd × Bool)
  d:Bool
  o:O
  j:Nat
abbrev Kp:=List (Opd × Vid)
inductive Pl where
  | done (kp:Kp) | bad | take (s:S) (p:Pl) | eff (s:S) (p:Pl) | alt (p q:Pl)
inductive C where
  | skip | reg (n:Nat) (l:List S) (kp:Kp) | draw (n:Nat) (l:List S) (p:Pl)
  | seq (a b:C) | cond (c:Opd) (a b:C) | block (id:Nat) (b:C) | mrg (id:Nat) (ds:List Vid) (b:C) | loop (b:C) | exit (id:Nat) | ret | bad (n:Nat)
def path (t:Nat):Vid:=digs 20 t
def cellC:Value→Option V
  | .bool b=>some (.b b)
  | .int k n=>some (.i k n)
  | .string s=>some (.s (s.data.toList.map (·.toNat)))
  | .pointer none=>some .np
  | .slice none 0 0=>some .ns
  | .map none=>some .nm
  | .nilFunc=>some .nf
  | .nilIface=>some .nq
  | _=>none
def cellsC:List Value→Option (List V)
  | []=>some []
  | v::l=>match cellC v,cellsC l with
    | some x,some r=>some (x::r)
    | _,_=>none
def valC:Value→Option V
  | .agg cs=>(cellsC cs.toList).map .a
  | .tuple vs=>match vs.toList with | []=>some (.t []) | _=>none
  | v=>cellC v
def idxOf (t:Nat):List (Option Nat)→Nat→Option Nat
  | [],_=>none
  | o::l,n=>match o with
    | none=>idxOf t l (n + 1)
    | some s=>match Nat.beq s t with | true=>some n | false=>idxOf t l (n + 1)
def tmpO (loc:List (Option Nat)) (t:Nat):Opd:=match idxOf t loc 0 with
  | some k=>.l k
  | none=>match Nat.blt t 4000 with | true=>.t (path t) | false=>.bad
def opd (loc:List (Option Nat)):Operand→Opd
  | .tmp t=>tmpO loc t
  | .const v=>match valC v with | some x=>.c x | none=>.bad
  | .global _=>.bad
  | .func f=>.c (.f f [] [])
section
variable (P:Program)
def zeroC (t:TypeId):Option (List V):=match P.info? t with
  | some i=>match i.zero with
    | some z=>cellsC z.cells.toList
    | none=>none
  | none=>none
def zeroV (t:TypeId):Option V:=match P.info? t with
  | some i=>match i.zero with
    | some z=>valC z
    | none=>none
  | none=>none
def sizeC (t:TypeId):Option Nat:=match P.info? t with
  | some i=>some i.size
  | none=>none
def primT (t:TypeId):Option Nat:=match P.underlying t with
  | some (.int _)=>some 0
  | some .string=>some 1
  | some .bool=>some 2
  | _=>none
def primFs:List Field→Nat→Option (List Nat)
  | [],_=>some []
  | f::fs,i=>match Nat.beq f.offset i,f.name== "_",primT P f.type,primFs fs (i + 1) with
    | true,false,some k,some ks=>some (k::ks)
    | _,_,_,_=>none
def ekOf (t:TypeId) (y:Operand):EK:=match P.underlying t with
  | some (.int _)=>.int
  | some .string=>.str
  | some .bool=>.bool
  | some (.pointer _)=>match isNilC y with | true=>.nil 0 | false=>.none
  | some (.slice _)=>match isNilC y with | true=>.nil 1 | false=>.none
  | some (.map _ _)=>match isNilC y with | true=>.nil 2 | false=>.none
  | some (.struct fs)=>match P.stoodInHeld t,primFs P fs.toList 0 with
    | false,some ks=>.struct ks
    | _,_=>.none
  | _=>.none
def kpOf (t:TypeId):Option KP:=match P.underlying t with
  | some (.int q)=>some (.int q)
  | some .string=>some .str
  | some .bool=>some .bool
  | _=>none
def kpsOf:List Field→Nat→Option (List KP)
  | [],_=>some []
  | f::fs,i=>match Nat.beq f.offset i,f.name== "_",kpOf P f.type,kpsOf fs (i + 1) with
    | true,false,some k,some ks=>some (k::ks)
    | _,_,_,_=>none
def ksOf (t:TypeId):Option KS:=match P.underlying t with
  | some (.struct fs)=>match P.stoodInHeld t,kpsOf P fs.toList 0 with
    | false,some ks=>some (.s ks)
    | _,_=>none
  | _=>(kpOf P t).map .p
def fieldC (t:TypeId) (f:Nat):Option Field:=match P.underlying t with
  | some (.struct fs)=>fs[f]?
  | _=>none
variable (loc:List (Option Nat))
def partsF (t:TypeId):List (Nat × Operand)→Option (List (Nat × Nat))
  | []=>some []
  | (i,_)::l=>match fieldC P t i with
    | some f=>match sizeC P f.type,partsF t l with
      | some n,some r=>some ((f.offset,n)::r)
      | _,_=>none
    | none=>none
def partsA (sz:Nat):List (Nat × Operand)→List (Nat × Nat)
  | []=>[]
  | (i,_)::l=>(i * sz,sz)::partsA sz l
def sized:List Field→Bool
  | []=>true
  | f::l=>match sizeC P f.type with
    | some _=>sized l
    | none=>false
def opds (l:List Operand):List Opd:=l.map (opd loc)
def ofO (x:Option Operand):List Opd:=match x with | some x=>[opd loc x] | none=>[]
def isS (x:Option Operand):Bool:=match x with | some _=>true | none=>false
def timesC:Nat→List V→List V
  | 0,_=>[]
  | n + 1,z=>z++timesC n z
def compOp (o:Oper):O:=match o.op with
  | .move x=>.op .mv [opd loc x]
  | .assign x=>.op .mv [opd loc x]
  | .pick c a b=>.pick (opd loc c) (opd loc a) (opd loc b)
  | .alloc t=>match zeroC P t with | some z=>.op (.new z t) [] | none=>.bad 201
  | .box t x=>.op (.box t) [opd loc x]
  | .build t ps=>match P.underlying t with
    | some (.struct fs)=>match zeroC P t,partsF P t ps.toList,sized P fs.toList with
      | some z,some l,true=>.op (.build z z.length l) (opds loc (ps.toList.map (·.2)))
      | _,_,_=>.bad 202
    | some (.array _ el)=>match zeroC P t,sizeC P el with
      | some z,some sz=>.op (.build z z.length (partsA sz ps.toList)) (opds loc (ps.toList.map (·.2)))
      | _,_=>.bad 203
    | _=>.bad 204
  | .buildSlice t len ps=>match P.underlying t with
    | some (.slice el)=>match zeroC P el,sizeC P el with
      | some z,some sz=>match Nat.ble (len * sz) 10000&&Nat.beq z.length sz&&Nat.blt 0 sz with
        | true=>.op (.bsl (timesC len z) el sz len (len * sz) (partsA sz ps.toList)) (opds loc (ps.toList.map (·.2)))
        | false=>.bad 205
      | _,_=>.bad 205
    | _=>.bad 206
  | .load t a=>match P.underlying t,sizeC P t with
    | some u,some n=>match isAggD u with | true=>.op (.ldA n) [opd loc a] | false=>.op .ld [opd loc a]
    | _,_=>.bad 207
  | .store t a x=>match sizeC P t with | some n=>.op (.st n) [opd loc a,opd loc x] | none=>.bad 208
  | .nilCheck x=>.op .nil [opd loc x]
  | .binOp op t x y _=>match op with
    | .eql=>.op (.eq false (ekOf P t y)) [opd loc x,opd loc y]
    | .neq=>.op (.eq true (ekOf P t y)) [opd loc x,opd loc y]
    | .shl=>.op .shl [opd loc x,opd loc y]
    | .shr=>.op .shr [opd loc x,opd loc y]
    | op=>match P.underlying t with
      | some .string=>match op with | .add=>.op .cat [opd loc x,opd loc y] | _=>.bad 200
      | _=>.op (.bin op) [opd loc x,opd loc y]
  | .unOp op _ x=>match op with
    | .not=>.op .not [opd loc x]
    | .neg=>.op .neg [opd loc x]
    | .xor=>.op .cpl [opd loc x]
    | _=>.bad 209
  | .convert s d x=>match P.underlying s,P.underlying d with
    | some (.int _),some (.int k)=>.op (.conv k) [opd loc x]
    | some .string,some .string=>.op .s2s [opd loc x]
    | some (.slice el),some .string=>match P.underlying el with | some (.int .u8)=>.op .b2s [opd loc x] | _=>.bad 209
    | _,_=>.bad 210
  | .fieldAddr t x f=>match fieldC P t f with
    | some fd=>match sizeC P fd.type with
      | some n=>match Nat.beq n 0 with | true=>.bad 211 | false=>.op (.fa fd.offset) [opd loc x]
      | none=>.bad 211
    | none=>.bad 212
  | .field t x f=>match fieldC P t f with
    | some fd=>match P.underlying fd.type,sizeC P fd.type with
      | some u,some n=>.op (.fld (isAggD u) fd.offset n) [opd loc x]
      | _,_=>.bad 213
    | none=>.bad 214
  | .indexAddr t x i=>match P.underlying t with
    | some (.slice el)=>match sizeC P el with | some sz=>.op (.ia sz) [opd loc x,opd loc i] | none=>.bad 215
    | some (.array n el)=>match sizeC P el with | some sz=>.op (.iaa n sz) [opd loc x,opd loc i] | none=>.bad 216
    | _=>.bad 217
  | .index t x i=>match P.underlying t with
    | some .string=>.op .is [opd loc x,opd loc i]
    | some (.array n el)=>match P.underlying el,sizeC P el with | some u,some sz=>.op (.iv (isAggD u) n sz) [opd loc x,opd loc i] | _,_=>.bad 218
    | _=>.bad 219
  | .extract x j=>.op (.ext j) [opd loc x]
  | .makeMap t r=>match r,P.underlying t with
    | none,some (.map k _)=>(match ksOf P k with | some ks=>.op (.mkm k ks) [] | none=>.bad 220)
    | _,_=>.bad 220
  | .makeSlice t l c=>match P.underlying t with
    | some (.slice el)=>match P.info? el,zeroC P el with | some i,some z=>(match Nat.beq z.length i.size&&Nat.blt 0 i.size with | true=>.op (.mks z el i.size i.bytes) [opd loc l,opd loc c] | false=>.bad 221) | _,_=>.bad 221
    | _=>.bad 222
  | .slice t x lo hi mx=>match P.underlying t with
    | some .string=>match mx with | none=>.op (.slS (isS lo) (isS hi)) (opd loc x::(ofO loc lo++ofO loc hi)) | some _=>.bad 223
    | some (.slice el)=>match sizeC P el,mx,hi with
      | some sz,none,hi=>.op (.sl sz (isS lo) (isS hi)) (opd loc x::(ofO loc lo++ofO loc hi))
      | some sz,some mx,some hi=>.op (.sl3 sz (isS lo)) (opd loc x::opd loc hi::opd loc mx::ofO loc lo)
      | _,_,_=>.bad 224
    | some (.array n el)=>match sizeC P el,mx with | some sz,none=>.op (.slA n sz (isS lo) (isS hi)) (opd loc x::(ofO loc lo++ofO loc hi)) | _,_=>.bad 225
    | _=>.bad 226
  | .lookup t m i ok=>match P.underlying t with
    | some (.map k el)=>match zeroV P el,ksOf P k with | some z,some ks=>.op (.look k ks z ok) [opd loc m,opd loc i] | _,_=>.bad 227
    | _=>.bad 228
  | .mapUpdate t m i x=>match P.underlying t with
    | some (.map k _)=>(match ksOf P k with | some ks=>.op (.putm k ks) [opd loc m,opd loc i,opd loc x] | none=>.bad 229)
    | _=>.bad 229
  | .insert t m i x=>match P.underlying t with
    | some (.map k _)=>(match ksOf P k with | some ks=>.op (.putm k ks) [opd loc m,opd loc i,opd loc x] | none=>.bad 229)
    | _=>.bad 229
  | .makeFunc fn first cap=>match fn with
    | .func F=>.op (.mkf F first.toList.length) (opds loc (first.toList++cap.toList))
    | _=>.bad 230
  | .makeInterface t x=>match P.underlying t with
    | some (.pointer _)=>.op (.mki t) [opd loc x]
    | _=>.bad 237
  | .range t x=>match P.underlying t with
    | some (.map _ _)=>.op .rng [opd loc x]
    | _=>.bad 238
  | .next x str=>match str with | false=>.nxt (opd loc x) | true=>.bad 231
  | .entry x=>.op .ent [opd loc x]
  | .call c=>match c.callee with
    | .value f=>match f with
      | .func F=>.call F (opds loc c.args.toList)
      | f=>.callv (opd loc f) (opds loc c.args.toList)
    | .invoke r name=>.inv name (opd loc r) (opds loc c.args.toList)
    | .builtin b=>match b,c.args.toList,c.argTypes.toList with
      | .len,[x],[t]=>match P.underlying t with
        | some .string=>.op (.len 0) [opd loc x]
        | some (.slice _)=>.op (.len 1) [opd loc x]
        | some (.map _ _)=>.op (.len 2) [opd loc x]
        | some (.array n _)=>.op .mv [.c (.i .i64 (.ofNat n))]
        | _=>.bad 232
      | .append,[s,x],[t,u]=>match P.underlying t with
        | some (.slice el)=>match P.info? el,zeroC P el,P.underlying u with
          | some i,some z,some (.slice _)=>(match Nat.beq z.length i.size&&Nat.blt 0 i.size with | true=>.op (.app el i.size i.bytes) [opd loc s,opd loc x] | false=>.bad 233)
          | some i,some z,some .string=>(match Nat.beq z.length i.size&&Nat.blt 0 i.size with | true=>.op (.app el i.size i.bytes) [opd loc s,opd loc x] | false=>.bad 233)
          | _,_,_=>.bad 233
        | _=>.bad 234
      | .max,[x,y],_=>.op (.mm true) [opd loc x,opd loc y]
      | .min,[x,y],_=>.op (.mm false) [opd loc x,opd loc y]
      | _,_,_=>.bad 235
  | _=>.bad 236
def fresh:O→Bool
  | .op k _=>match k with
    | .new _ _=>true | .box _=>true | .bsl ..=>true | .mks ..=>true | .mkm _ _=>true | .app ..=>true | .rng=>true
    | _=>false
  | _=>false
def pureK:OK→Bool
  | .mv | .nil | .fa .. | .ia .. | .iaa .. | .ext .. | .eq .. | .bin .. | .shl | .shr | .not | .neg | .cpl | .fld .. | .build .. | .conv .. | .is | .iv ..=>true
  | _=>false
def pureO:O→Bool
  | .op k _=>pureK k
  | .pick ..=>true
  | _=>false
def isLd:O→Bool
  | .op k _=>match k with | .ld=>true | .ldA _=>true | _=>false
  | _=>false
def slots:List Oper→Nat→List Nat
  | [],_=>[]
  | o::l,j=>match fresh (compOp P [] o) with
    | true=>j::slots l (j + 1)
    | false=>j::slots l j
def countF:List Oper→Nat
  | []=>0
  | o::l=>match fresh (compOp P [] o) with
    | true=>countF l + 1
    | false=>countF l
def compS (ops:Array Oper) (loc:List (Option Nat)) (o:Oper) (j:Nat):S :=
  { g:=match o.guard with
      | none=>none
      | some (i,b)=>match (ops[i]?).bind (·.dst) with
        | some t=>some (tmpO loc t,b)
        | none=>some (.bad,b)
    d:=match o.dst with | some _=>true | none=>false
    o:=compOp P loc o
    j:=j }
def cons (o:Oper) (loc:List (Option Nat)):List (Option Nat):=match o.dst with | some d=>some d::loc | none=>loc
def keepOf (loc:List (Option Nat)) (kp:List Nat):Kp:=kp.map λt=>(tmpO loc t,path t)
def compL (ops:Array Oper) (kp:List Nat):List Oper→List Nat→List (Option Nat)→List S × Kp
  | [],_,loc=>([],keepOf loc kp)
  | o::l,js,loc=>match js with
    | j::js=>match compL ops kp l js (cons o loc) with | (r,k)=>(compS P ops loc o j::r,k)
    | []=>([],[])
def firstQ (f:Nat→Oper→Bool) (ops:Array Oper) (listed:Array Bool):List Nat→Option Nat
  | []=>none
  | i::l=>match ops[i]? with
    | some o=>match f i o,Region.free .any ops listed i with
      | true,true=>some i
      | _,_=>firstQ f ops listed l
    | none=>firstQ f ops listed l
def takeS (not:List Nat) (i:Nat) (o:Oper):Bool:=match pureO (compOp P [] o) with | true=>true | false=>match isLd (compOp P [] o) with | true=>notIn not i | false=>false
def takeP (_:Nat) (o:Oper):Bool:=pureO (compOp P [] o)
def mkA (ops:Array Oper) (js:Array Nat) (loc:List (Option Nat)) (g:Array Bool→List (Option Nat)→Pl) (listed:Array Bool):List Nat→Pl
  | []=>.bad
  | i::l=>match ops[i]?,js[i]? with
    | some o,some j=>match l with
      | []=>.eff (compS P ops loc o j) (g (listed.setIfInBounds i true) (cons o loc))
      | _::_=>.alt (.eff (compS P ops loc o j) (g (listed.setIfInBounds i true) (cons o loc))) (mkA ops js loc g listed l)
    | _,_=>.bad
def mkP (ops:Array Oper) (js:Array Nat) (kp:List Nat):Nat→Array Bool→List (Option Nat)→Pl
  | 0,listed,loc=>match Region.ready .any ops listed with | []=>.done (keepOf loc kp) | _::_=>.bad
  | f + 1,listed,loc=>match Region.ready .any ops listed with
    | []=>.done (keepOf loc kp)
    | i::l=>match firstQ (takeP P) ops listed (i::l) with
      | some i=>match ops[i]?,js[i]? with
        | some o,some j=>.take (compS P ops loc o j) (mkP ops js kp f (listed.setIfInBounds i true) (cons o loc))
        | _,_=>.bad
      | none=>mkA P ops js loc (mkP ops js kp f) listed (i::l)
def mkT (not:List Nat) (ops:Array Oper) (js:Array Nat) (kp:List Nat):Nat→Array Bool→List (Option Nat)→List S × Pl
  | 0,listed,loc=>([],mkP P ops js kp 0 listed loc)
  | f + 1,listed,loc=>match Region.ready .any ops listed with
    | []=>([],.done (keepOf loc kp))
    | i::l=>match firstQ (takeS P not) ops listed (i::l) with
      | some i=>match ops[i]?,js[i]? with
        | some o,some j=>match mkT not ops js kp f (listed.setIfInBounds i true) (cons o loc) with
          | (r,p)=>(compS P ops loc o j::r,p)
        | _,_=>([],.bad)
      | none=>([],mkP P ops js kp (f + 1) listed loc)
structure Adv where
  ld:Nat→List Nat
  kp:List Nat
  mg:Nat→Bool
def keepL (K:List Nat):List Nat→List Nat→List Nat
  | [],acc=>acc.reverse
  | t::l,acc=>match memN t K,memN t acc with
    | true,false=>keepL K l (t::acc)
    | _,_=>keepL K l acc
def comp (A:Adv):Code→C
  | .skip=>.skip
  | .region id ops d=>match d with
      | false=>match compL P ops (keepL A.kp (dsts ops.toList) []) ops.toList (slots P ops.toList 0) [] with
        | (ss,kp)=>.reg (countF P ops.toList) ss kp
      | true=>match mkT P (A.ld id) ops (slots P ops.toList 0).toArray (keepL A.kp (dsts ops.toList) []) ops.size (Array.replicate ops.size false) [] with
        | (l,p)=>.draw (countF P ops.toList) l p
  | .seq a b=>.seq (comp A a) (comp A b)
  | .cond c a b=>.cond (opd [] c) (comp A a) (comp A b)
  | .block id b=>match A.mg id with
    | false=>.block id (comp A b)
    | true=>.mrg id ((asg b).map path) (comp A b)
  | .loop b=>.loop (comp A b)
  | .exit id=>.exit id
  | .ret=>.ret
  | _=>.bad 240
inductive RV where
  | tmp (p:Vid) | cell (p:Vid) (n:Nat) (agg:Bool) | bad
def compR:ResultVar→RV
  | .tmp t=>match Nat.blt t 4000 with | true=>.tmp (path t) | false=>.bad
  | .cell a t=>match P.underlying t,sizeC P t,Nat.blt a 4000 with
    | some u,some n,true=>.cell (path a) n (isAggD u)
    | _,_,_=>.bad
inductive FC where
  | mk (np:Nat) (c:C) (rs:List RV) | none
def fnC (A:Nat→Adv) (F:Nat):FC:=match P.funcs[F]? with
  | some fn=>match fn.body with
    | some c=>match Nat.blt fn.ntmps 4000&&Nat.ble (fn.params.size + fn.nfree) fn.ntmps,codeOk fn.ntmps c,(List.range (fn.params.size + fn.nfree)).all λt=>memN t (A F).kp with
      | true,true,true=>.mk (fn.params.size + fn.nfree) (comp P (A F) c) (fn.results.toList.map (compR P))
      | _,_,_=>.none
    | none=>.none
  | none=>.none
def methF (t:TypeId) (name:String):Option Nat:=match P.info? t with
  | some i=>match i.methods.find? (·.name==name) with
    | some m=>match m.path.toList,m.func,P.underlying t with
      | [],some (F,true),some (.pointer _)=>some F
      | _,_,_=>none
    | none=>none
  | none=>none
end
def cpEq:Cp→Cp→Bool
  | .ex a,.ex b=>Nat.beq a b
  | .re a,.re b=>Nat.beq a b
  | _,_=>false
def seq'':List Nat→List Nat→Bool
  | [],[]=>true
  | a::l,b::m=>match Nat.beq a b with | true=>seq'' l m | false=>false
  | _,_=>false
mutual
def vEq:V→V→Bool
  | .b x,.b y=>x==y
  | .i k a,.i k' b=>match Nat.beq (kIx k) (kIx k') with | true=>ieq a b | false=>false
  | .s a,.s b=>seq'' a b
  | .p v o,.p v' o'=>match vidEq v v' with | true=>Nat.beq o o' | false=>false
  | .np,.np=>true
  | .sl v o n c,.sl v' o' n' c'=>match vidEq v v',Nat.beq o o',Nat.beq n n',cpEq c c' with
    | true,true,true,true=>true
    | _,_,_,_=>false
  | .se v o r p s,.se v' o' r' p' s'=>match vidEq v v',Nat.beq o o',Nat.beq r r',Nat.beq p p',Nat.beq s s' with
    | true,true,true,true,true=>true
    | _,_,_,_,_=>false
  | .ns,.ns=>true
  | .m v,.m v'=>vidEq v v'
  | .nm,.nm=>true
  | .f F a c,.f F' a' c'=>match Nat.beq F F',vEqs a a',vEqs c c' with
    | true,true,true=>true
    | _,_,_=>false
  | .nf,.nf=>true
  | .q t x,.q t' x'=>match Nat.beq t t' with | true=>vEq x x' | false=>false
  | .nq,.nq=>true
  | .a l,.a l'=>vEqs l l'
  | .t l,.t l'=>vEqs l l'
  | _,_=>false
  termination_by structural x=>x
def vEqs:List V→List V→Bool
  | [],[]=>true
  | x::l,y::l'=>match vEq x y with | true=>vEqs l l' | false=>false
  | _,_=>false
  termination_by structural x=>x
end
section
variable {D:Type}
abbrev Hk (D:Type):=List V→H D→K D→R
def bindK {α β:Type} (f:α→β) (k:α):β:=f k
def vAt (j:Nat) (vs:List Vid):Vid:=Option.rec (motive:=λ_=>Vid) [] (λv=>v) (nth j vs)
def vK (o:OK) (vs:List V) (v:Vid) (σ:H D) (k:K D):R:=match o,vs with
  | .mv,[x]=>k x σ
  | .new z ty,[]=>vNew z ty v σ k
  | .box ty,[x]=>vBox ty v x σ k
  | .build z n ps,xs=>vBuild z n ps xs σ k
  | .bsl z ty sz len n ps,xs=>vBSl z ty sz len n ps v xs σ k
  | .ld,[x]=>vLd x σ λu=>k u σ
  | .ldA n,[x]=>vLdA n x σ λu=>k u σ
  | .st n,[x,y]=>vSt n x y σ λσ=>k (.t []) σ
  | .nil,[x]=>vNil x λu=>k u σ
  | .eq neg ek,[x,y]=>vEqn neg ek x y λu=>k u σ
  | .bin op,[x,y]=>vBin op x y λu=>k u σ
  | .shl,[x,y]=>vShl x y λu=>k u σ
  | .shr,[x,y]=>vShr x y λu=>k u σ
  | .cat,[x,y]=>vCat x y λu=>k u σ
  | .not,[x]=>vNot x λu=>k u σ
  | .neg,[x]=>vNeg x λu=>k u σ
  | .cpl,[x]=>vCpl x λu=>k u σ
  | .fa off,[x]=>vFA off x λu=>k u σ
  | .fld agg off n,[x]=>vFld agg off n x λu=>k u σ
  | .ia sz,[x,i]=>vIA sz x i λu=>k u σ
  | .iaa len sz,[x,i]=>vIAA len sz x i λu=>k u σ
  | .is,[x,i]=>vIS x i λu=>k u σ
  | .iv agg len sz,[x,i]=>vIV agg len sz x i λu=>k u σ
  | .ext j,[x]=>vExt j x λu=>k u σ
  | .len kd,[x]=>vLen kd x σ λu=>k u σ
  | .slS true true,[x,lo,hi]=>vSlS (some lo) (some hi) x λu=>k u σ
  | .slS true false,[x,lo]=>vSlS (some lo) none x λu=>k u σ
  | .slS false true,[x,hi]=>vSlS none (some hi) x λu=>k u σ
  | .slS false false,[x]=>vSlS none none x λu=>k u σ
  | .sl sz true true,[x,lo,hi]=>vSl sz (some lo) (some hi) x λu=>k u σ
  | .sl sz true false,[x,lo]=>vSl sz (some lo) none x λu=>k u σ
  | .sl sz false true,[x,hi]=>vSl sz none (some hi) x λu=>k u σ
  | .sl sz false false,[x]=>vSl sz none none x λu=>k u σ
  | .sl3 sz true,[x,hi,mx,lo]=>vSl3 sz (some lo) hi mx x λu=>k u σ
  | .sl3 sz false,[x,hi,mx]=>vSl3 sz none hi mx x λu=>k u σ
  | .slA len sz true true,[x,lo,hi]=>vSlA len sz (some lo) (some hi) x λu=>k u σ
  | .slA len sz true false,[x,lo]=>vSlA len sz (some lo) none x λu=>k u σ
  | .slA len sz false true,[x,hi]=>vSlA len sz none (some hi) x λu=>k u σ
  | .slA len sz false false,[x]=>vSlA len sz none none x λu=>k u σ
  | .mks z ty sz bytes,[l,c]=>vMkS z ty sz bytes v l c σ k
  | .mkm kT ks,[]=>vMkM kT ks v σ k
  | .look kT ks z ok,[m,i]=>vLook kT ks z ok m i σ λu=>k u σ
  | .putm kT ks,[m,i,x]=>vPutM kT ks m i x σ λσ=>k (.t []) σ
  | .app ty sz bytes,[s,x]=>vApp ty sz bytes v s x σ k
  | .mkf F n,xs=>k (.f F (xs.take n) (xs.drop n)) σ
  | .mki t,[x]=>k (.q t x) σ
  | .mm mx,[x,y]=>vMM mx x y λu=>k u σ
  | .conv κ,[x]=>vConv κ x λu=>k u σ
  | .b2s,[x]=>vB2S x σ λu=>k u σ
  | .s2s,[x]=>vS2S x λu=>k u σ
  | .rng,[x]=>vRng v x σ k
  | .ent,[x]=>vEnt x σ λu=>k u σ
  | _,_=>R.no 99
def evO (P:Program) (cl:Nat→Hk D) (md:Bool) (v:Vid) (o:O) (L:Lc) (e:E) (σ:H D) (k:K D):R:=match o with
  | .op o args=>getL args L e λvs=>vK o vs v σ k
  | .pick c a b=>bindK (λj=>getO c L e λc=>c.onB (λc=>iff' c (getO a L e λv=>j v) (getO b L e λv=>j v)) 10) (λv=>k v σ)
  | .call F args=>getL args L e λl=>cl F l σ k
  | .callv f args=>getO f L e λf=>getL args L e λl=>f.onF (λF a c=>cl F ((a++l)++c) σ k) 101
  | .inv name x args=>getO x L e λx=>getL args L e λl=>x.onQ (λt y=>orE (methF P t name) (λF=>cl F (y::l) σ k) 102) 103
  | .nxt x=>getO x L e λx=>vNxt md x σ k
  | .bad n=>R.no n
def push (d:Bool) (v:V) (L:Lc):Lc:=let _:=tw60;match d with | true=>v::L | false=>L
def guarded (g:Opd × Bool) (L:Lc) (e:E) (yes no:R):R :=
  getO g.1 L e λy=>y.onG (λy=>match g.2 with | true=>iff' y yes no | false=>iff' y no yes) no 110
def evS (P:Program) (cl:Nat→Hk D) (md:Bool) (vs:List Vid) (s:S) (L:Lc) (e:E) (σ:H D) (k:Lc→H D→R):R:=match s.g with
  | none=>evO P cl md (vAt s.j vs) s.o L e σ λv σ=>k (push s.d v L) σ
  | some g=>bindK (λj=>guarded g L e (evO P cl md (vAt s.j vs) s.o L e σ λv σ=>j v σ) (j (.t []) σ)) (λv σ=>k (push s.d v L) σ)
def evL (P:Program) (cl:Nat→Hk D) (md:Bool) (vs:List Vid) (e:E):List S→Lc→H D→(Lc→H D→R)→R
  | [],L,σ,k=>k L σ
  | s::l,L,σ,k=>evS P cl md vs s L e σ λL σ=>evL P cl md vs e l L σ k
def keepE (L:Lc):Kp→E→(E→R)→R
  | [],e,k=>k e
  | p::l,e,k=>getO p.1 L e λv=>Tr.putp v p.2 e λe=>keepE L l e k
abbrev Pg:=List (Vid × Nat × V)
def pgs (v:Vid) (off:Nat) (l:List V) (r:Pg):Pg :=
  List.rec (motive:=λ_=>Nat→Pg) (λ_=>r) (λx _ ih off=>(v,off,x)::ih (Nat.succ off)) l off
def vLdP (x:V) (σ:H D) (r:Pg) (k:V→Pg→R):R:=x.onP (λv off=>σ.cells v λ_ _ c _ _=>orE (c.get off) (λu=>k u ((v,off,u)::r)) 120) 121
def vLdAP (n:Nat) (x:V) (σ:H D) (r:Pg) (k:V→Pg→R):R:=x.onP (λv off=>σ.cells v λ_ _ c _ _=>rdFrom c off n λl=>k (.a l) (pgs v off l r)) 121
def noCl:Nat→Hk D:=λ_ _ _ _=>R.no 105
def evTO (P:Program) (o:O) (L:Lc) (e:E) (σ:H D) (r:Pg) (k:V→Pg→R):R:=match o with
  | .op .ld [x]=>getO x L e λx=>vLdP x σ r k
  | .op (.ldA n) [x]=>getO x L e λx=>vLdAP n x σ r k
  | o=>match pureO o with
    | true=>evO P noCl false [] o L e σ λv _=>k v r
    | false=>R.no 106
def evTk (P:Program) (s:S) (L:Lc) (e:E) (σ:H D) (r:Pg) (k:Lc→Pg→R):R:=match s.g with
  | none=>evTO P s.o L e σ r λv r=>k (push s.d v L) r
  | some g=>bindK (λj=>guarded g L e (evTO P s.o L e σ r λv r=>j v r) (j (.t []) r)) (λv r=>k (push s.d v L) r)
def evPu (P:Program) (o:O) (L:Lc) (e:E) (σ:H D) (k:V→R):R:=match pureO o with
  | true=>evO P noCl false [] o L e σ λv _=>k v
  | false=>R.no 107
def evT (P:Program) (e:E) (σ:H D):List S→Lc→Pg→(Lc→Pg→R)→R
  | [],L,r,k=>k L r
  | s::l,L,r,k=>evTk P s L e σ r λL r=>evT P e σ l L r k
def holds (σ:H D) (r:Pg) (k:R):R :=
  List.rec (motive:=λ_=>R) k (λp _ ih=>σ.cells p.1 λ_ _ c _ _=>orE (c.get p.2.1) (λu=>iff' (vEq u p.2.2) ih (R.no 122)) 123) r
def altR (md:Bool) (a b:R):R:=iff' md (R.and a b) a
def evP (P:Program) (cl:Nat→Hk D) (md:Bool) (vs:List Vid) (r:Pg) (e:E) (k:E→H D→R):Pl→Lc→H D→R
  | .done kp,L,σ=>keepE L kp e λe=>k e σ
  | .bad,_,_=>R.no 124
  | .take s p,L,σ=>match s.g with
    | none=>evPu P s.o L e σ λv=>evP P cl md vs r e k p (push s.d v L) σ
    | some g=>bindK (λj=>guarded g L e (evPu P s.o L e σ λv=>j v) (j (.t []))) (λv=>evP P cl md vs r e k p (push s.d v L) σ)
  | .eff s p,L,σ=>evS P cl md vs s L e σ λL σ=>holds σ r (evP P cl md vs r e k p L σ)
  | .alt p q,L,σ=>altR md (evP P cl md vs r e k p L σ) (evP P cl md vs r e k q L σ)
def lone:Pl→Bool
  | .done _=>true
  | .bad=>true
  | .take _ p=>lone p
  | .eff _ p=>lone p
  | .alt _ _=>false
def keepsOf:Pl→List Vid
  | .done kp=>kp.map (·.2)
  | .bad=>[]
  | .take _ p=>keepsOf p
  | .eff _ p=>keepsOf p
  | .alt p _=>keepsOf p
def both (a b:Bool):Bool:=Bool.rec (motive:=λ_=>Bool) false b a
def memKV (x y:V) (m:List (V × V)):Bool:=List.rec (motive:=λ_=>Bool) false (λq _ ih=>Bool.rec (motive:=λ_=>Bool) ih (vEq y q.2) (vEq x q.1)) m
def esEq (l m:List (V × V)):Bool:=List.rec (motive:=λ_=>Bool) true (λp _ ih=>both (memKV p.1 p.2 m) ih) l
def oEq (x y:Option V):Bool:=Option.rec (motive:=λ_=>Bool) (Option.rec (motive:=λ_=>Bool) true (λ_=>false) y) (λu=>Option.rec (motive:=λ_=>Bool) false (λu'=>vEq u u') y) x
def trEq (c:Tr V):Tr V→Bool :=
  Tr.rec (motive:=λ_=>Tr V→Bool) (λt=>Tr.rec (motive:=λ_=>Bool) true (λ_ _ _ _ _ _ _ _ _=>false) t)
    (λv _ _ _ _ ia ib ic id t=>Tr.rec (motive:=λ_=>Bool) false (λv' a' b' c' d' _ _ _ _=>both (oEq v v') (both (ia a') (both (ib b') (both (ic c') (id d'))))) t) c
def kpSame:KP→KP→Bool
  | .int q,.int q'=>Nat.beq (kIx q) (kIx q')
  | .str,.str=>true
  | .bool,.bool=>true
  | _,_=>false
def kpsSame:List KP→List KP→Bool
  | [],[]=>true
  | x::l,y::m=>match kpSame x y with | true=>kpsSame l m | false=>false
  | _,_=>false
def ksSame:KS→KS→Bool
  | .p x,.p y=>kpSame x y
  | .s l,.s m=>kpsSame l m
  | _,_=>false
def blkEq (b b':Blk D):Bool:=match b,b' with
  | .cells ex n c ty sz,.cells ex' n' c' ty' sz'=>both (ex==ex') (both (Nat.beq n n') (both (Nat.beq ty ty') (both (Nat.beq sz sz') (trEq c c'))))
  | .map kT ks es ver,.map kT' ks' es' ver'=>both (Nat.beq kT kT') (both (ksSame ks ks') (both (Nat.beq ver ver') (both (Nat.beq es.length es'.length) (both (esEq es es') (esEq es' es)))))
  | .dead,.dead=>true
  | _,_=>false
def logEq (l:List Vid) (h h':Tr (Blk D)):Bool :=
  List.rec (motive:=λ_=>Bool) true (λv _ ih=>Option.rec (motive:=λ_=>Bool) false (λb=>Option.rec (motive:=λ_=>Bool) false (λb'=>both (blkEq b b') ih) (h'.getp v)) (h.getp v)) l
def hEq (σ σ':H D):Bool:=match σ,σ' with
  | .mk h nx lg,.mk h' nx' lg'=>both (vidEq nx nx') (both (logEq lg h h') (logEq lg' h h'))
def eEq (ds:List Vid) (e e':E):Bool :=
  List.rec (motive:=λ_=>Bool) true (λp _ ih=>Option.rec (motive:=λ_=>Bool) false (λu=>Option.rec (motive:=λ_=>Bool) false (λu'=>both (vEq u u') ih) (e'.getp p)) (e.getp p)) ds
def H.new (σ:H D) (k:List Vid→H D→R):R:=H.rec (motive:=λ_=>R) (λh nx lg=>k lg (.mk h nx [])) σ
def H.old (σ:H D) (l:List Vid) (k:H D→R):R:=H.rec (motive:=λ_=>R) (λh nx lg=>k (.mk h nx (lg++l))) σ
def delE (ds:List Vid) (e:E) (k:E→R):R:=List.rec (motive:=λ_=>E→(E→R)→R) (λe k=>k e) (λp _ ih e k=>Tr.delp p e λe=>ih e k) ds e k
def mergeR (ds:List Vid) (md:Bool) (σ:H D) (run:Bool→H D→(E→H D→R)→R) (k:E→H D→R):R :=
  iff' md (σ.new λlg σ=>run false σ λe1 σ1=>R.and (run true σ λe2 σ2=>okIf (both (eEq ds e2 e1) (hEq σ2 σ1)) 130) (σ1.old lg λσ1=>k e1 σ1)) (run false σ k)
def evDraw (P:Program) (cl:Bool→Nat→Hk D) (md:Bool) (vs:List Vid) (l:List S) (p:Pl) (e:E) (σ:H D) (k:E→H D→R):R :=
  evT P e σ l [] [] λL r=>match lone p with
    | true=>evP P (cl md) md vs r e k p L σ
    | false=>mergeR (keepsOf p) md σ (λmd σ k=>evP P (cl md) md vs r e k p L σ) k
abbrev Kc (D:Type):=E→H D→R
def loopR (n:Nat) (b:Kc D→Kc D):Kc D:=Nat.rec (motive:=λ_=>E→H D→R) (λ_ _=>R.no 141) (λ_ r e σ=>b r e σ) n
def mrgR (id:Nat) (ds:List Vid) (md:Bool) (e:E) (σ:H D) (run:Bool→H D→(Nat→Kc D)→R) (kn:Kc D):R :=
  iff' md (σ.new λlg σ=>run false σ λi e1 σ1=>iff' (Nat.beq i id) (R.and (run true σ λi e2 σ2=>iff' (Nat.beq i id) (okIf (hEq σ2 σ1) 144) (R.no 143)) (σ1.old lg λσ1=>delE ds e λe=>kn e σ1)) (R.no 143))
    (run false σ λi e1 σ1=>iff' (Nat.beq i id) (delE ds e λe=>kn e σ1) (R.no 143))
def noK (n:Nat):Kc D:=λ_ _=>R.no n
def evC (P:Program) (fu:Nat) (cl:Bool→Nat→Hk D):C→Bool→E→H D→Kc D→(Nat→Kc D)→Kc D→R
  | .skip,_,e,σ,kn,_,_=>kn e σ
  | .reg n l kp,md,e,σ,kn,_,_=>match n with
    | 0=>evL P (cl md) md [] e l [] σ λL σ=>keepE L kp e λe=>kn e σ
    | n + 1=>σ.room (n + 1) λvs σ=>evL P (cl md) md vs e l [] σ λL σ=>keepE L kp e λe=>kn e σ
  | .draw n l p,md,e,σ,kn,_,_=>match n with
    | 0=>evDraw P cl md [] l p e σ kn
    | n + 1=>σ.room (n + 1) λvs σ=>evDraw P cl md vs l p e σ kn
  | .seq a b,md,e,σ,kn,kx,kr=>bindK (λkn=>evC P fu cl a md e σ kn kx kr) (λe σ=>evC P fu cl b md e σ kn kx kr)
  | .cond c a b,md,e,σ,kn,kx,kr=>getO c [] e λc=>c.onB (λc=>iff' c (evC P fu cl a md e σ kn kx kr) (evC P fu cl b md e σ kn kx kr)) 140
  | .block id b,md,e,σ,kn,kx,kr=>evC P fu cl b md e σ kn (λi e σ=>iff' (Nat.beq i id) (kn e σ) (kx i e σ)) kr
  | .mrg id ds b,md,e,σ,kn,_,_=>mrgR id ds md e σ (λmd σ kx=>evC P fu cl b md e σ (noK 142) kx (noK 145)) kn
  | .loop b,md,e,σ,_,kx,kr=>loopR fu (λr e σ=>evC P fu cl b md e σ r kx kr) e σ
  | .exit id,_,e,σ,_,kx,_=>kx id e σ
  | .ret,_,e,σ,_,_,kr=>kr e σ
  | .bad n,_,_,_,_,_,_=>R.no n
def resV (r:RV) (e:E) (σ:H D) (k:V→R):R:=let _:=tw60;match r with
  | .tmp p=>orE (e.getp p) k 150
  | .cell p n agg=>orE (e.getp p) (λx=>match agg with | true=>vLdA n x σ k | false=>vLd x σ k) 151
  | .bad=>R.no 152
def resL (e:E) (σ:H D):List RV→(List V→R)→R
  | [],k=>k []
  | r::l,k=>resV r e σ λv=>resL e σ l λvs=>k (v::vs)
def evRet (rs:List RV) (k:K D) (e:E) (σ:H D):R:=resL e σ rs λvs=>match vs with
  | [v]=>k v σ
  | vs=>k (.t vs) σ
def argE (np:Nat) (l:List V) (k:E→R):R :=
  iff' (Nat.beq (List.length l) np) (List.rec (motive:=λ_=>Nat→E→(E→R)→R) (λ_ e k=>k e) (λv _ ih i e k=>Tr.putp v (digs 20 i) e λe=>ih (Nat.succ i) e k) l 0 .e k) (R.no 163)
abbrev Fx (D:Type):=Nat→(Bool→Nat→Hk D)→Bool→Hk D
def evFn (P:Program) (A:Nat→Adv) (F:Nat):Fx D:=λfu cl md args σ k=>match fnC P A F with
  | .mk np c rs=>argE np args λe=>bindK (λkr=>evC P fu cl c md e σ kr (λ_=>noK 161) kr) (evRet rs k)
  | .none=>R.no 10000
def insT (x:Fx D) (p:Vid):Tr (Fx D)→Tr (Fx D) :=
  List.rec (motive:=λ_=>Tr (Fx D)→Tr (Fx D)) (λt=>Tr.rec (motive:=λ_=>Tr (Fx D)) (.n (some x) .e .e .e .e) (λ_ a b c d _ _ _ _=>.n (some x) a b c d) t)
    (λq p ih t=>Tr.rec (motive:=λ_=>Tr (Fx D)) (Tr.onep x (q::p)) (λv a b c d _ _ _ _=>Q.rec (motive:=λ_=>Tr (Fx D)) (.n v (ih a) b c d) (.n v a (ih b) c d) (.n v a b (ih c) d) (.n v a b c (ih d)) q) t) p
def tabL (l:List (Nat × Fx D)):Tr (Fx D):=List.rec (motive:=λ_=>Tr (Fx D)) .e (λp _ ih=>insT p.2 (digs 20 p.1) ih) l
def evF (T:Tr (Fx D)) (fu fuel:Nat):Bool→Nat→Hk D :=
  Nat.rec (motive:=λ_=>Bool→Nat→Hk D) (λ_ _ _ _ _=>R.no 160) (λ_ ih md F args σ k=>iff' (Nat.blt F 1000000) (orE (T.getp (digs 20 F)) (λh=>h fu ih md args σ k) (10000 + F)) (R.no 161)) fuel
end
theorem orE_ok {α:Type} {o:Option α} {k:α→R} {n:Nat} (h:orE o k n=.ok):∃ a,o=some a∧k a=.ok:=by
 cases o with
 | none=>cases h
 | some a=>exact⟨a,rfl,h⟩
theorem iff_t {b:Bool} {x y:R} (h:iff' b x y=.ok):(b=true∧x=.ok)∨(b=false∧y=.ok):=by
 cases b
 ·exact .inr ⟨rfl,h⟩
 ·exact .inl ⟨rfl,h⟩
theorem iff_ok {b:Bool} {x:R} {n:Nat} (h:iff' b x (R.no n)=.ok):b=true∧x=.ok:=by
 cases b
 ·cases h
 ·exact⟨rfl,h⟩
theorem fN_eq (n:Nat) (k:Nat→R):fN n k=k n:=by cases n <;> rfl
theorem okIf_ok {b:Bool} {n:Nat} (h:okIf b n=.ok):b=true:=(iff_ok h).1
theorem both_ok {a b:Bool}:both a b=true↔a=true∧b=true:=by cases a <;> cases b <;> simp [both]
section
variable {α:Type}
@[simp] theorem getp_e (p:Vid):(Tr.e:Tr α).getp p=none:=by cases p <;> rfl
@[simp] theorem getp_nil (v:Option α) (a b c d:Tr α):(Tr.n v a b c d).getp []=v:=rfl
theorem getp_cons (q:Q) (p:Vid) (v:Option α) (a b c d:Tr α):(Tr.n v a b c d).getp (q::p)=(Q.rec (motive:=λ_=>Tr α) a b c d q).getp p:=rfl
theorem getp_onep (x:α):∀ (p p':Vid),(Tr.onep x p).getp p'=if p'=p then some x else none
 | [],[]=>rfl
 | [],q::p'=>by cases q <;> simp [Tr.onep,getp_cons]
 | q::p,[]=>by cases q <;> rfl
 | q::p,q'::p'=>by
  have ih:=getp_onep x p p'
  simp only [Tr.onep] at ih ⊢
  cases q <;> cases q' <;> simp [getp_cons,ih]
theorem putp_ok {x:α} {k:Tr α→R}:∀ {p:Vid} {t:Tr α},Tr.putp x p t k=.ok→∃ t',(∀ p',t'.getp p'=if p'=p then some x else t.getp p')∧k t'=.ok
 | [],.e,h=>⟨_,λp'=>by cases p' with | nil=>simp | cons q p'=>cases q <;> simp [getp_cons],h⟩
 | [],.n v a b c d,h=>⟨_,λp'=>by cases p' with | nil=>simp | cons q p'=>simp [getp_cons],h⟩
 | q::p,.e,h=>⟨_,λp'=>by rw [getp_onep];simp,h⟩
 | q::p,.n v a b c d,h=>by
  cases q
  ·obtain⟨t',h1,h2⟩:=putp_ok (p:=p) (t:=a) (k:=λa=>k (.n v a b c d)) h
   exact⟨_,λp'=>by cases p' with | nil=>simp | cons q' p'=>cases q' <;> simp [getp_cons,h1],h2⟩
  ·obtain⟨t',h1,h2⟩:=putp_ok (p:=p) (t:=b) (k:=λb=>k (.n v a b c d)) h
   exact⟨_,λp'=>by cases p' with | nil=>simp | cons q' p'=>cases q' <;> simp [getp_cons,h1],h2⟩
  ·obtain⟨t',h1,h2⟩:=putp_ok (p:=p) (t:=c) (k:=λc=>k (.n v a b c d)) h
   exact⟨_,λp'=>by cases p' with | nil=>simp | cons q' p'=>cases q' <;> simp [getp_cons,h1],h2⟩
  ·obtain⟨t',h1,h2⟩:=putp_ok (p:=p) (t:=d) (k:=λd=>k (.n v a b c d)) h
   exact⟨_,λp'=>by cases p' with | nil=>simp | cons q' p'=>cases q' <;> simp [getp_cons,h1],h2⟩
theorem delp_ok {k:Tr α→R}:∀ {p:Vid} {t:Tr α},Tr.delp p t k=.ok→∃ t',(∀ p',t'.getp p'=if p'=p then none else t.getp p')∧k t'=.ok
 | [],.e,h=>⟨_,λp'=>by simp,h⟩
 | [],.n v a b c d,h=>⟨_,λp'=>by cases p' with | nil=>simp | cons q p'=>simp [getp_cons],h⟩
 | q::p,.e,h=>⟨_,λp'=>by simp,h⟩
 | q::p,.n v a b c d,h=>by
  cases q
  ·obtain⟨t',h1,h2⟩:=delp_ok (p:=p) (t:=a) (k:=λa=>k (.n v a b c d)) h
   exact⟨_,λp'=>by cases p' with | nil=>simp | cons q' p'=>cases q' <;> simp [getp_cons,h1],h2⟩
  ·obtain⟨t',h1,h2⟩:=delp_ok (p:=p) (t:=b) (k:=λb=>k (.n v a b c d)) h
   exact⟨_,λp'=>by cases p' with | nil=>simp | cons q' p'=>cases q' <;> simp [getp_cons,h1],h2⟩
  ·obtain⟨t',h1,h2⟩:=delp_ok (p:=p) (t:=c) (k:=λc=>k (.n v a b c d)) h
   exact⟨_,λp'=>by cases p' with | nil=>simp | cons q' p'=>cases q' <;> simp [getp_cons,h1],h2⟩
  ·obtain⟨t',h1,h2⟩:=delp_ok (p:=p) (t:=d) (k:=λd=>k (.n v a b c d)) h
   exact⟨_,λp'=>by cases p' with | nil=>simp | cons q' p'=>cases q' <;> simp [getp_cons,h1],h2⟩
theorem digs_inj:∀ (f:Nat) (i j:Nat),i < 4 ^ f→j < 4 ^ f→digs f i=digs f j→i=j:=by
 intro f
 induction f with
 | zero=>intro i j hi hj _;simp at hi hj;omega
 | succ f ih =>
  intro i j hi hj h
  have key:∀ i,digs (f + 1) i=if i=0 then [] else (if i % 4=0 then Q.q0 else if i % 4=1 then .q1 else if i % 4=2 then .q2 else .q3)::digs f (i / 4):=by
   intro i
   show Bool.rec (motive:=λ_=>Vid) _ _ (Nat.beq i 0)=_
   by_cases h0:i=0
   ·subst h0;rfl
   ·rw [if_neg h0,mem_beq (Ne.symm h0)]
    show _::_=_
    congr 1
    show Bool.rec (motive:=λ_=>Q) _ _ (Nat.beq (i % 4) 0)=_
    by_cases h1:i % 4=0
    ·rw [h1];rfl
    ·rw [if_neg h1,mem_beq (Ne.symm h1)]
     show Bool.rec (motive:=λ_=>Q) _ _ (Nat.beq (i % 4) 1)=_
     by_cases h2:i % 4=1
     ·rw [h2];rfl
     ·rw [if_neg h2,mem_beq (Ne.symm h2)]
      show Bool.rec (motive:=λ_=>Q) _ _ (Nat.beq (i % 4) 2)=_
      by_cases h3:i % 4=2
      ·rw [h3];rfl
      ·rw [if_neg h3,mem_beq (Ne.symm h3)]
  rw [key,key] at h
  by_cases h0:i=0
  ·subst h0
   by_cases h1:j=0
   ·exact h1.symm
   ·rw [if_pos rfl,if_neg h1] at h;cases h
  ·by_cases h1:j=0
   ·rw [if_neg h0,if_pos h1] at h;cases h
   ·rw [if_neg h0,if_neg h1] at h
    simp only [List.cons.injEq] at h
    have h4:=ih (i / 4) (j / 4) (by rw [Nat.pow_succ] at hi;omega) (by rw [Nat.pow_succ] at hj;omega) h.2
    have h5:i % 4=j % 4:=by
     have:=h.1
     have a1:i % 4 < 4:=Nat.mod_lt _ (by omega)
     have a2:j % 4 < 4:=Nat.mod_lt _ (by omega)
     split at this <;> split at this <;> (try split at this) <;> (try split at this) <;> (try split at this) <;> (try split at this) <;> first | omega | cases this
    omega
theorem put_ok {x:α} {t:Tr α} {i:Nat} {k:Tr α→R} (h:Tr.put x t i k=.ok):∃ t',(∀ j,t'.get j=if j=i then some x else t.get j)∧k t'=.ok:=by
 unfold Tr.put at h
 cases hb:Nat.blt i 1099511627776 with
 | false=>rw [hb] at h;cases h
 | true =>
  rw [hb] at h
  have hi:i < 1099511627776:=by simpa using hb
  obtain⟨t',h1,h2⟩:=putp_ok h
  refine⟨t',λj=>?_,h2⟩
  unfold Tr.get
  cases hj:Nat.blt j 1099511627776 with
  | false =>
   have hj':¬ j < 1099511627776:=λh=>by
    have:Nat.blt j 1099511627776=true:=by simpa using h
    rw [hj] at this;cases this
   rw [if_neg (λe:j=i=>hj' (by rw [e];exact hi))]
  | true =>
   have hj':j < 1099511627776:=by simpa using hj
   show t'.getp (digs 20 j)=_
   rw [h1]
   by_cases hji:j=i
   ·subst hji;simp
   ·rw [if_neg hji,if_neg]
    exact λe=>hji (digs_inj 20 j i (by simpa using hj') (by simpa using hi) e)
end
theorem Qeq_ok {a b:Q}:Q.eq a b=true↔a=b:=by cases a <;> cases b <;> simp [Q.eq]
theorem vidEq_ok:∀ {a b:Vid},vidEq a b=true↔a=b
 | [],[]=>by simp [vidEq]
 | [],_::_=>by simp [vidEq]
 | _::_,[]=>by simp [vidEq]
 | q::a,q'::b=>by
  have ih:=@vidEq_ok a b
  show Bool.rec (motive:=λ_=>Bool) false (vidEq a b) (Q.eq q q')=true↔_
  cases h:Q.eq q q' with
  | false =>
   have:q≠q':=λe=>by rw [Qeq_ok.2 e] at h;cases h
   simp [this]
  | true=>simp [Qeq_ok.1 h,ih]
structure Loc where
 blk:Nat
 base:Nat
 cap:Nat
abbrev Phi:=Vid→Option Loc
def Phi.le (φ φ':Phi):Prop:=∀ v L,φ v=some L→φ' v=some L
theorem Phi.le.refl (φ:Phi):φ.le φ:=λ_ _ h=>h
theorem Phi.le.trans {a b c:Phi} (h:a.le b) (h':b.le c):a.le c:=λv L x=>h' v L (h v L x)
def bytesOf (l:List Nat):ByteArray:=⟨(l.map UInt8.ofNat).toArray⟩
def capOf (L:Loc):Cp→Nat
 | .ex c=>c
 | .re k=>L.cap - k
mutual
def dec (φ:Phi):V→Option Value
 | .b x=>some (.bool x)
 | .i k n=>some (.int k n)
 | .s l=>some (.string (bytesOf l))
 | .p v off=>(φ v).map λL=>.pointer (some ⟨L.blk,L.base + off,none⟩)
 | .np=>some (.pointer none)
 | .sl v off n c=>(φ v).bind λL=>if n≤capOf L c then some (.slice (some ⟨L.blk,L.base + off,none⟩) n (capOf L c)) else none
 | .se v off r o sz=>(φ v).map λL=>.slice (some ⟨L.blk,if L.cap - r=o then L.base + off else L.base + off + o * sz,none⟩) 0 (L.cap - r - o)
 | .ns=>some (.slice none 0 0)
 | .m v=>(φ v).map λL=>.map (some L.blk)
 | .nm=>some (.map none)
 | .f F a c=>(decs φ a).bind λa=>(decs φ c).map λc=>.func (.func F) a.toArray c.toArray
 | .nf=>some .nilFunc
 | .q t x=>(dec φ x).map λx=>.iface t x
 | .nq=>some .nilIface
 | .a l=>(decs φ l).map λl=>.agg l.toArray
 | .t l=>(decs φ l).map λl=>.tuple l.toArray
def decs (φ:Phi):List V→Option (List Value)
 | []=>some []
 | x::l=>(dec φ x).bind λx=>(decs φ l).map λl=>x::l
end
theorem map_le {β:Type} {φ φ':Phi} (h:φ.le φ') {v:Vid} {f:Loc→β} {y:β} (hy:(φ v).map f=some y):(φ' v).map f=some y:=by
 obtain⟨L,h1,rfl⟩:=kE hy
 rw [h v L h1];rfl
mutual
theorem dec_mono {φ φ':Phi} (h:φ.le φ'):∀ (x:V) (y:Value),dec φ x=some y→dec φ' x=some y
 | .b x,y,e=>by simpa [dec] using e
 | .i k n,y,e=>by simpa [dec] using e
 | .s l,y,e=>by simpa [dec] using e
 | .p v off,y,e=>by simp only [dec] at e ⊢;exact map_le h e
 | .np,y,e=>by simpa [dec] using e
 | .sl v off n c,y,e=>by
  simp only [dec,Option.bind_eq_some_iff] at e ⊢
  obtain⟨M,h1,h2⟩:=e
  exact⟨M,h v M h1,h2⟩
 | .se v off r o sz,y,e=>by simp only [dec] at e ⊢;exact map_le h e
 | .ns,y,e=>by simpa [dec] using e
 | .m v,y,e=>by simp only [dec] at e ⊢;exact map_le h e
 | .nm,y,e=>by simpa [dec] using e
 | .f F a c,y,e=>by
  simp only [dec,Option.bind_eq_some_iff,Option.map_eq_some_iff] at e ⊢
  obtain⟨a',h1,c',h2,h3⟩:=e
  exact⟨a',decs_mono h a _ h1,c',decs_mono h c _ h2,h3⟩
 | .nf,y,e=>by simpa [dec] using e
 | .q t x,y,e=>by
  simp only [dec,Option.map_eq_some_iff] at e ⊢
  obtain⟨x',h1,h2⟩:=e
  exact⟨x',dec_mono h x _ h1,h2⟩
 | .nq,y,e=>by simpa [dec] using e
 | .a l,y,e=>by
  simp only [dec,Option.map_eq_some_iff] at e ⊢
  obtain⟨x',h1,h2⟩:=e
  exact⟨x',decs_mono h l _ h1,h2⟩
 | .t l,y,e=>by
  simp only [dec,Option.map_eq_some_iff] at e ⊢
  obtain⟨x',h1,h2⟩:=e
  exact⟨x',decs_mono h l _ h1,h2⟩
theorem decs_mono {φ φ':Phi} (h:φ.le φ'):∀ (x:List V) (y:List Value),decs φ x=some y→decs φ' x=some y
 | [],y,e=>by simpa [decs] using e
 | x::l,y,e=>by
  simp only [decs,Option.bind_eq_some_iff,Option.map_eq_some_iff] at e ⊢
  obtain⟨a',h1,c',h2,h3⟩:=e
  exact⟨a',dec_mono h x _ h1,c',decs_mono h l _ h2,h3⟩
end
theorem decs_cons {φ:Phi} {x:V} {l:List V} {y:Value} {m:List Value} (h:dec φ x=some y) (h':decs φ l=some m):decs φ (x::l)=some (y::m):=by simp [decs,h,h']
theorem decs_cons_inv {φ:Phi} {x:V} {l:List V} {m:List Value} (h:decs φ (x::l)=some m):∃ y m',m=y::m'∧dec φ x=some y∧decs φ l=some m':=by
 simp only [decs,Option.bind_eq_some_iff,Option.map_eq_some_iff] at h
 obtain⟨y,h1,m',h2,h3⟩:=h
 exact⟨y,m',h3.symm,h1,h2⟩
theorem decs_append {φ:Phi}:∀ {l l':List V} {m m':List Value},decs φ l=some m→decs φ l'=some m'→decs φ (l++l')=some (m++m')
 | [],l',m,m',h,h'=>by simp [decs] at h;subst h;simpa using h'
 | x::l,l',m,m',h,h'=>by
  obtain⟨y,n,rfl,h1,h2⟩:=decs_cons_inv h
  exact decs_cons h1 (decs_append h2 h')
theorem decs_length {φ:Phi}:∀ {l:List V} {m:List Value},decs φ l=some m→m.length=l.length
 | [],m,h=>by simp [decs] at h;subst h;rfl
 | x::l,m,h=>by
  obtain⟨y,n,rfl,h1,h2⟩:=decs_cons_inv h
  simp [decs_length h2]
theorem decs_get {φ:Phi}:∀ {l:List V} {m:List Value},decs φ l=some m→∀ {i:Nat} {x:V},l[i]?=some x→∃ y,m[i]?=some y∧dec φ x=some y
 | [],m,h,i,x,hx=>by simp at hx
 | u::l,m,h,i,x,hx=>by
  obtain⟨y,n,rfl,h1,h2⟩:=decs_cons_inv h
  cases i with
  | zero=>simp at hx;subst hx;exact⟨y,rfl,h1⟩
  | succ i=>simp at hx;simpa using decs_get h2 hx
theorem decs_mk {φ:Phi}:∀ {l:List V} {m:List Value},l.length=m.length→(∀ (i:Nat) x,l[i]?=some x→∃ y,m[i]?=some y∧dec φ x=some y)→decs φ l=some m
 | [],m,h,hx=>by cases m with | nil=>rfl | cons _ _=>simp at h
 | u::l,m,h,hx=>by
  cases m with
  | nil=>simp at h
  | cons y m =>
   obtain⟨y',h1,h2⟩:=hx 0 u rfl
   simp at h1;subst h1
   exact decs_cons h2 (decs_mk (by simpa using h) λi x hi=>by simpa using hx (i + 1) x (by simpa using hi))
theorem oneV_dec {φ:Phi} {x:V} {y:Value} (h:dec φ x=some y) (h1:oneV x=true):oneCell y=true:=by
 cases x
 case sl v off n c =>
  simp only [dec,Option.bind_eq_some_iff] at h
  obtain⟨M,_,h2⟩:=h
  split at h2 <;> simp at h2
  subst h2;rfl
 all_goals simp only [dec,oneV,Option.map_eq_some_iff,Option.bind_eq_some_iff,Option.some.injEq] at h h1
 all_goals first | (cases h1;done) | (subst h;rfl) | (obtain⟨_,_,rfl⟩:=h;rfl) | (obtain⟨_,_,_,_,rfl⟩:=h;rfl)
theorem allOne_ok:∀ {l:List V},allOne l=true→∀ x∈l,oneV x=true
 | [],_,x,hx=>by cases hx
 | u::l,h,x,hx=>by
  have h':Bool.rec (motive:=λ_=>Bool) false (allOne l) (oneV u)=true:=h
  cases hu:oneV u with
  | false=>rw [hu] at h';cases h'
  | true =>
   rw [hu] at h'
   cases hx with
   | head=>exact hu
   | tail _ hx=>exact allOne_ok h' x hx
theorem cellsV_dec {φ:Phi} {x:V} {y:Value} (h:dec φ x=some y) (h1:allOne (cellsV x)=true):decs φ (cellsV x)=some (cellsL y):=by
 cases x
 case sl v off n c =>
  simp only [cellsV,decs,h]
  simp only [dec,Option.bind_eq_some_iff] at h
  obtain⟨M,_,h2⟩:=h
  split at h2 <;> simp at h2
  subst h2;rfl
 all_goals simp only [dec,Option.map_eq_some_iff,Option.bind_eq_some_iff,Option.some.injEq] at h
 case t l=>cases h1
 case a l =>
  obtain⟨m,hm,rfl⟩:=h
  simpa [cellsV,cellsL] using hm
 all_goals
  simp only [cellsV]
  first
  | (subst h;simp [decs,dec,cellsL];done)
  | (obtain⟨_,h1,rfl⟩:=h;simp [decs,dec,cellsL,h1];done)
  | (obtain⟨_,h1,_,h2,rfl⟩:=h;simp [decs,dec,cellsL,h1,h2];done)
section
variable {x:V} {n:Nat}
theorem onB_ok {k:Bool→R} (h:x.onB k n=.ok):∃ b,x=.b b∧k b=.ok:=by cases x <;> first | exact⟨_,rfl,h⟩ | cases h
theorem onI_ok {k:IntKind→Int→R} (h:x.onI k n=.ok):∃ κ i,x=.i κ i∧k κ i=.ok:=by cases x <;> first | exact⟨_,_,rfl,h⟩ | cases h
theorem onS_ok {k:List Nat→R} (h:x.onS k n=.ok):∃ l,x=.s l∧k l=.ok:=by cases x <;> first | exact⟨_,rfl,h⟩ | cases h
theorem onP_ok {k:Vid→Nat→R} (h:x.onP k n=.ok):∃ v o,x=.p v o∧k v o=.ok:=by cases x <;> first | exact⟨_,_,rfl,h⟩ | cases h
theorem onSl_ok {k:Vid→Nat→Nat→Cp→R} (h:x.onSl k n=.ok):∃ v o m c,x=.sl v o m c∧k v o m c=.ok:=by cases x <;> first | exact⟨_,_,_,_,rfl,h⟩ | cases h
theorem onM_ok {k:Vid→R} (h:x.onM k n=.ok):∃ v,x=.m v∧k v=.ok:=by cases x <;> first | exact⟨_,rfl,h⟩ | cases h
theorem onMO_ok {k:Option Vid→R} (h:x.onMO k n=.ok):(∃ v,x=.m v∧k (some v)=.ok)∨(x=.nm∧k none=.ok):=by cases x <;> first | exact .inl ⟨_,rfl,h⟩ | exact .inr ⟨rfl,h⟩ | cases h
theorem onF_ok {k:Nat→List V→List V→R} (h:x.onF k n=.ok):∃ F a c,x=.f F a c∧k F a c=.ok:=by cases x <;> first | exact⟨_,_,_,rfl,h⟩ | cases h
theorem onQ_ok {k:Nat→V→R} (h:x.onQ k n=.ok):∃ t y,x=.q t y∧k t y=.ok:=by cases x <;> first | exact⟨_,_,rfl,h⟩ | cases h
theorem onA_ok {k:List V→R} (h:x.onA k n=.ok):∃ l,x=.a l∧k l=.ok:=by cases x <;> first | exact⟨_,rfl,h⟩ | cases h
theorem onT_ok {k:List V→R} (h:x.onT k n=.ok):∃ l,x=.t l∧k l=.ok:=by cases x <;> first | exact⟨_,rfl,h⟩ | cases h
theorem onNil_ok {k:V→R} (h:x.onNil k n=.ok):((∃ v o,x=.p v o)∨∃ F a c,x=.f F a c)∧k x=.ok:=by
 cases x <;> first | exact⟨.inl ⟨_,_,rfl⟩,h⟩ | exact⟨.inr ⟨_,_,_,rfl⟩,h⟩ | cases h
theorem onLen_ok {k:Nat→Nat→R} {g:Vid→R} (h:x.onLen k g n=.ok):(∃ l,x=.s l∧k 0 l.length=.ok)∨(∃ v o m c,x=.sl v o m c∧k 1 m=.ok)∨(∃ v o r p s,x=.se v o r p s∧k 1 0=.ok)∨(x=.ns∧k 1 0=.ok)∨(x=.nm∧k 2 0=.ok)∨∃ v,x=.m v∧g v=.ok:=by
 cases x
 case s l=>exact .inl ⟨_,rfl,h⟩
 case sl=>exact .inr (.inl ⟨_,_,_,_,rfl,h⟩)
 case se=>exact .inr (.inr (.inl ⟨_,_,_,_,_,rfl,h⟩))
 case ns=>exact .inr (.inr (.inr (.inl ⟨rfl,h⟩)))
 case nm=>exact .inr (.inr (.inr (.inr (.inl ⟨rfl,h⟩))))
 case m=>exact .inr (.inr (.inr (.inr (.inr ⟨_,rfl,h⟩))))
 all_goals cases h
theorem onG_ok {k:Bool→R} {u:R} (h:x.onG k u n=.ok):(∃ b,x=.b b∧k b=.ok)∨∃ l,x=.t l∧u=.ok:=by cases x <;> first | exact .inl ⟨_,rfl,h⟩ | exact .inr ⟨_,rfl,h⟩ | cases h
theorem onZ_ok {k:Nat→Bool→R} (h:x.onZ k n=.ok):(x=.np∧k 0 true=.ok)∨((∃ v o,x=.p v o)∧k 0 false=.ok)∨(x=.ns∧k 1 true=.ok)∨(((∃ v o m c,x=.sl v o m c)∨(∃ v o r p s,x=.se v o r p s))∧k 1 false=.ok)∨(x=.nm∧k 2 true=.ok)∨((∃ v,x=.m v)∧k 2 false=.ok):=by
 cases x
 case np=>exact .inl ⟨rfl,h⟩
 case p=>exact .inr (.inl ⟨⟨_,_,rfl⟩,h⟩)
 case ns=>exact .inr (.inr (.inl ⟨rfl,h⟩))
 case sl=>exact .inr (.inr (.inr (.inl ⟨.inl ⟨_,_,_,_,rfl⟩,h⟩)))
 case se=>exact .inr (.inr (.inr (.inl ⟨.inr ⟨_,_,_,_,_,rfl⟩,h⟩)))
 case nm=>exact .inr (.inr (.inr (.inr (.inl ⟨rfl,h⟩))))
 case m=>exact .inr (.inr (.inr (.inr (.inr ⟨⟨_,rfl⟩,h⟩))))
 all_goals cases h
theorem onApp_ok {k0:R} {k:Vid→Nat→Nat→Cp→R} (h:x.onApp k0 k n=.ok):(x=.ns∧k0=.ok)∨∃ v o m c,x=.sl v o m c∧k v o m c=.ok:=by cases x <;> first | exact .inl ⟨rfl,h⟩ | exact .inr ⟨_,_,_,_,rfl,h⟩ | cases h
theorem onSlN_ok {k0:R} {k:Vid→Nat→Nat→Cp→R} (h:x.onSlN k0 k n=.ok):(x=.ns∧k0=.ok)∨∃ v o m c,x=.sl v o m c∧k v o m c=.ok:=by cases x <;> first | exact .inl ⟨rfl,h⟩ | exact .inr ⟨_,_,_,_,rfl,h⟩ | cases h
theorem onRd_ok {k0:R} {k:Vid→Nat→Nat→R} {g:List Nat→R} (h:x.onRd k0 k g n=.ok):(x=.ns∧k0=.ok)∨(∃ v o r p s,x=.se v o r p s∧k0=.ok)∨(∃ v o m c,x=.sl v o m c∧k v o m=.ok)∨∃ l,x=.s l∧g l=.ok:=by
 cases x
 case ns=>exact .inl ⟨rfl,h⟩
 case se=>exact .inr (.inl ⟨_,_,_,_,_,rfl,h⟩)
 case sl=>exact .inr (.inr (.inl ⟨_,_,_,_,rfl,h⟩))
 case s=>exact .inr (.inr (.inr ⟨_,rfl,h⟩))
 all_goals cases h
theorem asI_ok {k:Nat→R} (h:asI x k=.ok):∃ κ i,x=.i κ (.ofNat i)∧k i=.ok:=by
 obtain⟨κ,i,rfl,h⟩:=onI_ok h
 cases i with
 | ofNat i=>exact⟨_,_,rfl,h⟩
 | negSucc i=>cases h
end
theorem nth_eq {α:Type}:∀ (k:Nat) (l:List α),nth k l=l[k]?
 | 0,[]=>rfl
 | 0,x::l=>rfl
 | k + 1,[]=>rfl
 | k + 1,x::l=>by
  show nth k l=_
  rw [nth_eq k l];simp
section
variable {D:Type}
def H.look (σ:H D) (v:Vid):Option (Blk D):=match σ with | .mk h _ _=>h.getp v
def H.log (σ:H D):List Vid:=match σ with | .mk _ _ l=>l
theorem H.get_ok {σ:H D} {v:Vid} {k:Blk D→R} (h:σ.get v k=.ok):∃ b,σ.look v=some b∧k b=.ok:=by
 cases σ;exact orE_ok h
theorem H.put_ok {σ:H D} {v:Vid} {b:Blk D} {k:H D→R} (h:σ.put v b k=.ok):∃ σ',(∀ v',σ'.look v'=if v'=v then some b else σ.look v')∧σ'.log=v::σ.log∧k σ'=.ok:=by
 cases σ with
 | mk t0 nx lg =>
  obtain⟨t,h1,h2⟩:=putp_ok h
  exact⟨.mk t nx (v::lg),h1,rfl,h2⟩
theorem H.add_ok {σ:H D} {v:Vid} {b:Blk D} {k:H D→R} (h:σ.add v b k=.ok):σ.look v=none∧∃ σ',(∀ v',σ'.look v'=if v'=v then some b else σ.look v')∧σ'.log=v::σ.log∧k σ'=.ok:=by
 cases σ with
 | mk t nx lg =>
  have h':Option.rec (motive:=λ_=>R) (Tr.putp b v t λh'=>k (.mk h' nx (v::lg))) (λ_=>R.no 6) (t.getp v)=.ok:=h
  cases hv:t.getp v with
  | some _=>rw [hv] at h';cases h'
  | none =>
   rw [hv] at h'
   obtain⟨t',h1,h2⟩:=putp_ok h'
   exact⟨hv,.mk t' nx (v::lg),h1,rfl,h2⟩
theorem H.room_ok {σ:H D} {n:Nat} {k:List Vid→H D→R} (h:H.room n σ k=.ok):∃ vs σ',(∀ v,σ'.look v=σ.look v)∧σ'.log=σ.log∧k vs σ'=.ok:=by
 cases σ with
 | mk t nx lg =>
  have:∀ n m l,(Nat.rec (motive:=λ_=>Vid→List Vid→R) (λm l=>k l (.mk t m lg)) (λ_ ih m l=>ih (next m) (m::l)) n:Vid→List Vid→R) m l=.ok→∃ l m,k l (.mk t m lg)=.ok:=by
   intro n
   induction n with
   | zero=>intro m l h;exact⟨_,_,h⟩
   | succ n ih=>intro m l h;exact ih _ _ h
  obtain⟨l,m,h⟩:=this n nx [] h
  exact⟨l,.mk t m lg,λ_=>rfl,rfl,h⟩
theorem onC_ok {b:Blk D} {k:Bool→Nat→Tr V→Nat→Nat→R} {n:Nat} (h:b.onC k n=.ok):∃ ex m c ty sz,b=.cells ex m c ty sz∧k ex m c ty sz=.ok:=by
 cases b <;> first | exact⟨_,_,_,_,_,rfl,h⟩ | cases h
theorem onMp_ok {b:Blk D} {k:Nat→KS→List (V × V)→Nat→R} {n:Nat} (h:b.onM k n=.ok):∃ kT ks es ver,b=.map kT ks es ver∧k kT ks es ver=.ok:=by
 cases b <;> first | exact⟨_,_,_,_,rfl,h⟩ | cases h
theorem onIt_ok {b:Blk D} {k:Vid→Nat→List V→List (V × V)→R} {n:Nat} (h:b.onI k n=.ok):∃ m ver last rest,b=.iter m ver last rest∧k m ver last rest=.ok:=by
 cases b <;> first | exact⟨_,_,_,_,rfl,h⟩ | cases h
theorem H.cells_ok {σ:H D} {v:Vid} {k:Bool→Nat→Tr V→Nat→Nat→R} (h:σ.cells v k=.ok):∃ ex n c ty sz,σ.look v=some (.cells ex n c ty sz)∧k ex n c ty sz=.ok:=by
 obtain⟨b,h1,h2⟩:=H.get_ok h
 obtain⟨ex,n,c,ty,sz,rfl,h3⟩:=onC_ok h2
 exact⟨_,_,_,_,_,h1,h3⟩
theorem rdFrom_ok {c:Tr V}:∀ {n off:Nat} {k:List V→R},rdFrom c off n k=.ok→∃ l,l.length=n∧(∀ i,i < n→c.get (off + i)=l[i]?)∧k l=.ok
 | 0,off,k,h=>⟨[],rfl,λi hi=>by omega,h⟩
 | n + 1,off,k,h=>by
  have h':orE (c.get off) (λv=>fN (Nat.succ off) λo=>rdFrom c o n λl=>k (v::l)) 8=.ok:=h
  obtain⟨v,h1,h2⟩:=orE_ok h'
  rw [fN_eq] at h2
  obtain⟨l,h3,h4,h5⟩:=rdFrom_ok h2
  refine⟨v::l,by simp [h3],λi hi=>?_,h5⟩
  cases i with
  | zero=>simpa using h1
  | succ i =>
   have:=h4 i (by omega)
   rw [show off + (i + 1)=Nat.succ off + i from by omega]
   simpa using this
theorem wrFrom_ok:∀ {l:List V} {c:Tr V} {off:Nat} {k:Tr V→R},wrFrom l c off k=.ok→∃ c',(∀ j,c'.get j=if off≤j∧j < off + l.length then l[j - off]? else c.get j)∧k c'=.ok
 | [],c,off,k,h=>⟨c,λj=>by rw [if_neg (by intro h;simp at h;omega)],h⟩
 | v::l,c,off,k,h=>by
  have h':Tr.put v c off (λc'=>fN (Nat.succ off) λo=>wrFrom l c' o k)=.ok:=h
  obtain⟨c1,h1,h2⟩:=put_ok h'
  rw [fN_eq] at h2
  obtain⟨c2,h3,h4⟩:=wrFrom_ok h2
  refine⟨c2,λj=>?_,h4⟩
  rw [h3,h1]
  by_cases hj:j=off
  ·subst hj
   rw [if_neg (by omega),if_pos rfl,if_pos (by simp)]
   simp
  ·rw [if_neg hj]
   by_cases h5:Nat.succ off≤j∧j < Nat.succ off + l.length
   ·rw [if_pos h5,if_pos (by simp;omega),show j - off=(j - Nat.succ off) + 1 from by omega]
    simp
   ·rw [if_neg h5,if_neg (by simp;omega)]
theorem get_e (i:Nat):(Tr.e:Tr V).get i=none:=by unfold Tr.get;cases Nat.blt i 1099511627776 <;> simp
theorem trOf_ok {l:List V} {k:Tr V→R} (h:trOf l k=.ok):∃ c,(∀ j,c.get j=l[j]?)∧k c=.ok:=by
 obtain⟨c,h1,h2⟩:=wrFrom_ok h
 refine⟨c,λj=>?_,h2⟩
 rw [h1]
 by_cases hj:j < l.length
 ·rw [if_pos (by omega)];simp
 ·rw [if_neg (by omega),get_e,List.getElem?_eq_none (by omega)]
theorem hasAll_ok {c:Tr V}:∀ {n off:Nat},hasAll c off n=true→∀ i,i < n→(c.get (off + i)).isSome=true
 | 0,off,h,i,hi=>by omega
 | n + 1,off,h,i,hi=>by
  have h':Option.rec (motive:=λ_=>Bool) false (λ_=>hasAll c (Nat.succ off) n) (c.get off)=true:=h
  cases hc:c.get off with
  | none=>rw [hc] at h';cases h'
  | some v =>
   rw [hc] at h'
   cases i with
   | zero=>simp [hc]
   | succ i=>rw [show off + (i + 1)=Nat.succ off + i from by omega];exact hasAll_ok h' i (by omega)
def Live:Blk D→Prop
 | .cells ..=>True
 | .map ..=>True
 | .iter ..=>True
 | _=>False
variable (P:Program) (Hd:D→Loc→View→Prop) (w0:World)
structure CellsAt (φ:Phi) (w:World) (L:Loc) (ex:Bool) (n:Nat) (c:Tr V) (ty sz:Nat) (cs:Array Value):Prop where
 at_:w.heap[L.blk]?=some (.cells cs ty (0,0))
 get:∀ i x,c.get i=some x→i < n∧∃ y,dec φ x=some y∧cs[L.base + i]?=some y∧oneCell y=true
 full:ex=true→cs.size=n∧L.base=0
 open_:ex=false→0 < sz∧n≤L.cap * sz∧(0 < L.cap→L.base + L.cap * sz≤cs.size)
def KPs:KP→V→Prop
 | .int q,x=>∃ n,x=.i q n
 | .str,x=>∃ l,x=.s l
 | .bool,x=>∃ b,x=.b b
def KSs:KS→V→Prop
 | .p k,x=>KPs k x
 | .s ks,x=>∃ xs,x=.a xs∧All2 KPs ks xs
structure MapAt' (φ:Phi) (ks:KS) (arr:Array MapEntry) (clock:Nat) (es:List (V × V)):Prop where
 st:MapKept.Stamped arr clock
 size:arr.size=es.length
 shape:∀ p∈es,KSs ks p.1
 to_:∀ e∈arr.toList,∃ p∈es,dec φ p.1=some e.key∧dec φ p.2=some e.val
 of:∀ p∈es,∃ e∈arr.toList,dec φ p.1=some e.key∧dec φ p.2=some e.val
 nd:es.Pairwise λp q=>∀ a,dec φ p.1=some a→dec φ q.1≠some a
def BlkOK (σ:H D) (φ:Phi) (w:World) (L:Loc):Blk D→Prop
 | .cells ex n c ty sz=>w0.heap.size≤L.blk∧∃ cs,CellsAt φ w L ex n c ty sz cs
 | .map kT ks es ver=>w0.heap.size≤L.blk∧ksOf P kT=some ks∧∃ arr clock,w.heap[L.blk]?=some (.map arr clock)∧MapAt' φ ks arr clock es
 | .iter m ver last rest=>w0.heap.size≤L.blk∧L.base=0∧∃ Lm since seen stepped,φ m=some Lm∧w.heap[L.blk]?=some (.mapIter (some Lm.blk) since seen stepped) ∧
   ∃ kT ks es ver',σ.look m=some (.map kT ks es ver')∧ver≤ver'∧(ver=ver'→∃ arr clock,w.heap[Lm.blk]?=some (.map arr clock)∧since=clock ∧
    ((last=[]∧seen=#[]∧stepped=clock)∨(stepped=clock∧∃ e∈arr.toList,seen.back?=some e.born∧decs φ last=some [e.key,e.val])) ∧
    (∀ s∈seen.toList,∃ e∈arr.toList,e.born=s) ∧
    (∀ e∈arr.toList,seen.contains e.born=false→∃ p∈rest,dec φ p.1=some e.key∧dec φ p.2=some e.val) ∧
    (∀ p∈rest,∃ e∈arr.toList,seen.contains e.born=false∧dec φ p.1=some e.key∧dec φ p.2=some e.val)∧(rest.Pairwise λp q=>∀ x,dec φ p.1=some x→dec φ q.1≠some x))
 | .opq d=>∃ Hv:View,Hd d L Hv∧(∀ b o,Hv b o→w.heap[b]?=some o)∧∀ b o,Hv b o→∀ v' b' L',σ.look v'=some b'→Live b'→φ v'=some L'→L'.blk≠b
 | .dead=>True
structure Rel (φ:Phi) (σ:H D) (w:World):Prop where
 keeps:Keeps No w0 w
 gone:∀ v,σ.look v=none→φ v=none
 blk:∀ v b,σ.look v=some b→b≠.dead→∃ L,φ v=some L∧BlkOK P Hd w0 σ φ w L b
 inj:∀ v v' b b' L L',σ.look v=some b→Live b→σ.look v'=some b'→Live b'→φ v=some L→φ v'=some L'→L.blk=L'.blk→v=v'
def Ext (σ σ':H D):Prop:=∃ l,σ'.log=l++σ.log∧∀ v,v ∉ l→σ'.look v=σ.look v
end
theorem Ext.refl {D:Type} (σ:H D):Ext σ σ:=⟨[],rfl,λ_ _=>rfl⟩
theorem Ext.trans {D:Type} {a b c:H D} (h:Ext a b) (h':Ext b c):Ext a c:=by
 obtain⟨l,h1,h2⟩:=h
 obtain⟨m,h3,h4⟩:=h'
 exact⟨m++l,by rw [h3,h1,List.append_assoc],λv hv=>by rw [h4 v (λhm=>hv (by simp [hm])),h2 v (λhm=>hv (by simp [hm]))]⟩
theorem Ext.put {D:Type} {σ σ':H D} {v:Vid} {b:Blk D} (h:∀ v',σ'.look v'=if v'=v then some b else σ.look v') (hl:σ'.log=v::σ.log):Ext σ σ' :=
 ⟨[v],hl,λv' hv=>by rw [h,if_neg (by simpa using hv)]⟩
theorem Ext.same {D:Type} {σ σ':H D} (h:∀ v',σ'.look v'=σ.look v') (hl:σ'.log=σ.log):Ext σ σ':=⟨[],hl,λv _=>h v⟩
section
variable {D:Type} {P:Program} {Hd:D→Loc→View→Prop} {w0:World} {φ φ':Phi} {σ σ':H D} {w w':World}
theorem CellsAt.mono {L:Loc} {ex:Bool} {n:Nat} {c:Tr V} {ty sz:Nat} {cs:Array Value} (h:CellsAt φ w L ex n c ty sz cs) (hle:φ.le φ') (hw:w'.heap[L.blk]?=w.heap[L.blk]?):CellsAt φ' w' L ex n c ty sz cs :=
 ⟨by rw [hw];exact h.at_,λi x hx=>let ⟨h1,y,h2,h3⟩:=h.get i x hx;⟨h1,y,dec_mono hle x y h2,h3⟩,h.full,h.open_⟩
theorem MapAt'.mono {ks:KS} {arr:Array MapEntry} {clock:Nat} {es:List (V × V)} (h:MapAt' φ ks arr clock es) (hle:φ.le φ'):MapAt' φ' ks arr clock es :=
 ⟨h.st,h.size,h.shape,λe he=>let ⟨p,hp,h1,h2⟩:=h.to_ e he;⟨p,hp,dec_mono hle _ _ h1,dec_mono hle _ _ h2⟩,
  λp hp=>let ⟨e,he,h1,h2⟩:=h.of p hp;⟨e,he,dec_mono hle _ _ h1,dec_mono hle _ _ h2⟩,
  h.nd.imp_of_mem λ{p q} hp hq hpq a ha ha'=>by
   obtain⟨e1,_,b1,_⟩:=h.of p hp
   obtain⟨e2,_,b2,_⟩:=h.of q hq
   have c1:=dec_mono hle _ _ b1
   have c2:=dec_mono hle _ _ b2
   rw [ha] at c1;rw [ha'] at c2
   cases c1
   exact hpq _ b1 (by rw [b2];exact c2.symm)⟩
theorem BlkOK.ge {L:Loc} {b:Blk D} (h:BlkOK P Hd w0 σ φ w L b) (hl:Live b):w0.heap.size≤L.blk:=by
 cases b <;> simp only [BlkOK] at h <;> first | exact h.1 | exact hl.elim
theorem BlkOK.some {L:Loc} {b:Blk D} (h:BlkOK P Hd w0 σ φ w L b) (hl:Live b):∃ o,w.heap[L.blk]?=some o:=by
 cases b <;> simp only [BlkOK] at h
 case cells=>obtain⟨_,cs,hc⟩:=h;exact⟨_,hc.at_⟩
 case map=>obtain⟨_,_,arr,clock,hc,_⟩:=h;exact⟨_,hc⟩
 case iter=>obtain⟨_,_,Lm,since,seen,st,_,hc,_⟩:=h;exact⟨_,hc⟩
 all_goals exact hl.elim
theorem Rel.live (h:Rel P Hd w0 φ σ w) {v:Vid} {b:Blk D} (hv:σ.look v=some b) (hl:Live b):∃ L,φ v=some L∧BlkOK P Hd w0 σ φ w L b :=
 h.blk v b hv (by rintro rfl;exact hl)
theorem Rel.cells (h:Rel P Hd w0 φ σ w) {v:Vid} {ex:Bool} {n:Nat} {c:Tr V} {ty sz:Nat} (hv:σ.look v=some (.cells ex n c ty sz)):∃ L cs,φ v=some L∧w0.heap.size≤L.blk∧CellsAt φ w L ex n c ty sz cs:=by
 obtain⟨L,h1,h2,cs,h3⟩:=h.live hv trivial
 exact⟨L,cs,h1,h2,h3⟩
theorem Rel.step {Ch:Nat→Prop} (h:Rel P Hd w0 φ σ w) (hle:φ.le φ') (hk:Keeps Ch w w')
  (hch:∀ b,b < w.heap.size→Ch b→∃ u bu Lu,σ.look u=some bu∧Live bu∧φ u=some Lu∧Lu.blk=b)
  (hnone:∀ v,σ'.look v=none→φ' v=none)
  (hlive:∀ v b L,σ'.look v=some b→Live b→φ' v=some L→(∃ u bu Lu,σ.look u=some bu∧Live bu∧φ u=some Lu∧Lu.blk=L.blk)∨w.heap.size≤L.blk)
  (hinj:∀ v v' b b' L L',σ'.look v=some b→Live b→σ'.look v'=some b'→Live b'→φ' v=some L→φ' v'=some L'→L.blk=L'.blk→v=v')
  (hold:∀ v b,σ'.look v=some b→b≠.dead→(σ.look v=some b∧∀ L,φ v=some L→Live b→¬ Ch L.blk)∨∃ L,φ' v=some L∧BlkOK P Hd w0 σ' φ' w' L b)
  (hmap:∀ m kT ks es ver,σ.look m=some (.map kT ks es ver)→(σ'.look m=some (.map kT ks es ver)∧∀ L,φ m=some L→¬ Ch L.blk)∨∃ es' ver',σ'.look m=some (.map kT ks es' ver')∧ver < ver') :
  Rel P Hd w0 φ' σ' w':=by
 have hkeep:∀ {b:Nat} {o:Obj},w.heap[b]?=some o→¬ Ch b→w'.heap[b]?=some o:=λh1 h2=>hk.blk h1 h2
 refine⟨?_,hnone,λv b hv hd=>?_,hinj⟩
 ·exact h.keeps.then hk λb hb hc=>by
   obtain⟨u,bu,Lu,h1,h2,h3,h4⟩:=hch b (Nat.lt_of_lt_of_le hb h.keeps.size) hc
   obtain⟨L,h5,h6⟩:=h.live h1 h2
   rw [h3] at h5;cases h5
   have:=h6.ge h2
   omega
 ·rcases hold v b hv hd with⟨h1,h2⟩ | h1
  ·obtain⟨L,h3,h4⟩:=h.blk v b h1 hd
   refine⟨L,hle v L h3,?_⟩
   have h2':=h2 L h3
   cases b with
   | cells ex n c ty sz =>
    obtain⟨h5,cs,h6⟩:=h4
    exact⟨h5,cs,h6.mono hle (by rw [h6.at_];exact hkeep h6.at_ (h2' trivial))⟩
   | map kT ks es ver =>
    obtain⟨h5,h50,arr,clock,h6,h7⟩:=h4
    exact⟨h5,h50,arr,clock,hkeep h6 (h2' trivial),h7.mono hle⟩
   | iter m ver last rest =>
    obtain⟨h5,h6,Lm,since,seen,st,h7,h8,kT,ks,es,ver',h9,h10,h11⟩:=h4
    rcases hmap m kT ks es ver' h9 with⟨h12,h13⟩ | ⟨es',ver'',h12,h13⟩
    ·refine⟨h5,h6,Lm,since,seen,st,hle _ _ h7,hkeep h8 (h2' trivial),kT,ks,es,ver',h12,h10,λhe=>?_⟩
     obtain⟨arr,clock,a1,a2,a3,a4,a5,a6,a7⟩:=h11 he
     refine⟨arr,clock,hkeep a1 (h13 Lm h7),a2,a3.imp id (λ⟨b1,e,b2,b3,b4⟩=>⟨b1,e,b2,b3,decs_mono hle _ _ b4⟩),a4,λe he hs=>?_,λp hp=>?_,a7.imp_of_mem λ{p q} hp hq hpq x hx hx'=>?_⟩
     ·obtain⟨p,hp,b1,b2⟩:=a5 e he hs;exact⟨p,hp,dec_mono hle _ _ b1,dec_mono hle _ _ b2⟩
     ·obtain⟨e,he,hs,b1,b2⟩:=a6 p hp;exact⟨e,he,hs,dec_mono hle _ _ b1,dec_mono hle _ _ b2⟩
     ·obtain⟨e1,_,_,b1,_⟩:=a6 p hp
      obtain⟨e2,_,_,b2,_⟩:=a6 q hq
      have c1:=dec_mono hle _ _ b1
      have c2:=dec_mono hle _ _ b2
      rw [hx] at c1;rw [hx'] at c2
      cases c1;
      exact hpq _ b1 (by rw [b2];exact c2.symm)
    ·exact⟨h5,h6,Lm,since,seen,st,hle _ _ h7,hkeep h8 (h2' trivial),kT,ks,es',ver'',h12,by omega,λhe=>by omega⟩
   | opq d =>
    obtain⟨Hv,h5,h6,h7⟩:=h4
    refine⟨Hv,h5,λb o hb=>hkeep (h6 b o hb) λhc=>?_,λb o hb v' b' L' h8 h9 h10 he=>?_⟩
    ·obtain⟨u,bu,Lu,h1,h2,h3,h4⟩:=hch b (lt_of_some (h6 b o hb)) hc
     exact h7 b o hb u bu Lu h1 h2 h3 h4
    ·rcases hlive v' b' L' h8 h9 h10 with⟨u,bu,Lu,a1,a2,a3,a4⟩ | a1
     ·exact h7 b o hb u bu Lu a1 a2 a3 (a4.trans he)
     ·have:=lt_of_some (h6 b o hb);omega
   | dead=>exact absurd rfl hd
  ·exact h1
theorem Rel.same (h:Rel P Hd w0 φ σ w) (hw:w'.heap=w.heap) (hk:Keeps No w w') (hσ:∀ v,σ'.look v=σ.look v):Rel P Hd w0 φ σ' w':=by
 refine h.step (Ch:=No) (Phi.le.refl _) hk (λ_ _ h=>h.elim) (λv hv=>h.gone v (by rw [← hσ];exact hv)) (λv b L hv hl hL=>.inl ⟨v,b,L,by rw [← hσ];exact hv,hl,hL,rfl⟩)
  (λv v' b b' L L' h1 h2 h3 h4=>h.inj v v' b b' L L' (by rw [← hσ];exact h1) h2 (by rw [← hσ];exact h3) h4) (λv b hv _=>.inl ⟨by rw [← hσ];exact hv,λ_ _ _ h=>h⟩)
  (λm kT ks es ver hm=>.inl ⟨by rw [hσ];exact hm,λ_ _ h=>h⟩)
theorem Rel.drew (h:Rel P Hd w0 φ σ w):Rel P Hd w0 φ σ w.drew:=h.same rfl Keeps.drew λ_=>rfl
theorem Rel.set (h:Rel P Hd w0 φ σ w) {v:Vid} {b b':Blk D} {L:Loc} {o:Obj} (hv:σ.look v=some b) (hl:Live b) (hL:φ v=some L) (hu:Upd L.blk o w w')
  (hσ:∀ v',σ'.look v'=if v'=v then some b' else σ.look v') (hl':Live b') (hm:∀ kT ks es ver,b=.map kT ks es ver→∃ es' ver',b'=.map kT ks es' ver'∧ver < ver')
  (hb:BlkOK P Hd w0 σ' φ w' L b'):Rel P Hd w0 φ σ' w':=by
 have hof:∀ {u c},σ'.look u=some c→Live c→∃ c',σ.look u=some c'∧Live c':=by
  intro u c hu hc
  rw [hσ] at hu
  by_cases huv:u=v
  ·subst huv;exact⟨b,hv,hl⟩
  ·rw [if_neg huv] at hu;exact⟨c,hu,hc⟩
 refine h.step (Ch:=(·=L.blk)) (Phi.le.refl _) hu.keeps (λb' _ hb=>⟨v,b,L,hv,hl,hL,hb.symm⟩) (λu hn=>?_) (λu c L' hu hc hL'=>?_) (λu u' c c' M M' h1 h2 h3 h4 h5 h6 h7=>?_) (λu c hu hd=>?_) (λm kT ks es ver hm'=>?_)
 ·rw [hσ] at hn
  by_cases huv:u=v
  ·rw [if_pos huv] at hn;cases hn
  ·rw [if_neg huv] at hn;exact h.gone u hn
 ·obtain⟨c',h1,h2⟩:=hof hu hc
  exact .inl ⟨u,c',L',h1,h2,hL',rfl⟩
 ·obtain⟨d,e1,e2⟩:=hof h1 h2
  obtain⟨d',e3,e4⟩:=hof h3 h4
  exact h.inj u u' d d' M M' e1 e2 e3 e4 h5 h6 h7
 ·rw [hσ] at hu
  by_cases huv:u=v
  ·subst huv;rw [if_pos rfl] at hu;cases hu;exact .inr ⟨L,hL,hb⟩
  ·rw [if_neg huv] at hu
   refine .inl ⟨hu,λM hM hc he=>huv (h.inj u v c b M L hu hc hv hl hM hL he)⟩
 ·by_cases huv:m=v
  ·subst huv
   rw [hv] at hm';cases hm'
   obtain⟨es',ver',h1,h2⟩:=hm kT ks es ver rfl
   exact .inr ⟨es',ver',by rw [hσ,if_pos rfl,h1],h2⟩
  ·refine .inl ⟨by rw [hσ,if_neg huv];exact hm',λM hM he=>huv (h.inj m v _ b M L hm' trivial hv hl hM hL he)⟩
def Phi.with (φ:Phi) (v:Vid) (L:Loc):Phi:=λu=>if u=v then some L else φ u
theorem Phi.with_le {v:Vid} {L:Loc} (h:φ v=none):φ.le (φ.with v L):=λu M hu=>by
 unfold Phi.with
 rw [if_neg]
 ·exact hu
 ·rintro rfl;rw [h] at hu;cases hu
theorem Phi.with_eq {v:Vid} {L:Loc}:φ.with v L v=some L:=by simp [Phi.with]
theorem Rel.new (h:Rel P Hd w0 φ σ w) {v:Vid} {b':Blk D} {L:Loc} {o:Obj} (hv:σ.look v=none) (hn:New L.blk o w w') (hσ:∀ v',σ'.look v'=if v'=v then some b' else σ.look v')
  (hb:BlkOK P Hd w0 σ' (φ.with v L) w' L b'):Rel P Hd w0 (φ.with v L) σ' w':=by
 have hne:∀ {u c},σ.look u=some c→u≠v:=by rintro u c hu rfl;rw [hv] at hu;cases hu
 have hlt:∀ {u c M},σ.look u=some c→Live c→φ u=some M→M.blk < w.heap.size:=by
  intro u c M hu hc hM
  obtain⟨M',h1,h2⟩:=h.live hu hc
  rw [hM] at h1;cases h1
  obtain⟨o,ho⟩:=h2.some hc
  exact lt_of_some ho
 refine h.step (Ch:=No) (Phi.with_le (h.gone v hv)) hn.keeps (λ_ _ h=>h.elim) (λu hu=>?_) (λu c M hu hc hM=>?_) (λu u' c c' M M' h1 h2 h3 h4 h5 h6 h7=>?_) (λu c hu hd=>?_) (λm kT ks es ver hm'=>?_)
 ·rw [hσ] at hu
  by_cases huv:u=v
  ·rw [if_pos huv] at hu;cases hu
  ·rw [if_neg huv] at hu;simp [Phi.with,huv,h.gone u hu]
 ·rw [hσ] at hu
  by_cases huv:u=v
  ·subst huv;rw [Phi.with_eq] at hM;cases hM;exact .inr (by rw [hn.eq];exact Nat.le_refl _)
  ·rw [if_neg huv] at hu
   simp only [Phi.with,if_neg huv] at hM
   exact .inl ⟨u,c,M,hu,hc,hM,rfl⟩
 ·rw [hσ] at h1 h3
  by_cases huv:u=v
  ·by_cases huv':u'=v
   ·rw [huv,huv']
   ·subst huv
    rw [if_neg huv'] at h3
    simp only [Phi.with,if_neg huv'] at h6
    rw [Phi.with_eq] at h5;cases h5
    have:=hlt h3 h4 h6
    rw [← h7,hn.eq] at this;omega
  ·rw [if_neg huv] at h1
   simp only [Phi.with,if_neg huv] at h5
   by_cases huv':u'=v
   ·subst huv'
    rw [Phi.with_eq] at h6;cases h6
    have:=hlt h1 h2 h5
    rw [h7,hn.eq] at this;omega
   ·rw [if_neg huv'] at h3
    simp only [Phi.with,if_neg huv'] at h6
    exact h.inj u u' c c' M M' h1 h2 h3 h4 h5 h6 h7
 ·rw [hσ] at hu
  by_cases huv:u=v
  ·subst huv;rw [if_pos rfl] at hu;cases hu;exact .inr ⟨L,Phi.with_eq,hb⟩
  ·rw [if_neg huv] at hu;exact .inl ⟨hu,λ_ _ _ h=>h⟩
 ·exact .inl ⟨by rw [hσ,if_neg (hne hm')];exact hm',λ_ _ h=>h⟩
def Post (P:Program) (Hd:D→Loc→View→Prop) (w0:World) (φ:Phi) (σ:H D) (k:V→H D→R) (y:Value) (w':World):Prop :=
 ∃ φ' v σ',φ.le φ'∧Rel P Hd w0 φ' σ' w'∧dec φ' v=some y∧Ext σ σ'∧k v σ'=.ok
theorem Post.pure (h:Rel P Hd w0 φ σ w) {v:V} {y:Value} {k:V→H D→R} (hv:dec φ v=some y) (hk:k v σ=.ok):Post P Hd w0 φ σ k y w:=⟨φ,v,σ,.refl _,h,hv,.refl _,hk⟩
theorem Rel.cell (h:Rel P Hd w0 φ σ w) {v:Vid} {ex:Bool} {n:Nat} {c:Tr V} {ty sz:Nat} (hv:σ.look v=some (.cells ex n c ty sz)) {off:Nat} {u:V} (hu:c.get off=some u) {y:Value} (hy:dec φ (.p v off)=some y) :
  ∃ a z,y=.pointer (some a)∧w.cell? a=some z∧dec φ u=some z∧oneCell z=true∧∀ i u',c.get (off + i)=some u'→∃ z',w.cell? (a.add i)=some z'∧dec φ u'=some z'∧oneCell z'=true:=by
 obtain⟨L,cs,h1,h2,h3⟩:=h.cells hv
 simp only [dec,h1,Option.map_some,Option.some.injEq] at hy
 subst hy
 have key:∀ i u',c.get (off + i)=some u'→∃ z',w.cell? (Addr.add ⟨L.blk,L.base + off,none⟩ i)=some z'∧dec φ u'=some z'∧oneCell z'=true:=by
  intro i u' hu'
  obtain⟨_,z,h4,h5,h6⟩:=h3.get _ _ hu'
  refine⟨z,?_,h4,h6⟩
  rw [add_eq]
  exact cell_of h3.at_ (by rw [← h5];congr 1;omega)
 obtain⟨z,h4,h5,h6⟩:=key 0 u hu
 exact⟨_,z,rfl,by simpa [Addr.add] using h4,h5,h6,key⟩
theorem vLd_ok {x:V} {k:V→R} (h:vLd x σ k=.ok):∃ v off ex n c ty sz u,x=.p v off∧σ.look v=some (.cells ex n c ty sz)∧c.get off=some u∧k u=.ok:=by
 obtain⟨v,off,rfl,h⟩:=onP_ok h
 obtain⟨ex,n,c,ty,sz,h1,h⟩:=H.cells_ok h
 obtain⟨u,h2,h3⟩:=orE_ok h
 exact⟨v,off,ex,n,c,ty,sz,u,rfl,h1,h2,h3⟩
theorem vLdA_ok {m:Nat} {x:V} {k:V→R} (h:vLdA m x σ k=.ok):∃ v off ex n c ty sz l,x=.p v off∧σ.look v=some (.cells ex n c ty sz)∧l.length=m∧(∀ i,i < m→c.get (off + i)=l[i]?)∧k (.a l)=.ok:=by
 obtain⟨v,off,rfl,h⟩:=onP_ok h
 obtain⟨ex,n,c,ty,sz,h1,h⟩:=H.cells_ok h
 obtain⟨l,h2,h3,h4⟩:=rdFrom_ok h
 exact⟨v,off,ex,n,c,ty,sz,l,rfl,h1,h2,h3,h4⟩
theorem loadCellsFrom_ok {a:Addr} {w:World}:∀ (vs:List Value) (i:Nat) (acc:Array Value),(∀ (j:Nat) v,vs[j]?=some v→w.cell? (a.add (i + j))=some v) →
  (loadCellsFrom a i vs.length acc).run P w=.ok (acc++vs.toArray) w
 | [],i,acc,h=>by simp [loadCellsFrom]
 | v::vs,i,acc,h=>by
  have h0:=h 0 v rfl
  simp only [List.length_cons,loadCellsFrom,load,Sem.run_bind,Sem.run,Nat.add_zero] at h0 ⊢
  rw [h0]
  simp only [Sem.run_pure,Result.andThen_ok]
  rw [loadCellsFrom_ok vs (i + 1) (acc.push v) λj u hu=>by rw [show i + 1 + j=i + (j + 1) from by omega];exact h (j + 1) u (by simpa using hu)]
  simp
theorem run_loadCells {a:Addr} {w:World} {vs:List Value} (h:∀ (j:Nat) v,vs[j]?=some v→w.cell? (a.add j)=some v):(loadCells a vs.length).run P w=.ok vs.toArray w:=by
 unfold loadCells
 rw [loadCellsFrom_ok vs 0 #[] (by simpa using h)]
 simp
end
def opdV (x:Opd) (L:Lc) (e:E):Option V:=match x with
 | .l j=>nth j L
 | .t p=>e.getp p
 | .c v=>some v
 | .bad=>none
theorem getO_ok {x:Opd} {L:Lc} {e:E} {k:V→R} (h:getO x L e k=.ok):∃ u,opdV x L e=some u∧k u=.ok:=by
 cases x with
 | l j=>exact orE_ok (show orE (nth j L) k 1=.ok from h)
 | t p=>exact orE_ok (show orE (e.getp p) k 2=.ok from h)
 | c v=>exact⟨v,rfl,h⟩
 | bad=>cases h
theorem getL_ok {L:Lc} {e:E}:∀ {l:List Opd} {k:List V→R},getL l L e k=.ok→∃ us,All2 (λx u=>opdV x L e=some u) l us∧k us=.ok
 | [],k,h=>⟨[],.nil,h⟩
 | x::l,k,h=>by
  have h':getO x L e (λv=>getL l L e λvs=>k (v::vs))=.ok:=h
  obtain⟨u,h1,h2⟩:=getO_ok h'
  obtain⟨us,h3,h4⟩:=getL_ok h2
  exact⟨u::us,.cons h1 h3,h4⟩
theorem bytes_const (s:ByteArray):bytesOf (s.data.toList.map (·.toNat))=s:=by
 cases s with
 | mk d =>
  unfold bytesOf
  congr 1
  rw [List.map_map]
  have:(UInt8.ofNat ∘ λx:UInt8=>x.toNat)=id:=by funext x;simp
  rw [this];simp
theorem cellC_dec {φ:Phi} {v:Value} {x:V} (h:cellC v=some x):dec φ x=some v:=by
 unfold cellC at h
 split at h <;> first | (cases h;done) | skip
 all_goals (simp only [Option.some.injEq] at h;subst h)
 all_goals first | rfl | (simp [dec,decs,bytes_const];done)
theorem cellC_one {v:Value} {x:V} (h:cellC v=some x):oneCell v=true∧oneV x=true:=by
 unfold cellC at h
 split at h <;> first | (cases h;done) | skip
 all_goals (simp only [Option.some.injEq] at h;subst h;exact⟨rfl,rfl⟩)
theorem cellsC_dec {φ:Phi}:∀ {l:List Value} {x:List V},cellsC l=some x→decs φ x=some l
 | [],x,h=>by simp [cellsC] at h;subst h;rfl
 | v::l,x,h=>by
  simp only [cellsC] at h
  split at h <;> try (cases h;done)
  rename_i a b ha hb
  simp at h;subst h
  exact decs_cons (cellC_dec ha) (cellsC_dec hb)
theorem cellsC_one:∀ {l:List Value} {x:List V},cellsC l=some x→(∀ v∈l,oneCell v=true)∧∀ u∈x,oneV u=true
 | [],x,h=>by simp [cellsC] at h;subst h;simp
 | v::l,x,h=>by
  simp only [cellsC] at h
  split at h <;> try (cases h;done)
  rename_i a b ha hb
  simp at h;subst h
  obtain⟨h1,h2⟩:=cellsC_one hb
  obtain⟨h3,h4⟩:=cellC_one ha
  refine⟨λu hu=>?_,λu hu=>?_⟩
  ·rcases List.mem_cons.1 hu with rfl | hu
   ·exact h3
   ·exact h1 u hu
  ·rcases List.mem_cons.1 hu with rfl | hu
   ·exact h4
   ·exact h2 u hu
theorem valC_dec {φ:Phi} {v:Value} {x:V} (h:valC v=some x):dec φ x=some v:=by
 unfold valC at h
 split at h
 ·obtain⟨l,h1,rfl⟩:=kE h
  simp [dec,cellsC_dec h1]
 ·rename_i vs
  split at h <;> try (cases h;done)
  rename_i hv
  simp at h;subst h
  have:vs=#[]:=by cases vs;simp_all
  subst this;rfl
 ·exact cellC_dec h
structure Cx (φ:Phi) (loc:List (Option Nat)) (L:Lc) (e:E) (ρ:Operand→Value):Prop where
 tmp:∀ t u,opdV (tmpO loc t) L e=some u→dec φ u=some (ρ (.tmp t))
 const:∀ v,ρ (.const v)=v
 func:∀ f,ρ (.func f)=.func (.func f) #[] #[]
theorem Cx.opd {φ:Phi} {loc:List (Option Nat)} {L:Lc} {e:E} {ρ:Operand→Value} (h:Cx φ loc L e ρ) {x:Operand} {u:V} (hx:opdV (opd loc x) L e=some u):dec φ u=some (ρ x):=by
 cases x with
 | tmp t=>exact h.tmp t u hx
 | const v =>
  simp only [Ev.opd] at hx
  rw [h.const]
  cases hv:valC v with
  | none=>rw [hv] at hx;cases hx
  | some y=>rw [hv] at hx;simp only [opdV,Option.some.injEq] at hx;subst hx;exact valC_dec hv
 | global g=>cases hx
 | func f=>simp only [Ev.opd,opdV,Option.some.injEq] at hx;subst hx;rw [h.func];rfl
theorem Cx.opds {φ:Phi} {loc:List (Option Nat)} {L:Lc} {e:E} {ρ:Operand→Value} (h:Cx φ loc L e ρ):∀ {l:List Operand} {us:List V},All2 (λx u=>opdV x L e=some u) (opds loc l) us→decs φ us=some (l.map ρ)
 | [],us,ha=>by cases ha;rfl
 | x::l,us,ha=>by
  cases ha with
  | cons h1 h2=>exact decs_cons (h.opd h1) (h.opds h2)
theorem kIx_eq {a b:IntKind} (h:Nat.beq (kIx a) (kIx b)=true):a=b:=by cases a <;> cases b <;> first | rfl | cases h
theorem ilt_eq (a b:Int):ilt a b=decide (a < b):=by
 cases a <;> cases b <;> rename_i x y
 ·show Nat.blt x y=_
  by_cases h:x < y
  ·rw [show Nat.blt x y=true by simpa using h];simp;omega
  ·rw [show Nat.blt x y=false by cases hb:Nat.blt x y with | false=>rfl | true=>exact absurd (by simpa using hb) h];simp;omega
 ·show false=_;simp;omega
 ·show true=_;simp;omega
 ·show Nat.blt y x=_
  by_cases h:y < x
  ·rw [show Nat.blt y x=true by simpa using h];simp;omega
  ·rw [show Nat.blt y x=false by cases hb:Nat.blt y x with | false=>rfl | true=>exact absurd (by simpa using hb) h];simp;omega
theorem nbeq (x y:Nat):Nat.beq x y=decide (x=y):=by
 cases h:Nat.beq x y with
 | true=>simp [kB h]
 | false=>simp [Nat.ne_of_beq_eq_false h]
theorem ieq_eq (a b:Int):ieq a b=(a==b):=by
 cases a <;> cases b <;> rename_i x y
 ·show Nat.beq x y=_;rw [nbeq];by_cases h:x=y <;> simp [h];omega
 ·show false=_;symm;simp
 ·show false=_;symm;simp
 ·show Nat.beq x y=_;rw [nbeq];by_cases h:x=y <;> simp [h]
theorem iadd_eq (a b:Int):iadd a b=a + b:=by cases a <;> cases b <;> rfl
theorem isub_eq (a b:Int):isub a b=a - b:=by
 cases a <;> cases b <;> try rfl
 rename_i x y
 show Bool.rec (motive:=λ_=>Int) _ _ (Nat.ble y x)=_
 cases h:Nat.ble y x with
 | false=>rfl
 | true =>
  have:y≤x:=Nat.le_of_ble_eq_true h
  show Int.ofNat (x - y)=_
  simp only [Int.ofNat_eq_natCast];omega
theorem wrapAt_eq {lim:Nat} {k:IntKind} (hk:∀ m:Nat,m < lim→k.wrap (Int.ofNat m)=Int.ofNat m) (n:Int):wrapAt lim k n=k.wrap n:=by
 cases n with
 | negSucc m=>rfl
 | ofNat m =>
  show Bool.rec (motive:=λ_=>Int) (k.wrap (Int.ofNat m)) (Int.ofNat m) (Nat.blt m lim)=_
  cases h:Nat.blt m lim with
  | false=>rfl
  | true=>exact (hk m (by simpa using h)).symm
theorem wrap_in {k:IntKind} (m:Nat) (h:(m:Int) < 2 ^ (if k.signed then k.bits - 1 else k.bits)):k.wrap (Int.ofNat m)=Int.ofNat m:=by
 cases k <;> simp [IntKind.wrap,IntKind.bits,IntKind.signed] at h ⊢ <;> omega
theorem iwrap_eq (k:IntKind) (n:Int):iwrap k n=k.wrap n:=by
 cases k <;> exact wrapAt_eq (λm hm=>wrap_in m (by simp [IntKind.bits,IntKind.signed];omega)) n
theorem seq_eq:∀ (a b:List Nat),seq' a b=((bytesOf a).toList==(bytesOf b).toList):=by
 have key:∀ l:List Nat,(bytesOf l).toList=l.map UInt8.ofNat:=by
  intro l
  simp [bytesOf,ByteArray.toList_eq]
 intro a
 induction a with
 | nil=>intro b;cases b <;> simp [seq',key]
 | cons x a ih =>
  intro b
  cases b with
  | nil=>simp [seq',key]
  | cons y b =>
   have ih':=ih b
   simp only [key] at ih' ⊢
   simp only [seq',List.map_cons]
   have hxy:(UInt8.ofNat x=UInt8.ofNat y)↔x % 256=y % 256:=by
    constructor
    ·intro h;have:=congrArg UInt8.toNat h;simpa using this
    ·intro h;apply UInt8.toNat_inj.1;simpa using h
   rw [nbeq]
   by_cases h:x % 256=y % 256
   ·simp [h,hxy.2 h,ih']
   ·have h':¬ UInt8.ofNat x=UInt8.ofNat y:=λe=>h (hxy.1 e)
    simp [h,h']
section
variable {P:Program} {φ:Phi} {loc:List (Option Nat)} {L:Lc} {e:E} {ρ:Operand→Value} {o:Oper} {k:V→R}
def PureOK (P:Program) (φ:Phi) (ρ:Operand→Value) (o:Oper) (k:V→R):Prop:=∃ u y,dec φ u=some y∧(∀ w,(execOp ρ o).run P w=.ok (.value y) w)∧k u=.ok
theorem run_v {s:Sem Value} {w w':World} {v:Value} (h:s.run P w=.ok v w'):(do pure (Next.value (← s)):Sem Next).run P w=.ok (.value v) w':=by simp [h]
theorem run_u {s:Sem Unit} {w w':World} (h:s.run P w=.ok () w'):(do s;pure Next.skip:Sem Next).run P w=.ok .skip w':=by simp [h]
theorem PureOK.mk {s:Sem Value} {u:V} {y:Value} (hx:execOp ρ o=(do pure (Next.value (← s)):Sem Next)) (hu:dec φ u=some y) (hs:∀ w,s.run P w=.ok y w) (hk:k u=.ok):PureOK P φ ρ o k :=
 ⟨u,y,hu,λw=>by rw [hx];exact run_v (hs w),hk⟩
theorem pure_mv {x:Operand} {u:V} (ho:o.op=.move x∨o.op=.assign x) (hx:dec φ u=some (ρ x)) (hk:k u=.ok):PureOK P φ ρ o k :=
 ⟨u,ρ x,hx,λw=>by rcases ho with ho | ho <;> simp [execOp,ho],hk⟩
theorem dec_i {κ:IntKind} {i:Int} {y:Value} (h:dec φ (.i κ i)=some y):y=.int κ i:=by simpa [dec] using h.symm
theorem dec_b {b:Bool} {y:Value} (h:dec φ (.b b)=some y):y=.bool b:=by simpa [dec] using h.symm
theorem dec_s {l:List Nat} {y:Value} (h:dec φ (.s l)=some y):y=.string (bytesOf l):=by simpa [dec] using h.symm
theorem dec_p {v:Vid} {off:Nat} {y:Value} (h:dec φ (.p v off)=some y):∃ M,φ v=some M∧y=.pointer (some ⟨M.blk,M.base + off,none⟩):=by
 obtain⟨M,h1,h2⟩:=kE (show (φ v).map _=some y from h)
 exact⟨M,h1,h2.symm⟩
theorem dec_sl {v:Vid} {off n:Nat} {c:Cp} {y:Value} (h:dec φ (.sl v off n c)=some y):∃ M,φ v=some M∧y=.slice (some ⟨M.blk,M.base + off,none⟩) n (capOf M c)∧n≤capOf M c:=by
 obtain⟨M,h1,h2⟩:=Option.bind_eq_some_iff.1 (show (φ v).bind _=some y from h)
 split at h2 <;> simp at h2
 rename_i h3
 exact⟨M,h1,h2.symm,h3⟩
theorem dec_sl_mk {v:Vid} {off n:Nat} {c:Cp} {M:Loc} (h:φ v=some M) (hn:n≤capOf M c):dec φ (.sl v off n c)=some (.slice (some ⟨M.blk,M.base + off,none⟩) n (capOf M c)):=by
 simp [dec,h,hn]
theorem dec_m {v:Vid} {y:Value} (h:dec φ (.m v)=some y):∃ M,φ v=some M∧y=.map (some M.blk):=by
 obtain⟨M,h1,h2⟩:=kE (show (φ v).map _=some y from h)
 exact⟨M,h1,h2.symm⟩
theorem dec_a {l:List V} {y:Value} (h:dec φ (.a l)=some y):∃ m,decs φ l=some m∧y=.agg m.toArray:=by
 obtain⟨M,h1,h2⟩:=kE (show (decs φ l).map _=some y from h)
 exact⟨M,h1,h2.symm⟩
theorem dec_t {l:List V} {y:Value} (h:dec φ (.t l)=some y):∃ m,decs φ l=some m∧y=.tuple m.toArray:=by
 obtain⟨M,h1,h2⟩:=kE (show (decs φ l).map _=some y from h)
 exact⟨M,h1,h2.symm⟩
theorem dec_f {F:Nat} {a c:List V} {y:Value} (h:dec φ (.f F a c)=some y):∃ m n,decs φ a=some m∧decs φ c=some n∧y=.func (.func F) m.toArray n.toArray:=by
 obtain⟨m,h1,h2⟩:=Option.bind_eq_some_iff.1 (show (decs φ a).bind _=some y from h)
 obtain⟨n,h3,h4⟩:=kE h2
 exact⟨m,n,h1,h3,h4.symm⟩
theorem dec_q {t:Nat} {x:V} {y:Value} (h:dec φ (.q t x)=some y):∃ z,dec φ x=some z∧y=.iface t z:=by
 obtain⟨m,h1,h2⟩:=kE (show (dec φ x).map _=some y from h)
 exact⟨m,h1,h2.symm⟩
theorem pure_nil {x:Operand} {u:V} (ho:o.op=.nilCheck x) (hx:dec φ u=some (ρ x)) (h:vNil u k=.ok):PureOK P φ ρ o k:=by
 obtain⟨h1,h2⟩:=onNil_ok h
 refine⟨u,ρ x,hx,λw=>?_,h2⟩
 rcases h1 with⟨v,off,rfl⟩ | ⟨F,a,c,rfl⟩
 ·obtain⟨M,_,hy⟩:=dec_p hx
  simp [execOp,ho,hy]
 ·obtain⟨m,n,_,_,hy⟩:=dec_f hx
  simp [execOp,ho,hy]
theorem fieldC_ok {t f:Nat} {fd:Field} (h:fieldC P t f=some fd):∃ fs,P.underlying t=some (.struct fs)∧fs[f]?=some fd:=by
 unfold fieldC at h
 split at h
 ·rename_i fs hu;exact⟨fs,hu,h⟩
 ·cases h
theorem sizeC_ok {t n:Nat} (h:sizeC P t=some n):∃ i,P.info? t=some i∧i.size=n:=by
 unfold sizeC at h
 split at h
 ·rename_i i hi;exact⟨i,hi,by simpa using h⟩
 ·cases h
theorem pure_fa {t:Nat} {x:Operand} {f:Nat} {u:V} {fd:Field} {n:Nat} (ho:o.op=.fieldAddr t x f) (hf:fieldC P t f=some fd) (hn:sizeC P fd.type=some n) (h0:n≠0) (hx:dec φ u=some (ρ x))
  (h:vFA fd.offset u k=.ok):PureOK P φ ρ o k:=by
 obtain⟨v,off,rfl,h⟩:=onP_ok h
 obtain⟨M,hM,hy⟩:=dec_p hx
 obtain⟨fs,hu,hfs⟩:=fieldC_ok hf
 obtain⟨i,hi,rfl⟩:=sizeC_ok hn
 refine PureOK.mk (s:=Instr.fieldAt t (ρ x) f) (u:=.p v (off + fd.offset)) (y:=.pointer (some ⟨M.blk,M.base + (off + fd.offset),none⟩)) (by simp [execOp,ho]) (by simp [dec,hM]) (λw=>?_) h
 rw [hy]
 simp only [Instr.fieldAt,Sem.run_bind,run_underlying' w hu,Result.andThen_ok,hfs,Instr.sureAddr,Sem.run_pure,fieldPlace,run_sizeOf' w hi]
 rw [if_neg h0]
 simp only [Sem.run_pure,Result.andThen_ok,add_eq,Nat.add_assoc]
theorem pure_ia {t el:Nat} {x i:Operand} {u j:V} {inf:TypeInfo} (ho:o.op=.indexAddr t x i) (ht:P.underlying t=some (.slice el)) (hi:P.info? el=some inf) (hx:dec φ u=some (ρ x)) (hj:dec φ j=some (ρ i))
  (h:vIA inf.size u j k=.ok):PureOK P φ ρ o k:=by
 obtain⟨κ,n,rfl,h⟩:=asI_ok h
 obtain⟨v,off,m,c,rfl,h⟩:=onSl_ok h
 obtain⟨hb,h⟩:=iff_ok h
 have hb':n < m:=by simpa using hb
 obtain⟨M,hM,hy,_⟩:=dec_sl hx
 refine PureOK.mk (s:=Instr.indexAt t (ρ x) (ρ i)) (u:=.p v (off + n * inf.size)) (y:=.pointer (some ⟨M.blk,M.base + (off + n * inf.size),none⟩)) (by simp [execOp,ho]) (by simp [dec,hM]) (λw=>?_) h
 rw [hy,dec_i hj]
 rw [run_indexAt_sl w _ _ _ _ _ ht hi rfl (by simp only [Int.ofNat_eq_natCast];omega),add_eq]
 simp [Nat.add_assoc]
theorem pure_iaa {t el len:Nat} {x i:Operand} {u j:V} {inf:TypeInfo} (ho:o.op=.indexAddr t x i) (ht:P.underlying t=some (.array len el)) (hi:P.info? el=some inf) (hx:dec φ u=some (ρ x)) (hj:dec φ j=some (ρ i))
  (h:vIAA len inf.size u j k=.ok):PureOK P φ ρ o k:=by
 obtain⟨κ,n,rfl,h⟩:=asI_ok h
 obtain⟨v,off,rfl,h⟩:=onP_ok h
 obtain⟨hb,h⟩:=iff_ok h
 have hb':n < len:=by simpa using hb
 obtain⟨M,hM,hy⟩:=dec_p hx
 refine PureOK.mk (s:=Instr.indexAt t (ρ x) (ρ i)) (u:=.p v (off + n * inf.size)) (y:=.pointer (some ⟨M.blk,M.base + (off + n * inf.size),none⟩)) (by simp [execOp,ho]) (by simp [dec,hM]) (λw=>?_) h
 rw [hy,dec_i hj]
 rw [run_indexAt_arr w _ _ _ _ ht hi (by simp only [Int.ofNat_eq_natCast];omega),add_eq]
 simp [Nat.add_assoc]
theorem pure_ext {x:Operand} {j:Nat} {u:V} (ho:o.op=.extract x j) (hx:dec φ u=some (ρ x)) (h:vExt j u k=.ok):PureOK P φ ρ o k:=by
 obtain⟨l,rfl,h⟩:=onT_ok h
 obtain⟨v,h1,h2⟩:=orE_ok h
 rw [nth_eq] at h1
 obtain⟨m,h3,hy⟩:=dec_t hx
 obtain⟨y,h4,h5⟩:=decs_get h3 h1
 exact PureOK.mk (s:=Instr.extract (ρ x) j) (by simp [execOp,ho]) h5 (λw=>by simp [hy,Instr.extract,h4]) h2
theorem pure_bin {op:BinOp} {t yt:Nat} {x y:Operand} {yn:Bool} {u:V} {val:Value} (ho:o.op=.binOp op t x y yt) (hyn:yn=true→ρ y=.pointer none∨(∃ l c,ρ y=.slice none l c)∨ρ y=.map none)
  (H:sBin P op t (ρ x) (ρ y) yn (λv=>v=val) False) (hd:dec φ u=some val) (hk:k u=.ok):PureOK P φ ρ o k:=by
 rcases sBin_pure (P:=P) (ox:=x) (oy:=y) hyn H with⟨v,h1,rfl⟩ | h
 ·exact PureOK.mk (s:=do eqGuard op t x y (ρ x) (ρ y);binOp op t (ρ x) (ρ y)) (by simp [execOp,ho]) hd h1 hk
 ·exact h.elim
theorem bit2_eq {f:Nat→Nat→Nat} {g:IntKind→Int→Int→Int} (hf:∀ x y:Nat,x < 18446744073709551616→y < 18446744073709551616→g .u64 (Int.ofNat x) (Int.ofNat y)=Int.ofNat (f x y)) (κ:IntKind) (a b:Int):bit2 f g κ a b=g κ a b:=by
 cases a with
 | negSucc a=>cases b <;> rfl
 | ofNat x =>
  cases b with
  | negSucc b=>rfl
  | ofNat y =>
   show Bool.rec (motive:=λ_=>Int) (g κ _ _) (Bool.rec (motive:=λ_=>Int) (g κ _ _) (.ofNat (f x y)) (Nat.blt y 18446744073709551616)) (Nat.beq (kIx κ) 7&&Nat.blt x 18446744073709551616)=_
   cases h1:Nat.beq (kIx κ) 7 with
   | false=>rfl
   | true =>
    have hκ:κ=.u64:=by cases κ <;> first | rfl | cases h1
    subst hκ
    cases h2:Nat.blt x 18446744073709551616 with
    | false=>rfl
    | true =>
     cases h3:Nat.blt y 18446744073709551616 with
     | false=>rfl
     | true=>exact (hf x y (by simpa using h2) (by simpa using h3)).symm
theorem u64_nat {x:Nat} (h:x < 18446744073709551616):BitVec.ofInt (IntKind.bits .u64) (Int.ofNat x)=BitVec.ofNat 64 x:=by
 show BitVec.ofInt 64 (x:Int)=_
 rw [BitVec.ofInt_natCast]
theorem wrap_u64 {m:Nat} (h:m < 18446744073709551616):IntKind.wrap .u64 (m:Int)=Int.ofNat m:=wrap_in (k:=.u64) m (by show (m:Int) < 18446744073709551616;omega)
theorem land_eq (κ:IntKind) (a b:Int):bit2 Nat.land bAnd κ a b=bAnd κ a b:=by
 refine bit2_eq (λx y hx hy=>?_) κ a b
 unfold bAnd
 rw [u64_nat hx,u64_nat hy]
 show IntKind.wrap .u64 ((BitVec.ofNat 64 x &&& BitVec.ofNat 64 y).toNat:Int)=_
 rw [BitVec.toNat_and,BitVec.toNat_ofNat,BitVec.toNat_ofNat,Nat.mod_eq_of_lt hx,Nat.mod_eq_of_lt hy]
 have:x &&& y < 18446744073709551616:=Nat.lt_of_le_of_lt Nat.and_le_left hx
 exact wrap_u64 this
theorem lor_eq (κ:IntKind) (a b:Int):bit2 Nat.lor bOr κ a b=bOr κ a b:=by
 refine bit2_eq (λx y hx hy=>?_) κ a b
 unfold bOr
 rw [u64_nat hx,u64_nat hy]
 show IntKind.wrap .u64 ((BitVec.ofNat 64 x ||| BitVec.ofNat 64 y).toNat:Int)=_
 rw [BitVec.toNat_or,BitVec.toNat_ofNat,BitVec.toNat_ofNat,Nat.mod_eq_of_lt hx,Nat.mod_eq_of_lt hy]
 have:x ||| y < 18446744073709551616:=Nat.or_lt_two_pow (n:=64) hx hy
 exact wrap_u64 this
theorem lxor_eq (κ:IntKind) (a b:Int):bit2 Nat.xor bXor κ a b=bXor κ a b:=by
 refine bit2_eq (λx y hx hy=>?_) κ a b
 unfold bXor
 rw [u64_nat hx,u64_nat hy]
 show IntKind.wrap .u64 ((BitVec.ofNat 64 x ^^^ BitVec.ofNat 64 y).toNat:Int)=_
 rw [BitVec.toNat_xor,BitVec.toNat_ofNat,BitVec.toNat_ofNat,Nat.mod_eq_of_lt hx,Nat.mod_eq_of_lt hy]
 have:x ^^^ y < 18446744073709551616:=Nat.xor_lt_two_pow (n:=64) hx hy
 exact wrap_u64 this
theorem pure_binI {op:BinOp} {t yt:Nat} {x y:Operand} {a b:V} (ho:o.op=.binOp op t x y yt) (h1:op≠.eql) (h2:op≠.neq) (h3:op≠.shl) (h4:op≠.shr) (hx:dec φ a=some (ρ x)) (hy:dec φ b=some (ρ y))
  (h:vBin op a b k=.ok):PureOK P φ ρ o k:=by
 obtain⟨κ,m,e1,h'⟩:=onI_ok h
 clear h;subst e1
 obtain⟨κ',n,e2,h⟩:=onI_ok h'
 clear h';subst e2
 obtain⟨hk,h'⟩:=iff_ok h
 clear h
 have:=kIx_eq hk;subst this
 have h:=h'
 have ex:=dec_i hx
 have ey:=dec_i hy
 have fin:∀ {u:V} {val:Value},dec φ u=some val→sBin P op t (.int κ m) (.int κ n) false (λv=>v=val) False→k u=.ok→PureOK P φ ρ o k:=λhd H hk=>pure_bin (yn:=false) ho (by simp) (by rw [ex,ey];exact H) hd hk
 cases op <;> simp only [binI] at h <;> first | exact absurd rfl h1 | exact absurd rfl h2 | exact absurd rfl h3 | exact absurd rfl h4 | (cases h;done) | skip
 ·exact fin (val:=.int κ (κ.wrap (m + n))) (by simp [dec,iwrap_eq,iadd_eq]) (by simp [sBin]) h
 ·exact fin (val:=.int κ (κ.wrap (m - n))) (by simp [dec,iwrap_eq,isub_eq]) (by simp [sBin]) h
 ·exact fin (val:=.int κ (κ.wrap (m * n))) (by simp [dec,iwrap_eq]) (by simp [sBin]) h
 ·rcases iff_t h with⟨_,h⟩ | ⟨h0,h⟩
  ·cases h
  ·rw [ieq_eq] at h0
   exact fin (val:=.int κ (κ.wrap (m.tdiv n))) (by simp [dec,iwrap_eq]) (by simp [sBin,Need];simpa using h0) h
 ·rcases iff_t h with⟨_,h⟩ | ⟨h0,h⟩
  ·cases h
  ·rw [ieq_eq] at h0
   exact fin (val:=.int κ (m.tmod n)) (by simp [dec]) (by simp [sBin,Need];simpa using h0) h
 ·exact fin (val:=.int κ (bAnd κ m n)) (by simp [dec,land_eq]) (by simp [sBin]) h
 ·exact fin (val:=.int κ (bOr κ m n)) (by simp [dec,lor_eq]) (by simp [sBin]) h
 ·exact fin (val:=.int κ (bXor κ m n)) (by simp [dec,lxor_eq]) (by simp [sBin]) h
 ·exact fin (val:=.int κ (bAndNot κ m n)) (by simp [dec]) (by simp [sBin]) h
 ·rcases iff_t h with⟨h0,h⟩ | ⟨h0,h⟩ <;> rw [ilt_eq] at h0
  ·exact fin (val:=.bool true) (by simp [dec]) (by simp [sBin];simpa using h0) h
  ·exact fin (val:=.bool false) (by simp [dec]) (by simp [sBin];simpa using h0) h
 ·rcases iff_t h with⟨h0,h⟩ | ⟨h0,h⟩ <;> rw [ilt_eq] at h0
  ·exact fin (val:=.bool false) (by simp [dec]) (by simp [sBin];simpa using h0) h
  ·exact fin (val:=.bool true) (by simp [dec]) (by simp [sBin];simpa using h0) h
 ·rcases iff_t h with⟨h0,h⟩ | ⟨h0,h⟩ <;> rw [ilt_eq] at h0
  ·exact fin (val:=.bool true) (by simp [dec]) (by simp [sBin];simpa using h0) h
  ·exact fin (val:=.bool false) (by simp [dec]) (by simp [sBin];simpa using h0) h
 ·rcases iff_t h with⟨h0,h⟩ | ⟨h0,h⟩ <;> rw [ilt_eq] at h0
  ·exact fin (val:=.bool false) (by simp [dec]) (by simp [sBin];simpa using h0) h
  ·exact fin (val:=.bool true) (by simp [dec]) (by simp [sBin];simpa using h0) h
theorem pure_shl {t yt:Nat} {x y:Operand} {a b:V} (ho:o.op=.binOp .shl t x y yt) (hx:dec φ a=some (ρ x)) (hy:dec φ b=some (ρ y)) (h:vShl a b k=.ok):PureOK P φ ρ o k:=by
 obtain⟨κ,m,e1,h'⟩:=onI_ok h
 clear h;subst e1
 obtain⟨κ',n,e2,h⟩:=onI_ok h'
 clear h';subst e2
 rcases iff_t h with⟨_,h⟩ | ⟨h0,h⟩
 ·cases h
 rw [ilt_eq] at h0
 have h0':0≤n:=by simpa using h0
 exact pure_bin (yn:=false) ho (by simp) (val:=.int κ (κ.wrap (m * 2 ^ min n.toNat κ.bits))) (by rw [dec_i hx,dec_i hy];simp [sBin,Need,h0']) (by simp [dec,iwrap_eq]) h
theorem pure_shr {t yt:Nat} {x y:Operand} {a b:V} (ho:o.op=.binOp .shr t x y yt) (hx:dec φ a=some (ρ x)) (hy:dec φ b=some (ρ y)) (h:vShr a b k=.ok):PureOK P φ ρ o k:=by
 obtain⟨κ,m,e1,h'⟩:=onI_ok h
 clear h;subst e1
 obtain⟨κ',n,e2,h⟩:=onI_ok h'
 clear h';subst e2
 rcases iff_t h with⟨_,h⟩ | ⟨h0,h⟩
 ·cases h
 rw [ilt_eq] at h0
 have h0':0≤n:=by simpa using h0
 exact pure_bin (yn:=false) ho (by simp) (val:=.int κ (m.fdiv (2 ^ min n.toNat κ.bits))) (by rw [dec_i hx,dec_i hy];simp [sBin,Need,h0']) (by simp [dec]) h
theorem pure_not {t:Nat} {x:Operand} {u:V} (ho:o.op=.unOp .not t x) (hx:dec φ u=some (ρ x)) (h:vNot u k=.ok):PureOK P φ ρ o k:=by
 obtain⟨b,rfl,h⟩:=onB_ok h
 have:=dec_b hx
 rcases iff_t h with⟨rfl,h⟩ | ⟨rfl,h⟩
 ·exact PureOK.mk (s:=Op.unary .not (ρ x)) (u:=.b false) (y:=.bool false) (by simp [execOp,ho]) rfl (λw=>by simp [this,Op.unary]) h
 ·exact PureOK.mk (s:=Op.unary .not (ρ x)) (u:=.b true) (y:=.bool true) (by simp [execOp,ho]) rfl (λw=>by simp [this,Op.unary]) h
theorem pure_neg {t:Nat} {x:Operand} {u:V} (ho:o.op=.unOp .neg t x) (hx:dec φ u=some (ρ x)) (h:vNeg u k=.ok):PureOK P φ ρ o k:=by
 obtain⟨κ,n,rfl,h⟩:=onI_ok h
 exact PureOK.mk (s:=Op.unary .neg (ρ x)) (y:=.int κ (κ.wrap (0 - n))) (by simp [execOp,ho]) (by simp only [dec,iwrap_eq]) (λw=>by simp [dec_i hx,Op.unary,Op.intArith]) h
theorem pure_cpl {t:Nat} {x:Operand} {u:V} (ho:o.op=.unOp .xor t x) (hx:dec φ u=some (ρ x)) (h:vCpl u k=.ok):PureOK P φ ρ o k:=by
 obtain⟨κ,n,rfl,h⟩:=onI_ok h
 exact PureOK.mk (s:=Op.unary .xor (ρ x)) (y:=.int κ (bNot κ n)) (by simp [execOp,ho]) (by simp only [dec]) (λw=>by simp [dec_i hx,Op.unary,Op.intBits,bNot,bXor]) h
theorem pure_conv {s d:Nat} {x:Operand} {u:V} {κs κ:IntKind} (ho:o.op=.convert s d x) (hs:P.underlying s=some (.int κs)) (hd:P.underlying d=some (.int κ)) (hx:dec φ u=some (ρ x)) (h:vConv κ u k=.ok):PureOK P φ ρ o k:=by
 obtain⟨κ',n,rfl,h⟩:=onI_ok h
 exact PureOK.mk (s:=convert s d (ρ x)) (y:=.int κ (κ.wrap n)) (by simp [execOp,ho]) (by simp only [dec,iwrap_eq]) (λw=>by
  rw [dec_i hx]
  simp [convert,run_underlying' w hs,run_underlying' w hd,Conv.intToInt]) h
end
section
variable {P:Program} {φ:Phi} {loc:List (Option Nat)} {L:Lc} {e:E} {ρ:Operand→Value} {o:Oper} {k:V→R}
theorem primK_ok {n:Nat} {t:TypeId} {x y:V} {a b:Value} {r:Bool} (hp:primT P t=some n) (hx:dec φ x=some a) (hy:dec φ y=some b) (h:primK n x y=some r):cellEq P t a b=some r:=by
 unfold primT at hp
 unfold primK at h
 split at h
 ·rename_i κ m κ' m'
  split at h <;> try (cases h;done)
  rename_i hk
  have:=kIx_eq hk;subst this
  simp only [Option.some.injEq] at h
  have e1:=dec_i hx
  have e2:=dec_i hy
  subst e1 e2
  split at hp <;> first | (rename_i hu;simp [cellEq,hu,← h,ieq_eq];done) | (simp at hp;done)
 ·simp only [Option.some.injEq] at h
  have e1:=dec_s hx
  have e2:=dec_s hy
  subst e1 e2
  split at hp <;> first | (rename_i hu;simp [cellEq,hu,← h,seq_eq];done) | (simp at hp;done)
 ·simp only [Option.some.injEq] at h
  have e1:=dec_b hx
  have e2:=dec_b hy
  subst e1 e2
  split at hp <;> first | (rename_i hu;simp [cellEq,hu,← h];done) | (simp at hp;done)
 ·cases h
theorem primsK_ok:∀ {fs:List Field} {i:Nat} {ks:List Nat} {xs ys:List V} {az bs:List Value} {r:Bool},primFs P fs i=some ks→decs φ xs=some az→decs φ ys=some bs→primsK ks xs ys=some r→recEq P fs az bs i=some r
 | [],i,ks,xs,ys,az,bs,r,hf,hx,hy,h=>by
  simp [primFs] at hf;subst hf
  cases xs <;> cases ys <;> simp [primsK] at h
  subst h;rfl
 | f::fs,i,ks,xs,ys,az,bs,r,hf,hx,hy,h=>by
  simp only [primFs] at hf
  split at hf <;> try (cases hf;done)
  rename_i k ks' h1 h2 h3 h4
  simp only [Option.some.injEq] at hf;subst hf
  cases xs with
  | nil=>simp [primsK] at h
  | cons x xs =>
   cases ys with
   | nil=>simp [primsK] at h
   | cons y ys =>
    simp only [primsK] at h
    split at h <;> try (cases h;done)
    rename_i a b ha hb
    simp only [Option.some.injEq] at h;subst h
    obtain⟨a',az',rfl,e1,e2⟩:=decs_cons_inv hx
    obtain⟨b',bs',rfl,e3,e4⟩:=decs_cons_inv hy
    have c1:=primK_ok h3 e1 e3 ha
    have c2:=primsK_ok h4 e2 e4 hb
    cases fs with
    | nil =>
     simp [primFs] at h4;subst h4
     cases xs <;> cases ys <;> simp [primsK] at hb
     subst hb
     simp [recEq,h1,h2,c1]
    | cons g fs =>
     simp only [recEq,h1,h2]
     rw [c1,c2]
theorem pure_eq {neg:Bool} {op:BinOp} {t yt:Nat} {x y:Operand} {a b:V} (hop:op=if neg then .neq else .eql) (ho:o.op=.binOp op t x y yt) (hρ:∀ v,ρ (.const v)=v) (hx:dec φ a=some (ρ x)) (hy:dec φ b=some (ρ y))
  (h:vEqn neg (ekOf P t y) a b k=.ok):PureOK P φ ρ o k:=by
 have hyn:isNilC y=true→ρ y=.pointer none∨(∃ l c,ρ y=.slice none l c)∨ρ y=.map none:=λhn=>isNilC_spec (n:=ρ) hn λv hv=>by rw [hv,hρ]
 have fin:∀ {r:Bool},(∀ neg:Bool,sBin P (if neg then .neq else .eql) t (ρ x) (ρ y) (isNilC y) (λv=>v=.bool (if neg then !r else r)) False)→iff' r (iff' neg (k (.b false)) (k (.b true))) (iff' neg (k (.b true)) (k (.b false)))=.ok→PureOK P φ ρ o k:=by
  intro r hs hk
  have hs':=hs neg
  rw [← hop] at hs'
  cases neg <;> cases r
  ·exact pure_bin ho hyn hs' (u:=.b false) (by simp [dec]) hk
  ·exact pure_bin ho hyn hs' (u:=.b true) (by simp [dec]) hk
  ·exact pure_bin ho hyn hs' (u:=.b true) (by simp [dec]) hk
  ·exact pure_bin ho hyn hs' (u:=.b false) (by simp [dec]) hk
 unfold vEqn at h
 generalize hek:ekOf P t y=ek at h
 unfold ekOf at hek
 split at hek
 ·subst hek
  obtain⟨κ,m,e1,h1⟩:=onI_ok (x:=a) h
  clear h;subst e1
  obtain⟨κ',n,e2,h2⟩:=onI_ok h1
  clear h1;subst e2
  obtain⟨hk,h3⟩:=iff_ok h2
  clear h2
  have:=kIx_eq hk;subst this
  refine fin (λneg=>?_) h3
  rw [dec_i hx,dec_i hy]
  cases neg <;> simp [sBin,ieq_eq] <;> rfl
 ·subst hek
  obtain⟨l,e1,h1⟩:=onS_ok (x:=a) h
  clear h;subst e1
  obtain⟨m,e2,h2⟩:=onS_ok h1
  clear h1;subst e2
  refine fin (λneg=>?_) h2
  rw [dec_s hx,dec_s hy]
  cases neg <;> simp [sBin,seq_eq]
 ·rename_i hu
  subst hek
  obtain⟨l,e1,h1⟩:=onB_ok (x:=a) h
  clear h;subst e1
  obtain⟨m,e2,h2⟩:=onB_ok h1
  clear h1;subst e2
  refine fin (λneg=>?_) h2
  rw [dec_b hx,dec_b hy]
  cases neg <;> simp [sBin,hu]
 ·rename_i el hu
  split at hek <;> subst hek
  ·rename_i hn
   have h':b.onZ (λky z=>iff' (z&&Nat.beq ky 0) (a.onZ (λkx z=>iff' (Nat.beq kx 0) (iff' z (iff' neg (k (.b false)) (k (.b true))) (iff' neg (k (.b true)) (k (.b false)))) (R.no 22)) 22) (R.no 22)) 22=.ok:=h
   clear h
   rcases onZ_ok h' with⟨rfl,h1⟩ | ⟨_,h1⟩ | ⟨_,h1⟩ | ⟨_,h1⟩ | ⟨_,h1⟩ | ⟨_,h1⟩ <;> obtain⟨hb,h1⟩:=iff_ok h1 <;> first | (simp at hb;done) | skip
   have ey:ρ y=.pointer none:=by simpa [dec] using hy.symm
   rcases onZ_ok h1 with⟨rfl,h2⟩ | ⟨⟨v,off,rfl⟩,h2⟩ | ⟨_,h2⟩ | ⟨_,h2⟩ | ⟨_,h2⟩ | ⟨_,h2⟩ <;> obtain⟨hb',h2⟩:=iff_ok h2 <;> first | (simp at hb';done) | skip
   ·have ex:ρ x=.pointer none:=by simpa [dec] using hx.symm
    refine fin (r:=true) (λneg=>?_) h2
    rw [ex,ey,hn];cases neg <;> simp [sBin,hu]
   ·obtain⟨M,_,ex⟩:=dec_p hx
    refine fin (r:=false) (λneg=>?_) h2
    rw [ex,ey,hn];cases neg <;> simp [sBin,hu]
  ·cases h
 ·rename_i el hu
  split at hek <;> subst hek
  ·rename_i hn
   have h':b.onZ (λky z=>iff' (z&&Nat.beq ky 1) (a.onZ (λkx z=>iff' (Nat.beq kx 1) (iff' z (iff' neg (k (.b false)) (k (.b true))) (iff' neg (k (.b true)) (k (.b false)))) (R.no 22)) 22) (R.no 22)) 22=.ok:=h
   clear h
   rcases onZ_ok h' with⟨_,h1⟩ | ⟨_,h1⟩ | ⟨rfl,h1⟩ | ⟨_,h1⟩ | ⟨_,h1⟩ | ⟨_,h1⟩ <;> obtain⟨hb,h1⟩:=iff_ok h1 <;> first | (simp at hb;done) | skip
   have ey:ρ y=.slice none 0 0:=by simpa [dec] using hy.symm
   rcases onZ_ok h1 with⟨_,h2⟩ | ⟨_,h2⟩ | ⟨rfl,h2⟩ | ⟨h3,h2⟩ | ⟨_,h2⟩ | ⟨_,h2⟩ <;> obtain⟨hb',h2⟩:=iff_ok h2 <;> first | (simp at hb';done) | skip
   ·have ex:ρ x=.slice none 0 0:=by simpa [dec] using hx.symm
    refine fin (r:=true) (λneg=>?_) h2
    rw [ex,ey,hn];cases neg <;> simp [sBin,hu]
   ·have ex:∃ ad l c,ρ x=.slice (some ad) l c:=by
     rcases h3 with⟨v,off,m,c,rfl⟩ | ⟨v,off,r,p,s,rfl⟩
     ·obtain⟨M,_,ex,_⟩:=dec_sl hx;exact⟨_,_,_,ex⟩
     ·obtain⟨M,_,ex⟩:=kE (show (φ v).map _=some (ρ x) from hx);exact⟨_,_,_,ex.symm⟩
    obtain⟨ad,l,c,ex⟩:=ex
    refine fin (r:=false) (λneg=>?_) h2
    rw [ex,ey,hn];cases neg <;> simp [sBin,hu]
  ·cases h
 ·rename_i kk el hu
  split at hek <;> subst hek
  ·rename_i hn
   have h':b.onZ (λky z=>iff' (z&&Nat.beq ky 2) (a.onZ (λkx z=>iff' (Nat.beq kx 2) (iff' z (iff' neg (k (.b false)) (k (.b true))) (iff' neg (k (.b true)) (k (.b false)))) (R.no 22)) 22) (R.no 22)) 22=.ok:=h
   clear h
   rcases onZ_ok h' with⟨_,h1⟩ | ⟨_,h1⟩ | ⟨_,h1⟩ | ⟨_,h1⟩ | ⟨rfl,h1⟩ | ⟨_,h1⟩ <;> obtain⟨hb,h1⟩:=iff_ok h1 <;> first | (simp at hb;done) | skip
   have ey:ρ y=.map none:=by simpa [dec] using hy.symm
   rcases onZ_ok h1 with⟨_,h2⟩ | ⟨_,h2⟩ | ⟨_,h2⟩ | ⟨_,h2⟩ | ⟨rfl,h2⟩ | ⟨⟨v,rfl⟩,h2⟩ <;> obtain⟨hb',h2⟩:=iff_ok h2 <;> first | (simp at hb';done) | skip
   ·have ex:ρ x=.map none:=by simpa [dec] using hx.symm
    refine fin (r:=true) (λneg=>?_) h2
    rw [ex,ey,hn];cases neg <;> simp [sBin,hu]
   ·obtain⟨M,_,ex⟩:=dec_m hx
    refine fin (r:=false) (λneg=>?_) h2
    rw [ex,ey,hn];cases neg <;> simp [sBin,hu]
  ·cases h
 ·rename_i fs hu
  split at hek <;> subst hek
  ·rename_i ks hst hpf
   have h':a.onA (λxs=>b.onA (λys=>orE (primsK ks xs ys) (λb=>iff' b (iff' neg (k (.b false)) (k (.b true))) (iff' neg (k (.b true)) (k (.b false)))) 23) 23) 23=.ok:=h
   clear h
   obtain⟨xs,e1,h1⟩:=onA_ok h'
   clear h';subst e1
   obtain⟨ys,e2,h2⟩:=onA_ok h1
   clear h1;subst e2
   obtain⟨r,h3,h4⟩:=orE_ok h2
   obtain⟨m,h5,ex⟩:=dec_a hx
   obtain⟨n,h6,ey⟩:=dec_a hy
   have hr:recEqT P t m.toArray n.toArray=some r:=by
    unfold recEqT
    rw [hu]
    simp only [hst]
    exact primsK_ok hpf h5 h6 h3
   refine fin (λneg=>?_) h4
   rw [ex,ey];cases neg <;> simp [sBin,hr]
  ·cases h
 ·subst hek;cases h
theorem part_ok {agg:Bool} {off n:Nat} {l:List V} {m:List Value} {ft:TypeId} {ud:TypeDesc} {inf:TypeInfo} (hl:decs φ l=some m) (hu:P.underlying ft=some ud) (ha:isAggD ud=agg) (hi:P.info? ft=some inf) (hn:inf.size=n)
  (h:partV agg off n l k=.ok):∃ u y,dec φ u=some y∧(∀ w,(part ft m.toArray off).run P w=.ok y w)∧k u=.ok:=by
 have hlen:=decs_length hl
 rcases iff_t (show iff' agg _ _=.ok from h) with⟨h1,h2⟩ | ⟨h1,h2⟩
 ·obtain⟨h3,h4⟩:=iff_ok h2
  have h3':off + n≤l.length:=Nat.le_of_ble_eq_true h3
  refine⟨_,.agg ((m.drop off).take n).toArray,?_,λw=>?_,h4⟩
  ·have:decs φ ((l.drop off).take n)=some ((m.drop off).take n):=by
    refine decs_mk (by simp [hlen]) λi x hx=>?_
    rw [List.getElem?_take] at hx ⊢
    split at hx
    ·rename_i hi'
     rw [List.getElem?_drop] at hx ⊢
     rw [if_pos hi']
     exact decs_get hl hx
    ·cases hx
   simp [dec,this]
  ·simp only [part,Sem.run_bind,run_isAgg' w hu,ha,h1,Result.andThen_ok,if_true,run_sizeOf' w hi,Sem.run_pure,hn]
   congr 2
   apply Array.ext'
   simp
 ·obtain⟨u,h3,h4⟩:=orE_ok h2
  rw [nth_eq] at h3
  obtain⟨y,h5,h6⟩:=decs_get hl h3
  refine⟨u,y,h6,λw=>?_,h4⟩
  simp [part,run_isAgg' w hu,ha,h1,h5]
theorem pure_fld {t:Nat} {x:Operand} {f:Nat} {u:V} {fd:Field} {n:Nat} {ud:TypeDesc} (ho:o.op=.field t x f) (hf:fieldC P t f=some fd) (hud:P.underlying fd.type=some ud) (hn:sizeC P fd.type=some n) (hx:dec φ u=some (ρ x))
  (h:vFld (isAggD ud) fd.offset n u k=.ok):PureOK P φ ρ o k:=by
 obtain⟨l,e1,h1⟩:=onA_ok h
 clear h;subst e1
 obtain⟨m,hm,ex⟩:=dec_a hx
 obtain⟨fs,hu,hfs⟩:=fieldC_ok hf
 obtain⟨i,hi,hin⟩:=sizeC_ok hn
 obtain⟨v,y,h2,h3,h4⟩:=part_ok hm hud rfl hi hin h1
 exact PureOK.mk (s:=Instr.field t (ρ x) f) (by simp [execOp,ho]) h2 (λw=>by
  rw [ex]
  simp only [Instr.field,Sem.run_bind,run_underlying' w hu,Result.andThen_ok,hfs,asAgg,Sem.run_pure,h3]) h4
theorem pure_iv {t el len:Nat} {x i:Operand} {u j:V} {ud:TypeDesc} {n:Nat} (ho:o.op=.index t x i) (ht:P.underlying t=some (.array len el)) (hud:P.underlying el=some ud) (hn:sizeC P el=some n) (hx:dec φ u=some (ρ x)) (hj:dec φ j=some (ρ i))
  (h:vIV (isAggD ud) len n u j k=.ok):PureOK P φ ρ o k:=by
 obtain⟨κ,q,e0,h0⟩:=asI_ok h
 clear h;subst e0
 obtain⟨l,e1,h1⟩:=onA_ok h0
 clear h0;subst e1
 obtain⟨hb,h1⟩:=iff_ok h1
 have hb':q < len:=by simpa using hb
 obtain⟨m,hm,ex⟩:=dec_a hx
 obtain⟨inf,hi,hin⟩:=sizeC_ok hn
 obtain⟨v,y,h2,h3,h4⟩:=part_ok hm hud rfl hi hin h1
 exact PureOK.mk (s:=Instr.index t (ρ x) (ρ i)) (by simp [execOp,ho]) h2 (λw=>by
  rw [ex,dec_i hj]
  simp only [Instr.index,asIntOf,Sem.run_bind,Sem.run_pure,run_underlying' w ht,Result.andThen_ok]
  rw [if_pos (by simp only [Int.ofNat_eq_natCast];omega)]
  simp only [run_sizeOf' w hi,Sem.run_bind,Result.andThen_ok,hin]
  exact h3 w) h4
theorem ba_get (s:ByteArray) (i:Nat):s[i]?=s.data.toList[i]?:=by
 have hs:s.size=s.data.toList.length:=by show s.data.size=s.data.toList.length;simp
 by_cases h:i < s.size
 ·rw [getElem?_pos s i h,kC (by rw [← hs];exact h)]
  rfl
 ·rw [getElem?_neg s i h,List.getElem?_eq_none (by rw [← hs];omega)]
theorem bytesOf_get (l:List Nat) (i:Nat):(bytesOf l)[i]?=(l[i]?).map UInt8.ofNat:=by
 rw [ba_get];simp [bytesOf]
theorem pure_is {t:Nat} {x i:Operand} {u j:V} (ho:o.op=.index t x i) (ht:P.underlying t=some .string) (hx:dec φ u=some (ρ x)) (hj:dec φ j=some (ρ i)) (h:vIS u j k=.ok):PureOK P φ ρ o k:=by
 obtain⟨κ,q,e0,h0⟩:=asI_ok h
 clear h;subst e0
 obtain⟨l,e1,h1⟩:=onS_ok h0
 clear h0;subst e1
 obtain⟨b,h2,h3⟩:=orE_ok h1
 rw [nth_eq] at h2
 exact PureOK.mk (s:=Instr.index t (ρ x) (ρ i)) (y:=.int .u8 (UInt8.ofNat b).toNat) (by simp [execOp,ho]) (by simp [dec];show ((b % 256:Nat):Int)=_;omega) (λw=>by
  rw [dec_s hx,dec_i hj]
  exact run_index_str w _ _ _ _ ht (by simp) (by rw [bytesOf_get];simp [h2])) h3
end
section
variable {P:Program} {φ:Phi} {loc:List (Option Nat)} {L:Lc} {e:E} {ρ:Operand→Value} {o:Oper} {k:V→R}
def RowR (φ:Phi) (c:Tr V) (cells:List Value):Prop:=(∀ i u,c.get i=some u→∃ y,cells[i]?=some y∧dec φ u=some y∧oneCell y=true)∧∀ i,i < cells.length→(c.get i).isSome=true
theorem rowR_of {c:Tr V} {l:List V} {m:List Value} (hc:∀ j,c.get j=l[j]?) (hd:decs φ l=some m) (h1:∀ x∈m,oneCell x=true):RowR φ c m:=by
 refine⟨λi u hu=>?_,λi hi=>?_⟩
 ·rw [hc] at hu
  obtain⟨y,h2,h3⟩:=decs_get hd hu
  exact⟨y,h2,h3,h1 y (kD h2)⟩
 ·rw [hc,kC (by rw [← decs_length hd];exact hi)];rfl
theorem RowR.read {c:Tr V} {m:List Value} (h:RowR φ c m) {l:List V} (hl:l.length=m.length) (hg:∀ i,i < m.length→c.get i=l[i]?):decs φ l=some m:=by
 refine decs_mk hl λi x hx=>?_
 have hi:i < m.length:=by rw [← hl];exact (kA hx).1
 obtain⟨y,h1,h2,_⟩:=h.1 i x (by rw [hg i hi,hx])
 exact⟨y,h1,h2⟩
def wr (off:Nat):List Value→List Value→List Value
 | [],cs=>cs
 | v::l,cs=>wr (off + 1) l (cs.set off v)
theorem wr_length:∀ (l cs:List Value) (off:Nat),(wr off l cs).length=cs.length
 | [],cs,off=>rfl
 | v::l,cs,off=>by rw [wr,wr_length];simp
theorem wr_get:∀ (l cs:List Value) (off i:Nat),off + l.length≤cs.length→(wr off l cs)[i]?=if off≤i∧i < off + l.length then l[i - off]? else cs[i]?
 | [],cs,off,i,h=>by rw [wr,if_neg (by intro h;simp at h;omega)]
 | v::l,cs,off,i,h=>by
  rw [wr,wr_get l _ _ _ (by simp at h ⊢;omega)]
  by_cases h1:off + 1≤i∧i < off + 1 + l.length
  ·rw [if_pos h1,if_pos (by simp;omega),show i - off=(i - (off + 1)) + 1 from by omega];simp
  ·rw [if_neg h1]
   by_cases h2:i=off
   ·subst h2
    rw [if_pos (by simp),List.getElem?_set]
    simp at h;simp;omega
   ·rw [if_neg (by simp;omega),List.getElem?_set,if_neg (Ne.symm h2)]
theorem fold_wr:∀ (l:List Value) (j off:Nat) (cells:Array Value),((l.zipIdx j).foldl (λcs p=>cs.setIfInBounds (off + p.2) p.1) cells).toList=wr (off + j) l cells.toList
 | [],j,off,cells=>rfl
 | v::l,j,off,cells=>by
  simp only [List.zipIdx_cons,List.foldl_cons]
  rw [fold_wr l (j + 1) off,wr]
  simp [Nat.add_assoc]
theorem cells_eq (v:Value):v.cells=(cellsL v).toArray:=by cases v <;> simp [Value.cells,cellsL]
theorem fill_cons (place:Nat→Option (Nat × Nat)) (cells:Array Value) (i off size:Nat) (v:Value) (rest:List (Nat × Value)) (hp:place i=some (off,size)) (h1:(cellsL v).length=size) (h2:off + size≤cells.size) :
  ∃ cells':Array Value,cells'.toList=wr off (cellsL v) cells.toList∧Instr.fill place cells ((i,v)::rest)=Instr.fill place cells' rest:=by
 refine⟨v.cells.zipIdx.foldl (λcs (c,j)=>cs.setIfInBounds (off + j) c) cells,?_,?_⟩
 ·rw [cells_eq]
  have:=fold_wr (cellsL v) 0 off cells
  simp only [Nat.add_zero] at this
  rw [← this]
  rw [← Array.foldl_toList]
  simp
 ·rw [Instr.fill,hp]
  simp only
  rw [if_neg]
  rw [cells_eq]
  simp
  omega
theorem laid_ok {place:Nat→Option (Nat × Nat)}:∀ {ps:List (Nat × Nat)} {xs:List V} {c:Tr V} {cells:Array Value} {parts:List (Nat × Value)} {k:Tr V→R},laid ps xs c k=.ok→parts.map (λp=>place p.1)=ps.map some →
  decs φ xs=some (parts.map (·.2))→RowR φ c cells.toList→∃ c' cells',Instr.fill place cells parts=some cells'∧cells'.size=cells.size∧RowR φ c' cells'.toList∧k c'=.ok
 | [],xs,c,cells,parts,k,h,hp,hd,hr=>by
  cases parts with
  | nil=>exact⟨c,cells,rfl,rfl,hr,h⟩
  | cons _ _=>simp at hp
 | p::ps,[],c,cells,parts,k,h,hp,hd,hr=>by cases h
 | p::ps,x::xs,c,cells,parts,k,h,hp,hd,hr=>by
  cases parts with
  | nil=>simp at hp
  | cons q parts =>
   simp only [List.map_cons,List.cons.injEq] at hp
   obtain⟨y,m,e1,hx,hxs⟩:=decs_cons_inv hd
   simp only [List.map_cons,List.cons.injEq] at e1
   obtain⟨e1,e2⟩:=e1
   have h':iff' (Nat.beq (List.length (cellsV x)) p.2&&Nat.blt 0 p.2&&allOne (cellsV x)&&hasAll c p.1 p.2) (wrFrom (cellsV x) c p.1 λc=>laid ps xs c k) (R.no 12)=.ok:=h
   obtain⟨hb,h1⟩:=iff_ok h'
   simp only [Bool.and_eq_true] at hb
   obtain⟨⟨⟨b1,b2⟩,b3⟩,b4⟩:=hb
   have b1':=kB b1
   have b2':0 < p.2:=by simpa using b2
   have hcv:=cellsV_dec hx b3
   have hlen:=decs_length hcv
   have hsz:p.1 + p.2≤cells.toList.length:=by
    have:=hasAll_ok b4 (p.2 - 1) (by omega)
    obtain⟨u,hu⟩:=Option.isSome_iff_exists.1 this
    obtain⟨y',hy',_⟩:=hr.1 _ _ hu
    have:=(kA hy').1
    omega
   obtain⟨c1,h2,h3⟩:=wrFrom_ok h1
   obtain⟨i,v⟩:=q
   simp only at hp e1 e2
   obtain⟨cells1,h4,h5⟩:=fill_cons place cells i p.1 p.2 v parts (by rw [hp.1]) (by rw [e1,hlen,b1']) (by simpa using hsz)
   have hlc:(cellsL v).length=p.2:=by rw [e1,hlen,b1']
   have hr1:RowR φ c1 cells1.toList:=by
    refine⟨λj u hu=>?_,λj hj=>?_⟩
    ·rw [h2] at hu
     rw [h4,wr_get _ _ _ _ (by rw [hlc];exact hsz)]
     by_cases hj:p.1≤j∧j < p.1 + (cellsV x).length
     ·rw [if_pos hj] at hu
      rw [if_pos (by rw [hlc,← b1'];exact hj)]
      obtain⟨y1,g1,g2⟩:=decs_get hcv hu
      exact⟨y1,by rw [e1];exact g1,g2,oneV_dec g2 (allOne_ok b3 u (kD hu))⟩
     ·rw [if_neg hj] at hu
      rw [if_neg (by rw [hlc,← b1'];exact hj)]
      exact hr.1 j u hu
    ·rw [h4,wr_length] at hj
     rw [h2]
     by_cases hj':p.1≤j∧j < p.1 + (cellsV x).length
     ·rw [if_pos hj',kC (by omega)];rfl
     ·rw [if_neg hj'];exact hr.2 j hj
   obtain⟨c',cells',g1,g2,g3,g4⟩:=laid_ok h3 hp.2 (by rw [hxs,e2]) hr1
   refine⟨c',cells',by rw [h5,g1],?_,g3,g4⟩
   rw [g2]
   have:=congrArg List.length h4
   rw [wr_length] at this
   simpa using this
theorem zeroC_ok {t:TypeId} {z:List V} (h:zeroC P t=some z):∃ i zv,P.info? t=some i∧i.zero=some zv∧cellsC zv.cells.toList=some z∧∀ w,(zeroValue t).run P w=.ok zv w:=by
 unfold zeroC at h
 split at h <;> try (cases h;done)
 rename_i i hi
 split at h <;> try (cases h;done)
 rename_i zv hz
 exact⟨i,zv,hi,hz,h,λw=>by simp [zeroValue,run_typeInfo' w hi,hz]⟩
theorem run_places:∀ {fs:List Field},sized P fs=true→∃ pl:List (Nat × Nat),(∀ w,(fs.mapM λf=>do pure (f.offset,← sizeOf f.type):Sem (List (Nat × Nat))).run P w=.ok pl w)∧∀ (i:Nat) (f:Field) (n:Nat),fs[i]?=some f→sizeC P f.type=some n→pl[i]?=some (f.offset,n)
 | [],h=>⟨[],λw=>rfl,λi f n hf=>by simp at hf⟩
 | f::fs,h=>by
  simp only [sized] at h
  split at h <;> try (cases h;done)
  rename_i n hn
  obtain⟨pl,h1,h2⟩:=run_places h
  obtain⟨i,hi,hin⟩:=sizeC_ok hn
  refine⟨(f.offset,n)::pl,λw=>?_,λj g m hg hm=>?_⟩
  ·simp only [List.mapM_cons,Sem.run_bind,run_sizeOf' w hi,Result.andThen_ok,Sem.run_pure,h1,hin]
  ·cases j with
   | zero =>
    simp at hg;subst hg
    rw [hn] at hm
    simp at hm;subst hm;rfl
   | succ j=>simp at hg ⊢;exact h2 j g m hg hm
theorem partsF_ok {t:TypeId} {fs:Array Field} {pl:List (Nat × Nat)} (ht:P.underlying t=some (.struct fs)) (hpl:∀ (i:Nat) (f:Field) (n:Nat),fs.toList[i]?=some f→sizeC P f.type=some n→pl[i]?=some (f.offset,n)) :
  ∀ {l:List (Nat × Operand)} {ps:List (Nat × Nat)},partsF P t l=some ps→(l.map λp=>(pl.toArray)[p.1]?)=ps.map some
 | [],ps,h=>by simp [partsF] at h;subst h;rfl
 | (i,x)::l,ps,h=>by
  simp only [partsF] at h
  split at h <;> try (cases h;done)
  rename_i f hf
  split at h <;> try (cases h;done)
  rename_i n r hn hr
  simp only [Option.some.injEq] at h;subst h
  obtain⟨fs',h1,h2⟩:=fieldC_ok hf
  rw [ht] at h1;cases h1
  simp only [List.map_cons]
  rw [partsF_ok ht hpl hr]
  congr 1
  have:=hpl i f n (by simpa using h2) hn
  simpa using this
theorem partsA_ok {sz:Nat}:∀ {l:List (Nat × Operand)},(l.map λp=>(some (p.1 * sz,sz):Option (Nat × Nat)))=(partsA sz l).map some
 | []=>rfl
 | (i,x)::l=>by simp only [List.map_cons,partsA];rw [partsA_ok]
theorem vBuild_ok {D:Type} {σ:H D} {z:List V} {zv:Value} {place:Nat→Option (Nat × Nat)} {parts:List (Nat × Value)} {ps:List (Nat × Nat)} {xs:List V} {k:V→H D→R} (hz:cellsC zv.cells.toList=some z)
  (hp:parts.map (λp=>place p.1)=ps.map some) (hd:decs φ xs=some (parts.map (·.2))) (h:vBuild z z.length ps xs σ k=.ok) :
  ∃ l cells,Instr.fill place zv.cells parts=some cells∧dec φ (.a l)=some (.agg cells)∧k (.a l) σ=.ok:=by
 obtain⟨c,h1,h2⟩:=trOf_ok h
 have hr:RowR φ c zv.cells.toList:=rowR_of h1 (cellsC_dec hz) (cellsC_one hz).1
 obtain⟨c',cells',h3,h4,h5,h6⟩:=laid_ok h2 hp hd hr
 obtain⟨l,h7,h8,h9⟩:=rdFrom_ok h6
 have hlen:z.length=zv.cells.toList.length:=(decs_length (cellsC_dec (φ:=φ) hz)).symm
 refine⟨l,cells',h3,?_,h9⟩
 have:decs φ l=some cells'.toList:=h5.read (by rw [h7,hlen];simpa using h4.symm) λi hi=>by
  have:=h8 i (by rw [hlen];simp at hi ⊢;omega)
  simpa using this
 simp [dec,this]
theorem map_parts (ps:Array (Nat × Operand)) (ρ:Operand→Value):(ps.map λ(i,x)=>(i,ρ x)).toList=ps.toList.map λp=>(p.1,ρ p.2):=by simp
theorem pure_build_s {D:Type} {σ:H D} {k:V→H D→R} {t:TypeId} {ps:Array (Nat × Operand)} {fs:Array Field} {z:List V} {l:List (Nat × Nat)} {us:List V} (ho:o.op=.build t ps) (ht:P.underlying t=some (.struct fs)) (hz:zeroC P t=some z) (hl:partsF P t ps.toList=some l)
  (hs:sized P fs.toList=true) (hus:decs φ us=some ((ps.toList.map (·.2)).map ρ)) (h:vBuild z z.length l us σ k=.ok):PureOK P φ ρ o (λu=>k u σ):=by
 obtain⟨i,zv,hi,hzv,hzc,hrun⟩:=zeroC_ok hz
 obtain⟨pl,h1,h2⟩:=run_places hs
 obtain⟨l',cells,h3,h4,h5⟩:=vBuild_ok (φ:=φ) (place:=(pl.toArray[·]?)) (parts:=ps.toList.map λp=>(p.1,ρ p.2)) hzc (by rw [List.map_map];exact partsF_ok ht h2 hl) (by rw [hus];simp) h
 refine PureOK.mk (s:=Instr.build t (ps.map λ(i,x)=>(i,ρ x))) (by simp [execOp,ho]) h4 (λw=>?_) h5
 simp only [Instr.build,Sem.run_bind,hrun,Result.andThen_ok,run_underlying' w ht]
 rw [Array.mapM_eq_mapM_toList]
 simp only [Sem.run_bind,Sem.run_map,h1,Result.andThen_ok]
 rw [map_parts,h3]
 rfl
theorem pure_build_a {D:Type} {σ:H D} {k:V→H D→R} {t el n:TypeId} {ps:Array (Nat × Operand)} {z:List V} {sz:Nat} {us:List V} (ho:o.op=.build t ps) (ht:P.underlying t=some (.array n el)) (hz:zeroC P t=some z) (hsz:sizeC P el=some sz)
  (hus:decs φ us=some ((ps.toList.map (·.2)).map ρ)) (h:vBuild z z.length (partsA sz ps.toList) us σ k=.ok):PureOK P φ ρ o (λu=>k u σ):=by
 obtain⟨i,zv,hi,hzv,hzc,hrun⟩:=zeroC_ok hz
 obtain⟨inf,hinf,hin⟩:=sizeC_ok hsz
 obtain⟨l',cells,h3,h4,h5⟩:=vBuild_ok (φ:=φ) (place:=λi=>some (i * sz,sz)) (parts:=ps.toList.map λp=>(p.1,ρ p.2)) hzc (by rw [List.map_map];exact partsA_ok) (by rw [hus];simp) h
 refine PureOK.mk (s:=Instr.build t (ps.map λ(i,x)=>(i,ρ x))) (by simp [execOp,ho]) h4 (λw=>?_) h5
 simp only [Instr.build,Sem.run_bind,hrun,Result.andThen_ok,run_underlying' w ht,run_sizeOf' w hinf,hin]
 rw [map_parts,h3]
 rfl
theorem pure_pick {D:Type} {σ:H D} {k:V→H D→R} {c a b:Operand} (hc:Cx φ loc L e ρ) (ho:o.op=.pick c a b)
  (h:bindK (λj=>getO (opd loc c) L e λc=>c.onB (λc=>iff' c (getO (opd loc a) L e λv=>j v) (getO (opd loc b) L e λv=>j v)) 10) (λv=>k v σ)=.ok):PureOK P φ ρ o (λu=>k u σ):=by
 unfold bindK at h
 obtain⟨u,h1,h2⟩:=getO_ok h
 obtain⟨x,rfl,h3⟩:=onB_ok h2
 have ec:=dec_b (hc.opd h1)
 rcases iff_t h3 with⟨rfl,h4⟩ | ⟨rfl,h4⟩
 ·obtain⟨v,h5,h6⟩:=getO_ok h4
  exact⟨v,ρ a,hc.opd h5,λw=>by simp [execOp,ho,ec,asBool],h6⟩
 ·obtain⟨v,h5,h6⟩:=getO_ok h4
  exact⟨v,ρ b,hc.opd h5,λw=>by simp [execOp,ho,ec,asBool],h6⟩
end
section
variable {P:Program} {φ:Phi} {loc:List (Option Nat)} {L:Lc} {e:E} {ρ:Operand→Value} {o:Oper} {k:V→R}
theorem ba_ext {a b:ByteArray} (h:a.data.toList=b.data.toList):a=b:=by
 cases a;cases b;congr 1;exact Array.ext' h
theorem bytesOf_append (a b:List Nat):bytesOf a++bytesOf b=bytesOf (a++b):=by
 apply ba_ext;simp [bytesOf,ByteArray.data_append]
theorem bytesOf_extract (l:List Nat) (o h:Nat):(bytesOf l).extract o h=bytesOf ((l.drop o).take (h - o)):=by
 apply ba_ext
 simp [bytesOf,ByteArray.data_extract,List.map_drop,List.map_take]
theorem bytesOf_size (l:List Nat):(bytesOf l).size=l.length:=by
 show (l.map UInt8.ofNat).toArray.size=_;simp
theorem pure_cat {t yt:Nat} {x y:Operand} {a b:V} (ho:o.op=.binOp .add t x y yt) (hx:dec φ a=some (ρ x)) (hy:dec φ b=some (ρ y)) (h:vCat a b k=.ok):PureOK P φ ρ o k:=by
 obtain⟨l,e1,h1⟩:=onS_ok (x:=a) h
 clear h;subst e1
 obtain⟨m,e2,h2⟩:=onS_ok h1
 clear h1;subst e2
 obtain⟨hb,h3⟩:=iff_ok h2
 have hb':l.length + m.length≤1000000:=Nat.le_of_ble_eq_true hb
 refine pure_bin (yn:=false) ho (by simp) (val:=.string (bytesOf (l++m))) ?_ (by simp [dec]) h3
 rw [dec_s hx,dec_s hy]
 simp only [sBin,Need,bytesOf_size,bytesOf_append]
 refine⟨?_,trivial⟩
 simp [IntKind.max,IntKind.signed,IntKind.bits];omega
theorem run_bound {κ:IntKind} {i y:Nat} {c:BoundsCode} {w:World} (h:i≤y):(Instr.sliceBound (.int κ (i:Int)) y c).run P w=.ok i w:=by
 simp [Instr.sliceBound,asIntOf,h]
def OptR (φ:Phi) (ρ:Operand→Value) (x:Option Operand) (u:Option V):Prop:=match x,u with
 | none,none=>True
 | some x,some u=>dec φ u=some (ρ x)
 | _,_=>False
theorem optI_ok {x:Option Operand} {u:Option V} {d:Nat} {k:Nat→R} (hr:OptR φ ρ x u) (h:optI u d k=.ok):∃ i,((x=none∧i=d)∨∃ z κ,x=some z∧ρ z=.int κ (.ofNat i))∧k i=.ok:=by
 cases x <;> cases u <;> simp only [OptR] at hr
 ·exact⟨d,.inl ⟨rfl,rfl⟩,h⟩
 ·rename_i x u
  obtain⟨κ,i,rfl,h1⟩:=asI_ok (show asI u k=.ok from h)
  exact⟨i,.inr ⟨x,κ,rfl,dec_i hr⟩,h1⟩
theorem run_bounds {isS:Bool} {len cap:Nat} {lo hi:Option Operand} {l h:Nat} {w:World} (hh:(hi=none∧h=len)∨∃ z κ,hi=some z∧ρ z=.int κ (.ofNat h)) (hl:(lo=none∧l=0)∨∃ z κ,lo=some z∧ρ z=.int κ (.ofNat l))
  (h1:l≤h) (h2:h≤cap):(Instr.sliceBounds isS len cap (lo.map ρ) (hi.map ρ) none).run P w=.ok (l,h,cap) w:=by
 rcases hh with⟨rfl,rfl⟩ | ⟨z,κ,rfl,ez⟩ <;> rcases hl with⟨rfl,rfl⟩ | ⟨z',κ',rfl,ez'⟩
 ·simp [Instr.sliceBounds]
 ·simp [Instr.sliceBounds,ez',run_bound h1]
 ·simp [Instr.sliceBounds,ez,run_bound h2]
 ·simp [Instr.sliceBounds,ez,ez',run_bound h2,run_bound h1]
theorem pure_slS {t:Nat} {x:Operand} {lo hi:Option Operand} {u:V} {ul uh:Option V} (ho:o.op=.slice t x lo hi none) (ht:P.underlying t=some .string) (hx:dec φ u=some (ρ x)) (hlo:OptR φ ρ lo ul) (hhi:OptR φ ρ hi uh)
  (h:vSlS ul uh u k=.ok):PureOK P φ ρ o k:=by
 obtain⟨l,e1,h1⟩:=onS_ok (x:=u) h
 clear h;subst e1
 obtain⟨hn,r1,h2⟩:=optI_ok hhi h1
 obtain⟨ln,r2,h3⟩:=optI_ok hlo h2
 obtain⟨hb,h4⟩:=iff_ok h3
 simp only [Bool.and_eq_true] at hb
 have b1:=Nat.le_of_ble_eq_true hb.1
 have b2:=Nat.le_of_ble_eq_true hb.2
 refine PureOK.mk (s:=Instr.sliceAt t (ρ x) (lo.map ρ) (hi.map ρ) none) (y:=.string (bytesOf ((l.drop ln).take (hn - ln)))) (by simp [execOp,ho]) (by simp [dec]) (λw=>?_) h4
 rw [dec_s hx]
 simp only [Instr.sliceAt,Sem.run_bind,run_underlying' w ht,Result.andThen_ok,Instr.slice]
 rw [bytesOf_size]
 simp only [Option.isSome_none,Bool.false_eq_true,if_false]
 rw [Sem.run_bind,run_bounds r1 r2 b2 b1]
 simp [bytesOf_extract]
theorem pure_sl {t el:Nat} {x:Operand} {lo hi:Option Operand} {u:V} {ul uh:Option V} {inf:TypeInfo} (ho:o.op=.slice t x lo hi none) (ht:P.underlying t=some (.slice el)) (hi':P.info? el=some inf) (hx:dec φ u=some (ρ x)) (hlo:OptR φ ρ lo ul) (hhi:OptR φ ρ hi uh)
  (h:vSl inf.size ul uh u k=.ok):PureOK P φ ρ o k:=by
 have run:∀ {a:Option Addr} {len cap l h:Nat} (w:World),ρ x=.slice a len cap→((hi=none∧h=len)∨∃ z κ,hi=some z∧ρ z=.int κ (.ofNat h))→((lo=none∧l=0)∨∃ z κ,lo=some z∧ρ z=.int κ (.ofNat l))→l≤h→h≤cap →
   (Instr.sliceAt t (ρ x) (lo.map ρ) (hi.map ρ) none).run P w=.ok (.slice (if cap=l then a else a.map (·.add (l * inf.size))) (h - l) (cap - l)) w:=by
  intro a len cap l h w ex r1 r2 b1 b2
  rw [ex]
  simp only [Instr.sliceAt,Sem.run_bind,run_underlying' w ht,Result.andThen_ok,Instr.slice]
  rw [run_bounds r1 r2 b1 b2]
  simp only [Result.andThen_ok,run_sizeOf' w hi',Sem.run_bind,Sem.run_pure]
 rcases onSlN_ok (x:=u) h with⟨e1,h1⟩ | ⟨v,off,n,c,e1,h1⟩
 ·clear h;subst e1
  have ex:ρ x=.slice none 0 0:=by simpa [dec] using hx.symm
  obtain⟨hn,r1,h2⟩:=optI_ok hhi h1
  obtain⟨ln,r2,h3⟩:=optI_ok hlo h2
  obtain⟨hb,h4⟩:=iff_ok h3
  simp only [Bool.and_eq_true] at hb
  have b1:=kB hb.1
  have b2:=kB hb.2
  subst b1 b2
  exact PureOK.mk (y:=.slice none 0 0) (by simp [execOp,ho];rfl) (by simp [dec]) (λw=>by rw [run w ex r1 r2 (Nat.le_refl _) (Nat.le_refl _)];simp) h4
 ·clear h;subst e1
  obtain⟨M,hM,ex,hcap⟩:=dec_sl hx
  obtain⟨hn,r1,h2⟩:=optI_ok hhi h1
  obtain⟨ln,r2,h3⟩:=optI_ok hlo h2
  obtain⟨hb,h4⟩:=iff_ok h3
  simp only [Bool.and_eq_true] at hb
  have b1:=Nat.le_of_ble_eq_true hb.1
  have b2:=Nat.le_of_ble_eq_true hb.2
  have fin:∀ {u':V} {y:Value},dec φ u'=some y→y=.slice (if capOf M c=ln then (some ⟨M.blk,M.base + off,none⟩) else (some ⟨M.blk,M.base + off + ln * inf.size,none⟩)) (hn - ln) (capOf M c - ln)→k u'=.ok→PureOK P φ ρ o k:=λhd hy hk =>
   PureOK.mk (by simp [execOp,ho];rfl) hd (λw=>by rw [run w ex r1 r2 b1 (by omega),hy];simp [add_eq]) hk
  cases c with
  | ex c =>
   rcases iff_t (show iff' _ _ _=.ok from h4) with⟨g1,g2⟩ | ⟨g1,g2⟩
   ·have g1':ln < c:=by simpa using g1
    refine fin (dec_sl_mk (M:=M) hM (by simp only [capOf] at hcap ⊢;show hn - ln≤c - ln;omega)) ?_ g2
    rw [if_neg (show ¬ capOf M (.ex c)=ln by simp only [capOf];omega)]
    show Value.slice (some ⟨M.blk,M.base + (off + ln * inf.size),none⟩) (hn - ln) (c - ln)=_
    rw [Nat.add_assoc] <;> rfl
   ·obtain⟨g3,g4⟩:=iff_ok g2
    have g3':=kB g3
    simp only [capOf] at hcap
    refine fin (dec_sl_mk (M:=M) hM (by simp [capOf])) ?_ g4
    rw [if_pos (show capOf M (.ex c)=ln by simp only [capOf];omega)]
    simp only [capOf]
    congr 1 <;> omega
  | re r =>
   rcases iff_t (show iff' _ _ _=.ok from h4) with⟨g1,g2⟩ | ⟨g1,g2⟩
   ·have g1':=kB g1
    subst g1'
    refine fin (dec_sl_mk (M:=M) hM (by simp only [capOf] at hcap ⊢;omega)) ?_ g2
    simp [capOf]
   ·rcases iff_t g2 with⟨g3,g4⟩ | ⟨g3,g4⟩
    ·have g3':ln < n:=by simpa using g3
     simp only [capOf] at hcap
     refine fin (dec_sl_mk (M:=M) hM (by simp only [capOf];show hn - ln≤M.cap - (r + ln);omega)) ?_ g4
     rw [if_neg (show ¬ capOf M (.re r)=ln by simp only [capOf];omega)]
     show Value.slice (some ⟨M.blk,M.base + (off + ln * inf.size),none⟩) (hn - ln) (M.cap - (r + ln))=_
     rw [Nat.add_assoc] <;> (first | rfl | (simp only [capOf];rw [Nat.sub_sub]))
    ·obtain⟨g5,g6⟩:=iff_ok g4
     have g5':=kB g5
     subst g5'
     refine fin (u':=.se v off r ln inf.size) (y:=.slice (some ⟨M.blk,if M.cap - r=ln then M.base + off else M.base + off + ln * inf.size,none⟩) 0 (M.cap - r - ln)) (by simp [dec,hM]) ?_ g6
     have:capOf M (.re r)=M.cap - r:=rfl
     by_cases hh:M.cap - r=ln
     ·rw [if_pos hh,if_pos (show capOf M (.re r)=ln from hh),Nat.sub_self];rfl
     ·rw [if_neg hh,if_neg (show ¬ capOf M (.re r)=ln from hh),Nat.sub_self];rfl
theorem pure_sl3 {t el:Nat} {x hi mx:Operand} {lo:Option Operand} {u uh um:V} {ul:Option V} {inf:TypeInfo} (ho:o.op=.slice t x lo (some hi) (some mx)) (ht:P.underlying t=some (.slice el)) (hi':P.info? el=some inf) (hx:dec φ u=some (ρ x)) (hlo:OptR φ ρ lo ul)
  (hhi:dec φ uh=some (ρ hi)) (hmx:dec φ um=some (ρ mx)) (h:vSl3 inf.size ul uh um u k=.ok):PureOK P φ ρ o k:=by
 obtain⟨κh,hn,e1,h1⟩:=asI_ok h
 clear h;subst e1
 obtain⟨κm,mn,e2,h2⟩:=asI_ok h1
 clear h1;subst e2
 have eh:=dec_i hhi
 have em:=dec_i hmx
 obtain⟨ln,r2,h3⟩:=optI_ok hlo h2
 have run:∀ {a:Option Addr} {len cap:Nat} (w:World),ρ x=.slice a len cap→ln≤hn→hn≤mn→mn≤cap →
   (Instr.sliceAt t (ρ x) (lo.map ρ) (some (ρ hi)) (some (ρ mx))).run P w=.ok (.slice (if mn=ln then a else a.map (·.add (ln * inf.size))) (hn - ln) (mn - ln)) w:=by
  intro a len cap w ex b1 b2 b3
  rw [ex,eh,em]
  simp only [Instr.sliceAt,Sem.run_bind,run_underlying' w ht,Result.andThen_ok,Instr.slice,Instr.sliceBounds,if_true,Int.ofNat_eq_natCast,run_bound b3,run_bound b2,Option.isSome_some]
  rcases r2 with⟨rfl,rfl⟩ | ⟨z,κ,rfl,ez⟩
  ·simp [run_sizeOf' w hi']
  ·simp [ez,run_bound b1,run_sizeOf' w hi']
 rcases onSlN_ok (x:=u) h3 with⟨e1,h4⟩ | ⟨v,off,n,c,e1,h4⟩
 ·subst e1
  obtain⟨hb,h5⟩:=iff_ok h4
  simp only [Bool.and_eq_true] at hb
  have b1:=kB hb.1.1
  have b2:=kB hb.1.2
  have b3:=kB hb.2
  subst b1 b2 b3
  have ex:ρ x=.slice none 0 0:=by simpa [dec] using hx.symm
  exact PureOK.mk (y:=.slice none 0 0) (by simp [execOp,ho];rfl) (by simp [dec]) (λw=>by rw [run w ex (Nat.le_refl _) (Nat.le_refl _) (Nat.le_refl _)];simp) h5
 ·subst e1
  obtain⟨hb,h5⟩:=iff_ok h4
  simp only [Bool.and_eq_true] at hb
  have b1:=Nat.le_of_ble_eq_true hb.1.1
  have b2:=Nat.le_of_ble_eq_true hb.1.2
  have b3:=Nat.le_of_ble_eq_true hb.2
  obtain⟨M,hM,ex,hcap⟩:=dec_sl hx
  have fin:∀ {u':V} {y:Value},dec φ u'=some y→y=.slice (if mn=ln then (some ⟨M.blk,M.base + off,none⟩) else (some ⟨M.blk,M.base + off + ln * inf.size,none⟩)) (hn - ln) (mn - ln)→k u'=.ok→PureOK P φ ρ o k:=λhd hy hk =>
   PureOK.mk (by simp [execOp,ho];rfl) hd (λw=>by rw [run w ex b1 b2 (by omega),hy];simp [add_eq]) hk
  rcases iff_t h5 with⟨g1,g2⟩ | ⟨g1,g2⟩
  ·have g1':=kB g1
   refine fin (dec_sl_mk (M:=M) hM (by simp [capOf])) ?_ g2
   rw [if_pos g1'];simp [capOf];omega
  ·have g1':=Nat.ne_of_beq_eq_false g1
   refine fin (dec_sl_mk (M:=M) hM (by simp only [capOf];show hn - ln≤mn - ln;omega)) ?_ g2
   rw [if_neg g1']
   show Value.slice (some ⟨M.blk,M.base + (off + ln * inf.size),none⟩) (hn - ln) (mn - ln)=_
   rw [Nat.add_assoc] <;> rfl
theorem pure_slA {t el len:Nat} {x:Operand} {lo hi:Option Operand} {u:V} {ul uh:Option V} {inf:TypeInfo} (ho:o.op=.slice t x lo hi none) (ht:P.underlying t=some (.array len el)) (hi':P.info? el=some inf) (hx:dec φ u=some (ρ x)) (hlo:OptR φ ρ lo ul) (hhi:OptR φ ρ hi uh)
  (h:vSlA len inf.size ul uh u k=.ok):PureOK P φ ρ o k:=by
 obtain⟨v,off,e1,h1⟩:=onP_ok (x:=u) h
 clear h;subst e1
 obtain⟨M,hM,ex⟩:=dec_p hx
 obtain⟨hn,r1,h2⟩:=optI_ok hhi h1
 obtain⟨ln,r2,h3⟩:=optI_ok hlo h2
 obtain⟨hb,h4⟩:=iff_ok h3
 simp only [Bool.and_eq_true] at hb
 have b1:=Nat.le_of_ble_eq_true hb.1.1
 have b2:=Nat.le_of_ble_eq_true hb.1.2
 have b3:ln < len:=by simpa using hb.2
 refine PureOK.mk (s:=Instr.sliceAt t (ρ x) (lo.map ρ) (hi.map ρ) none) (by simp [execOp,ho]) (dec_sl_mk (M:=M) hM (by simp only [capOf];show hn - ln≤len - ln;omega)) (λw=>?_) h4
 rw [ex]
 simp only [Instr.sliceAt,Sem.run_bind,run_underlying' w ht,Result.andThen_ok,Instr.sureAddr,Sem.run_pure]
 rw [run_bounds r1 r2 b1 b2]
 simp only [Result.andThen_ok,run_sizeOf' w hi',Sem.run_bind,Sem.run_pure]
 rw [if_neg (show ¬ len=ln by omega),add_eq]
 show Result.ok (Value.slice (some ⟨M.blk,M.base + off + ln * inf.size,none⟩) (hn - ln) (len - ln)) w=Result.ok (Value.slice (some ⟨M.blk,M.base + (off + ln * inf.size),none⟩) (hn - ln) (len - ln)) w
 rw [Nat.add_assoc]
theorem pure_mkf {F:Nat} {first cap:Array Operand} {us:List V} (ho:o.op=.makeFunc (.func F) first cap) (hus:decs φ us=some ((first.toList++cap.toList).map ρ)) (h:k (.f F (us.take first.toList.length) (us.drop first.toList.length))=.ok):PureOK P φ ρ o k:=by
 have hl:=decs_length hus
 have h1:decs φ (us.take first.toList.length)=some (first.toList.map ρ):=by
  refine decs_mk (by simp at hl ⊢;omega) λi x hx=>?_
  rw [List.getElem?_take] at hx
  split at hx <;> try (cases hx;done)
  rename_i hi
  obtain⟨y,h2,h3⟩:=decs_get hus hx
  rw [List.map_append,List.getElem?_append_left (by simpa using hi)] at h2
  exact⟨y,h2,h3⟩
 have h2:decs φ (us.drop first.toList.length)=some (cap.toList.map ρ):=by
  refine decs_mk (by simp at hl ⊢;omega) λi x hx=>?_
  rw [List.getElem?_drop] at hx
  obtain⟨y,h2,h3⟩:=decs_get hus hx
  rw [List.map_append,List.getElem?_append_right (by simp)] at h2
  simp at h2
  exact⟨y,by simpa using h2,h3⟩
 exact PureOK.mk (s:=Instr.makeFunc (.func F) (first.map ρ) (cap.map ρ)) (y:=.func (.func F) (first.toList.map ρ).toArray (cap.toList.map ρ).toArray) (by simp [execOp,ho]) (by simp only [dec,h1,h2];rfl) (λw=>by
  have e1:(first.toList.map ρ).toArray=first.map ρ:=by apply Array.ext';simp
  have e2:(cap.toList.map ρ).toArray=cap.map ρ:=by apply Array.ext';simp
  rw [e1,e2];rfl) h
theorem pure_mki {t el:Nat} {x:Operand} {u:V} (ho:o.op=.makeInterface t x) (ht:P.underlying t=some (.pointer el)) (hx:dec φ u=some (ρ x)) (h:k (.q t u)=.ok):PureOK P φ ρ o k :=
 PureOK.mk (s:=Instr.makeInterface t (ρ x)) (y:=.iface t (ρ x)) (by simp [execOp,ho]) (by simp [dec,hx]) (λw=>by simp [Instr.makeInterface,run_underlying' w ht]) h
theorem pure_s2s {s d:Nat} {x:Operand} {u:V} (ho:o.op=.convert s d x) (hs:P.underlying s=some .string) (hd:P.underlying d=some .string) (hx:dec φ u=some (ρ x)) (h:vS2S u k=.ok):PureOK P φ ρ o k:=by
 obtain⟨l,e1,h1⟩:=onS_ok (x:=u) h
 clear h;subst e1
 exact PureOK.mk (s:=convert s d (ρ x)) (by simp [execOp,ho]) hx (λw=>by
  rw [dec_s hx]
  simp [convert,run_underlying' w hs,run_underlying' w hd]) h1
end
section
variable {D:Type} {P:Program} {Hd:D→Loc→View→Prop} {w0:World} {φ:Phi} {σ:H D} {w:World} {loc:List (Option Nat)} {L:Lc} {e:E} {ρ:Operand→Value} {o:Oper} {k:V→H D→R}
def OpOK (P:Program) (Hd:D→Loc→View→Prop) (w0:World) (φ:Phi) (σ:H D) (w:World) (ρ:Operand→Value) (o:Oper) (k:V→H D→R):Prop:=Go.Fk.Good P (Post P Hd w0 φ σ k) ((execOp ρ o).run P w)
theorem OpOK.ofPure (hr:Rel P Hd w0 φ σ w) (h:PureOK P φ ρ o (λu=>k u σ)):OpOK P Hd w0 φ σ w ρ o k:=by
 obtain⟨u,y,h1,h2,h3⟩:=h
 unfold OpOK
 rw [h2]
 exact Post.pure hr h1 h3
theorem OpOK.val {s:Sem Value} {y:Value} {w':World} (hx:execOp ρ o=(do pure (Next.value (← s)):Sem Next)) (hs:s.run P w=.ok y w') (h:Post P Hd w0 φ σ k y w'):OpOK P Hd w0 φ σ w ρ o k:=by
 unfold OpOK
 rw [hx,run_v hs]
 exact h
theorem OpOK.unit {s:Sem Unit} {w':World} (hx:execOp ρ o=(do s;pure Next.skip:Sem Next)) (hs:s.run P w=.ok () w') (h:Post P Hd w0 φ σ k undef w'):OpOK P Hd w0 φ σ w ρ o k:=by
 unfold OpOK
 rw [hx,run_u hs]
 exact h
theorem op_ld {t:Nat} {a:Operand} {u:V} {ud:TypeDesc} (ho:o.op=.load t a) (ht:P.underlying t=some ud) (ha:isAggD ud=false) (hr:Rel P Hd w0 φ σ w) (hx:dec φ u=some (ρ a)) (h:vLd u σ (λu=>k u σ)=.ok):OpOK P Hd w0 φ σ w ρ o k:=by
 obtain⟨v,off,ex,n,c,ty,sz,x,rfl,h1,h2,h3⟩:=vLd_ok h
 obtain⟨ad,z,e1,e2,e3,_,_⟩:=hr.cell h1 h2 hx
 exact OpOK.val (s:=Instr.loadAt t (ρ a)) (by simp [execOp,ho]) (by simp [e1,Instr.loadAt,Instr.sureAddr,loadVar,run_isAgg' w ht,ha,load,Sem.run,e2]) (Post.pure hr e3 h3)
theorem cells_list {v:Vid} {ex:Bool} {n:Nat} {c:Tr V} {ty sz off m:Nat} {l:List V} (hr:Rel P Hd w0 φ σ w) (h1:σ.look v=some (.cells ex n c ty sz)) (hl:l.length=m) (hg:∀ i,i < m→c.get (off + i)=l[i]?) {y:Value} (hy:dec φ (.p v off)=some y) :
  ∃ a vs,y=.pointer (some a)∧decs φ l=some vs∧vs.length=m∧(∀ v∈vs,oneCell v=true)∧∀ (j:Nat) v,vs[j]?=some v→w.cell? (a.add j)=some v:=by
 obtain⟨M,cs,g1,g2,g3⟩:=hr.cells h1
 obtain⟨M',g4,rfl⟩:=dec_p hy
 rw [g1] at g4;cases g4
 have key:∀ i x,l[i]?=some x→∃ z,cs[M.base + (off + i)]?=some z∧dec φ x=some z∧oneCell z=true:=by
  intro i x hx
  have hi:i < m:=by rw [← hl];exact (kA hx).1
  obtain⟨_,z,a1,a2,a3⟩:=g3.get _ x (by rw [hg i hi,hx])
  exact⟨z,a2,a1,a3⟩
 refine⟨_,(List.range m).map λi=>cs[M.base + (off + i)]?.getD undef,rfl,decs_mk (by simp [hl]) λi x hx=>?_,by simp,λv hv=>?_,λj v hv=>?_⟩
 ·have hi:i < m:=by rw [← hl];exact (kA hx).1
  obtain⟨z,a1,a2,_⟩:=key i x hx
  exact⟨z,by simp [hi,a1],a2⟩
 ·obtain⟨i,hi,rfl⟩:=List.mem_map.1 hv
  have hi':i < l.length:=by rw [hl];simpa using hi
  obtain⟨z,a1,_,a3⟩:=key i _ (kC hi')
  simpa [a1] using a3
 ·obtain⟨hj,hv'⟩:=kA hv
  have hj':j < l.length:=by rw [hl];simpa using hj
  obtain⟨z,a1,_,a3⟩:=key j _ (kC hj')
  simp [a1] at hv'
  subst hv'
  rw [add_eq]
  exact cell_of g3.at_ (by rw [← a1];congr 1;omega)
theorem op_ldA {t:Nat} {a:Operand} {u:V} {ud:TypeDesc} {n:Nat} (ho:o.op=.load t a) (ht:P.underlying t=some ud) (ha:isAggD ud=true) (hn:sizeC P t=some n) (hr:Rel P Hd w0 φ σ w) (hx:dec φ u=some (ρ a)) (h:vLdA n u σ (λu=>k u σ)=.ok):OpOK P Hd w0 φ σ w ρ o k:=by
 obtain⟨v,off,ex,m,c,ty,sz,l,rfl,h1,h2,h3,h4⟩:=vLdA_ok h
 obtain⟨ad,vs,e1,e2,e3,_,e5⟩:=cells_list hr h1 h2 h3 hx
 obtain⟨inf,hi,hin⟩:=sizeC_ok hn
 refine OpOK.val (s:=Instr.loadAt t (ρ a)) (y:=.agg vs.toArray) (by simp [execOp,ho]) ?_ (Post.pure hr (by simp [dec,e2]) h4)
 have:=run_loadCells (P:=P) e5
 rw [e3] at this
 simp [e1,Instr.loadAt,Instr.sureAddr,loadVar,run_isAgg' w ht,ha,run_sizeOf' w hi,hin,this]
theorem newAt (w:World) (ob:Obj):New w.heap.size ob w (w.alloc ob):=by
 have:Al ob w (λb w'=>b=w.heap.size∧w'=w.alloc ob∧New b ob w w'):=by
  refine⟨rfl,rfl,⟨rfl,?_,⟨rfl,rfl,rfl,by simp,λb hb _=>?_⟩,by simp⟩⟩
  ·show (w.heap.push ob)[w.heap.size]?=some ob
   simp
  ·show (w.heap.push ob)[b]?=_
   rw [Array.getElem?_push,if_neg (by omega)]
 exact this.2.2
theorem run_newObj (w:World) (ob:Obj):(newObj ob).run P w=.ok w.heap.size (w.alloc ob):=rfl
theorem new_cells {ex:Bool} {n:Nat} {c:Tr V} {ty sz cap:Nat} {cells:Array Value} {v:Vid} {kk:H D→R} (hr:Rel P Hd w0 φ σ w) (hk:σ.add v (.cells ex n c ty sz) kk=.ok)
  (hc:∀ i u,c.get i=some u→i < n∧∃ y,cells[i]?=some y∧dec φ u=some y∧oneCell y=true) (hfull:ex=true→cells.size=n) (ho:ex=false→0 < sz∧n≤cap * sz∧cap * sz≤cells.size) :
  ∃ φ' σ',φ.le φ'∧φ' v=some ⟨w.heap.size,0,cap⟩∧Rel P Hd w0 φ' σ' (w.alloc (.cells cells ty))∧Ext σ σ'∧kk σ'=.ok:=by
 obtain⟨h1,σ',h2,h3,h4⟩:=H.add_ok hk
 have hle:=Phi.with_le (L:=⟨w.heap.size,0,cap⟩) (hr.gone v h1)
 refine⟨φ.with v ⟨w.heap.size,0,cap⟩,σ',hle,Phi.with_eq,?_,Ext.put h2 h3,h4⟩
 refine hr.new h1 (newAt w _) h2 ⟨hr.keeps.size,cells,⟨?_,λi u hu=>?_,λhe=>⟨hfull he,rfl⟩,λhe=>?_⟩⟩
 ·exact (newAt w _).at_
 ·obtain⟨g1,y,g2,g3,g4⟩:=hc i u hu
  exact⟨g1,y,dec_mono hle _ _ g3,by simpa using g2,g4⟩
 ·obtain⟨g1,g2,g3⟩:=ho he
  exact⟨g1,g2,λ_=>by simpa using g3⟩
theorem mkRow_ok {l:List V} {ty sz:Nat} {cells:Array Value} {v:Vid} {kk:H D→R} (hr:Rel P Hd w0 φ σ w) (hk:mkRow v l ty sz σ kk=.ok) (hd:decs φ l=some cells.toList) (h1:∀ x∈cells.toList,oneCell x=true) :
  ∃ φ' σ',φ.le φ'∧φ' v=some ⟨w.heap.size,0,0⟩∧Rel P Hd w0 φ' σ' (w.alloc (.cells cells ty))∧Ext σ σ'∧kk σ'=.ok:=by
 obtain⟨c,h2,h3⟩:=trOf_ok hk
 rw [fN_eq] at h3
 refine new_cells hr h3 (λi u hu=>?_) (λ_=>by rw [← decs_length hd];simp) (λhe=>by cases he)
 rw [h2] at hu
 obtain⟨y,g1,g2⟩:=decs_get hd hu
 exact⟨(kA hu).1,y,by simpa using g1,g2,h1 y (kD g1)⟩
theorem op_new {t:Nat} {z:List V} {v:Vid} (ho:o.op=.alloc t) (hz:zeroC P t=some z) (hr:Rel P Hd w0 φ σ w) (h:vNew z t v σ k=.ok):OpOK P Hd w0 φ σ w ρ o k:=by
 obtain⟨i,zv,hi,hzv,hzc,hrun⟩:=zeroC_ok hz
 obtain⟨φ',σ',h1,h2,h3,h4,h5⟩:=mkRow_ok hr h (cellsC_dec hzc) (cellsC_one hzc).1
 refine OpOK.val (s:=Instr.alloc t true (.tuple #[])) (y:=.pointer (some ⟨w.heap.size,0,none⟩)) (w':=w.alloc (.cells zv.cells t)) (by simp [execOp,ho]) ?_ ⟨φ',_,σ',h1,h3,by simp [dec,h2],h4,h5⟩
 simp [Instr.alloc,hrun,newVar,newRow,run_newObj]
theorem op_box {t:Nat} {x:Operand} {u:V} {v:Vid} (ho:o.op=.box t x) (hr:Rel P Hd w0 φ σ w) (hx:dec φ u=some (ρ x)) (h:vBox t v u σ k=.ok):OpOK P Hd w0 φ σ w ρ o k:=by
 obtain⟨hb,h0⟩:=iff_ok h
 have hcv:=cellsV_dec hx hb
 have h1:∀ y∈cellsL (ρ x),oneCell y=true:=by
  intro y hy
  obtain⟨i,hi⟩:=List.getElem?_of_mem hy
  have hi':i < (cellsV u).length:=by rw [← decs_length hcv];exact (kA hi).1
  obtain⟨y',g1,g2⟩:=decs_get hcv (kC hi')
  rw [hi] at g1;cases g1
  exact oneV_dec g2 (allOne_ok hb _ (List.getElem_mem hi'))
 obtain⟨φ',σ',h1,h2,h3,h4,h5⟩:=mkRow_ok (cells:=(cellsL (ρ x)).toArray) hr h0 (by simpa using hcv) (by simpa using h1)
 refine OpOK.val (s:=Instr.box t (ρ x)) (y:=.pointer (some ⟨w.heap.size,0,none⟩)) (w':=w.alloc (.cells (cellsL (ρ x)).toArray t)) (by simp [execOp,ho]) ?_ ⟨φ',_,σ',h1,h3,by simp [dec,h2],h4,h5⟩
 simp [Instr.box,newVar,newRow,run_newObj,cells_eq]
theorem zeros_eq {zero:Array Value} (hz:0 < zero.size):∀ n,((Array.range (n * zero.size)).map (zero[· % zero.size]!)).toList=((List.replicate n zero.toList).flatten):=by
 intro n
 apply List.ext_getElem?
 intro i
 induction n generalizing i with
 | zero=>simp
 | succ n ih =>
  rw [List.replicate_succ,List.flatten_cons]
  by_cases hi:i < zero.size
  ·rw [List.getElem?_append_left (by simpa using hi)]
   have:i < (n + 1) * zero.size:=by rw [Nat.succ_mul];omega
   simp [this,Nat.mod_eq_of_lt hi,hi]
  ·rw [List.getElem?_append_right (by simpa using hi)]
   have:=ih (i - zero.size)
   rw [show zero.toList.length=zero.size from by simp,← this]
   simp only [Array.toList_map,Array.toList_range,List.getElem?_map,List.getElem?_range']
   by_cases h2:i < (n + 1) * zero.size
   ·have h3:i - zero.size < n * zero.size:=by rw [Nat.succ_mul] at h2;omega
    rw [List.getElem?_range h2,List.getElem?_range h3]
    simp only [Option.map_some,Option.some.injEq]
    congr 1
    rw [Nat.mod_eq_sub_mod (by omega)]
   ·have h3:¬ i - zero.size < n * zero.size:=by rw [Nat.succ_mul] at h2;omega
    rw [List.getElem?_eq_none (by simpa using h2),List.getElem?_eq_none (by simpa using h3)]
theorem times_dec {z:List V} {m:List Value} (h:decs φ z=some m):∀ n,decs φ (times n z)=some (List.replicate n m).flatten
 | 0=>rfl
 | n + 1=>by
  show decs φ (z++times n z)=_
  rw [List.replicate_succ,List.flatten_cons]
  exact decs_append h (times_dec h n)
theorem timesC_eq (z:List V):∀ n,timesC n z=times n z
 | 0=>rfl
 | n + 1=>by show z++timesC n z=z++times n z;rw [timesC_eq z n]
theorem flat_one {m:List Value} (h:∀ x∈m,oneCell x=true) (n:Nat):∀ x∈(List.replicate n m).flatten,oneCell x=true:=by
 intro x hx
 simp only [List.mem_flatten,List.mem_replicate] at hx
 obtain⟨l,⟨_,rfl⟩,hx⟩:=hx
 exact h x hx
theorem op_bsl {t el len sz:Nat} {ps:Array (Nat × Operand)} {z:List V} {us:List V} {v:Vid} (ho:o.op=.buildSlice t len ps) (ht:P.underlying t=some (.slice el)) (hz:zeroC P el=some z) (hsz:sizeC P el=some sz) (hle:len * sz≤10000) (hlz:z.length=sz) (h0:0 < sz)
  (hr:Rel P Hd w0 φ σ w) (hus:decs φ us=some ((ps.toList.map (·.2)).map ρ)) (h:vBSl (timesC len z) el sz len (len * sz) (partsA sz ps.toList) v us σ k=.ok):OpOK P Hd w0 φ σ w ρ o k:=by
 obtain⟨i,zv,hi,hzv,hzc,hrun⟩:=zeroC_ok hz
 obtain⟨inf,hinf,hin⟩:=sizeC_ok hsz
 have hzd:=cellsC_dec (φ:=φ) hzc
 have hzs:zv.cells.size=sz:=by have:=decs_length hzd;simp at this;omega
 obtain⟨c,h1,h2⟩:=trOf_ok h
 let cells:Array Value:=(Array.range (len * sz)).map (zv.cells[· % zv.cells.size]!)
 have hcells:cells.toList=(List.replicate len zv.cells.toList).flatten:=by
  have:=zeros_eq (zero:=zv.cells) (by omega) len
  rw [hzs] at this
  simpa [cells,hzs] using this
 have hrr:RowR φ c cells.toList:=by
  refine rowR_of (l:=timesC len z) h1 (by rw [timesC_eq,hcells];exact times_dec hzd len) ?_
  rw [hcells];exact flat_one (cellsC_one hzc).1 len
 obtain⟨c',cells',h3,h4,h5,h6⟩:=laid_ok (place:=λi=>some (i * sz,sz)) (parts:=ps.toList.map λp=>(p.1,ρ p.2)) h2 (by rw [List.map_map];exact partsA_ok) (by rw [hus];simp) hrr
 have hsize:cells'.size=len * sz:=by rw [h4];simp [cells]
 obtain⟨φ',σ',g1,g2,g3,g4,g5⟩:=new_cells (cap:=0) (cells:=cells') hr h6 (λi u hu=>by
  obtain⟨y,a1,a2,a3⟩:=h5.1 i u hu
  have:=(kA a1).1
  simp [hsize] at this
  exact⟨this,y,by simpa using a1,a2,a3⟩) (λ_=>hsize) (λhe=>by cases he)
 refine OpOK.val (s:=Instr.buildSlice t len (ps.map λ(i,x)=>(i,ρ x))) (y:=.slice (some ⟨w.heap.size,0,none⟩) len len) (w':=w.alloc (.cells cells' el)) (by simp [execOp,ho]) ?_ ⟨φ',_,σ',g1,g3,by rw [dec_sl_mk g2 (by simp [capOf])];rfl,g4,g5⟩
 simp only [Instr.buildSlice,Sem.run_bind,run_underlying' w ht,Result.andThen_ok,run_sizeOf' w hinf,hin]
 rw [if_neg (by omega)]
 by_cases hl:len * sz=0
 ·have hl0:len=0:=by rcases Nat.mul_eq_zero.1 hl with h | h <;> omega
  subst hl0
  simp only [Nat.zero_mul,if_true,Sem.run_bind,Sem.run_pure,Result.andThen_ok]
  rw [map_parts]
  have:(Array.range 0).map ((#[]:Array Value)[· % (#[]:Array Value).size]!)=cells:=by simp [cells]
  rw [this,h3]
  simp [newRow,run_newObj]
 ·rw [if_neg hl]
  simp only [Sem.run_bind,hrun,Sem.run_pure,Result.andThen_ok]
  rw [map_parts]
  have h3':=h3
  simp only [cells] at h3'
  rw [h3']
  simp [newRow,run_newObj]
end
section
variable {D:Type} {P:Program} {φ φ':Phi}
theorem ba_beq (a b:ByteArray):(a==b)=true↔a=b:=MapKept.bytes_beq a b
theorem kpEq_ok {k:KP} {x y:V} {a b:Value} {t:TypeId} (hx:KPs k x) (hy:KPs k y) (hk:kpOf P t=some k) (ha:dec φ x=some a) (hb:dec φ' y=some b) :
  ∃ r,cellEq P t a b=some r∧(r=true↔a=b)∧∀ yes no,kpEq k x y yes no=iff' r yes no:=by
 unfold kpOf at hk
 cases k with
 | int q =>
  obtain⟨m,rfl⟩:=hx
  obtain⟨n,rfl⟩:=hy
  have e1:=dec_i ha
  have e2:=dec_i hb
  subst e1 e2
  split at hk <;> simp at hk
  rename_i q' hu;subst hk
  refine⟨m==n,by simp [cellEq,hu],by simp,λyes no=>?_⟩
  show iff' (Nat.beq (kIx q') (kIx q')&&Nat.beq (kIx q') (kIx q')) (iff' (ieq m n) yes no) (R.no 63)=_
  rw [Nat.beq_refl,ieq_eq];rfl
 | str =>
  obtain⟨m,rfl⟩:=hx
  obtain⟨n,rfl⟩:=hy
  have e1:=dec_s ha
  have e2:=dec_s hb
  subst e1 e2
  split at hk <;> simp at hk
  rename_i hu
  refine⟨(bytesOf m).toList==(bytesOf n).toList,by simp [cellEq,hu],?_,λyes no=>?_⟩
  ·rw [beq_iff_eq,ByteArray.toList_eq,ByteArray.toList_eq]
   constructor
   ·intro h;rw [ba_ext h]
   ·intro h;have:=congrArg (λv=>match v with | Value.string s=>s | _=>ByteArray.empty) h;simp only at this;rw [this]
  ·show iff' (seq' m n) yes no=_
   rw [seq_eq]
 | bool =>
  obtain⟨m,rfl⟩:=hx
  obtain⟨n,rfl⟩:=hy
  have e1:=dec_b ha
  have e2:=dec_b hb
  subst e1 e2
  split at hk <;> simp at hk
  rename_i hu
  exact⟨m==n,by simp [cellEq,hu],by simp,λyes no=>rfl⟩
theorem kpsEq_ok:∀ {fs:List Field} {i:Nat} {ks:List KP} {xs ys:List V} {az bs:List Value},kpsOf P fs i=some ks→All2 KPs ks xs→All2 KPs ks ys→decs φ xs=some az→decs φ' ys=some bs →
  ∃ r,recEq P fs az bs i=some r∧(r=true↔az=bs)∧∀ yes no,kpsEq ks xs ys yes no=iff' r yes no
 | [],i,ks,xs,ys,az,bs,hk,hx,hy,ha,hb=>by
  simp [kpsOf] at hk;subst hk
  cases hx;cases hy
  simp [decs] at ha hb;subst ha hb
  exact⟨true,rfl,by simp,λyes no=>rfl⟩
 | f::fs,i,ks,xs,ys,az,bs,hk,hx,hy,ha,hb=>by
  simp only [kpsOf] at hk
  split at hk <;> try (cases hk;done)
  rename_i k ks' h1 h2 h3 h4
  simp only [Option.some.injEq] at hk;subst hk
  cases hx with
  | cons hx1 hx2 =>
   cases hy with
   | cons hy1 hy2 =>
    obtain⟨a,az',rfl,e1,e2⟩:=decs_cons_inv ha
    obtain⟨b,bs',rfl,e3,e4⟩:=decs_cons_inv hb
    obtain⟨r,c1,c2,c3⟩:=kpEq_ok hx1 hy1 h3 e1 e3
    obtain⟨s,d1,d2,d3⟩:=kpsEq_ok h4 hx2 hy2 e2 e4
    refine⟨r&&s,?_,by rw [Bool.and_eq_true,c2,d2];simp,λyes no=>?_⟩
    ·cases fs with
     | nil =>
      simp [kpsOf] at h4;subst h4
      cases hx2;cases hy2
      simp [decs] at e2 e4;subst e2 e4
      have hs:s=true:=d2.2 rfl
      simp [recEq,h1,h2,c1,hs]
     | cons g fs =>
      simp only [recEq,h1,h2]
      rw [c1,d1]
    ·show kpEq k _ _ (kpsEq ks' _ _ yes no) no=_
     rw [c3,d3]
     cases r <;> cases s <;> rfl
theorem keyEq_ok {t:TypeId} {ks:KS} {x y:V} {a b:Value} (hk:ksOf P t=some ks) (hx:KSs ks x) (hy:KSs ks y) (ha:dec φ x=some a) (hb:dec φ' y=some b) :
  ∃ r,(∀ w,(Op.equal t a b).run P w=.ok r w)∧(r=true↔a=b)∧(∀ yes no,keyEq ks x y yes no=iff' r yes no):=by
 unfold ksOf at hk
 split at hk
 ·rename_i fs hu
  split at hk <;> simp at hk
  rename_i ks' hst hkp;subst hk
  obtain⟨xs,rfl,hxs⟩:=hx
  obtain⟨ys,rfl,hys⟩:=hy
  obtain⟨m,hm,rfl⟩:=dec_a ha
  obtain⟨n,hn,rfl⟩:=dec_a hb
  obtain⟨r,c1,c2,c3⟩:=kpsEq_ok hkp hxs hys hm hn
  have hT:recEqT P t m.toArray n.toArray=some r:=by
   unfold recEqT;rw [hu];simp only [hst];exact c1
  refine⟨r,λw=>(recEqT_ok hT w).1,by rw [c2];simp,λyes no=>c3 yes no⟩
 ·obtain⟨k,h1,rfl⟩:=kE hk
  obtain⟨r,c1,c2,c3⟩:=kpEq_ok hx hy h1 ha hb
  exact⟨r,λw=>(cellEq_ok c1 9999 w).1,c2,c3⟩
theorem kpEq_self {k:KP} {x:V} {r:R} {n:Nat} (h:kpEq k x x r (R.no n)=.ok):KPs k x∧r=.ok:=by
 cases k with
 | int q =>
  obtain⟨κ,a,rfl,h1⟩:=onI_ok (show x.onI _ 63=.ok from h)
  obtain⟨κ',b,e,h2⟩:=onI_ok h1
  cases e
  obtain⟨hb,h3⟩:=iff_ok h2
  simp only [Bool.and_eq_true] at hb
  have:=kIx_eq hb.1;subst this
  obtain⟨_,h4⟩:=iff_ok h3
  exact⟨⟨_,rfl⟩,h4⟩
 | str =>
  obtain⟨l,rfl,h1⟩:=onS_ok (show x.onS _ 63=.ok from h)
  obtain⟨l',e,h2⟩:=onS_ok h1
  cases e
  exact⟨⟨_,rfl⟩,(iff_ok h2).2⟩
 | bool =>
  obtain⟨l,rfl,h1⟩:=onB_ok (show x.onB _ 63=.ok from h)
  obtain⟨l',e,h2⟩:=onB_ok h1
  cases e
  exact⟨⟨_,rfl⟩,(iff_ok h2).2⟩
theorem kpsEq_self {n:Nat}:∀ {ks:List KP} {xs:List V} {r:R},kpsEq ks xs xs r (R.no n)=.ok→All2 KPs ks xs∧r=.ok
 | [],[],r,h=>⟨.nil,h⟩
 | [],_::_,r,h=>by cases h
 | k::ks,[],r,h=>by cases h
 | k::ks,x::xs,r,h=>by
  have h':kpEq k x x (kpsEq ks xs xs r (R.no n)) (R.no n)=.ok:=h
  obtain⟨h1,h2⟩:=kpEq_self h'
  obtain⟨h3,h4⟩:=kpsEq_self h2
  exact⟨.cons h1 h3,h4⟩
theorem keyEq_self {ks:KS} {x:V} {r:R} {n:Nat} (h:keyEq ks x x r (R.no n)=.ok):KSs ks x∧r=.ok:=by
 cases ks with
 | p k=>exact kpEq_self h
 | s ks =>
  obtain⟨xs,rfl,h1⟩:=onA_ok (show x.onA _ 63=.ok from h)
  obtain⟨ys,e,h2⟩:=onA_ok h1
  cases e
  obtain⟨h3,h4⟩:=kpsEq_self h2
  exact⟨⟨_,rfl,h3⟩,h4⟩
def CK (ks:KS) (a:Value):Prop:=∃ x,KSs ks x∧∃ φ:Phi,dec φ x=some a
theorem CK.eq {t:TypeId} {ks:KS} {a b:Value} (hk:ksOf P t=some ks) (ha:CK ks a) (hb:CK ks b):∃ r,(∀ w,(Op.equal t a b).run P w=.ok r w)∧(r=true↔a=b):=by
 obtain⟨x,hx,φ,e1⟩:=ha
 obtain⟨y,hy,φ',e2⟩:=hb
 obtain⟨r,h1,h2,_⟩:=keyEq_ok hk hx hy e1 e2
 exact⟨r,h1,h2⟩
theorem now_eq {q:TypeDesc} {a b:Value} {r:Bool} (h:Instr.sameNow q a b=some r):r=true↔a=b:=by
 unfold Instr.sameNow at h
 split at h
 ·split at h <;> simp at h
  rename_i hk;subst hk;subst h;simp
 ·simp only [Option.some.injEq] at h;subst h;rw [ba_beq];exact⟨λh=>by rw [h],λh=>Value.string.inj h⟩
 ·simp at h;subst h;simp
 ·cases h
theorem findNow_ok {q:TypeDesc} {a:Value}:∀ {es:List MapEntry} {i:Nat} {r:Option (Nat × Value)},Instr.findNow q a es i=some r→(r=none∧∀ e∈es,e.key≠a)∨∃ j e,r=some (i + j,e.val)∧es[j]?=some e∧e.key=a
 | [],i,r,h=>by simp [Instr.findNow] at h;subst h;exact .inl ⟨rfl,by simp⟩
 | e::es,i,r,h=>by
  unfold Instr.findNow at h
  split at h
  ·rename_i hs
   simp at h;subst h
   exact .inr ⟨0,e,rfl,rfl,((now_eq hs).1 rfl).symm⟩
  ·rename_i hs
   rcases findNow_ok h with⟨h1,h2⟩ | ⟨j,e',h1,h2,h3⟩
   ·refine .inl ⟨h1,λe' he'=>?_⟩
    rcases List.mem_cons.1 he' with rfl | he'
    ·exact λhh=>by have:=(now_eq hs).2 hh.symm;cases this
    ·exact h2 e' he'
   ·exact .inr ⟨j + 1,e',by rw [h1];congr 2;omega,by simpa using h2,h3⟩
  ·cases h
theorem findAsking_ok {t:TypeId} {ks:KS} {a:Value} (hk:ksOf P t=some ks) (ha:CK ks a) (w:World):∀ {es:List MapEntry} {i:Nat},(∀ e∈es,CK ks e.key) →
  ((Instr.findAsking t a es i).run P w=.ok none w∧∀ e∈es,e.key≠a)∨∃ j e,(Instr.findAsking t a es i).run P w=.ok (some (i + j,e.val)) w∧es[j]?=some e∧e.key=a
 | [],i,h=>.inl ⟨rfl,by simp⟩
 | e::es,i,h=>by
  obtain⟨r,h1,h2⟩:=CK.eq hk ha (h e (by simp))
  cases r with
  | true =>
   refine .inr ⟨0,e,?_,rfl,(h2.1 rfl).symm⟩
   simp [Instr.findAsking,h1]
  | false =>
   have hne:e.key≠a:=λhh=>by have:=h2.2 hh.symm;cases this
   rcases findAsking_ok hk ha w (es:=es) (i:=i + 1) (λe' he'=>h e' (by simp [he'])) with⟨h3,h4⟩ | ⟨j,e',h3,h4,h5⟩
   ·refine .inl ⟨by simp [Instr.findAsking,h1,h3],λe' he'=>?_⟩
    rcases List.mem_cons.1 he' with rfl | he'
    ·exact hne
    ·exact h4 e' he'
   ·refine .inr ⟨j + 1,e',?_,by simpa using h4,h5⟩
    simp only [Instr.findAsking,Sem.run_bind,h1,Result.andThen_ok,Bool.false_eq_true,if_false,h3]
    congr 3;omega
theorem ks_under {t:TypeId} {ks:KS} (hk:ksOf P t=some ks):∃ u,P.underlying t=some u:=by
 unfold ksOf at hk
 split at hk
 ·exact⟨_,by assumption⟩
 ·obtain⟨k,h1,rfl⟩:=kE hk
  unfold kpOf at h1
  split at h1 <;> first | exact⟨_,by assumption⟩ | cases h1
theorem findKey_ok {t:TypeId} {ks:KS} {a:Value} (hk:ksOf P t=some ks) (ha:CK ks a) (w:World) {es:List MapEntry} (h:∀ e∈es,CK ks e.key) :
  ((Instr.findKey t a es).run P w=.ok none w∧∀ e∈es,e.key≠a)∨∃ j e,(Instr.findKey t a es).run P w=.ok (some (j,e.val)) w∧es[j]?=some e∧e.key=a:=by
 obtain⟨u,hu⟩:=ks_under hk
 unfold Instr.findKey
 simp only [Sem.run_bind,run_underlying' w hu,Result.andThen_ok]
 cases hn:Instr.findNow u a es 0 with
 | some r =>
  simp only [Sem.run_pure]
  rcases findNow_ok hn with⟨rfl,h2⟩ | ⟨j,e,rfl,h2,h3⟩
  ·exact .inl ⟨rfl,h2⟩
  ·exact .inr ⟨j,e,by simp,h2,h3⟩
 | none =>
  rcases findAsking_ok hk ha w (es:=es) (i:=0) h with⟨h1,h2⟩ | ⟨j,e,h1,h2,h3⟩
  ·exact .inl ⟨h1,h2⟩
  ·exact .inr ⟨j,e,by simpa using h1,h2,h3⟩
theorem check_prim {t:TypeId} {k:KP} {x:V} {a:Value} (hk:kpOf P t=some k) (hx:KPs k x) (ha:dec φ x=some a) (w:World) (em:Bool) (n:Nat):(Instr.checkKey em (n + 1) t a).run P w=.ok () w:=by
 unfold kpOf at hk
 cases k with
 | int q =>
  obtain⟨m,rfl⟩:=hx
  have e1:=dec_i ha;subst e1
  split at hk <;> simp at hk
  rename_i q' hu
  simp [Instr.checkKey,run_underlying' w hu]
 | str =>
  obtain⟨m,rfl⟩:=hx
  have e1:=dec_s ha;subst e1
  split at hk <;> simp at hk
  rename_i hu
  simp [Instr.checkKey,run_underlying' w hu]
 | bool =>
  obtain⟨m,rfl⟩:=hx
  have e1:=dec_b ha;subst e1
  split at hk <;> simp at hk
  rename_i hu
  simp [Instr.checkKey,run_underlying' w hu]
theorem kp_agg {t:TypeId} {k:KP} (hk:kpOf P t=some k):∃ u,P.underlying t=some u∧isAggD u=false:=by
 unfold kpOf at hk
 split at hk <;> first | exact⟨_,by assumption,rfl⟩ | cases hk
theorem check_fields {cs:Array Value} {em:Bool} {n:Nat} {w:World}:∀ {fs:List Field} {i:Nat} {ks:List KP} {xs:List V} {az:List Value},kpsOf P fs i=some ks→All2 KPs ks xs→decs φ xs=some az→(∀ (j:Nat) v,az[j]?=some v→cs[i + j]?=some v) →
  (forIn fs PUnit.unit (λf (_:PUnit)=>if f.name≠ "_" then do Instr.checkKey em (n + 1) f.type (← part f.type cs f.offset);pure (ForInStep.yield PUnit.unit) else pure (ForInStep.yield PUnit.unit)):Sem PUnit).run P w=.ok PUnit.unit w
 | [],i,ks,xs,az,hk,hx,ha,hc=>by simp
 | f::fs,i,ks,xs,az,hk,hx,ha,hc=>by
  simp only [kpsOf] at hk
  split at hk <;> try (cases hk;done)
  rename_i k ks' h1 h2 h3 h4
  simp only [Option.some.injEq] at hk;subst hk
  cases hx with
  | cons hx1 hx2 =>
   obtain⟨a,az',rfl,e1,e2⟩:=decs_cons_inv ha
   obtain⟨u,g1,g2⟩:=kp_agg h3
   have ho:=kB h1
   have hn:f.name≠ "_":=by simpa using h2
   have hp:=isAgg_scalar (P:=P) w g1 g2 cs f.offset (by rw [ho];exact hc 0 a rfl)
   rw [List.forIn_cons]
   simp only [hn,ne_eq,not_false_eq_true,if_true,Sem.run_bind,hp,Result.andThen_ok,check_prim h3 hx1 e1 w em n,Sem.run_pure]
   exact check_fields h4 hx2 e2 λj v hv=>by rw [show i + 1 + j=i + (j + 1) from by omega];exact hc (j + 1) v (by simpa using hv)
theorem checkKey_ok {t:TypeId} {ks:KS} {a:Value} (hk:ksOf P t=some ks) (ha:CK ks a) (w:World) (em:Bool):(Instr.checkKey em 10000 t a).run P w=.ok () w:=by
 obtain⟨x,hx,φ,e1⟩:=ha
 unfold ksOf at hk
 split at hk
 ·rename_i fs hu
  split at hk <;> simp at hk
  rename_i ks' hst hkp;subst hk
  obtain⟨xs,rfl,hxs⟩:=hx
  obtain⟨m,hm,rfl⟩:=dec_a e1
  unfold Instr.checkKey
  simp only [Sem.run_bind,run_underlying' w hu,Result.andThen_ok]
  have:=check_fields (P:=P) (cs:=m.toArray) (em:=em) (n:=9998) (w:=w) hkp hxs hm (λj v hv=>by simpa using hv)
  rw [← Array.forIn_toList]
  simp at this ⊢
  rw [this]
  rfl
 ·obtain⟨k,h1,rfl⟩:=kE hk
  exact check_prim h1 hx e1 w em 9999
theorem same_prim {k:KP} {x:V} {a:Value} (hx:KPs k x) (ha:dec φ x=some a) (n:Nat):Instr.sameBits n a a=true:=by
 cases k <;> obtain⟨m,rfl⟩:=hx
 ·have e1:=dec_i ha;subst e1;cases n <;> simp [Instr.sameBits]
 ·have e1:=dec_s ha;subst e1;cases n <;> exact (ba_beq _ _).2 rfl
 ·have e1:=dec_b ha;subst e1;cases n <;> simp [Instr.sameBits]
theorem stays_ok {ks:KS} {a:Value} (ha:CK ks a) (w:World):(Instr.keyThatStays a a).run P w=.ok a w:=by
 have:Instr.sameBits 10000 a a=true:=by
  obtain⟨x,hx,φ,e1⟩:=ha
  cases ks with
  | p k=>exact same_prim hx e1 _
  | s ks =>
   obtain⟨xs,rfl,hxs⟩:=hx
   obtain⟨m,hm,rfl⟩:=dec_a e1
   have key:∀ {ks:List KP} {xs:List V} {m:List Value},All2 KPs ks xs→decs φ xs=some m→∀ v∈m,Instr.sameBits 9999 v v=true:=by
    intro ks xs m hA
    induction hA generalizing m with
    | nil=>intro hd v hv;simp [decs] at hd;subst hd;cases hv
    | cons h1 _ ih =>
     intro hd v hv
     obtain⟨a,az',rfl,e1,e2⟩:=decs_cons_inv hd
     rcases List.mem_cons.1 hv with rfl | hv
     ·exact same_prim h1 e1 _
     ·exact ih e2 v hv
   show (m.toArray.size==m.toArray.size&&(m.toArray.toList.zip m.toArray.toList).all λ(x,y)=>Instr.sameBits 9999 x y)=true
   simp only [beq_self_eq_true,Bool.true_and,List.all_eq_true]
   rintro⟨p,q⟩ hpq
   obtain⟨i,hi⟩:=List.getElem?_of_mem hpq
   rw [List.getElem?_zip_eq_some] at hi
   simp only at hi
   have:p=q:=Option.some.inj (hi.1.symm.trans hi.2)
   subst this
   exact key hxs hm p (by simpa using kD hi.1)
 simp [Instr.keyThatStays,this]
end
open Go.ChangeMaps (setBlock)
section
variable {D:Type} {P:Program} {Hd:D→Loc→View→Prop} {w0:World} {φ:Phi} {σ:H D} {w:World} {ρ:Operand→Value} {o:Oper} {k:V→H D→R}
theorem find_ok {t:TypeId} {ks:KS} {x:V} {a:Value} {k0:R} {k1:V→R} (hk:ksOf P t=some ks) (hx:KSs ks x) (hd:dec φ x=some a):∀ {es:List (V × V)},(∀ p∈es,KSs ks p.1∧∃ b,dec φ p.1=some b)→find ks es x k0 k1=.ok →
  (∃ p∈es,dec φ p.1=some a∧k1 p.2=.ok)∨((∀ p∈es,dec φ p.1≠some a)∧k0=.ok)
 | [],_,h=>.inr ⟨by simp,h⟩
 | p::es,hs,h=>by
  obtain⟨h1,b,h2⟩:=hs p (by simp)
  obtain⟨r,_,h4,h5⟩:=keyEq_ok hk h1 hx h2 hd
  have h':keyEq ks p.1 x (k1 p.2) (find ks es x k0 k1)=.ok:=h
  rw [h5] at h'
  rcases iff_t h' with⟨rfl,h6⟩ | ⟨rfl,h6⟩
  ·exact .inl ⟨p,by simp,by rw [h2,h4.1 rfl],h6⟩
  ·have hne:dec φ p.1≠some a:=λhh=>by
    rw [h2] at hh;simp at hh
    have:=h4.2 hh;cases this
   rcases find_ok hk hx hd (λq hq=>hs q (by simp [hq])) h6 with⟨q,g1,g2⟩ | ⟨g1,g2⟩
   ·exact .inl ⟨q,by simp [g1],g2⟩
   ·refine .inr ⟨λq hq=>?_,g2⟩
    rcases List.mem_cons.1 hq with rfl | hq
    ·exact hne
    ·exact g1 q hq
theorem putM_ok {t:TypeId} {ks:KS} {x y:V} {a:Value} {k:List (V × V)→R} (hk:ksOf P t=some ks) (hx:KSs ks x) (hd:dec φ x=some a):∀ {es:List (V × V)},(∀ p∈es,KSs ks p.1∧∃ b,dec φ p.1=some b)→∀ {k:List (V × V)→R},putM ks es x y k=.ok →
  ((∀ p∈es,dec φ p.1≠some a)∧k (es++[(x,y)])=.ok)∨∃ l1 p l2,es=l1++p::l2∧dec φ p.1=some a∧k (l1++(x,y)::l2)=.ok
 | [],_,k,h=>.inl ⟨by simp,h⟩
 | p::es,hs,k,h=>by
  obtain⟨h1,b,h2⟩:=hs p (by simp)
  obtain⟨r,_,h4,h5⟩:=keyEq_ok hk h1 hx h2 hd
  have h':keyEq ks p.1 x (k ((x,y)::es)) (putM ks es x y λl=>k (p::l))=.ok:=h
  rw [h5] at h'
  rcases iff_t h' with⟨rfl,h6⟩ | ⟨rfl,h6⟩
  ·exact .inr ⟨[],p,es,rfl,by rw [h2,h4.1 rfl],h6⟩
  ·have hne:dec φ p.1≠some a:=λhh=>by
    rw [h2] at hh;simp at hh
    have:=h4.2 hh;cases this
   rcases putM_ok (k:=k) hk hx hd (λq hq=>hs q (by simp [hq])) h6 with⟨g1,g2⟩ | ⟨l1,q,l2,g1,g2,g3⟩
   ·refine .inl ⟨λq hq=>?_,g2⟩
    rcases List.mem_cons.1 hq with rfl | hq
    ·exact hne
    ·exact g1 q hq
   ·exact .inr ⟨p::l1,q,l2,by rw [g1];rfl,g2,g3⟩
theorem MapAt'.ck {ks:KS} {arr:Array MapEntry} {clock:Nat} {es:List (V × V)} (h:MapAt' φ ks arr clock es):∀ e∈arr.toList,CK ks e.key:=λe he=>by
 obtain⟨p,hp,h1,_⟩:=h.to_ e he
 exact⟨p.1,h.shape p hp,φ,h1⟩
theorem MapAt'.dk {ks:KS} {arr:Array MapEntry} {clock:Nat} {es:List (V × V)} (h:MapAt' φ ks arr clock es):∀ p∈es,KSs ks p.1∧∃ b,dec φ p.1=some b:=λp hp=>by
 obtain⟨e,he,h1,_⟩:=h.of p hp
 exact⟨h.shape p hp,_,h1⟩
theorem zeroV_ok {t:TypeId} {z:V} (h:zeroV P t=some z):∃ zv,dec φ z=some zv∧∀ w,(zeroValue t).run P w=.ok zv w:=by
 unfold zeroV at h
 split at h <;> try (cases h;done)
 rename_i i hi
 split at h <;> try (cases h;done)
 rename_i zv hz
 exact⟨zv,valC_dec h,λw=>by simp [zeroValue,run_typeInfo' w hi,hz]⟩
theorem fin_ok {ok b:Bool} {v:V} {k:V→R} {y:Value} (hv:dec φ v=some y) (h:fin ok b v k=.ok):∃ u,dec φ u=some (if ok then .tuple #[y,.bool b] else y)∧k u=.ok:=by
 rcases iff_t (show iff' ok _ _=.ok from h) with⟨rfl,h⟩ | ⟨rfl,h⟩
 ·exact⟨_,by simp [dec,decs,hv],h⟩
 ·exact⟨_,by simpa using hv,h⟩
theorem op_look {t kT el:Nat} {ks:KS} {z:V} {ok:Bool} {m i:Operand} {um ui:V} (ho:o.op=.lookup t m i ok) (ht:P.underlying t=some (.map kT el)) (hz:zeroV P el=some z) (hks:ksOf P kT=some ks) (hr:Rel P Hd w0 φ σ w)
  (hm:dec φ um=some (ρ m)) (hi:dec φ ui=some (ρ i)) (h:vLook kT ks z ok um ui σ (λu=>k u σ)=.ok):OpOK P Hd w0 φ σ w ρ o k:=by
 obtain⟨hsh,h1⟩:=keyEq_self h
 obtain⟨zv,hzd,hzr⟩:=zeroV_ok (φ:=φ) hz
 have hck:CK ks (ρ i):=⟨ui,hsh,φ,hi⟩
 rcases onMO_ok h1 with⟨v,rfl,h2⟩ | ⟨rfl,h2⟩
 ·obtain⟨M,hM,em⟩:=dec_m hm
  obtain⟨b,h3,h4⟩:=H.get_ok (show σ.get v _=.ok from h2)
  obtain⟨kT',ks',es,ver,rfl,h5⟩:=onMp_ok h4
  obtain⟨hb,h6⟩:=iff_ok h5
  have:=kB hb;subst this
  obtain⟨L,hL,hge,hks',arr,clock,hat,hA⟩:=hr.live h3 trivial
  rw [hM] at hL;cases hL
  rw [hks] at hks';cases hks'
  have run:∀ r,(Instr.findKey kT' (ρ i) arr.toList).run P w=.ok r w→(Instr.lookup t (ρ m) (ρ i) ok).run P w=.ok (match r with | some (_,v)=>(if ok then .tuple #[v,.bool true] else v) | none=>(if ok then .tuple #[zv,.bool false] else zv)) w:=by
   intro r hrun
   simp only [em,Instr.lookup,Sem.run_bind,run_underlying' w ht,Result.andThen_ok,MapKept.run_getObj_map hat,Sem.run_pure,checkKey_ok hks hck w,hrun]
   cases r with
   | none=>simp [hzr]
   | some p=>cases p;simp
  rcases find_ok hks hsh hi hA.dk h6 with⟨p,hp,g1,g2⟩ | ⟨g1,g2⟩
  ·obtain⟨e,he,c1,c2⟩:=hA.of p hp
   have hkey:e.key=ρ i:=by rw [g1] at c1;exact (Option.some.inj c1).symm
   obtain⟨u,d1,d2⟩:=fin_ok c2 g2
   rcases findKey_ok hks hck w hA.ck with⟨f1,f2⟩ | ⟨j,e',f1,f2,f3⟩
   ·exact absurd hkey (f2 e he)
   ·have:e'=e:=key_once hA.st (kD f2) he (f3.trans hkey.symm)
    subst this
    exact OpOK.val (s:=Instr.lookup t (ρ m) (ρ i) ok) (by simp [execOp,ho]) (run _ f1) (Post.pure hr d1 d2)
  ·obtain⟨u,d1,d2⟩:=fin_ok hzd g2
   rcases findKey_ok hks hck w hA.ck with⟨f1,f2⟩ | ⟨j,e',f1,f2,f3⟩
   ·exact OpOK.val (s:=Instr.lookup t (ρ m) (ρ i) ok) (by simp [execOp,ho]) (run _ f1) (Post.pure hr d1 d2)
   ·obtain⟨p,hp,c1,_⟩:=hA.to_ e' (kD f2)
    exact absurd (by rw [c1,f3]) (g1 p hp)
 ·have em:ρ m=.map none:=by simpa [dec] using hm.symm
  obtain⟨u,d1,d2⟩:=fin_ok hzd h2
  refine OpOK.val (s:=Instr.lookup t (ρ m) (ρ i) ok) (w':=w) (by simp [execOp,ho]) ?_ (Post.pure hr d1 d2)
  rcases findKey_ok hks hck w (es:=[]) (by simp) with⟨f1,_⟩ | ⟨j,e',_,f2,_⟩
  ·simp only [em,Instr.lookup,Sem.run_bind,run_underlying' w ht,Result.andThen_ok,Sem.run_pure,checkKey_ok hks hck w]
   rw [f1]
   simp [hzr]
  ·simp at f2
theorem op_mkm {t kT el:Nat} {ks:KS} {v:Vid} (ho:o.op=.makeMap t none) (hks:ksOf P kT=some ks) (hr:Rel P Hd w0 φ σ w) (h:vMkM kT ks v σ k=.ok):OpOK P Hd w0 φ σ w ρ o k:=by
 obtain⟨h1,σ',h2,h3,h4⟩:=H.add_ok (show σ.add v _ _=.ok from h)
 have hle:=Phi.with_le (L:=⟨w.heap.size,0,0⟩) (hr.gone v h1)
 refine OpOK.val (s:=Instr.makeMap t none) (y:=.map (some w.heap.size)) (w':=w.alloc (.map #[] 0)) (by simp [execOp,ho]) (by simp [Instr.makeMap,run_newObj]) ⟨φ.with v ⟨w.heap.size,0,0⟩,_,σ',hle,?_,by simp [dec,Phi.with_eq],Ext.put h2 h3,h4⟩
 exact hr.new h1 (newAt w _) h2 ⟨hr.keeps.size,hks,#[],0,(newAt w _).at_,⟨MapKept.stamped_empty 0,rfl,by simp,by simp,by simp,.nil⟩⟩
theorem op_putm {t kT el:Nat} {ks:KS} {m i x:Operand} {um ui ux:V} (ho:o.op=.mapUpdate t m i x∨o.op=.insert t m i x) (ht:P.underlying t=some (.map kT el)) (hks:ksOf P kT=some ks) (hr:Rel P Hd w0 φ σ w)
  (hm:dec φ um=some (ρ m)) (hi:dec φ ui=some (ρ i)) (hx:dec φ ux=some (ρ x)) (h:vPutM kT ks um ui ux σ (λσ=>k (.t []) σ)=.ok):OpOK P Hd w0 φ σ w ρ o k:=by
 obtain⟨hsh,h1⟩:=keyEq_self h
 have hck:CK ks (ρ i):=⟨ui,hsh,φ,hi⟩
 obtain⟨v,rfl,h2⟩:=onM_ok h1
 obtain⟨M,hM,em⟩:=dec_m hm
 obtain⟨b,h3,h4⟩:=H.get_ok (show σ.get v _=.ok from h2)
 obtain⟨kT',ks',es,ver,rfl,h5⟩:=onMp_ok h4
 obtain⟨hb,h6⟩:=iff_ok h5
 have:=kB hb;subst this
 obtain⟨L,hL,hge,hks',arr,clock,hat,hA⟩:=hr.live h3 trivial
 rw [hM] at hL;cases hL
 rw [hks] at hks';cases hks'
 have hexec:execOp ρ o=(do Instr.mapUpdate t (ρ m) (ρ i) (ρ x);pure Next.skip:Sem Next):=by rcases ho with ho | ho <;> simp [execOp,ho]
 have fin:∀ {es':List (V × V)} {arr':Array MapEntry} {clock':Nat},σ.put v (.map kT' ks es' (Nat.succ ver)) (λσ=>k (.t []) σ)=.ok→(Instr.mapUpdate t (ρ m) (ρ i) (ρ x)).run P w=.ok () (setBlock w M.blk (.map arr' clock'))→MapAt' φ ks arr' clock' es'→OpOK P Hd w0 φ σ w ρ o k:=by
  intro es' arr' clock' hk hrun hA'
  obtain⟨σ',g1,g2,g3⟩:=H.put_ok hk
  have hu:=keepsSetBlock hat (.map arr' clock')
  refine OpOK.unit hexec hrun ⟨φ,_,σ',.refl _,?_,rfl,Ext.put g1 g2,g3⟩
  exact hr.set h3 trivial hM hu g1 trivial (λkT ks es ver he=>by cases he;exact⟨es',_,rfl,Nat.lt_succ_self _⟩) ⟨hge,hks,arr',clock',hu.at_,hA'⟩
 rcases findKey_ok hks hck w hA.ck with⟨f1,f2⟩ | ⟨j,e0,f1,f2,f3⟩
 ·rcases putM_ok (k:=λ_=>.ok) hks hsh hi hA.dk h6 with⟨g1,g2⟩ | ⟨l1,p,l2,g1,g2,_⟩
  ·refine fin (arr':=arr.push ⟨ρ i,ρ x,clock⟩) (clock':=clock + 1) g2 ?_ ⟨MapKept.stamped_push hA.st f2,by simp [hA.size],?_,?_,?_,?_⟩
   ·simp [em,Instr.mapUpdate,run_underlying' w ht,MapKept.run_getObj_map hat,checkKey_ok hks hck w,f1,MapKept.run_setObj_map _ hat,Result.andThen,setBlock]
   ·intro q hq
    rcases List.mem_append.1 hq with hq | hq
    ·exact hA.shape q hq
    ·simp at hq;subst hq;exact hsh
   ·intro e he
    simp only [Array.toList_push,List.mem_append,List.mem_singleton] at he
    rcases he with he | rfl
    ·obtain⟨q,hq,a1,a2⟩:=hA.to_ e he;exact⟨q,by simp [hq],a1,a2⟩
    ·exact⟨(ui,ux),by simp,hi,hx⟩
   ·intro q hq
    rcases List.mem_append.1 hq with hq | hq
    ·obtain⟨e,he,a1,a2⟩:=hA.of q hq;exact⟨e,by simp;exact .inl (by simpa using he),a1,a2⟩
    ·simp at hq;subst hq;exact⟨⟨ρ i,ρ x,clock⟩,by simp,hi,hx⟩
   ·rw [List.pairwise_append]
    refine⟨hA.nd,by simp,λp hp q hq a ha hb=>?_⟩
    simp at hq;subst hq
    rw [hi] at hb;cases hb
    exact g1 p hp ha
  ·obtain⟨e,he,a1,_⟩:=hA.of p (by rw [g1];simp)
   rw [g2] at a1
   exact absurd (Option.some.inj a1).symm (f2 e he)
 ·rcases putM_ok (k:=λ_=>.ok) hks hsh hi hA.dk h6 with⟨g1,g2⟩ | ⟨l1,p,l2,g1,g2,g3⟩
  ·obtain⟨q,hq,a1,_⟩:=hA.to_ e0 (kD f2)
   exact absurd (by rw [a1,f3]) (g1 q hq)
  ·have hj:arr[j]?=some e0:=by simpa using f2
   have hnd:=hA.nd
   rw [g1,List.pairwise_append,List.pairwise_cons] at hnd
   obtain⟨n1,⟨n2,n3⟩,n4⟩:=hnd
   have hlist:(arr.modify j (λe'=>{ e' with key:=ρ i,val:=ρ x })).toList=arr.toList.set j { e0 with key:=ρ i,val:=ρ x }:=by rw [Array.toList_modify,Go.ChangeMaps.modify_eq_set _ _ _ _ f2]
   have hmem:∀ e,e∈arr.toList.set j { e0 with key:=ρ i,val:=ρ x }→e={ e0 with key:=ρ i,val:=ρ x }∨(e∈arr.toList∧e.key≠ρ i):=by
    intro e he
    obtain⟨n,hn⟩:=List.getElem?_of_mem he
    rw [List.getElem?_set] at hn
    split at hn
    ·split at hn
     ·simp at hn;exact .inl hn.symm
     ·cases hn
    ·rename_i hne
     refine .inr ⟨kD hn,λe1=>?_⟩
     have:=key_once hA.st (kD hn) (kD f2) (e1.trans f3.symm)
     subst this
     have hb2:=hA.st.2.1
     rw [List.Nodup,List.pairwise_map,List.pairwise_iff_getElem] at hb2
     rw [List.getElem?_eq_some_iff] at hn f2
     obtain⟨hi1,hi2⟩:=hn
     obtain⟨hj1,hj2⟩:=f2
     rcases Nat.lt_trichotomy n j with h | h | h
     ·exact hb2 n j hi1 hj1 h (by rw [hi2,hj2])
     ·exact hne h.symm
     ·exact hb2 j n hj1 hi1 h (by rw [hi2,hj2])
   have hmem2:∀ e,e∈arr.toList→e.key≠ρ i→e∈arr.toList.set j { e0 with key:=ρ i,val:=ρ x }:=by
    intro e he hk
    obtain⟨n,hn⟩:=List.getElem?_of_mem he
    refine kD (i:=n) ?_
    rw [List.getElem?_set,if_neg,hn]
    rintro rfl
    rw [f2] at hn;cases hn
    exact hk f3
   have hjl:j < arr.toList.length:=(kA f2).1
   refine fin (arr':=arr.modify j (λe'=>{ e' with key:=ρ i,val:=ρ x })) (clock':=clock) g3 ?_ ⟨MapKept.stamped_modify hA.st _ _ (λ_ _=>rfl) (λe' _ he'=>by rw [hj] at he';cases he';exact f3.symm),by simp [hA.size,g1],?_,?_,?_,?_⟩
   ·simp [em,Instr.mapUpdate,run_underlying' w ht,MapKept.run_getObj_map hat,checkKey_ok hks hck w,f1,hj,f3,stays_ok hck w,MapKept.run_setObj_map _ hat,Result.andThen,setBlock]
   ·intro q hq
    rcases List.mem_append.1 hq with hq | hq
    ·exact hA.shape q (by rw [g1];simp [hq])
    ·rcases List.mem_cons.1 hq with rfl | hq
     ·exact hsh
     ·exact hA.shape q (by rw [g1];simp [hq])
   ·intro e he
    rw [hlist] at he
    rcases hmem e he with rfl | ⟨he,hk⟩
    ·exact⟨(ui,ux),by simp,hi,hx⟩
    ·obtain⟨q,hq,a1,a2⟩:=hA.to_ e he
     rw [g1] at hq
     refine⟨q,?_,a1,a2⟩
     rcases List.mem_append.1 hq with hq | hq
     ·simp [hq]
     ·rcases List.mem_cons.1 hq with rfl | hq
      ·rw [g2] at a1;exact absurd (Option.some.inj a1).symm hk
      ·simp [hq]
   ·intro q hq
    rw [hlist]
    have old:q∈es→dec φ q.1≠some (ρ i)→∃ e∈arr.toList.set j { e0 with key:=ρ i,val:=ρ x },dec φ q.1=some e.key∧dec φ q.2=some e.val:=by
     intro hq hne
     obtain⟨e,he,a1,a2⟩:=hA.of q hq
     exact⟨e,hmem2 e he (λhh=>hne (by rw [a1,hh])),a1,a2⟩
    rcases List.mem_append.1 hq with hq | hq
    ·exact old (by rw [g1];simp [hq]) (λhh=>n4 q hq p (by simp) _ hh g2)
    ·rcases List.mem_cons.1 hq with rfl | hq
     ·exact⟨_,List.mem_set hjl _,hi,hx⟩
     ·exact old (by rw [g1];simp [hq]) (λhh=>n2 q hq _ g2 hh)
   ·rw [List.pairwise_append,List.pairwise_cons]
    refine⟨n1,⟨λq hq a ha hb=>?_,n3⟩,λq hq r hr' a ha hb=>?_⟩
    ·rw [hi] at ha;cases ha;exact n2 q hq _ g2 hb
    ·rcases List.mem_cons.1 hr' with rfl | hr'
     ·rw [hi] at hb;cases hb;exact n4 q hq p (by simp) _ ha g2
     ·exact n4 q hq r (by simp [hr']) _ ha hb
end
end Go.Ev
end
section
namespace Go.Ev
open Go Go.Fk
section
variable {D:Type} {P:Program} {Hd:D→Loc→View→Prop} {w0:World} {φ:Phi} {σ:H D} {w:World} {ρ:Operand→Value} {o:Oper} {k:V→H D→R}
theorem Upd.trans {b:Nat} {o o':Obj} {w w1 w2:World} (h:Upd b o w w1) (h':Upd b o' w1 w2):Upd b o' w w2:=⟨h'.at_,h.keeps.trans h'.keeps,h'.size.trans h.size⟩
theorem Upd.id {b:Nat} {o:Obj} {w:World} (h:w.heap[b]?=some o):Upd b o w w:=⟨h,Keeps.refl,rfl⟩
theorem stCells_blk {b off ty:Nat}:∀ (vs:List Value) (i:Nat) (w:World) (cs:Array Value) (k:World→Prop),w.heap[b]?=some (.cells cs ty (0,0))→off + i + vs.length≤cs.size→(∀ v∈vs,oneCell v=true) →
  (∀ w',Upd b (.cells (wr (off + i) vs cs.toList).toArray ty (0,0)) w w'→k w')→StCells ⟨b,off,none⟩ k vs i w
 | [],i,w,cs,k,hb,hs,h1,hk=>by
  simp only [StCells]
  exact hk w (Upd.id (by simpa [wr] using hb))
 | v::vs,i,w,cs,k,hb,hs,h1,hk=>by
  simp only [StCells,h1 v (by simp)]
  rw [add_eq]
  refine St.blk hb (by simp at hs;omega) λw1 hu=>?_
  refine stCells_blk vs (i + 1) w1 (cs.setIfInBounds (off + i) v) k hu.at_ (by simp at hs ⊢;omega) (λu hu=>h1 u (by simp [hu])) λw' hu'=>hk w' ?_
  refine Upd.trans hu ?_
  have:(cs.setIfInBounds (off + i) v).toList=cs.toList.set (off + i) v:=by simp
  rw [this] at hu'
  exact hu'
theorem wr_cells {ex:Bool} {n:Nat} {c c':Tr V} {ty sz off:Nat} {v:Vid} {L:Loc} {cs:Array Value} {l:List V} {vs:List Value} {w':World} {σ':H D} (hr:Rel P Hd w0 φ σ w) (hv:σ.look v=some (.cells ex n c ty sz)) (hL:φ v=some L) (hge:w0.heap.size≤L.blk) (hA:CellsAt φ w L ex n c ty sz cs)
  (hd:decs φ l=some vs) (h1:∀ x∈l,oneV x=true) (ha:∀ i,i < l.length→(c.get (off + i)).isSome=true) (hc:∀ j,c'.get j=if off≤j∧j < off + l.length then l[j - off]? else c.get j)
  (hu:Upd L.blk (.cells (wr (L.base + off) vs cs.toList).toArray ty (0,0)) w w') (hσ:∀ v',σ'.look v'=if v'=v then some (.cells ex n c' ty sz) else σ.look v'):Rel P Hd w0 φ σ' w':=by
 have hlen:=decs_length hd
 have hsz:l≠[]→L.base + off + l.length≤cs.toList.length:=by
  intro hne
  have hpos:0 < l.length:=List.length_pos_iff.2 hne
  obtain⟨u,hu⟩:=Option.isSome_iff_exists.1 (ha (l.length - 1) (by omega))
  obtain⟨_,y,_,h2,_⟩:=hA.get _ u hu
  have:=(Array.getElem?_eq_some_iff.1 h2).1
  simp;omega
 refine hr.set hv trivial hL hu hσ trivial (λkT ks es ver he=>by cases he) ⟨hge,_,⟨hu.at_,λj x hx=>?_,λhe=>⟨by simpa [wr_length] using (hA.full he).1,(hA.full he).2⟩,λhe=>?_⟩⟩
 ·rw [hc] at hx
  by_cases hj:off≤j∧j < off + l.length
  ·rw [if_pos hj] at hx
   obtain⟨y,g1,g2⟩:=decs_get hd hx
   obtain⟨u,hu'⟩:=Option.isSome_iff_exists.1 (ha (j - off) (by omega))
   rw [show off + (j - off)=j from by omega] at hu'
   refine⟨(hA.get j u hu').1,y,g2,?_,oneV_dec g2 (h1 x (kD hx))⟩
   have hne:l≠[]:=λe=>by subst e;simp at hx
   simp only [List.getElem?_toArray]
   rw [wr_get _ _ _ _ (by rw [hlen];exact hsz hne),if_pos (by omega),show L.base + j - (L.base + off)=j - off from by omega]
   exact g1
  ·rw [if_neg hj] at hx
   obtain⟨g1,y,g2,g3,g4⟩:=hA.get j x hx
   refine⟨g1,y,g2,?_,g4⟩
   simp only [List.getElem?_toArray]
   cases l with
   | nil =>
    simp [decs] at hd;subst hd
    simpa [wr] using g3
   | cons a l =>
    rw [wr_get _ _ _ _ (by rw [hlen];exact hsz (by simp)),if_neg (by omega)]
    simpa using g3
 ·obtain⟨g1,g2,g3⟩:=hA.open_ he
  exact⟨g1,g2,by simpa [wr_length] using g3⟩
theorem one_of {l:List V} {vs:List Value} (hd:decs φ l=some vs) (h1:∀ x∈l,oneV x=true):∀ v∈vs,oneCell v=true:=by
 intro v hv
 obtain⟨i,hi⟩:=List.getElem?_of_mem hv
 have hi':i < l.length:=by rw [← decs_length hd];exact (kA hi).1
 obtain⟨y,g1,g2⟩:=decs_get hd (kC hi')
 rw [hi] at g1;cases g1
 exact oneV_dec g2 (h1 _ (List.getElem_mem hi'))
theorem run_wr {ex:Bool} {n:Nat} {c:Tr V} {ty sz off:Nat} {L:Loc} {cs:Array Value} {l:List V} {vs:List Value} (hA:CellsAt φ w L ex n c ty sz cs) (hd:decs φ l=some vs) (h1:∀ x∈l,oneV x=true) (ha:∀ i,i < l.length→(c.get (off + i)).isSome=true) :
  ∃ w',(storeCells ⟨L.blk,L.base + off,none⟩ vs).run P w=.ok () w'∧Upd L.blk (.cells (wr (L.base + off) vs cs.toList).toArray ty (0,0)) w w':=by
 have hlen:=decs_length hd
 cases l with
 | nil =>
  simp [decs] at hd;subst hd
  exact⟨w,rfl,Upd.id (by simpa [wr] using hA.at_)⟩
 | cons a l =>
  have hsz:L.base + off + (a::l).length≤cs.size:=by
   obtain⟨u,hu⟩:=Option.isSome_iff_exists.1 (ha l.length (by simp))
   obtain⟨_,y,_,h2,_⟩:=hA.get _ u hu
   have:=(Array.getElem?_eq_some_iff.1 h2).1
   simp;omega
  exact stCells_ok vs 0 w (stCells_blk vs 0 w cs _ hA.at_ (by rw [hlen];simpa using hsz) (one_of hd h1) λw' hu=>by simpa using hu)
theorem op_st {t:Nat} {a x:Operand} {ua ux:V} {n:Nat} (ho:o.op=.store t a x) (hn:sizeC P t=some n) (hr:Rel P Hd w0 φ σ w) (ha:dec φ ua=some (ρ a)) (hx:dec φ ux=some (ρ x)) (h:vSt n ua ux σ (λσ=>k (.t []) σ)=.ok):OpOK P Hd w0 φ σ w ρ o k:=by
 obtain⟨v,off,rfl,h1⟩:=onP_ok h
 obtain⟨ex,m,c,ty,sz,h2,h3⟩:=H.cells_ok h1
 obtain⟨hb,h4⟩:=iff_ok h3
 simp only [Bool.and_eq_true] at hb
 obtain⟨⟨b1,b2⟩,b3⟩:=hb
 have b1':=kB b1
 obtain⟨c',h5,h6⟩:=wrFrom_ok h4
 obtain⟨σ',h7,h8,h9⟩:=H.put_ok h6
 obtain⟨L,cs,g1,g2,g3⟩:=hr.cells h2
 obtain⟨M,hM,ea⟩:=dec_p ha
 rw [g1] at hM;cases hM
 have hcv:=cellsV_dec hx b3
 have hone:=allOne_ok b3
 obtain⟨w',e1,e2⟩:=run_wr (P:=P) g3 hcv hone (λi hi=>hasAll_ok b2 i (by omega))
 obtain⟨inf,hi,hin⟩:=sizeC_ok hn
 refine OpOK.unit (s:=Instr.storeAt t (ρ a) (ρ x)) (w':=w') (by simp [execOp,ho]) ?_ ⟨φ,_,σ',.refl _,wr_cells hr h2 g1 g2 g3 hcv hone (λi hi=>hasAll_ok b2 i (by omega)) h5 e2 h7,rfl,Ext.put h7 h8,h9⟩
 simp only [Instr.storeAt,ea,Instr.sureAddr,Sem.run_bind,Sem.run_pure,Result.andThen_ok,storeVar,run_sizeOf' w hi]
 rw [if_neg (by rw [cells_eq];simp;rw [hin,← b1',decs_length hcv])]
 rw [cells_eq]
 simpa using e1
theorem callB {b:Builtin} {args:Array Operand} {ats:Array TypeId} {s:Sem Value} (ho:o.op=.call { callee:=.builtin b,args:=args,argTypes:=ats }) (hb:∀ c,builtin b ats o.type c (args.map ρ)=(do pure (Next.value (← s)):Sem Next)):∀ w,(execOp ρ o).run P w=((do pure (Next.value (← s)):Sem Next)).run P w:=by
 intro w
 simp only [execOp,ho,resolve,Sem.run_bind,Sem.run_pure,Result.andThen_ok,invoke,hb]
theorem OpOK.valB {b:Builtin} {args:Array Operand} {ats:Array TypeId} {s:Sem Value} {y:Value} {w':World} (ho:o.op=.call { callee:=.builtin b,args:=args,argTypes:=ats }) (hb:∀ c,builtin b ats o.type c (args.map ρ)=(do pure (Next.value (← s)):Sem Next)) (hs:s.run P w=.ok y w') (h:Post P Hd w0 φ σ k y w'):OpOK P Hd w0 φ σ w ρ o k:=by
 unfold OpOK
 rw [callB ho hb,run_v hs]
 exact h
def LenK:Nat→TypeDesc→Prop
 | 0,.string=>True
 | 1,.slice _=>True
 | 2,.map _ _=>True
 | _,_=>False
theorem op_len {t kd:Nat} {x:Operand} {u:V} {args:Array Operand} {ats:Array TypeId} {ud:TypeDesc} (ho:o.op=.call { callee:=.builtin .len,args:=args,argTypes:=ats }) (hargs:args.toList=[x]) (hats:ats.toList=[t]) (ht:P.underlying t=some ud)
  (hud:LenK kd ud) (hr:Rel P Hd w0 φ σ w) (hx:dec φ u=some (ρ x)) (h:vLen kd u σ (λu=>k u σ)=.ok):OpOK P Hd w0 φ σ w ρ o k:=by
 have ha:args=#[x]:=Array.ext' hargs
 have hat:ats=#[t]:=Array.ext' hats
 subst ha hat
 have fin:∀ {n:Nat},(Builtin.len_ #[t] o.type #[ρ x]).run P w=.ok (.int .i64 n) w→k (.i .i64 (.ofNat n)) σ=.ok→OpOK P Hd w0 φ σ w ρ o k:=λhrun hk =>
  OpOK.valB (s:=Builtin.len_ #[t] o.type #[ρ x]) ho (λc=>by simp [builtin]) hrun (Post.pure hr (by simp [dec]) hk)
 rcases onLen_ok h with⟨l,rfl,h1⟩ | ⟨v,off,m,c,rfl,h1⟩ | ⟨v,off,r,p,s,rfl,h1⟩ | ⟨rfl,h1⟩ | ⟨rfl,h1⟩ | ⟨v,rfl,h1⟩ <;> obtain⟨hb,h1⟩:=iff_ok h1 <;> have hb':=kB hb
 ·subst hb'
  have e:=dec_s hx
  cases ud <;> simp only [LenK] at hud
  exact fin (by rw [e];simp [Builtin.len_,run_underlying' w ht,bytesOf_size,goInt]) h1
 ·subst hb'
  obtain⟨M,_,e,_⟩:=dec_sl hx
  cases ud <;> simp only [LenK] at hud
  exact fin (by rw [e];simp [Builtin.len_,run_underlying' w ht,goInt]) h1
 ·subst hb'
  obtain⟨M,_,e⟩:=kE (show (φ v).map _=some (ρ x) from hx)
  cases ud <;> simp only [LenK] at hud
  exact fin (by rw [← e];simp [Builtin.len_,run_underlying' w ht,goInt]) h1
 ·subst hb'
  have e:ρ x=.slice none 0 0:=by simpa [dec] using hx.symm
  cases ud <;> simp only [LenK] at hud
  exact fin (by rw [e];simp [Builtin.len_,run_underlying' w ht,goInt]) h1
 ·subst hb'
  have e:ρ x=.map none:=by simpa [dec] using hx.symm
  cases ud <;> simp only [LenK] at hud
  exact fin (by rw [e];simp [Builtin.len_,run_underlying' w ht,goInt]) h1
 ·subst hb'
  obtain⟨M,hM,e⟩:=dec_m hx
  cases ud <;> simp only [LenK] at hud
  obtain⟨bk,h3,h4⟩:=H.get_ok h1
  obtain⟨kT',ks',es,ver,rfl,h5⟩:=onMp_ok h4
  obtain⟨L,hL,hge,hks',arr,clock,hat,hA⟩:=hr.live h3 trivial
  rw [hM] at hL;cases hL
  exact fin (by rw [e];simp [Builtin.len_,run_underlying' w ht,MapKept.run_getObj_map hat,goInt,hA.size]) h5
theorem op_mm {mx:Bool} {x y:Operand} {a b:V} {args:Array Operand} {ats:Array TypeId} (ho:o.op=.call { callee:=.builtin (if mx then .max else .min),args:=args,argTypes:=ats }) (hargs:args.toList=[x,y]) (hr:Rel P Hd w0 φ σ w) (hx:dec φ a=some (ρ x)) (hy:dec φ b=some (ρ y))
  (h:vMM mx a b (λu=>k u σ)=.ok):OpOK P Hd w0 φ σ w ρ o k:=by
 have ha:args=#[x,y]:=Array.ext' hargs
 subst ha
 obtain⟨κ,m,e1,h1⟩:=onI_ok (x:=a) h
 clear h;subst e1
 obtain⟨κ',n,e2,h2⟩:=onI_ok h1
 clear h1;subst e2
 have ex:=dec_i hx
 have ey:=dec_i hy
 cases mx
 ·have hb:∀ c,builtin .min ats o.type c (#[x,y].map ρ)=(do pure (Next.value (← Builtin.min_ ats o.type #[ρ x,ρ y])):Sem Next):=λc=>by simp [builtin]
  rcases iff_t (show iff' (ilt n m) _ _=.ok from h2) with⟨h0,h3⟩ | ⟨h0,h3⟩ <;> rw [ilt_eq] at h0
  ·have h0':n < m:=by simpa using h0
   exact OpOK.valB (y:=.int κ n) (w':=w) (by simpa using ho) hb (by simp [Builtin.min_,Builtin.min2,ex,ey,List.foldlM,h0']) (Post.pure hr (by simp [dec]) h3)
  ·have h0':¬ n < m:=by simpa using h0
   exact OpOK.valB (y:=.int κ m) (w':=w) (by simpa using ho) hb (by simp [Builtin.min_,Builtin.min2,ex,ey,List.foldlM,h0']) (Post.pure hr (by simp [dec]) h3)
 ·have hb:∀ c,builtin .max ats o.type c (#[x,y].map ρ)=(do pure (Next.value (← Builtin.max_ ats o.type #[ρ x,ρ y])):Sem Next):=λc=>by simp [builtin]
  rcases iff_t (show iff' (ilt m n) _ _=.ok from h2) with⟨h0,h3⟩ | ⟨h0,h3⟩ <;> rw [ilt_eq] at h0
  ·have h0':m < n:=by simpa using h0
   exact OpOK.valB (y:=.int κ n) (w':=w) (by simpa using ho) hb (by simp [Builtin.max_,Builtin.max2,ex,ey,List.foldlM,h0']) (Post.pure hr (by simp [dec]) h3)
  ·have h0':¬ m < n:=by simpa using h0
   exact OpOK.valB (y:=.int κ m) (w':=w) (by simpa using ho) hb (by simp [Builtin.max_,Builtin.max2,ex,ey,List.foldlM,h0']) (Post.pure hr (by simp [dec]) h3)
end
section
variable {D:Type} {P:Program} {Hd:D→Loc→View→Prop} {w0:World} {φ:Phi} {σ:H D} {w:World} {ρ:Operand→Value} {o:Oper} {k:V→H D→R}
theorem dec_in {κ:IntKind} {i:Nat} {x:Operand} (h:dec φ (.i κ (.ofNat i))=some (ρ x)):ρ x=.int κ (.ofNat i):=dec_i h
theorem op_mks {t el:Nat} {l c:Operand} {ul uc:V} {inf:TypeInfo} {z:List V} {v:Vid} (ho:o.op=.makeSlice t l c) (ht:P.underlying t=some (.slice el)) (hi:P.info? el=some inf) (hz:zeroC P el=some z) (hlz:z.length=inf.size) (h0:0 < inf.size)
  (hr:Rel P Hd w0 φ σ w) (hl:dec φ ul=some (ρ l)) (hc:dec φ uc=some (ρ c)) (h:vMkS z el inf.size inf.bytes v ul uc σ k=.ok):OpOK P Hd w0 φ σ w ρ o k:=by
 obtain⟨κl,nl,rfl,h1⟩:=asI_ok h
 obtain⟨κc,nc,rfl,h2⟩:=asI_ok h1
 obtain⟨hb,h3⟩:=iff_ok h2
 simp only [Bool.and_eq_true] at hb
 obtain⟨⟨b1,b2⟩,b3⟩:=hb
 have b1:=Nat.le_of_ble_eq_true b1
 have b2:nc * inf.bytes≤100000000:=Nat.le_of_ble_eq_true b2
 have b3:=Nat.le_of_ble_eq_true b3
 obtain⟨t',h4,h5⟩:=trOf_ok h3
 obtain⟨i,zv,hi',hzv,hzc,hrun⟩:=zeroC_ok hz
 rw [hi] at hi';cases hi'
 have hzd:=cellsC_dec (φ:=φ) hzc
 have hzs:zv.cells.size=inf.size:=by have:=decs_length hzd;simp at this;omega
 have hzero:=zeros_eq (zero:=zv.cells) (by omega) nc
 obtain⟨φ',σ',g1,g2,g3,g4,g5⟩:=new_cells (cap:=0) (cells:=(Array.range (nc * inf.size)).map (zv.cells[· % zv.cells.size]!)) hr h5 (λi u hu=>by
  rw [h4] at hu
  have hd:=times_dec hzd nc
  rw [← hzero] at hd
  obtain⟨y,a1,a2⟩:=decs_get hd hu
  rw [hzs] at a1
  have hy:y∈(List.replicate nc zv.cells.toList).flatten:=by rw [← hzero];rw [← hzs] at a1;exact kD a1
  have hlt:=(kA a1).1
  simp at hlt
  exact⟨hlt,y,by rw [← Array.getElem?_toList];rw [hzs];exact a1,a2,flat_one (cellsC_one hzc).1 nc y hy⟩) (λ_=>by simp) (λhe=>by cases he)
 have el':=dec_in hl
 have ec':=dec_in hc
 refine OpOK.val (s:=Instr.makeSlice t (ρ l) (ρ c)) (y:=.slice (some ⟨w.heap.size,0,none⟩) nl nc) (w':=w.alloc (.cells ((Array.range (nc * inf.size)).map (zv.cells[· % zv.cells.size]!)) el)) (by simp [execOp,ho]) ?_ ⟨φ',_,σ',g1,g3,by rw [dec_sl_mk g2 (by simp [capOf];omega)];rfl,g4,g5⟩
 have hb2:(inf.bytes:Int) * (nc:Int)≤281474976710656:=by
  have:(inf.bytes:Int) * (nc:Int)≤100000000:=by rw [← Int.natCast_mul];rw [Nat.mul_comm];omega
  omega
 rw [el',ec']
 have:=run_make (P:=P) w t el inf zv ht hi hzv κl κc (nl:Int) (nc:Int) (by omega) (by omega) hb2 (by omega)
 simpa [madeCells] using this
theorem bytesV_ok:∀ {l:List V} {s:List Nat} {vs:List Value},bytesV l=some s→decs φ l=some vs→vs=s.map λn=>Value.int .u8 (Int.ofNat n)
 | [],s,vs,h,hd=>by
  simp [bytesV] at h;subst h
  simp [decs] at hd;subst hd;rfl
 | u::l,s,vs,h,hd=>by
  obtain⟨y,vs',rfl,h1,h2⟩:=decs_cons_inv hd
  unfold bytesV at h
  split at h <;> try (cases h;done)
  rename_i κ n
  split at h <;> try (cases h;done)
  rename_i n' r hk hr
  cases h
  cases bytesV_ok hr h2
  have:=dec_i h1
  subst this
  have:κ=.u8:=kIx_eq (b:=.u8) hk
  subst this
  rfl
theorem push_bytes (s:List Nat):∀ r:ByteArray,(s.map Int.ofNat).foldl (λr (n:Int)=>r.push (UInt8.ofNat n.toNat)) r=r++bytesOf s:=by
 induction s with
 | nil=>intro r;apply ba_ext;simp [bytesOf]
 | cons a s ih =>
  intro r
  rw [List.map_cons,List.foldl_cons,ih]
  apply ba_ext
  simp [bytesOf]
theorem run_b2s {s d el:Nat} {v:Value} (w:World) (hs:P.underlying s=some (.slice el)) (hd:P.underlying d=some .string) (he:P.underlying el=some (.int .u8)) (hv:∃ a n c,v=.slice a n c):(convert s d v).run P w=(Conv.bytesToString v).run P w:=by
 obtain⟨a,n,c,rfl⟩:=hv
 simp [convert,run_underlying' w hs,run_underlying' w hd,run_underlying' w he]
theorem op_b2s {s d el:Nat} {x:Operand} {u:V} (ho:o.op=.convert s d x) (hs:P.underlying s=some (.slice el)) (hd:P.underlying d=some .string) (he:P.underlying el=some (.int .u8)) (hr:Rel P Hd w0 φ σ w) (hx:dec φ u=some (ρ x))
  (h:vB2S u σ (λu=>k u σ)=.ok):OpOK P Hd w0 φ σ w ρ o k:=by
 have fin:∀ {l:List Nat},(∃ a n c,ρ x=.slice a n c)→(Conv.bytesToString (ρ x)).run P w=.ok (.string (bytesOf l)) w→k (.s l) σ=.ok→OpOK P Hd w0 φ σ w ρ o k:=λhv hrun hk =>
  OpOK.val (s:=convert s d (ρ x)) (by simp [execOp,ho]) (by rw [run_b2s w hs hd he hv];exact hrun) (Post.pure hr (by simp [dec]) hk)
 rcases onRd_ok h with⟨rfl,h1⟩ | ⟨v,off,r,p,sz,rfl,h1⟩ | ⟨v,off,m,c,rfl,h1⟩ | ⟨l,rfl,h1⟩
 ·have e:ρ x=.slice none 0 0:=by simpa [dec] using hx.symm
  exact fin ⟨_,_,_,e⟩ (by rw [e];simp [Conv.bytesToString,bytesOf];rfl) h1
 ·obtain⟨M,_,e⟩:=kE (show (φ v).map _=some (ρ x) from hx)
  refine fin ⟨_,_,_,e.symm⟩ ?_ h1
  rw [← e,run_bytesToString w _ 0 _ [] (by simp [loadCells,loadCellsFrom])]
  rfl
 ·obtain⟨M,hM,e,hle⟩:=dec_sl hx
  obtain⟨ex,n,c',ty,sz,h2,h3⟩:=H.cells_ok (show σ.cells v _=.ok from h1)
  obtain⟨l,h4,h5,h6⟩:=rdFrom_ok h3
  obtain⟨bs,h7,h8⟩:=orE_ok h6
  obtain⟨ad,vs,e1,e2,e3,_,e5⟩:=cells_list hr h2 h4 h5 (y:=.pointer (some ⟨M.blk,M.base + off,none⟩)) (by simp [dec,hM])
  cases e1
  cases bytesV_ok h7 e2
  refine fin ⟨_,_,_,e⟩ ?_ h8
  have hl:=run_loadCells (P:=P) e5
  rw [e3] at hl
  have:=run_bytesToString (P:=P) w ⟨M.blk,M.base + off,none⟩ m (capOf M c) (bs.map Int.ofNat) (by rw [hl,List.map_map];rfl)
  rw [e,this,push_bytes]
  congr 2
 ·cases h1
end
section
variable {D:Type} {P:Program} {Hd:D→Loc→View→Prop} {w0:World} {φ φ':Phi} {σ σ':H D} {w w':World} {ρ:Operand→Value} {o:Oper} {k:V→H D→R}
theorem src_ok {sz tx:Nat} {x:V} {y:Value} {K:Nat→List V→R} (hr:Rel P Hd w0 φ σ w) (hx:dec φ x=some y) (hk:(∃ e',P.underlying tx=some (.slice e'))∨P.underlying tx=some .string) (h:rdSl sz x σ K=.ok) :
  ∃ m l,K m l=.ok∧(l.length=m * sz→∃ news,decs φ l=some news∧Src P sz tx y m news w):=by
 rcases onRd_ok h with⟨rfl,h1⟩ | ⟨v,off,r,p,s,rfl,h1⟩ | ⟨v,off,m,c,rfl,h1⟩ | ⟨l,rfl,h1⟩
 ·have e:y=.slice none 0 0:=by simpa [dec] using hx.symm
  subst e
  exact⟨0,[],h1,λ_=>⟨[],rfl,⟨hk,λ_=>rfl,run_firstCells_none w sz 0 0 0,run_firstCells_none w.drew sz 0 0 0,by simp,λ_ h=>by cases h⟩⟩⟩
 ·obtain⟨M,_,e⟩:=kE (show (φ v).map _=some y from hx)
  subst e
  exact⟨0,[],h1,λ_=>⟨[],rfl,⟨hk,λ_=>rfl,run_firstCells_some w sz 0 _ 0 _ [] (by simp) (λj v h=>by simp at h),run_firstCells_some w.drew sz 0 _ 0 _ [] (by simp) (λj v h=>by simp at h),by simp,λ_ h=>by cases h⟩⟩⟩
 ·obtain⟨M,hM,e,hle⟩:=dec_sl hx
  subst e
  obtain⟨ex,n,c',ty,sz',h2,h3⟩:=H.cells_ok (show σ.cells v _=.ok from h1)
  obtain⟨l,h4,h5,h6⟩:=rdFrom_ok h3
  obtain⟨ad,vs,e1,e2,e3,e4,e5⟩:=cells_list hr h2 h4 h5 (y:=.pointer (some ⟨M.blk,M.base + off,none⟩)) (by simp [dec,hM])
  cases e1
  exact⟨m,l,h6,λ_=>⟨vs,e2,⟨hk,λ_=>rfl,run_firstCells_some w sz m _ m _ vs e3 e5,run_firstCells_some w.drew sz m _ m _ vs e3 (by simpa using e5),e3,λu hu=>by have:=e4 u hu;cases u <;> first | rfl | cases this⟩⟩⟩
 ·have e:=dec_s hx
  subst e
  obtain⟨hb,h2⟩:=iff_ok h1
  have:=kB hb
  subst this
  refine⟨_,_,h2,λ_=>⟨byteCells (bytesOf l),?_,?_⟩⟩
  ·refine decs_mk (by rw [byteCells_length,bytesOf_size];simp) λi x hx=>?_
   simp only [List.getElem?_map,Option.map_eq_some_iff] at hx
   obtain⟨b,hb,rfl⟩:=hx
   refine⟨.int .u8 (Int.ofNat (b % 256)),?_,rfl⟩
   simp [byteCells,bytesOf,hb]
  ·have hs:l.length=(bytesOf l).size:=by rw [bytesOf_size]
   rw [hs]
   exact⟨hk,λ_=>rfl,firstCells_string _ w,firstCells_string _ w.drew,by rw [byteCells_length,Nat.mul_one],λu hu=>by
    obtain⟨_,_,rfl⟩:=List.mem_map.1 hu
    rfl⟩
theorem newOpen_ok {v:Vid} {l:List V} {need ty sz cap:Nat} {cells:Array Value} {vs:List Value} (hr:Rel P Hd w0 φ σ w) (h:newOpen v l need ty sz σ k=.ok) (hd:decs φ l=some vs) (h1:∀ x∈vs,oneCell x=true) (hl:l.length=need * sz) (h0:0 < sz) (hc:need≤cap)
  (hcells:∀ (i:Nat) y,vs[i]?=some y→cells[i]?=some y) (hs:cells.size=cap * sz) :
  ∃ φ' σ',φ.le φ'∧Rel P Hd w0 φ' σ' (w.alloc (.cells cells ty))∧dec φ' (.sl v 0 need (.re 0))=some (.slice (some ⟨w.heap.size,0,none⟩) need cap)∧Ext σ σ'∧k (.sl v 0 need (.re 0)) σ'=.ok:=by
 obtain⟨c,h2,h3⟩:=trOf_ok h
 rw [fN_eq] at h3
 obtain⟨φ',σ',g1,g2,g3,g4,g5⟩:=new_cells (cap:=cap) (cells:=cells) hr h3 (λi u hu=>by
  rw [h2] at hu
  obtain⟨y,a1,a2⟩:=decs_get hd hu
  have:=(kA hu).1
  exact⟨by simpa [hl] using this,y,hcells i y a1,a2,h1 y (kD a1)⟩) (λhe=>by cases he) (λ_=>⟨h0,Nat.mul_le_mul_right _ hc,by omega⟩)
 exact⟨φ',σ',g1,g3,by rw [dec_sl_mk g2 (by simpa [capOf] using hc)];simp [capOf],g4,g5⟩
theorem run_append_room {t tx ty el m:Nat} {i:TypeInfo} {a:Addr} {n cap:Nat} {x:Value} {news:List Value} (ht:P.underlying t=some (.slice el)) (hi:P.info? el=some i) (hs:Src P i.size tx x m news w) (hc:n + m≤cap) (hst:(storeCells (a.add (n * i.size)) news).run P w=.ok () w') :
  (Builtin.append_ #[t,tx] ty #[.slice (some a) n cap,x]).run P w=.ok (.slice (some a) (n + m) cap) w':=by
 rcases hs.kind with⟨e',hk⟩ | hk <;> simp [Builtin.append_,run_underlying' w ht,run_underlying' w hk,run_sizeOf' w hi,hs.len,hc,hs.cells,hst]
theorem run_append_nil0 {t tx ty el:Nat} {i:TypeInfo} {x:Value} (ht:P.underlying t=some (.slice el)) (hi:P.info? el=some i) {news:List Value} (hs:Src P i.size tx x 0 news w) :
  (Builtin.append_ #[t,tx] ty #[.slice none 0 0,x]).run P w=.ok (.slice none 0 0) w:=by
 rcases hs.kind with⟨e',hk⟩ | hk <;> simp [Builtin.append_,run_underlying' w ht,run_underlying' w hk,run_sizeOf' w hi,hs.len,hs.cells]
theorem Rel.kill (h:Rel P Hd w0 φ σ w) {v:Vid} {ex:Bool} {n:Nat} {c:Tr V} {ty sz:Nat} (hv:σ.look v=some (.cells ex n c ty sz)) (hσ:∀ v',σ'.look v'=if v'=v then some .dead else σ.look v'):Rel P Hd w0 φ σ' w:=by
 have hof:∀ {u c},σ'.look u=some c→Live c→σ.look u=some c:=by
  intro u c hu hc
  rw [hσ] at hu
  by_cases huv:u=v
  ·rw [if_pos huv] at hu;cases hu;exact hc.elim
  ·rw [if_neg huv] at hu;exact hu
 refine h.step (Ch:=No) (Phi.le.refl _) Keeps.refl (λ_ _ h=>h.elim) (λu hn=>?_) (λu c L' hu hc hL'=>.inl ⟨u,c,L',hof hu hc,hc,hL',rfl⟩) (λu u' c c' M M' h1 h2 h3 h4 h5 h6 h7=>h.inj u u' c c' M M' (hof h1 h2) h2 (hof h3 h4) h4 h5 h6 h7) (λu c hu hd=>?_) (λm kT ks es ver hm=>?_)
 ·rw [hσ] at hn
  by_cases huv:u=v
  ·rw [if_pos huv] at hn;cases hn
  ·rw [if_neg huv] at hn;exact h.gone u hn
 ·rw [hσ] at hu
  by_cases huv:u=v
  ·rw [if_pos huv] at hu;cases hu;exact absurd rfl hd
  ·rw [if_neg huv] at hu;exact .inl ⟨hu,λ_ _ _ h=>h⟩
 ·have:m≠v:=by rintro rfl;rw [hv] at hm;cases hm
  exact .inl ⟨by rw [hσ,if_neg this];exact hm,λ_ _ h=>h⟩
theorem Rel.move (h:Rel P Hd w0 φ σ w) {u v:Vid} {ex:Bool} {n:Nat} {c:Tr V} {ty sz:Nat} {L L':Loc} {b':Blk D} {ob:Obj} (hu:σ.look u=some (.cells ex n c ty sz)) (hL:φ u=some L) (hv:σ.look v=none) (hup:Upd L.blk ob w w') (hLL:L'.blk=L.blk)
  (hσ:∀ v',σ'.look v'=if v'=v then some b' else if v'=u then some .dead else σ.look v') (hb:BlkOK P Hd w0 σ' (φ.with v L') w' L' b'):Rel P Hd w0 (φ.with v L') σ' w':=by
 have huv:u≠v:=by rintro rfl;rw [hv] at hu;cases hu
 have hof:∀ {x d},σ'.look x=some d→Live d→x≠v→σ.look x=some d∧x≠u:=by
  intro x d hx hd hxv
  rw [hσ,if_neg hxv] at hx
  by_cases hxu:x=u
  ·rw [if_pos hxu] at hx;cases hx;exact hd.elim
  ·rw [if_neg hxu] at hx;exact⟨hx,hxu⟩
 have hwith:∀ {x M},x≠v→φ.with v L' x=some M→φ x=some M:=by
  intro x M hx hM;simpa [Phi.with,hx] using hM
 have hdis:∀ {x d M},σ'.look x=some d→Live d→x≠v→φ.with v L' x=some M→M.blk≠L.blk:=by
  intro x d M hx hd hxv hM he
  obtain⟨h1,h2⟩:=hof hx hd hxv
  exact h2 (h.inj x u d _ M L h1 hd hu trivial (hwith hxv hM) hL he)
 refine h.step (Ch:=(·=L.blk)) (Phi.with_le (h.gone v hv)) hup.keeps (λb' _ hb=>⟨u,_,L,hu,trivial,hL,hb.symm⟩) (λx hn=>?_) (λx d M hx hd hM=>?_) (λx x' d d' M M' h1 h2 h3 h4 h5 h6 h7=>?_) (λx d hx hd=>?_) (λm kT ks es ver hm=>?_)
 ·rw [hσ] at hn
  by_cases hxv:x=v
  ·rw [if_pos hxv] at hn;cases hn
  ·rw [if_neg hxv] at hn
   by_cases hxu:x=u
   ·rw [if_pos hxu] at hn;cases hn
   ·rw [if_neg hxu] at hn;simp [Phi.with,hxv,h.gone x hn]
 ·by_cases hxv:x=v
  ·subst hxv;rw [Phi.with_eq] at hM;cases hM;exact .inl ⟨u,_,L,hu,trivial,hL,hLL.symm⟩
  ·exact .inl ⟨x,d,M,(hof hx hd hxv).1,hd,hwith hxv hM,rfl⟩
 ·by_cases hxv:x=v
  ·by_cases hxv':x'=v
   ·rw [hxv,hxv']
   ·subst hxv;rw [Phi.with_eq] at h5;cases h5
    exact absurd (h7.symm.trans hLL) (hdis h3 h4 hxv' h6)
  ·by_cases hxv':x'=v
   ·subst hxv';rw [Phi.with_eq] at h6;cases h6
    exact absurd (h7.trans hLL) (hdis h1 h2 hxv h5)
   ·exact h.inj x x' d d' M M' (hof h1 h2 hxv).1 h2 (hof h3 h4 hxv').1 h4 (hwith hxv h5) (hwith hxv' h6) h7
 ·by_cases hxv:x=v
  ·subst hxv;rw [hσ,if_pos rfl] at hx;cases hx;exact .inr ⟨L',Phi.with_eq,hb⟩
  ·have hx':=hx
   rw [hσ,if_neg hxv] at hx
   by_cases hxu:x=u
   ·rw [if_pos hxu] at hx;cases hx;exact absurd rfl hd
   ·rw [if_neg hxu] at hx
    exact .inl ⟨hx,λM hM hl he=>hxu (h.inj x u d _ M L hx hl hu trivial hM hL he)⟩
 ·have h1:m≠v:=by rintro rfl;rw [hv] at hm;cases hm
  have h2:m≠u:=by rintro rfl;rw [hu] at hm;cases hm
  exact .inl ⟨by rw [hσ,if_neg h1,if_neg h2];exact hm,λM hM he=>h2 (h.inj m u _ _ M L hm trivial hu trivial hM hL he)⟩
end
section
variable {D:Type} {P:Program} {Hd:D→Loc→View→Prop} {w0:World} {φ φ':Phi} {σ σ':H D} {w w':World} {ρ:Operand→Value} {o:Oper} {k:V→H D→R}
theorem grown_cells {zero:Array Value} {vs:List Value} {need cap sz:Nat} (hz:zero.size=sz) (hl:vs.length=need * sz) (hc:need≤cap):(vs.toArray++Builtin.zeroCells zero (cap - need)).size=cap * sz:=by
 rw [Array.size_append,size_zeroCells,hz,List.size_toArray,hl,← Nat.add_mul]
 congr 1
 omega
theorem op_app {t tx el:Nat} {s x:Operand} {us ux:V} {v:Vid} {args:Array Operand} {ats:Array TypeId} {inf:TypeInfo} {z:List V} (ho:o.op=.call { callee:=.builtin .append,args:=args,argTypes:=ats }) (hargs:args.toList=[s,x]) (hats:ats.toList=[t,tx])
  (ht:P.underlying t=some (.slice el)) (hi:P.info? el=some inf) (hz:zeroC P el=some z) (hlz:z.length=inf.size) (h0:0 < inf.size) (hk:(∃ e',P.underlying tx=some (.slice e'))∨P.underlying tx=some .string)
  (hr:Rel P Hd w0 φ σ w) (hs:dec φ us=some (ρ s)) (hx:dec φ ux=some (ρ x)) (h:vApp el inf.size inf.bytes v us ux σ k=.ok):OpOK P Hd w0 φ σ w ρ o k:=by
 have ha:args=#[s,x]:=Array.ext' hargs
 have hat:ats=#[t,tx]:=Array.ext' hats
 subst ha hat
 obtain⟨m,l,h1,h2⟩:=src_ok hr hx hk h
 obtain⟨hb,h3⟩:=iff_ok h1
 clear h h1
 simp only [Bool.and_eq_true] at hb
 obtain⟨⟨⟨b1,b2⟩,b3⟩,b4⟩:=hb
 have b1:=Nat.le_of_ble_eq_true b1
 have b2:m * inf.bytes≤100000000:=Nat.le_of_ble_eq_true b2
 have b4:l.length=m * inf.size:=kB b4
 obtain⟨news,d1,src⟩:=h2 b4
 have hone:=one_of d1 (allOne_ok b3)
 obtain⟨i,zv,hi',hzv,hzc,hrun⟩:=zeroC_ok hz
 rw [hi] at hi';cases hi'
 have hzs:zv.cells.size=inf.size:=by have:=decs_length (cellsC_dec (φ:=φ) hzc);simp at this;omega
 have fin:∀ {y:Value} {w':World},(Builtin.append_ #[t,tx] o.type #[ρ s,ρ x]).run P w=.ok y w'→Post P Hd w0 φ σ k y w'→OpOK P Hd w0 φ σ w ρ o k:=λhrun hp =>
  OpOK.valB (s:=Builtin.append_ #[t,tx] o.type #[ρ s,ρ x]) ho (λc=>by simp [builtin]) hrun hp
 have grow:∀ {φ1:Phi} {σ1:H D} {base:Option Addr} {n cap:Nat} {old:List V} {olds:List Value},φ.le φ1→Ext σ σ1→Rel P Hd w0 φ1 σ1 w→ρ s=.slice base n cap→n≤100000→n * inf.bytes≤100000000→cap < n + m→decs φ old=some olds→(∀ y∈olds,oneCell y=true)→olds.length=n * inf.size →
   (Builtin.firstCells inf.size n (.slice base n cap)).run P w.drew=.ok olds.toArray w.drew→newOpen v (old++l) (n + m) el inf.size σ1 k=.ok→OpOK P Hd w0 φ σ w ρ o k:=by
  intro φ1 σ1 base n cap old olds hle hext hr1 es c1 c2 hg ho1 ho2 ho3 hf hnew
  have hnb:(n + m) * inf.bytes≤140737488355328:=by rw [Nat.add_mul];omega
  have hrun:=run_append_grow_src (P:=P) w t tx o.type el inf zv ht hi hzv base n cap olds hf (ρ x) m news src hg (by omega) (growslice_fits hg hnb)
  have hge:=grownCap_ge w (n + m) cap el
  have hlen:(olds++news).length=(n + m) * inf.size:=by rw [List.length_append,ho3,src.newsLen,Nat.add_mul]
  obtain⟨φ2,σ2,g1,g2,g3,g4,g5⟩:=newOpen_ok (cap:=grownCap w (n + m) cap el) (cells:=(olds++news).toArray++Builtin.zeroCells zv.cells (grownCap w (n + m) cap el - (n + m))) hr1.drew hnew (decs_append (decs_mono hle _ _ ho1) (decs_mono hle _ _ d1))
   (λy hy=>by rcases List.mem_append.1 hy with hy | hy;exact ho2 y hy;exact hone y hy) (by rw [← decs_length (decs_append ho1 d1),hlen]) h0 hge (λi y hy=>by
    have:=(kA hy).1
    rw [Array.getElem?_append_left (by simpa using this)]
    simpa using hy) (grown_cells hzs hlen hge)
  exact fin (by rw [es];exact hrun) ⟨φ2,_,σ2,hle.trans g1,g2,g3,hext.trans g4,g5⟩
 rcases onApp_ok h3 with⟨rfl,h4⟩ | ⟨u,off,n,c,rfl,h4⟩
 ·have es:ρ s=.slice none 0 0:=by simpa [dec] using hs.symm
  rcases iff_t (show iff' _ _ _=.ok from h4) with⟨hm,h5⟩ | ⟨hm,h5⟩
  ·have:=kB hm
   subst this
   exact fin (by rw [es];exact run_append_nil0 ht hi src) (Post.pure hr (by simp [dec]) h5)
  ·have hm:m≠0:=by intro e;subst e;cases hm
   refine grow (old:=[]) (olds:=[]) (.refl _) (.refl _) hr es (by omega) (by omega) (by omega) rfl (by simp) (by simp) (run_firstCells_none _ _ _ _ _) ?_
   rw [Nat.zero_add]
   exact h5
 ·obtain⟨L,hL,es,hle⟩:=dec_sl hs
  obtain⟨ex,known,tr,ty',sz',h5,h6⟩:=H.cells_ok (show σ.cells u _=.ok from h4)
  clear h3 h4
  obtain⟨hb,h7⟩:=iff_ok h6
  clear h6
  simp only [Bool.and_eq_true] at hb
  obtain⟨⟨⟨c1,c2⟩,c3⟩,c4⟩:=hb
  have c1:=Nat.le_of_ble_eq_true c1
  have c2:n * inf.bytes≤100000000:=Nat.le_of_ble_eq_true c2
  have c3:=kB c3
  have c4:=kB c4
  rw [c3,c4] at h5
  rw [fN_eq] at h7
  obtain⟨M,cs,hM,hge,hA⟩:=hr.cells h5
  rw [hL] at hM;cases hM
  have inplace:∀ {ex':Bool} {c':Cp},capOf L c'=capOf L c→n + m≤capOf L c→ex'=ex→hasAll tr (off + n * inf.size) l.length=true→wrFrom l tr (off + n * inf.size) (λt=>σ.put u (.cells ex' known t el inf.size) λσ=>k (.sl u off (n + m) c') σ)=.ok→OpOK P Hd w0 φ σ w ρ o k:=by
   intro ex' c' hcap hroom hex hall hwr
   subst hex
   obtain⟨t',e1,e2⟩:=wrFrom_ok hwr
   obtain⟨σ',e3,e4,e5⟩:=H.put_ok e2
   obtain⟨w',e6,e7⟩:=run_wr (P:=P) hA d1 (allOne_ok b3) (λi hi=>hasAll_ok hall i hi)
   refine fin (w':=w') (y:=.slice (some ⟨L.blk,L.base + off,none⟩) (n + m) (capOf L c)) ?_ ⟨φ,_,σ',.refl _,wr_cells hr h5 hL hge hA d1 (allOne_ok b3) (λi hi=>hasAll_ok hall i hi) e1 e7 e3,by rw [dec_sl_mk hL (by omega),hcap],Ext.put e3 e4,e5⟩
   rw [es]
   refine run_append_room ht hi src hroom ?_
   rw [add_eq,Nat.add_assoc]
   exact e6
  have old:∀ {K:List V→R},rdFrom tr off (n * inf.size) K=.ok→∃ old olds,K old=.ok∧decs φ old=some olds∧(∀ y∈olds,oneCell y=true)∧olds.length=n * inf.size∧(∀ i,i < n * inf.size→tr.get (off + i)=old[i]?)∧old.length=n * inf.size ∧
    (Builtin.firstCells inf.size n (.slice (some ⟨L.blk,L.base + off,none⟩) n (capOf L c))).run P w.drew=.ok olds.toArray w.drew:=by
   intro K hK
   obtain⟨old,f1,f2,f3⟩:=rdFrom_ok hK
   obtain⟨ad,vs,e1,e2,e3,e4,e5⟩:=cells_list hr h5 f1 f2 (y:=.pointer (some ⟨L.blk,L.base + off,none⟩)) (by simp [dec,hL])
   cases e1
   exact⟨old,vs,f3,e2,e4,e3,f2,f1,run_firstCells_some w.drew inf.size n _ n _ vs e3 (by simpa using e5)⟩
  cases c with
  | ex c =>
   rcases iff_t (show iff' _ _ _=.ok from h7) with⟨hn,h8⟩ | ⟨hn,h8⟩
   ·have hn:n + m≤c:=Nat.le_of_ble_eq_true hn
    obtain⟨hall,h9⟩:=iff_ok h8
    exact inplace (c':=.ex c) rfl hn rfl hall h9
   ·have hn:c < n + m:=by
     rcases Nat.lt_or_ge c (n + m) with h | h
     ·exact h
     ·cases (show true=false from (Nat.ble_eq_true_of_le (m:=c) (n:=n + m) h).symm.trans hn)
    obtain⟨ol,ols,f1,f2,f3,f4,_,_,f5⟩:=old h8
    exact grow (.refl _) (.refl _) hr es c1 c2 hn f2 f3 f4 f5 f1
  | re r =>
   obtain⟨hex,h8⟩ | ⟨hex,h8⟩:=iff_t (show iff' ex _ _=.ok from h7)
   ·cases h8
   subst hex
   obtain⟨hoff,h9⟩:=iff_ok h8
   have hoff:off=r * inf.size:=kB hoff
   subst hoff
   obtain⟨o1,o2,o3⟩:=hA.open_ rfl
   rcases iff_t (show iff' _ _ _=.ok from h9) with⟨hn,h10⟩ | ⟨hn,h10⟩
   ·have hn:r * inf.size + (n + m) * inf.size≤known:=Nat.le_of_ble_eq_true hn
    have hn2:(r + (n + m)) * inf.size≤L.cap * inf.size:=by rw [Nat.add_mul];omega
    have hn3:=Nat.le_of_mul_le_mul_right hn2 h0
    obtain⟨hall,h11⟩:=iff_ok h10
    exact inplace (c':=.re r) rfl (by simp only [capOf];omega) rfl hall h11
   ·obtain⟨ol,ols,f1,f2,f3,f4,f40,f41,f5⟩:=old h10
    obtain⟨σ1,e1,e2,e3⟩:=H.put_ok f1
    by_cases hroom:n + m≤capOf L (.re r)
    ·
     obtain⟨tr',g1,g2⟩:=trOf_ok e3
     rw [fN_eq] at g2
     obtain⟨g3,σ2,g4,g5,g6⟩:=H.add_ok g2
     have hroom':n + m≤L.cap - r:=hroom
     have huv:v≠u:=by rintro rfl;rw [e1,if_pos rfl] at g3;cases g3
     have hv:σ.look v=none:=by rw [e1,if_neg huv] at g3;exact g3
     have hlen:l.length=news.length:=(decs_length d1).symm
     have hsz:0 < l.length→L.base + (r * inf.size + n * inf.size) + l.length≤cs.size:=by
      intro hl
      have hmpos:0 < m:=by
       rcases Nat.eq_zero_or_pos m with h | h
       ·rw [b4,h,Nat.zero_mul] at hl;cases hl
       ·exact h
      have:=o3 (by omega)
      have h2:(r + (n + m)) * inf.size≤L.cap * inf.size:=Nat.mul_le_mul_right _ (by omega)
      rw [Nat.add_mul,Nat.add_mul] at h2
      omega
     obtain⟨w',e6,e7⟩:∃ w',(storeCells ⟨L.blk,L.base + (r * inf.size + n * inf.size),none⟩ news).run P w=.ok () w'∧Upd L.blk (.cells (wr (L.base + (r * inf.size + n * inf.size)) news cs.toList).toArray el (0,0)) w w':=by
      rcases Nat.eq_zero_or_pos l.length with hl0 | hl0
      ·have:news=[]:=List.eq_nil_of_length_eq_zero (by omega)
       subst this
       exact⟨w,rfl,Upd.id (by simpa [wr] using hA.at_)⟩
      ·exact stCells_ok news 0 w (stCells_blk news 0 w cs _ hA.at_ (by have:=hsz hl0;rw [← hlen];simpa using this) hone λw' hu=>by simpa using hu)
     have hle':=Phi.with_le (L:=⟨L.blk,L.base + r * inf.size,L.cap - r⟩) (hr.gone v hv)
     refine fin (w':=w') (y:=.slice (some ⟨L.blk,L.base + r * inf.size,none⟩) (n + m) (L.cap - r)) ?_ ⟨φ.with v ⟨L.blk,L.base + r * inf.size,L.cap - r⟩,_,σ2,hle',?_,by rw [dec_sl_mk Phi.with_eq (by simpa [capOf] using hroom')];simp [capOf],(Ext.put e1 e2).trans (Ext.put g4 g5),g6⟩
     ·rw [es]
      refine run_append_room ht hi src hroom ?_
      rw [add_eq,Nat.add_assoc]
      exact e6
     ·refine hr.move (b':=.cells false (Nat.mul (Nat.add n m) inf.size) tr' el inf.size) h5 hL hv e7 rfl (λv'=>by rw [g4,e1]) ⟨hge,_,⟨e7.at_,λi y hy=>?_,λhe=>(by cases he),λ_=>⟨h0,Nat.mul_le_mul_right _ hroom',λhc=>?_⟩⟩⟩
      ·rw [g1] at hy
       have hlt:=(kA hy).1
       simp only [List.length_append,f41,b4] at hlt
       refine⟨by show i < (n + m) * inf.size;rw [Nat.add_mul];exact hlt,?_⟩
       rw [List.getElem?_toArray]
       by_cases hi2:i < n * inf.size
       ·rw [List.getElem?_append_left (by omega)] at hy
        rw [← f40 i hi2] at hy
        obtain⟨_,yy,a1,a2,a3⟩:=hA.get _ _ hy
        refine⟨yy,dec_mono hle' _ _ a1,?_,a3⟩
        rcases Nat.eq_zero_or_pos l.length with hl0 | hl0
        ·have:news=[]:=List.eq_nil_of_length_eq_zero (by omega)
         subst this
         show (wr _ [] cs.toList)[_]?=_
         rw [show wr (L.base + (r * inf.size + n * inf.size)) [] cs.toList=cs.toList from rfl,Array.getElem?_toList,← a2]
         congr 1
         show L.base + r * inf.size + i=_
         omega
        ·rw [wr_get _ _ _ _ (by have:=hsz hl0;rw [← hlen];simpa using this),if_neg (by show ¬ (_≤L.base + r * inf.size + i∧_);omega),Array.getElem?_toList,← a2]
         congr 1
         show L.base + r * inf.size + i=_
         omega
       ·rw [List.getElem?_append_right (by omega),f41] at hy
        obtain⟨yy,a1,a2⟩:=decs_get d1 hy
        refine⟨yy,dec_mono hle' _ _ a2,?_,hone yy (kD a1)⟩
        have hl0:0 < l.length:=by omega
        rw [wr_get _ _ _ _ (by have:=hsz hl0;rw [← hlen];simpa using this),if_pos (by show _≤L.base + r * inf.size + i∧L.base + r * inf.size + i < _;rw [← hlen,b4];omega),← a1]
        congr 1
        show L.base + r * inf.size + i - _=_
        omega
      ·have hc:0 < L.cap - r:=hc
       have:=o3 (by omega)
       show L.base + r * inf.size + (L.cap - r) * inf.size≤_
       simp only [List.size_toArray,wr_length,Array.length_toList]
       have:r * inf.size + (L.cap - r) * inf.size=L.cap * inf.size:=by rw [← Nat.add_mul];congr 1;omega
       omega
    ·exact grow (.refl _) (Ext.put e1 e2) (hr.kill h5 e1) es c1 c2 (by omega) f2 f3 f4 f5 e3
end
open Go.ChangeMaps (setBlock)
section
variable {D:Type} {P:Program} {Hd:D→Loc→View→Prop} {w0:World} {φ φ':Phi} {σ σ':H D} {w w':World} {ρ:Operand→Value} {o:Oper} {k:V→H D→R}
theorem Rel.killI (h:Rel P Hd w0 φ σ w) {v:Vid} {m:Vid} {vr:Nat} {la:List V} {re:List (V × V)} (hv:σ.look v=some (.iter m vr la re)) (hσ:∀ v',σ'.look v'=if v'=v then some .dead else σ.look v'):Rel P Hd w0 φ σ' w:=by
 have hof:∀ {u c},σ'.look u=some c→Live c→σ.look u=some c:=by
  intro u c hu hc
  rw [hσ] at hu
  by_cases huv:u=v
  ·rw [if_pos huv] at hu;cases hu;exact hc.elim
  ·rw [if_neg huv] at hu;exact hu
 refine h.step (Ch:=No) (Phi.le.refl _) Keeps.refl (λ_ _ h=>h.elim) (λu hn=>?_) (λu c L' hu hc hL'=>.inl ⟨u,c,L',hof hu hc,hc,hL',rfl⟩) (λu u' c c' M M' h1 h2 h3 h4 h5 h6 h7=>h.inj u u' c c' M M' (hof h1 h2) h2 (hof h3 h4) h4 h5 h6 h7) (λu c hu hd=>?_) (λm kT ks es ver hm=>?_)
 ·rw [hσ] at hn
  by_cases huv:u=v
  ·rw [if_pos huv] at hn;cases hn
  ·rw [if_neg huv] at hn;exact h.gone u hn
 ·rw [hσ] at hu
  by_cases huv:u=v
  ·rw [if_pos huv] at hu;cases hu;exact absurd rfl hd
  ·rw [if_neg huv] at hu;exact .inl ⟨hu,λ_ _ _ h=>h⟩
 ·have:m≠v:=by rintro rfl;rw [hv] at hm;cases hm
  exact .inl ⟨by rw [hσ,if_neg this];exact hm,λ_ _ h=>h⟩
theorem op_rng {t kT el:Nat} {x:Operand} {u:V} {v:Vid} (ho:o.op=.range t x) (ht:P.underlying t=some (.map kT el)) (hr:Rel P Hd w0 φ σ w) (hx:dec φ u=some (ρ x)) (h:vRng v u σ k=.ok):OpOK P Hd w0 φ σ w ρ o k:=by
 obtain⟨m,rfl,h1⟩:=onM_ok h
 obtain⟨b,h2,h3⟩:=H.get_ok (show σ.get m _=.ok from h1)
 obtain⟨kT',ks,es,ver,rfl,h4⟩:=onMp_ok h3
 obtain⟨M,hM,em⟩:=dec_m hx
 obtain⟨L,hL,hge,hks,arr,clock,hat,hA⟩:=hr.live h2 trivial
 rw [hM] at hL;cases hL
 obtain⟨g1,σ',g2,g3,g4⟩:=H.add_ok h4
 have hle:=Phi.with_le (L:=⟨w.heap.size,0,0⟩) (hr.gone v g1)
 have hmv:m≠v:=by rintro rfl;rw [g1] at h2;cases h2
 have hA':=hA.mono hle
 have hn:=newAt w (.mapIter (some M.blk) clock #[] clock)
 refine OpOK.val (s:=Instr.range t (ρ x)) (y:=.pointer (some ⟨w.heap.size,0,none⟩)) (w':=w.alloc (.mapIter (some M.blk) clock #[] clock)) (by simp [execOp,ho]) (by rw [em];simp [Instr.range,run_underlying' w ht,MapKept.run_getObj_map hat,run_newObj]) ⟨φ.with v ⟨w.heap.size,0,0⟩,_,σ',hle,?_,by simp [dec,Phi.with_eq],Ext.put g2 g3,g4⟩
 refine hr.new g1 hn g2 ⟨hr.keeps.size,rfl,M,clock,#[],clock,hle _ _ hM,hn.at_,kT',ks,es,ver,by rw [g2,if_neg hmv];exact h2,Nat.le_refl _,λ_=>⟨arr,clock,hn.keeps.blk0 hat,rfl,.inl ⟨rfl,rfl,rfl⟩,by simp,λe he _=>hA'.to_ e he,λp hp=>?_,hA'.nd⟩⟩
 obtain⟨e,he,a1,a2⟩:=hA'.of p hp
 exact⟨e,he,by simp,a1,a2⟩
theorem eachOf_ok {k:V × V→List (V × V)→R}:∀ {l pre:List (V × V)},eachOf true pre l k=.ok→∀ l1 p l2,l=l1++p::l2→k p (pre++l1++l2)=.ok
 | [],pre,_,l1,p,l2,h=>by simp at h
 | q::l,pre,h,l1,p,l2,he=>by
  have h':R.and (k q (pre++l)) (eachOf true (pre++[q]) l k)=.ok:=h
  have hand:∀ {x y:R},R.and x y=.ok→x=.ok∧y=.ok:=by
   intro x y h
   cases x with
   | ok=>exact⟨rfl,h⟩
   | no n=>cases h
  obtain⟨h1,h2⟩:=hand h'
  cases l1 with
  | nil=>simp at he;obtain⟨rfl,rfl⟩:=he;simpa using h1
  | cons a l1 =>
   simp at he
   obtain⟨rfl,rfl⟩:=he
   have:=eachOf_ok h2 l1 p l2 rfl
   simpa using this
theorem onIter_ok {x:V} {K:Vid→Vid→Nat→List V→List (V × V)→R} (h:onIter x σ K=.ok):∃ v m ver last rest kT ks es,x=.p v 0∧σ.look v=some (.iter m ver last rest)∧σ.look m=some (.map kT ks es ver)∧K v m ver last rest=.ok:=by
 obtain⟨v,off,rfl,h1⟩:=onP_ok h
 obtain⟨h0,h2⟩:=iff_ok h1
 have h0:=kB h0
 subst h0
 obtain⟨b,h3,h4⟩:=H.get_ok (show σ.get v _=.ok from h2)
 obtain⟨m,ver,last,rest,rfl,h5⟩:=onIt_ok h4
 obtain⟨b',h6,h7⟩:=H.get_ok (show σ.get m _=.ok from h5)
 obtain⟨kT,ks,es,ver',rfl,h8⟩:=onMp_ok h7
 obtain⟨h9,h10⟩:=iff_ok h8
 have h9:=kB h9
 subst h9
 exact⟨v,m,ver,last,rest,kT,ks,es,rfl,h3,h6,h10⟩
theorem Rel.iter (hr:Rel P Hd w0 φ σ w) {v m:Vid} {ver kT:Nat} {ks:KS} {last:List V} {rest es:List (V × V)} (h1:σ.look v=some (.iter m ver last rest)) (h2:σ.look m=some (.map kT ks es ver)) :
  ∃ L Lm seen arr clock,φ v=some L∧L.base=0∧w0.heap.size≤L.blk∧φ m=some Lm∧w.heap[L.blk]?=some (.mapIter (some Lm.blk) clock seen clock)∧w.heap[Lm.blk]?=some (.map arr clock)∧MapAt' φ ks arr clock es ∧
   ((last=[]∧seen=#[])∨∃ e∈arr.toList,seen.back?=some e.born∧decs φ last=some [e.key,e.val])∧(∀ s∈seen.toList,∃ e∈arr.toList,e.born=s) ∧
   (∀ e∈arr.toList,seen.contains e.born=false→∃ p∈rest,dec φ p.1=some e.key∧dec φ p.2=some e.val) ∧
   (∀ p∈rest,∃ e∈arr.toList,seen.contains e.born=false∧dec φ p.1=some e.key∧dec φ p.2=some e.val)∧(rest.Pairwise λp q=>∀ x,dec φ p.1=some x→dec φ q.1≠some x):=by
 obtain⟨L,hL,hge,hb,Lm,since,seen,stepped,hm,hat,kT',ks',es',ver',a1,a2,a3⟩:=hr.live h1 trivial
 rw [h2] at a1;cases a1
 obtain⟨arr,clock,b1,rfl,b3,b4,b5,b6,b7⟩:=a3 rfl
 obtain⟨M,hM,_,_,arr',clock',c1,c2⟩:=hr.live h2 trivial
 rw [hm] at hM;cases hM
 rw [b1] at c1;cases c1
 have hst:stepped=since:=by rcases b3 with⟨_,_,h⟩ | ⟨h,_⟩ <;> exact h
 subst hst
 exact⟨L,Lm,seen,arr,stepped,hL,hb,hge,hm,hat,b1,c2,b3.imp (λ⟨x,y,_⟩=>⟨x,y⟩) (λ⟨_,x⟩=>x),b4,b5,b6,b7⟩
theorem op_ent {x:Operand} {u:V} (ho:o.op=.entry x) (hr:Rel P Hd w0 φ σ w) (hx:dec φ u=some (ρ x)) (h:vEnt u σ (λu=>k u σ)=.ok):OpOK P Hd w0 φ σ w ρ o k:=by
 obtain⟨v,m,ver,last,rest,kT,ks,es,rfl,h1,h2,h3⟩:=onIter_ok h
 obtain⟨hb,h4⟩:=iff_ok h3
 have hb:=kB hb
 obtain⟨L,Lm,seen,arr,clock,a1,a2,a3,a4,a5,a6,a7,a8,_⟩:=hr.iter h1 h2
 rcases a8 with⟨rfl,_⟩ | ⟨e,he,b1,b2⟩
 ·cases hb
 obtain⟨M,hM,ex⟩:=dec_p hx
 rw [a1] at hM;cases hM
 have hs:seen=seen.pop.push e.born:=by
  rw [Array.back?_eq_getElem?] at b1
  obtain⟨hlt,b1⟩:=Array.getElem?_eq_some_iff.1 b1
  apply Array.ext
  ·simp;omega
  ·intro i hi1 hi2
   rw [Array.getElem_push]
   split
   ·simp
   ·rename_i hh
    simp at hh
    have:i=seen.size - 1:=by omega
    subst this
    exact b1
 rw [hs] at a5
 refine OpOK.val (s:=Instr.entry (ρ x)) (y:=.tuple #[e.key,e.val]) (w':=w) (by simp [execOp,ho]) ?_ (Post.pure hr (by simp [dec,b2]) h4)
 rw [ex,a2]
 exact run_entry_at w L.blk Lm.blk clock seen.pop arr clock e a5 a6 he a7.st.2.1
theorem op_nxt {x:Operand} {u:V} (ho:o.op=.next x false) (hr:Rel P Hd w0 φ σ w) (hx:dec φ u=some (ρ x)) (h:vNxt true u σ k=.ok):OpOK P Hd w0 φ σ w ρ o k:=by
 obtain⟨v,m,ver,last,rest,kT,ks,es,rfl,h1,h2,h3⟩:=onIter_ok h
 obtain⟨L,Lm,seen,arr,clock,a1,a2,a3,a4,a5,a6,a7,a8,a9,a10,a11,a12⟩:=hr.iter h1 h2
 obtain⟨M,hM,ex⟩:=dec_p hx
 rw [a1] at hM;cases hM
 have hexec:execOp ρ o=(do pure (Next.value (← Instr.next (ρ x) false o.type)):Sem Next):=by simp [execOp,ho]
 have ex':ρ x=.pointer (some ⟨L.blk,0,none⟩):=by rw [ex,a2]
 rcases run_next_at (P:=P) w o.type L.blk Lm.blk clock clock seen arr clock a5 a6 a7.st.1 (Nat.le_refl _) with⟨b1,b2⟩ | ⟨e,he,w1,b2,b3⟩
 ·cases rest with
  | nil =>
   obtain⟨σ',g1,g2,g3⟩:=H.put_ok (show σ.put v .dead _=.ok from h3)
   exact OpOK.val (w':=w) hexec (by rw [ex'];exact b2) ⟨φ,_,σ',.refl _,hr.killI h1 g1,by simp [dec,decs],Ext.put g1 g2,g3⟩
  | cons p l =>
   obtain⟨e,he,c1,_⟩:=a11 p (by simp)
   have:e∈leftOf arr seen:=by simp only [leftOf,Array.mem_filter];exact⟨by simpa using he,by rw [c1];rfl⟩
   have hz:=Array.eq_empty_of_size_eq_zero b1
   rw [hz] at this;simp at this
 ·have he':e∈arr.toList∧seen.contains e.born=false:=by
   simp only [leftOf,Array.toList_filter,List.mem_filter] at he
   exact⟨he.1,by simpa using he.2⟩
  obtain⟨p,hp,c1,c2⟩:=a10 e he'.1 he'.2
  cases rest with
  | nil=>simp at hp
  | cons p0 l0 =>
   obtain⟨l1,l2,hl⟩:=List.append_of_mem hp
   have h4:=eachOf_ok (show eachOf true [] (p0::l0) _=.ok from h3) l1 p l2 hl
   rw [List.nil_append] at h4
   obtain⟨σ',g1,g2,g3⟩:=H.put_ok h4
   rw [hl] at a10 a11 a12
   rw [List.pairwise_append,List.pairwise_cons] at a12
   obtain⟨n1,⟨n2,n3⟩,n4⟩:=a12
   have hw1:w1.heap=w.heap:=by rcases b2 with rfl | rfl <;> rfl
   have hr1:Rel P Hd w0 φ σ w1:=by rcases b2 with rfl | rfl;exact hr;exact hr.drew
   have hu:Upd L.blk (.mapIter (some Lm.blk) clock (seen.push e.born) clock) w1 (setBlock w1 L.blk (.mapIter (some Lm.blk) clock (seen.push e.born) clock)):=by
    refine⟨?_,⟨rfl,rfl,rfl,by simp [setBlock],λi hi hm=>?_⟩,by simp [setBlock]⟩
    ·simp [setBlock,hw1,(Array.getElem?_eq_some_iff.1 a5).1]
    ·simp only [setBlock]
     rw [Array.getElem?_setIfInBounds_ne (λhh=>hm hh.symm)]
   have hmv:Lm.blk≠L.blk:=by intro hh;rw [hh,a5] at a6;cases a6
   have hmv':m≠v:=by rintro rfl;rw [h1] at h2;cases h2
   have hinj:∀ e1∈arr.toList,∀ e2∈arr.toList,e1.born=e2.born→e1=e2:=λe1 h1 e2 h2 hh=>born_inj a7.st.2.1 h1 h2 hh
   refine OpOK.val hexec (by rw [ex'];exact b3) ⟨φ,_,σ',.refl _,hr1.set h1 trivial a1 hu g1 (b':=.iter m ver [p.1,p.2] (l1++l2)) trivial (λ_ _ _ _ h=>by cases h) ⟨a3,a2,Lm,clock,seen.push e.born,clock,a4,hu.at_,kT,ks,es,ver,by rw [g1,if_neg hmv'];exact h2,Nat.le_refl _,λ_=>⟨arr,clock,hu.keeps.blk (by rw [hw1];exact a6) hmv,rfl,.inr ⟨rfl,e,he'.1,by simp,decs_cons c1 (decs_cons c2 rfl)⟩,λs hs=>?_,λe' h5 h6=>?_,λq hq=>?_,?_⟩⟩,by simp [dec,decs,c1,c2],Ext.put g1 g2,g3⟩
   ·simp only [Array.toList_push,List.mem_append,List.mem_singleton] at hs
    rcases hs with hs | rfl
    ·exact a9 s hs
    ·exact⟨e,he'.1,rfl⟩
   ·simp only [Array.contains_push,Bool.or_eq_false_iff,beq_eq_false_iff_ne] at h6
    obtain⟨q,hq,d1,d2⟩:=a10 e' h5 h6.1
    refine⟨q,?_,d1,d2⟩
    rcases List.mem_append.1 hq with hq | hq
    ·simp [hq]
    ·rcases List.mem_cons.1 hq with rfl | hq
     ·rw [c1] at d1
      have:=key_once a7.st he'.1 h5 (Option.some.inj d1)
      exact absurd (by rw [this]) h6.2
     ·simp [hq]
   ·have hq':q∈l1++p::l2:=by rcases List.mem_append.1 hq with hq | hq <;> simp [hq]
    obtain⟨e',f1,f2,f3,f4⟩:=a11 q hq'
    refine⟨e',f1,?_,f3,f4⟩
    simp only [Array.contains_push,f2,Bool.false_or,beq_eq_false_iff_ne]
    intro hh
    have:=hinj e' f1 e he'.1 (by first | exact hh | exact hh.symm)
    subst this
    rcases List.mem_append.1 hq with hq | hq
    ·exact n4 q hq p (by simp) _ f3 c1
    ·exact n2 q hq _ c1 f3
   ·rw [List.pairwise_append]
    exact⟨n1,n3,λa ha b hb=>n4 a ha b (by simp [hb])⟩
end
end Go.Ev
end
section
namespace Go.Ev
open Go Go.Fk
section
variable {D:Type} {P:Program} {φ:Phi} {loc:List (Option Nat)} {L:Lc} {e:E} {ρ:Operand→Value} {o:Oper} {σ:H D} {k:V→H D→R} {cl:Nat→Hk D} {md:Bool} {v:Vid}
theorem get1 (hc:Cx φ loc L e ρ) {x:Operand} {K:List V→R} (h:getL [opd loc x] L e K=.ok):∃ u,dec φ u=some (ρ x)∧K [u]=.ok:=by
 obtain⟨us,h1,h2⟩:=getL_ok h
 cases h1 with | cons a t=>cases t;exact⟨_,hc.opd a,h2⟩
theorem get2 (hc:Cx φ loc L e ρ) {x y:Operand} {K:List V→R} (h:getL [opd loc x,opd loc y] L e K=.ok):∃ u u',dec φ u=some (ρ x)∧dec φ u'=some (ρ y)∧K [u,u']=.ok:=by
 obtain⟨us,h1,h2⟩:=getL_ok h
 cases h1 with | cons a t=>cases t with | cons b t=>cases t;exact⟨_,_,hc.opd a,hc.opd b,h2⟩
theorem get3 (hc:Cx φ loc L e ρ) {x y z:Operand} {K:List V→R} (h:getL [opd loc x,opd loc y,opd loc z] L e K=.ok):∃ u u' u'',dec φ u=some (ρ x)∧dec φ u'=some (ρ y)∧dec φ u''=some (ρ z)∧K [u,u',u'']=.ok:=by
 obtain⟨us,h1,h2⟩:=getL_ok h
 cases h1 with | cons a t=>cases t with | cons b t=>cases t with | cons c t=>cases t;exact⟨_,_,_,hc.opd a,hc.opd b,hc.opd c,h2⟩
theorem get4 (hc:Cx φ loc L e ρ) {x y z q:Operand} {K:List V→R} (h:getL [opd loc x,opd loc y,opd loc z,opd loc q] L e K=.ok):∃ u u' u'' u3,dec φ u=some (ρ x)∧dec φ u'=some (ρ y)∧dec φ u''=some (ρ z)∧dec φ u3=some (ρ q)∧K [u,u',u'',u3]=.ok:=by
 obtain⟨us,h1,h2⟩:=getL_ok h
 cases h1 with | cons a t=>cases t with | cons b t=>cases t with | cons c t=>cases t with | cons d t=>cases t;exact⟨_,_,_,_,hc.opd a,hc.opd b,hc.opd c,hc.opd d,h2⟩
theorem getN (hc:Cx φ loc L e ρ) {l:List Operand} {K:List V→R} (h:getL (opds loc l) L e K=.ok):∃ us,decs φ us=some (l.map ρ)∧K us=.ok:=by
 obtain⟨us,h1,h2⟩:=getL_ok h
 exact⟨us,hc.opds h1,h2⟩
theorem g0 {kd:OK} (h:evO P cl md v (.op kd []) L e σ k=.ok):vK kd [] v σ k=.ok:=h
theorem g1 (hc:Cx φ loc L e ρ) {x:Operand} {kd:OK} (h:evO P cl md v (.op kd [opd loc x]) L e σ k=.ok):∃ u,dec φ u=some (ρ x)∧vK kd [u] v σ k=.ok:=get1 hc (show getL _ L e (λvs=>vK kd vs v σ k)=.ok from h)
theorem g2 (hc:Cx φ loc L e ρ) {x y:Operand} {kd:OK} (h:evO P cl md v (.op kd [opd loc x,opd loc y]) L e σ k=.ok):∃ u u',dec φ u=some (ρ x)∧dec φ u'=some (ρ y)∧vK kd [u,u'] v σ k=.ok:=get2 hc (show getL _ L e (λvs=>vK kd vs v σ k)=.ok from h)
theorem g3 (hc:Cx φ loc L e ρ) {x y z:Operand} {kd:OK} (h:evO P cl md v (.op kd [opd loc x,opd loc y,opd loc z]) L e σ k=.ok):∃ u u' u'',dec φ u=some (ρ x)∧dec φ u'=some (ρ y)∧dec φ u''=some (ρ z)∧vK kd [u,u',u''] v σ k=.ok:=get3 hc (show getL _ L e (λvs=>vK kd vs v σ k)=.ok from h)
theorem g4 (hc:Cx φ loc L e ρ) {x y z q:Operand} {kd:OK} (h:evO P cl md v (.op kd [opd loc x,opd loc y,opd loc z,opd loc q]) L e σ k=.ok):∃ u u' u'' u3,dec φ u=some (ρ x)∧dec φ u'=some (ρ y)∧dec φ u''=some (ρ z)∧dec φ u3=some (ρ q)∧vK kd [u,u',u'',u3] v σ k=.ok:=get4 hc (show getL _ L e (λvs=>vK kd vs v σ k)=.ok from h)
theorem gN (hc:Cx φ loc L e ρ) {l:List Operand} {kd:OK} (h:evO P cl md v (.op kd (opds loc l)) L e σ k=.ok):∃ us,decs φ us=some (l.map ρ)∧vK kd us v σ k=.ok:=getN hc (show getL _ L e (λvs=>vK kd vs v σ k)=.ok from h)
theorem pure_ok (hc:Cx φ loc L e ρ) (hp:pureO (compOp P loc o)=true) (h:evO P cl md v (compOp P loc o) L e σ k=.ok):PureOK P φ ρ o (λu=>k u σ):=by
 cases hop:o.op
 case move x =>
  simp only [compOp,hop] at h
  obtain⟨u,hx,h⟩:=g1 hc h
  exact pure_mv (.inl hop) hx h
 case assign x =>
  simp only [compOp,hop] at h
  obtain⟨u,hx,h⟩:=g1 hc h
  exact pure_mv (.inr hop) hx h
 case pick c a b =>
  simp only [compOp,hop] at h
  exact pure_pick hc hop h
 case nilCheck x =>
  simp only [compOp,hop] at h
  obtain⟨u,hx,h⟩:=g1 hc h
  exact pure_nil hop hx h
 case extract x j =>
  simp only [compOp,hop] at h
  obtain⟨u,hx,h⟩:=g1 hc h
  exact pure_ext hop hx h
 case build t ps =>
  simp only [compOp,hop] at h
  split at h
  ·rename_i fs ht
   split at h
   ·rename_i z l hz hl hs
    obtain⟨us,hus,h⟩:=gN hc h
    exact pure_build_s hop ht hz hl hs hus h
   ·cases h
  ·rename_i n el ht
   split at h
   ·rename_i z sz hz hsz
    obtain⟨us,hus,h⟩:=gN hc h
    exact pure_build_a hop ht hz hsz hus h
   ·cases h
  ·cases h
 case binOp op t x y yt =>
  simp only [compOp,hop] at h hp
  split at h
  ·obtain⟨a,b,hx,hy,h⟩:=g2 hc h
   exact pure_eq (neg:=false) rfl hop hc.const hx hy h
  ·obtain⟨a,b,hx,hy,h⟩:=g2 hc h
   exact pure_eq (neg:=true) rfl hop hc.const hx hy h
  ·obtain⟨a,b,hx,hy,h⟩:=g2 hc h
   exact pure_shl hop hx hy h
  ·obtain⟨a,b,hx,hy,h⟩:=g2 hc h
   exact pure_shr hop hx hy h
  ·rename_i h1 h2 h3 h4
   split at h
   ·rename_i ht
    split at h
    ·obtain⟨a,b,hx,hy,h⟩:=g2 hc h
     exact pure_cat hop hx hy h
    ·cases h
   ·obtain⟨a,b,hx,hy,h⟩:=g2 hc h
    exact pure_binI hop h1 h2 h3 h4 hx hy h
 case unOp op t x =>
  simp only [compOp,hop] at h
  split at h
  ·obtain⟨u,hx,h⟩:=g1 hc h;exact pure_not hop hx h
  ·obtain⟨u,hx,h⟩:=g1 hc h;exact pure_neg hop hx h
  ·obtain⟨u,hx,h⟩:=g1 hc h;exact pure_cpl hop hx h
  ·cases h
 case convert s d x =>
  simp only [compOp,hop] at h hp
  split at h
  ·rename_i κs κ hs hd
   obtain⟨u,hx,h⟩:=g1 hc h
   exact pure_conv hop hs hd hx h
  ·rename_i hs hd
   rw [hs,hd] at hp
   cases hp
  ·rename_i el hs hd
   rw [hs,hd] at hp
   simp only at hp
   split at hp <;> cases hp
  ·cases h
 case fieldAddr t x f =>
  simp only [compOp,hop] at h
  split at h
  ·rename_i fd hf
   split at h
   ·rename_i n hn
    split at h
    ·cases h
    ·rename_i h0
     obtain⟨u,hx,h⟩:=g1 hc h
     exact pure_fa hop hf hn (by rintro rfl;cases h0) hx h
   ·cases h
  ·cases h
 case field t x f =>
  simp only [compOp,hop] at h
  split at h
  ·rename_i fd hf
   split at h
   ·rename_i ud n hud hn
    obtain⟨u,hx,h⟩:=g1 hc h
    exact pure_fld hop hf hud hn hx h
   ·cases h
  ·cases h
 case indexAddr t x i =>
  simp only [compOp,hop] at h
  split at h
  ·rename_i el ht
   split at h
   ·rename_i sz hsz
    obtain⟨u,j,hx,hj,h⟩:=g2 hc h
    obtain⟨inf,h1,h2⟩:=sizeC_ok hsz
    subst h2
    exact pure_ia hop ht h1 hx hj h
   ·cases h
  ·rename_i n el ht
   split at h
   ·rename_i sz hsz
    obtain⟨u,j,hx,hj,h⟩:=g2 hc h
    obtain⟨inf,h1,h2⟩:=sizeC_ok hsz
    subst h2
    exact pure_iaa hop ht h1 hx hj h
   ·cases h
  ·cases h
 case index t x i =>
  simp only [compOp,hop] at h
  split at h
  ·rename_i ht
   obtain⟨u,j,hx,hj,h⟩:=g2 hc h
   exact pure_is hop ht hx hj h
  ·rename_i n el ht
   split at h
   ·rename_i ud sz hud hsz
    obtain⟨u,j,hx,hj,h⟩:=g2 hc h
    exact pure_iv hop ht hud hsz hx hj h
   ·cases h
  ·cases h
 case call c =>
  revert hp h
  simp only [compOp,hop]
  repeat' split
  all_goals (intro hp h;first | (cases hp;done) | skip)
  rename_i x t hargs hats hcal _ n el ht
  obtain⟨cal,args,ats⟩:=c
  simp only at hcal hargs hats
  subst hcal
  have ha:args=#[x]:=Array.ext' hargs
  have hat:ats=#[t]:=Array.ext' hats
  subst ha hat
  exact⟨.i .i64 (.ofNat n),.int .i64 n,by simp [dec],λw=>by rw [callB (s:=Builtin.len_ #[t] o.type #[ρ x]) hop (λc=>by simp [builtin]) w];exact run_v (by simp [Builtin.len_,run_underlying' w ht,goInt]),h⟩
 all_goals
  exfalso
  revert hp
  simp only [compOp,hop]
  repeat' split
  all_goals (intro hp;cases hp)
end
section
variable {D:Type} {P:Program} {Hd:D→Loc→View→Prop} {w0:World} {w:World} {φ:Phi} {loc:List (Option Nat)} {L:Lc} {e:E} {ρ:Operand→Value} {o:Oper} {σ:H D} {k:V→H D→R} {cl:Nat→Hk D} {md:Bool} {v:Vid}
def ClOK (P:Program) (Hd:D→Loc→View→Prop) (w0:World) (cl:Nat→Hk D):Prop:=∀ (F:Nat) (l:List V) (σ:H D) (K:V→H D→R) (φ:Phi) (w:World) (vs:List Value),Rel P Hd w0 φ σ w→decs φ l=some vs→cl F l σ K=.ok →
 enters P F=true∧Calls P F vs.toArray w λe w''=>∃ v,e=.returned v∧Post P Hd w0 φ σ K v w''
theorem optS (hc:Cx φ loc L e ρ) {x:Operand} {lo hi:Option Operand} {kd:OK} (h:evO P cl md v (.op kd (opd loc x::(ofO loc lo++ofO loc hi))) L e σ k=.ok) :
  ∃ u ul uh,dec φ u=some (ρ x)∧OptR φ ρ lo ul∧OptR φ ρ hi uh∧vK kd (u::(ul.toList++uh.toList)) v σ k=.ok:=by
 cases lo <;> cases hi
 ·obtain⟨u,hx,h⟩:=g1 hc (show evO P cl md v (.op kd [opd loc x]) L e σ k=.ok from h)
  exact⟨u,none,none,hx,trivial,trivial,h⟩
 ·obtain⟨u,u',hx,h1,h⟩:=g2 hc (show evO P cl md v (.op kd [opd loc x,opd loc _]) L e σ k=.ok from h)
  exact⟨u,none,some u',hx,trivial,h1,h⟩
 ·obtain⟨u,u',hx,h1,h⟩:=g2 hc (show evO P cl md v (.op kd [opd loc x,opd loc _]) L e σ k=.ok from h)
  exact⟨u,some u',none,hx,h1,trivial,h⟩
 ·obtain⟨u,u',u'',hx,h1,h2,h⟩:=g3 hc (show evO P cl md v (.op kd [opd loc x,opd loc _,opd loc _]) L e σ k=.ok from h)
  exact⟨u,some u',some u'',hx,h1,h2,h⟩
theorem optR_is {x:Option Operand} {u:Option V} (h:OptR φ ρ x u):isS x=u.isSome:=by cases x <;> cases u <;> first | rfl | exact h.elim
theorem op_slice {t:Nat} {x:Operand} {lo hi mx:Option Operand} (hop:o.op=.slice t x lo hi mx) (hc:Cx φ loc L e ρ) (h:evO P cl md v (compOp P loc o) L e σ k=.ok):PureOK P φ ρ o (λu=>k u σ):=by
 simp only [compOp,hop] at h
 split at h
 ·rename_i ht
  split at h
  ·obtain⟨u,ul,uh,hx,hl,hh,h⟩:=optS hc h
   refine pure_slS hop ht hx hl hh ?_
   rw [optR_is hl,optR_is hh] at h;cases ul <;> cases uh <;> exact h
  ·cases h
 ·rename_i el ht
  split at h
  ·rename_i sz hsz
   obtain⟨inf,h1,h2⟩:=sizeC_ok hsz
   subst h2
   obtain⟨u,ul,uh,hx,hl,hh,h⟩:=optS hc h
   refine pure_sl hop ht h1 hx hl hh ?_
   rw [optR_is hl,optR_is hh] at h;cases ul <;> cases uh <;> exact h
  ·rename_i sz m hi' hsz
   obtain⟨inf,h1,h2⟩:=sizeC_ok hsz
   subst h2
   cases lo with
   | none =>
    obtain⟨u,uh,um,hx,hh,hm,h⟩:=g3 hc (show evO P cl md v (.op _ [opd loc x,opd loc _,opd loc _]) L e σ k=.ok from h)
    exact pure_sl3 (ul:=none) hop ht h1 hx trivial hh hm h
   | some lo =>
    obtain⟨u,uh,um,ul,hx,hh,hm,hl,h⟩:=g4 hc (show evO P cl md v (.op _ [opd loc x,opd loc _,opd loc _,opd loc _]) L e σ k=.ok from h)
    exact pure_sl3 (ul:=some ul) hop ht h1 hx hl hh hm h
  ·cases h
 ·rename_i n el ht
  split at h
  ·rename_i sz hsz
   obtain⟨inf,h1,h2⟩:=sizeC_ok hsz
   subst h2
   obtain⟨u,ul,uh,hx,hl,hh,h⟩:=optS hc h
   refine pure_slA hop ht h1 hx hl hh ?_
   rw [optR_is hl,optR_is hh] at h;cases ul <;> cases uh <;> exact h
  ·cases h
 ·cases h
theorem calls_good {F:Nat} {vs:Array Value} (h:(execOp ρ o).run P w=.ok (.enter F vs) w) (hC:Calls P F vs w λe w''=>∃ v,e=.returned v∧Post P Hd w0 φ σ k v w''):OpOK P Hd w0 φ σ w ρ o k:=by
 unfold OpOK
 rw [h]
 exact hC
theorem methF_ok {t:TypeId} {name:String} {F:Nat} {y:Value} (h:methF P t name=some F) (w:World) (n:Nat):(method (n + 1) t y name).run P w=.ok (F,y) w:=by
 unfold methF at h
 split at h <;> try (cases h;done)
 rename_i i hi
 split at h <;> try (cases h;done)
 rename_i m hm
 split at h <;> try (cases h;done)
 rename_i F' hp hf hu
 cases h
 simp [method,run_typeInfo' w hi,hm,hp,follow,hf,receiverAt,run_underlying' w hu,Place.get]
theorem op_call {c:Call} (hop:o.op=.call c) (hp:pureO (compOp P loc o)=false) (hcl:ClOK P Hd w0 cl) (hc:Cx φ loc L e ρ) (hr:Rel P Hd w0 φ σ w) (h:evO P cl md v (compOp P loc o) L e σ k=.ok):OpOK P Hd w0 φ σ w ρ o k:=by
 obtain⟨cal,args,ats⟩:=c
 revert hp h
 simp only [compOp,hop]
 cases cal with
 | value f =>
  intro _ h
  cases f with
  | func F =>
   obtain⟨us,hus,h⟩:=getN (K:=λl=>cl F l σ k) hc h
   obtain⟨hF,hC⟩:=hcl F us σ k φ w _ hr hus h
   refine calls_good (F:=F) ?_ hC
   simp only [execOp,hop,resolve,hc.func,Deferred.ofValue,Sem.run_bind,Sem.run_pure,Result.andThen_ok,invoke]
   rw [run_callFunc w _ hF]
   congr 2
   apply Array.ext'
   simp
  | global g =>
   cases (show R.no 3=R.ok from h)
  | _ =>
   obtain⟨u,h1,h2⟩:=getO_ok (show getO (opd loc _) L e (λf=>getL _ L e λargs=>f.onF (λF a c=>cl F ((a++args)++c) σ k) 101)=.ok from h)
   have hf:=hc.opd h1
   obtain⟨us,hus,h3⟩:=getN (K:=λargs=>u.onF (λF a c=>cl F ((a++args)++c) σ k) 101) hc h2
   obtain⟨F,a,c,e1,h4⟩:=onF_ok h3
   subst e1
   obtain⟨m,n,d1,d2,ef⟩:=dec_f hf
   obtain⟨hF,hC⟩:=hcl F _ σ k φ w _ hr (decs_append (decs_append d1 hus) d2) h4
   refine calls_good (F:=F) ?_ hC
   simp only [execOp,hop,resolve,ef,Deferred.ofValue,Sem.run_bind,Sem.run_pure,Result.andThen_ok,invoke]
   rw [run_callFunc w _ hF]
   congr 2
   apply Array.ext'
   simp
 | invoke r name =>
  intro hp' h
  clear hp'
  obtain⟨u,h1,h2⟩:=getO_ok (show getO (opd loc r) L e (λx=>getL _ L e λl=>x.onQ (λt y=>orE (methF P t name) (λF=>cl F (y::l) σ k) 102) 103)=.ok from h)
  have hf:=hc.opd h1
  obtain⟨us,hus,h3⟩:=getN (K:=λl=>u.onQ (λt y=>orE (methF P t name) (λF=>cl F (y::l) σ k) 102) 103) hc h2
  obtain⟨t,y,e1,h4⟩:=onQ_ok h3
  subst e1
  obtain⟨F,hF0,h5⟩:=orE_ok h4
  obtain⟨z,d1,ez⟩:=dec_q hf
  obtain⟨hF,hC⟩:=hcl F _ σ k φ w _ hr (decs_cons d1 hus) h5
  refine calls_good (F:=F) ?_ hC
  simp only [execOp,hop,resolve,ez,Sem.run_bind,Sem.run_pure,Result.andThen_ok,invoke]
  have e0:(#[Value.iface t z]++args.map ρ)[0]?=some (Value.iface t z):=by rw [Array.getElem?_append_left (by simp)];rfl
  rw [e0]
  simp only [callMethod,Sem.run_bind,run_program,Result.andThen_ok]
  rw [show P.types.size + Made.depth=(P.types.size + 99) + 1 from rfl,methF_ok hF0 w]
  have e2:(#[z]++(#[Value.iface t z]++args.map ρ).extract 1 (#[Value.iface t z]++args.map ρ).size:Array Value)=(z::args.toList.map ρ).toArray:=by
   apply Array.ext'
   rw [Array.toList_append,Array.toList_extract,Array.toList_append]
   simp [List.extract_eq_drop_take,List.take_of_length_le,Nat.add_comm]
  show (callFunc F (#[z]++(#[Value.iface t z]++args.map ρ).extract 1 (#[Value.iface t z]++args.map ρ).size)).run P w=_
  rw [e2,run_callFunc w _ hF]
 | builtin b =>
  simp only
  split
  ·rename_i x t hargs hats
   split
   ·rename_i ht
    intro _ h
    obtain⟨u,hx,h⟩:=g1 hc h
    exact op_len (kd:=0) hop hargs hats ht trivial hr hx h
   ·rename_i el ht
    intro _ h
    obtain⟨u,hx,h⟩:=g1 hc h
    exact op_len (kd:=1) hop hargs hats ht trivial hr hx h
   ·rename_i a b' ht
    intro _ h
    obtain⟨u,hx,h⟩:=g1 hc h
    exact op_len (kd:=2) hop hargs hats ht trivial hr hx h
   ·intro hp;cases hp
   ·intro _ h;cases h
  ·rename_i s x t u hargs hats
   split
   ·rename_i el ht
    split
    ·rename_i i z el' hi hz hu
     split
     ·rename_i hb2
      intro _ h
      simp only [Bool.and_eq_true] at hb2
      obtain⟨us,ux,hs,hx,h⟩:=g2 hc h
      exact op_app hop hargs hats ht hi hz (kB hb2.1) (by simpa using hb2.2) (.inl ⟨_,hu⟩) hr hs hx h
     ·intro _ h;cases h
    ·rename_i i z hi hz hu
     split
     ·rename_i hb2
      intro _ h
      simp only [Bool.and_eq_true] at hb2
      obtain⟨us,ux,hs,hx,h⟩:=g2 hc h
      exact op_app hop hargs hats ht hi hz (kB hb2.1) (by simpa using hb2.2) (.inr hu) hr hs hx h
     ·intro _ h;cases h
    ·intro _ h;cases h
   ·intro _ h;cases h
  ·rename_i x y hargs
   intro _ h
   obtain⟨a,b,hx,hy,h⟩:=g2 hc h
   exact op_mm (mx:=true) hop hargs hr hx hy h
  ·rename_i x y hargs
   intro _ h
   obtain⟨a,b,hx,hy,h⟩:=g2 hc h
   exact op_mm (mx:=false) hop hargs hr hx hy h
  ·intro _ h;cases h
theorem evO_ok (hcl:ClOK P Hd w0 cl) (hc:Cx φ loc L e ρ) (hr:Rel P Hd w0 φ σ w) (h:evO P cl true v (compOp P loc o) L e σ k=.ok):OpOK P Hd w0 φ σ w ρ o k:=by
 cases hp:pureO (compOp P loc o) with
 | true=>exact OpOK.ofPure hr (pure_ok hc hp h)
 | false =>
 cases hop:o.op
 case alloc t =>
  simp only [compOp,hop] at h
  split at h
  ·rename_i z hz
   exact op_new hop hz hr (g0 h)
  ·cases h
 case box t x =>
  simp only [compOp,hop] at h
  obtain⟨u,hx,h⟩:=g1 hc h
  exact op_box hop hr hx h
 case buildSlice t len ps =>
  simp only [compOp,hop] at h
  split at h
  ·rename_i el ht
   split at h
   ·rename_i z sz hz hsz
    split at h
    ·rename_i hb
     simp only [Bool.and_eq_true] at hb
     obtain⟨us,hus,h⟩:=gN hc h
     exact op_bsl hop ht hz hsz (Nat.le_of_ble_eq_true hb.1.1) (kB hb.1.2) (by simpa using hb.2) hr hus h
    ·cases h
   ·cases h
  ·cases h
 case load t a =>
  simp only [compOp,hop] at h
  split at h
  ·rename_i ud n ht hn
   split at h
   ·rename_i ha
    obtain⟨u,hx,h⟩:=g1 hc h
    exact op_ldA hop ht ha hn hr hx h
   ·rename_i ha
    obtain⟨u,hx,h⟩:=g1 hc h
    exact op_ld hop ht ha hr hx h
  ·cases h
 case store t a x =>
  simp only [compOp,hop] at h
  split at h
  ·rename_i n hn
   obtain⟨ua,ux,ha,hx,h⟩:=g2 hc h
   exact op_st hop hn hr ha hx h
  ·cases h
 case binOp op t x y yt =>
  refine OpOK.ofPure hr ?_
  simp only [compOp,hop] at h
  split at h
  ·obtain⟨a,b,hx,hy,h⟩:=g2 hc h
   exact pure_eq (neg:=false) rfl hop hc.const hx hy h
  ·obtain⟨a,b,hx,hy,h⟩:=g2 hc h
   exact pure_eq (neg:=true) rfl hop hc.const hx hy h
  ·obtain⟨a,b,hx,hy,h⟩:=g2 hc h
   exact pure_shl hop hx hy h
  ·obtain⟨a,b,hx,hy,h⟩:=g2 hc h
   exact pure_shr hop hx hy h
  ·rename_i h1 h2 h3 h4
   split at h
   ·rename_i ht
    split at h
    ·obtain⟨a,b,hx,hy,h⟩:=g2 hc h
     exact pure_cat hop hx hy h
    ·cases h
   ·obtain⟨a,b,hx,hy,h⟩:=g2 hc h
    exact pure_binI hop h1 h2 h3 h4 hx hy h
 case convert s d x =>
  simp only [compOp,hop] at h hp
  split at h
  ·rename_i κs κ hs hd
   obtain⟨u,hx,h⟩:=g1 hc h
   exact OpOK.ofPure hr (pure_conv hop hs hd hx h)
  ·rename_i hs hd
   obtain⟨u,hx,h⟩:=g1 hc h
   exact OpOK.ofPure hr (pure_s2s hop hs hd hx h)
  ·rename_i el hs hd
   split at h
   ·rename_i he
    obtain⟨u,hx,h⟩:=g1 hc h
    exact op_b2s hop hs hd he hr hx h
   ·cases h
  ·cases h
 case makeMap t r =>
  simp only [compOp,hop] at h
  split at h
  ·rename_i kT el ht
   split at h
   ·rename_i ks hks
    exact op_mkm (el:=el) hop hks hr (g0 h)
   ·cases h
  ·cases h
 case makeSlice t l c =>
  simp only [compOp,hop] at h
  split at h
  ·rename_i el ht
   split at h
   ·rename_i i z hi hz
    split at h
    ·rename_i hb
     simp only [Bool.and_eq_true] at hb
     obtain⟨ul,uc,hl,hc',h⟩:=g2 hc h
     exact op_mks hop ht hi hz (kB hb.1) (by simpa using hb.2) hr hl hc' h
    ·cases h
   ·cases h
  ·cases h
 case slice t x lo hi mx=>exact OpOK.ofPure hr (op_slice hop hc h)
 case lookup t m i ok =>
  simp only [compOp,hop] at h
  split at h
  ·rename_i kT el ht
   split at h
   ·rename_i z ks hz hks
    obtain⟨um,ui,hm,hi,h⟩:=g2 hc h
    exact op_look hop ht hz hks hr hm hi h
   ·cases h
  ·cases h
 case mapUpdate t m i x =>
  simp only [compOp,hop] at h
  split at h
  ·rename_i kT el ht
   split at h
   ·rename_i ks hks
    obtain⟨um,ui,ux,hm,hi,hx,h⟩:=g3 hc h
    exact op_putm (.inl hop) ht hks hr hm hi hx h
   ·cases h
  ·cases h
 case insert t m i x =>
  simp only [compOp,hop] at h
  split at h
  ·rename_i kT el ht
   split at h
   ·rename_i ks hks
    obtain⟨um,ui,ux,hm,hi,hx,h⟩:=g3 hc h
    exact op_putm (.inr hop) ht hks hr hm hi hx h
   ·cases h
  ·cases h
 case makeFunc fn first cap =>
  simp only [compOp,hop] at h
  split at h
  ·obtain⟨us,hus,h⟩:=gN hc h
   exact OpOK.ofPure hr (pure_mkf hop hus h)
  ·cases h
 case makeInterface t x =>
  simp only [compOp,hop] at h
  split at h
  ·rename_i el ht
   obtain⟨u,hx,h⟩:=g1 hc h
   exact OpOK.ofPure hr (pure_mki hop ht hx h)
  ·cases h
 case range t x =>
  simp only [compOp,hop] at h
  split at h
  ·rename_i kT el ht
   obtain⟨u,hx,h⟩:=g1 hc h
   exact op_rng hop ht hr hx h
  ·cases h
 case next x str =>
  simp only [compOp,hop] at h
  split at h
  ·obtain⟨u,h1,h2⟩:=getO_ok (show getO (opd loc x) L e (λx=>vNxt true x σ k)=.ok from h)
   exact op_nxt hop hr (hc.opd h1) h2
  ·cases h
 case entry x =>
  simp only [compOp,hop] at h
  obtain⟨u,hx,h⟩:=g1 hc h
  exact op_ent hop hr hx h
 case call c=>exact op_call hop hp hcl hc hr h
 all_goals
  exfalso
  revert hp h
  simp only [compOp,hop]
  try (intro hp;cases hp;done)
  try (intro hp h;cases h;done)
  repeat' split
  all_goals (intro hp h;first | (cases hp;done) | (cases h;done))
end
end Go.Ev
end
end
