/-
  A part of the proof: what the functions of the program come to, read off the model: no premise of its own, no axiom. Blank space is spared. By an AI agent.
-/
import Derived.Test.YtmbalpbjcfpggaaGreatDoorV1
import Derived.Maps.RangeRun
import Derived.Maps.Keyed
import Derived.Shelf.SlIterI.Collect
set_option linter.all false
set_option maxRecDepth 100000
noncomputable section
section
namespace Go.Fk
open Go Go.MapKept Go.Maps
open Go.ChangeMaps (setBlock)
section
variable {P:Program} {T kT vT:TypeId} {kt vt:Ty} {H H':View} {m:Nat} {R R':kt.T→vt.T→Prop}
theorem key_once {es:Array MapEntry} {clock:Nat} (h:Stamped es clock) {e e':MapEntry} (he:e∈es.toList) (he':e'∈es.toList) (hk:e.key=e'.key):e=e':=by
 have h2:=((stamped_iff es clock).1 h).2.2
 obtain⟨i,hi⟩:=List.getElem?_of_mem he
 obtain⟨j,hj⟩:=List.getElem?_of_mem he'
 rw [List.getElem?_eq_some_iff] at hi hj
 obtain⟨hi1,hi2⟩:=hi
 obtain⟨hj1,hj2⟩:=hj
 rw [List.pairwise_iff_getElem] at h2
 rcases Nat.lt_trichotomy i j with h | h | h
 ·exact absurd (by rw [hi2,hj2];exact hk) (h2 i j hi1 hj1 h)
 ·subst h;rw [← hi2,← hj2]
 ·exact absurd (by rw [hi2,hj2];exact hk.symm) (h2 j i hj1 hi1 h)
theorem born_once {es:Array MapEntry} {clock:Nat} (h:Stamped es clock) {e e':MapEntry} (he:e∈es.toList) (he':e'∈es.toList) (hk:e.born=e'.born):e=e':=by
 have h2:=((stamped_iff es clock).1 h).2.1
 rw [List.Nodup,List.pairwise_map] at h2
 obtain⟨i,hi⟩:=List.getElem?_of_mem he
 obtain⟨j,hj⟩:=List.getElem?_of_mem he'
 rw [List.getElem?_eq_some_iff] at hi hj
 obtain⟨hi1,hi2⟩:=hi
 obtain⟨hj1,hj2⟩:=hj
 rw [List.pairwise_iff_getElem] at h2
 rcases Nat.lt_trichotomy i j with h | h | h
 ·exact absurd (by rw [hi2,hj2];exact hk) (h2 i j hi1 hj1 h)
 ·subst h;rw [← hi2,← hj2]
 ·exact absurd (by rw [hi2,hj2];exact hk.symm) (h2 j i hj1 hi1 h)
theorem keepsSetBlock {w:World} {b:Nat} {es:Array MapEntry} {clock:Nat} (hb:w.heap[b]?=some (.map es clock)) (o:Obj):Upd b o w (setBlock w b o) :=
 ⟨Go.ChangeMaps.heap_setBlock_same hb o,⟨rfl,rfl,rfl,by simp [setBlock],λi _ hi=>Go.ChangeMaps.heap_setBlock_other hb o hi⟩,by simp [setBlock]⟩
end
end Go.Fk
end
section
namespace Go.Fk
open Go Go.MapKept Go.Maps Go.RowKit Go.Shelf Go.Proofs
open Go.ChangeMaps (setBlock)
section
variable {F:Fence} {n:Nat} {P:Program} (w:World) {ops:Array Oper} {rest:List Oper} {o:Oper} {a:Act} {Q:Exit→Act→World→Prop}
theorem wpListIn_range_raw (hg:o.guard=none) (m:Operand) (t:TypeId) (hop:o.op=Op.range t m) (kT vT:TypeId) (ht:P.underlying t=some (.map kT vT)) (b:Nat) (es:Array MapEntry) (clock:Nat)
  (hm:a.eval m=.map (some b)) (hb:w.heap[b]?=some (.map es clock))
  (hK:∀ w',w'=w.alloc (.mapIter (some b) clock #[] clock)→wpListIn F n P ops Q rest (a.put o.dst (.pointer (some ⟨w.heap.size,0,none⟩))) w') :
  wpListIn F n P ops Q (o::rest) a w:=by
 refine wpListIn_plain hg λK' hK'=>?_
 have hrun:(Instr.range t (.map (some b))).run P w=.ok (.pointer (some ⟨w.heap.size,0,none⟩)) (w.alloc (.mapIter (some b) clock #[] clock)):=by
  simp [Instr.range,run_underlying ht,newObj,MapKept.run_getObj_map hb,Result.andThen,Sem.run]
 unfold Oper.wpIn
 refine⟨by simp [Oper.about,hop],?_⟩
 rw [Oper.semAt_plain F _ _ (by rw [hop];intro c hc';cases hc')]
 simp [execOp,hop,hm,hrun,Result.andThen]
 exact hK' _ _ (hK _ rfl)
theorem wpListIn_next_raw (hg:o.guard=none) (it:Operand) (hop:o.op=Op.next it false) (b r clock:Nat) (seen:Array Nat) (es:Array MapEntry)
  (hit:a.eval it=.pointer (some ⟨r,0,none⟩)) (hr:w.heap[r]?=some (.mapIter (some b) clock seen clock)) (hb:w.heap[b]?=some (.map es clock)) (hs:Stamped es clock)
  (hDone:(leftOf es seen).size=0→wpListIn F n P ops Q rest (a.put o.dst (.tuple #[.bool false])) w)
  (hMore:∀ e∈(leftOf es seen).toList,∀ w',w.grownBy w' (some r)→w'.heap[r]?=some (.mapIter (some b) clock (seen.push e.born) clock)→w'.heap[b]?=some (.map es clock) →
   (Instr.entry (.pointer (some ⟨r,0,none⟩))).run P w'=.ok (.tuple #[e.key,e.val]) w'→wpListIn F n P ops Q rest (a.put o.dst (.tuple #[.bool true,e.key,e.val])) w') :
  wpListIn F n P ops Q (o::rest) a w:=by
 refine wpListIn_plain hg λK' hK'=>?_
 have hst2:=(stamped_iff es clock).1 hs
 have hne:b≠r:=λe=>by rw [e,hr] at hb;cases hb
 unfold Oper.wpIn
 refine⟨by simp [Oper.about,hop],?_⟩
 rw [Oper.semAt_plain F _ _ (by rw [hop];intro c hc';cases hc')]
 rcases run_next_at (P:=P) w o.type r b clock clock seen es clock hr hb hst2.1 (Nat.le_refl _) with⟨hz,hrun⟩ | ⟨e,he,w1,hal,hrun⟩
 ·simp [execOp,hop,hit,hrun,Result.andThen]
  exact hK' _ _ (hDone hz)
 ·simp [execOp,hop,hit,hrun,Result.andThen]
  have hr1:w1.heap[r]?=some (.mapIter (some b) clock seen clock):=by rcases hal with rfl | rfl <;> exact hr
  have hb1:w1.heap[b]?=some (.map es clock):=by rcases hal with rfl | rfl <;> exact hb
  have hg0:w.grownBy (setBlock w1 r (.mapIter (some b) clock (seen.push e.born) clock)) (some r):=by
   have h1:w1.os=w.os∧w1.tape=w.tape∧w1.output=w.output∧w1.heap=w.heap:=by rcases hal with rfl | rfl <;> exact⟨rfl,rfl,rfl,rfl⟩
   refine⟨h1.1,h1.2.1,h1.2.2.1,by simp [setBlock,h1.2.2.2],λi _ hi=>?_⟩
   simp only [setBlock]
   rw [Array.getElem?_setIfInBounds,if_neg (λe=>hi (by rw [e])),h1.2.2.2]
  have hat:(setBlock w1 r (.mapIter (some b) clock (seen.push e.born) clock)).heap[r]?=some (.mapIter (some b) clock (seen.push e.born) clock):=by
   simp only [setBlock]
   have:=lt_of_some hr1
   simp [this]
  have hbt:(setBlock w1 r (.mapIter (some b) clock (seen.push e.born) clock)).heap[b]?=some (.map es clock):=by
   rw [hg0.block b (by have:=lt_of_some hb;omega) (λe=>hne (by cases e;rfl))];exact hb
  exact hK' _ _ (hMore e he _ hg0 hat hbt (run_entry_at (P:=P) _ r b clock seen es clock e hat hbt (mem_left he).1 hst2.2.1))
end
def Coll (es:Array MapEntry) (seen:Array Nat) (ss:List Value):Prop:=ss.Nodup∧(∀ v,v∈ss↔∃ e∈es.toList,e.key=v∧seen.contains e.born=true)∧ss.length + (leftOf es seen).size≤es.size
theorem Coll.start (es:Array MapEntry):Coll es #[] []:=⟨.nil,λv=>by simp,by simp [leftOf];exact Array.size_filter_le⟩
theorem Coll.step {es:Array MapEntry} {clock:Nat} {seen:Array Nat} {ss:List Value} (hs:Stamped es clock) (h:Coll es seen ss) {e:MapEntry} (he:e∈(leftOf es seen).toList):Coll es (seen.push e.born) (ss++[e.key]):=by
 obtain⟨h1,h2,h3⟩:=h
 obtain⟨hem,hes⟩:=mem_left he
 refine⟨List.nodup_append.2 ⟨h1,by simp,λa ha b hb=>?_⟩,λv=>?_,?_⟩
 ·simp at hb;subst hb
  rintro rfl
  obtain⟨e',he',hk',hc⟩:=(h2 _).1 ha
  have:=key_once hs he' hem hk'
  subst this
  rw [hes] at hc;cases hc
 ·rw [List.mem_append,h2]
  constructor
  ·rintro (⟨e',he',hk',hc⟩ | hv)
   ·exact⟨e',he',hk',by rw [contains_push,hc];rfl⟩
   ·simp at hv;subst hv
    exact⟨e,hem,rfl,by rw [contains_push];simp⟩
  ·rintro⟨e',he',hk',hc⟩
   rw [contains_push] at hc
   rcases Bool.or_eq_true _ _ ▸ hc with hc | hc
   ·exact .inl ⟨e',he',hk',hc⟩
   ·have:e'.born=e.born:=by simpa using hc
    have:=born_once hs he' hem this
    subst this
    exact .inr (by simp [hk'])
 ·have:=left_shrinks es seen e he
  simp;omega
theorem Coll.more {es:Array MapEntry} {seen:Array Nat} {ss:List Value} (h:Coll es seen ss) {e:MapEntry} (he:e∈(leftOf es seen).toList):ss.length < es.size:=by
 have:=left_shrinks es seen e he
 have:=h.2.2
 omega
theorem Coll.perm {es:Array MapEntry} {clock:Nat} {seen:Array Nat} {ss:List Value} (hs:Stamped es clock) (h:Coll es seen ss) (hz:(leftOf es seen).size=0):ss.Perm (es.toList.map (·.key)):=by
 have hst2:=(stamped_iff es clock).1 hs
 refine (List.perm_ext_iff_of_nodup h.1 ?_).2 λv=>?_
 ·rw [List.Nodup,List.pairwise_map];exact hst2.2.2
 ·rw [h.2.1,List.mem_map]
  constructor
  ·rintro⟨e,he,hk,_⟩;exact⟨e,he,hk⟩
  ·rintro⟨e,he,hk⟩;exact⟨e,he,hk,all_seen es seen hz e he⟩
end Go.Fk
end
section
namespace Go.Ev
open Go Go.Fk
inductive R where
 | ok | no (n:Nat)
inductive Cp where
 | ex (c:Nat) | re (k:Nat)
structure E8 (α:Type) where
 (c0 c1 c2 c3 c4 c5 c6 c7:α)
inductive D8 where
 | d0 | d1 | d2 | d3 | d4 | d5 | d6 | d7
abbrev Vid:=Nat
inductive V where
 | b (x:Bool) | i (k:IntKind) (n:Int) | s (l:List Nat)
 | p (v:Vid) (off:Nat) | np
 | sl (v:Vid) (off n:Nat) (c:Cp) | se (v:Vid) (off r o sz:Nat) | ns
 | m (v:Vid) | nm
 | f (F:Nat) (first cap:List V) | nf
 | q (t:Nat) (x:V) | nq
 | a (l:List V) | t (l:List V) | w (f:Nat→V) (n:Nat)
def orE {α:Type} (o:Option α) (k:α→R) (n:Nat):R:=Option.rec (motive:=λ_=>R) (R.no n) k o
def iff' (b:Bool) (x y:R):R:=Bool.rec (motive:=λ_=>R) y x b
def fL (n:Nat) (k:Nat→R):R:=Nat.rec (motive:=λ_=>(Nat→R)→R) (λ_=>.no 77) (λm _ k=>k m) (Nat.succ n) k
section
variable {α:Type}
def nth (k:Nat):List α→Option α :=
 Nat.rec (motive:=λ_=>List α→Option α) (λl=>List.rec (motive:=λ_=>Option α) none (λv _ _=>some v) l)
  (λ_ ih l=>List.rec (motive:=λ_=>Option α) none (λ_ t _=>ih t) l) k
def lenL (l:List α):Nat:=List.rec (motive:=λ_=>Nat) 0 (λ_ _ ih=>Nat.succ ih) l
def dropL (n:Nat) (l:List α):List α:=Nat.rec (motive:=λ_=>List α→List α) (λl=>l) (λ_ ih l=>List.rec (motive:=λ_=>List α) [] (λ_ t _=>ih t) l) n l
def takeL (n:Nat) (l:List α):List α:=Nat.rec (motive:=λ_=>List α→List α) (λ_=>[]) (λ_ ih l=>List.rec (motive:=λ_=>List α) [] (λx t _=>x::ih t) l) n l
def appL (a b:List α):List α:=List.rec (motive:=λ_=>List α) b (λx _ ih=>x::ih) a
def overK (xs:List α) (l:List α) (k:List α→R):R :=
 List.rec (motive:=λ_=>List α→(List α→R)→R) (λl k=>k l) (λx _ ih l k=>List.rec (motive:=λ_=>R) (.no 12) (λ_ t _=>ih t λt=>k (x::t)) l) xs l k
def putK (i:Nat) (xs:List α) (l:List α) (k:List α→R):R :=
 Nat.rec (motive:=λ_=>List α→(List α→R)→R) (overK xs) (λ_ ih l k=>List.rec (motive:=λ_=>R) (.no 12) (λy t _=>ih t λt=>k (y::t)) l) i l k
def wL (f:Nat→α) (n:Nat):List α:=Nat.rec (motive:=λ_=>Nat→List α) (λ_=>[]) (λ_ ih i=>f i::ih (Nat.succ i)) n 0
def E8.s0 (c:E8 α) (x:α) (k:E8 α→R):R:=E8.rec (motive:=λ_=>α→(E8 α→R)→R) (λc0 c1 c2 c3 c4 c5 c6 c7 x k=>k ⟨x,c1,c2,c3,c4,c5,c6,c7⟩) c x k
def E8.s1 (c:E8 α) (x:α) (k:E8 α→R):R:=E8.rec (motive:=λ_=>α→(E8 α→R)→R) (λc0 c1 c2 c3 c4 c5 c6 c7 x k=>k ⟨c0,x,c2,c3,c4,c5,c6,c7⟩) c x k
def E8.s2 (c:E8 α) (x:α) (k:E8 α→R):R:=E8.rec (motive:=λ_=>α→(E8 α→R)→R) (λc0 c1 c2 c3 c4 c5 c6 c7 x k=>k ⟨c0,c1,x,c3,c4,c5,c6,c7⟩) c x k
def E8.s3 (c:E8 α) (x:α) (k:E8 α→R):R:=E8.rec (motive:=λ_=>α→(E8 α→R)→R) (λc0 c1 c2 c3 c4 c5 c6 c7 x k=>k ⟨c0,c1,c2,x,c4,c5,c6,c7⟩) c x k
def E8.s4 (c:E8 α) (x:α) (k:E8 α→R):R:=E8.rec (motive:=λ_=>α→(E8 α→R)→R) (λc0 c1 c2 c3 c4 c5 c6 c7 x k=>k ⟨c0,c1,c2,c3,x,c5,c6,c7⟩) c x k
def E8.s5 (c:E8 α) (x:α) (k:E8 α→R):R:=E8.rec (motive:=λ_=>α→(E8 α→R)→R) (λc0 c1 c2 c3 c4 c5 c6 c7 x k=>k ⟨c0,c1,c2,c3,c4,x,c6,c7⟩) c x k
def E8.s6 (c:E8 α) (x:α) (k:E8 α→R):R:=E8.rec (motive:=λ_=>α→(E8 α→R)→R) (λc0 c1 c2 c3 c4 c5 c6 c7 x k=>k ⟨c0,c1,c2,c3,c4,c5,x,c7⟩) c x k
def E8.s7 (c:E8 α) (x:α) (k:E8 α→R):R:=E8.rec (motive:=λ_=>α→(E8 α→R)→R) (λc0 c1 c2 c3 c4 c5 c6 c7 x k=>k ⟨c0,c1,c2,c3,c4,c5,c6,x⟩) c x k
def E8.get (d:D8) (c:E8 α):α:=D8.rec (motive:=λ_=>E8 α→α) E8.c0 E8.c1 E8.c2 E8.c3 E8.c4 E8.c5 E8.c6 E8.c7 d c
def E8.put (d:D8) (c:E8 α) (x:α) (k:E8 α→R):R:=D8.rec (motive:=λ_=>E8 α→α→(E8 α→R)→R) E8.s0 E8.s1 E8.s2 E8.s3 E8.s4 E8.s5 E8.s6 E8.s7 d c x k
def E8.all (x:α):E8 α:=⟨x,x,x,x,x,x,x,x⟩
def dg0_1 (_:Nat):D8:=.d0
def dg1_1 (_:Nat):D8:=.d1
def dg0_2 (i:Nat):D8:=Bool.rec (motive:=λ_=>Nat→D8) dg0_1 dg1_1 (Nat.ble 1 i) i
def dg2_1 (_:Nat):D8:=.d2
def dg3_1 (_:Nat):D8:=.d3
def dg2_2 (i:Nat):D8:=Bool.rec (motive:=λ_=>Nat→D8) dg2_1 dg3_1 (Nat.ble 3 i) i
def dg0_4 (i:Nat):D8:=Bool.rec (motive:=λ_=>Nat→D8) dg0_2 dg2_2 (Nat.ble 2 i) i
def dg4_1 (_:Nat):D8:=.d4
def dg5_1 (_:Nat):D8:=.d5
def dg4_2 (i:Nat):D8:=Bool.rec (motive:=λ_=>Nat→D8) dg4_1 dg5_1 (Nat.ble 5 i) i
def dg6_1 (_:Nat):D8:=.d6
def dg7_1 (_:Nat):D8:=.d7
def dg6_2 (i:Nat):D8:=Bool.rec (motive:=λ_=>Nat→D8) dg6_1 dg7_1 (Nat.ble 7 i) i
def dg4_4 (i:Nat):D8:=Bool.rec (motive:=λ_=>Nat→D8) dg4_2 dg6_2 (Nat.ble 6 i) i
def dg0_8 (i:Nat):D8:=Bool.rec (motive:=λ_=>Nat→D8) dg0_4 dg4_4 (Nat.ble 4 i) i
def q0 (i:Nat):D8:=dg0_8 (Nat.mod i 8)
def q1 (i:Nat):D8:=dg0_8 (Nat.mod (Nat.div i 8) 8)
def q2 (i:Nat):D8:=dg0_8 (Nat.mod (Nat.div i 64) 8)
def q3 (i:Nat):D8:=dg0_8 (Nat.mod (Nat.div i 512) 8)
def q4 (i:Nat):D8:=dg0_8 (Nat.mod (Nat.div i 4096) 8)
abbrev T1 (α:Type):=E8 (Option α)
abbrev T2 (α:Type):=E8 (T1 α)
abbrev T3 (α:Type):=E8 (T2 α)
abbrev T4 (α:Type):=E8 (T3 α)
abbrev T5 (α:Type):=E8 (T4 α)
def T1.get (i:Nat) (t:T1 α):Option α:=E8.get (q0 i) t
def T2.get (i:Nat) (t:T2 α):Option α:=T1.get i (E8.get (q1 i) t)
def T3.get (i:Nat) (t:T3 α):Option α:=T2.get i (E8.get (q2 i) t)
def T4.get (i:Nat) (t:T4 α):Option α:=T3.get i (E8.get (q3 i) t)
def T5.get (i:Nat) (t:T5 α):Option α:=T4.get i (E8.get (q4 i) t)
def T1.put (x:Option α) (i:Nat) (t:T1 α) (k:T1 α→R):R:=E8.put (q0 i) t x k
def T2.put (x:Option α) (i:Nat) (t:T2 α) (k:T2 α→R):R:=T1.put x i (E8.get (q1 i) t) λc=>E8.put (q1 i) t c k
def T3.put (x:Option α) (i:Nat) (t:T3 α) (k:T3 α→R):R:=T2.put x i (E8.get (q2 i) t) λc=>E8.put (q2 i) t c k
def T4.put (x:Option α) (i:Nat) (t:T4 α) (k:T4 α→R):R:=T3.put x i (E8.get (q3 i) t) λc=>E8.put (q3 i) t c k
def T5.put (x:Option α) (i:Nat) (t:T5 α) (k:T5 α→R):R:=T4.put x i (E8.get (q4 i) t) λc=>E8.put (q4 i) t c k
def T1.nil:T1 α:=E8.all none
def T2.nil:T2 α:=E8.all T1.nil
def T3.nil:T3 α:=E8.all T2.nil
def T4.nil:T4 α:=E8.all T3.nil
def T5.nil:T5 α:=E8.all T4.nil
def T1.ofL (l:List α):T1 α:=⟨nth 0 l,nth 1 l,nth 2 l,nth 3 l,nth 4 l,nth 5 l,nth 6 l,nth 7 l⟩
def hd (l:List α) (k:Option α→List α→R):R:=List.rec (motive:=λ_=>R) (k none []) (λx t _=>k (some x) t) l
def T1.bld (l:List α) (k:T1 α→List α→R):R:=hd l λo0 l=>hd l λo1 l=>hd l λo2 l=>hd l λo3 l=>hd l λo4 l=>hd l λo5 l=>hd l λo6 l=>hd l λo7 l=>k ⟨o0,o1,o2,o3,o4,o5,o6,o7⟩ l
def T1.nx (l:List α) (k:T1 α→List α→R):R:=List.rec (motive:=λ_=>R) (k T1.nil []) (λ_ _ _=>T1.bld l k) l
def T2.bld (l:List α) (k:T2 α→List α→R):R:=T1.nx l λo0 l=>T1.nx l λo1 l=>T1.nx l λo2 l=>T1.nx l λo3 l=>T1.nx l λo4 l=>T1.nx l λo5 l=>T1.nx l λo6 l=>T1.nx l λo7 l=>k ⟨o0,o1,o2,o3,o4,o5,o6,o7⟩ l
def T2.nx (l:List α) (k:T2 α→List α→R):R:=List.rec (motive:=λ_=>R) (k T2.nil []) (λ_ _ _=>T2.bld l k) l
def T3.bld (l:List α) (k:T3 α→List α→R):R:=T2.nx l λo0 l=>T2.nx l λo1 l=>T2.nx l λo2 l=>T2.nx l λo3 l=>T2.nx l λo4 l=>T2.nx l λo5 l=>T2.nx l λo6 l=>T2.nx l λo7 l=>k ⟨o0,o1,o2,o3,o4,o5,o6,o7⟩ l
def T3.nx (l:List α) (k:T3 α→List α→R):R:=List.rec (motive:=λ_=>R) (k T3.nil []) (λ_ _ _=>T3.bld l k) l
def T4.bld (l:List α) (k:T4 α→List α→R):R:=T3.nx l λo0 l=>T3.nx l λo1 l=>T3.nx l λo2 l=>T3.nx l λo3 l=>T3.nx l λo4 l=>T3.nx l λo5 l=>T3.nx l λo6 l=>T3.nx l λo7 l=>k ⟨o0,o1,o2,o3,o4,o5,o6,o7⟩ l
def T4.nx (l:List α) (k:T4 α→List α→R):R:=List.rec (motive:=λ_=>R) (k T4.nil []) (λ_ _ _=>T4.bld l k) l
def T5.bld (l:List α) (k:T5 α→List α→R):R:=T4.nx l λo0 l=>T4.nx l λo1 l=>T4.nx l λo2 l=>T4.nx l λo3 l=>T4.nx l λo4 l=>T4.nx l λo5 l=>T4.nx l λo6 l=>T4.nx l λo7 l=>k ⟨o0,o1,o2,o3,o4,o5,o6,o7⟩ l
def leafF (f:Nat→α) (n b:Nat):Option α:=Bool.rec (motive:=λ_=>Option α) none (some (f b)) (Nat.blt b n)
def T1.ofF (f:Nat→α) (n b:Nat):T1 α:=⟨leafF f n (Nat.add b 0),leafF f n (Nat.add b 1),leafF f n (Nat.add b 2),leafF f n (Nat.add b 3),leafF f n (Nat.add b 4),leafF f n (Nat.add b 5),leafF f n (Nat.add b 6),leafF f n (Nat.add b 7)⟩
def T2.ofF (f:Nat→α) (n b:Nat):T2 α:=⟨T1.ofF f n (Nat.add b 0),T1.ofF f n (Nat.add b 8),T1.ofF f n (Nat.add b 16),T1.ofF f n (Nat.add b 24),T1.ofF f n (Nat.add b 32),T1.ofF f n (Nat.add b 40),T1.ofF f n (Nat.add b 48),T1.ofF f n (Nat.add b 56)⟩
def T3.ofF (f:Nat→α) (n b:Nat):T3 α:=⟨T2.ofF f n (Nat.add b 0),T2.ofF f n (Nat.add b 64),T2.ofF f n (Nat.add b 128),T2.ofF f n (Nat.add b 192),T2.ofF f n (Nat.add b 256),T2.ofF f n (Nat.add b 320),T2.ofF f n (Nat.add b 384),T2.ofF f n (Nat.add b 448)⟩
def T4.ofF (f:Nat→α) (n b:Nat):T4 α:=⟨T3.ofF f n (Nat.add b 0),T3.ofF f n (Nat.add b 512),T3.ofF f n (Nat.add b 1024),T3.ofF f n (Nat.add b 1536),T3.ofF f n (Nat.add b 2048),T3.ofF f n (Nat.add b 2560),T3.ofF f n (Nat.add b 3072),T3.ofF f n (Nat.add b 3584)⟩
def T5.ofF (f:Nat→α) (n b:Nat):T5 α:=⟨T4.ofF f n (Nat.add b 0),T4.ofF f n (Nat.add b 4096),T4.ofF f n (Nat.add b 8192),T4.ofF f n (Nat.add b 12288),T4.ofF f n (Nat.add b 16384),T4.ofF f n (Nat.add b 20480),T4.ofF f n (Nat.add b 24576),T4.ofF f n (Nat.add b 28672)⟩
end
inductive Tr (α:Type) where
 | t1 (t:T1 α) | t2 (t:T2 α) | t3 (t:T3 α) | t4 (t:T4 α) | t5 (t:T5 α)
section
variable {α:Type}
def Tr.get (t:Tr α) (i:Nat):Option α:=Tr.rec (motive:=λ_=>Nat→Option α)
 (λt i=>Bool.rec (motive:=λ_=>Option α) none (T1.get i t) (Nat.blt i 8))
 (λt i=>Bool.rec (motive:=λ_=>Option α) none (T2.get i t) (Nat.blt i 64))
 (λt i=>Bool.rec (motive:=λ_=>Option α) none (T3.get i t) (Nat.blt i 512))
 (λt i=>Bool.rec (motive:=λ_=>Option α) none (T4.get i t) (Nat.blt i 4096))
 (λt i=>Bool.rec (motive:=λ_=>Option α) none (T5.get i t) (Nat.blt i 32768)) t i
def Tr.put (x:α) (t:Tr α) (i:Nat) (k:Tr α→R):R:=Tr.rec (motive:=λ_=>Nat→(Tr α→R)→R)
 (λt i k=>Bool.rec (motive:=λ_=>R) (.no 4) (T1.put (some x) i t λt=>k (.t1 t)) (Nat.blt i 8))
 (λt i k=>Bool.rec (motive:=λ_=>R) (.no 4) (T2.put (some x) i t λt=>k (.t2 t)) (Nat.blt i 64))
 (λt i k=>Bool.rec (motive:=λ_=>R) (.no 4) (T3.put (some x) i t λt=>k (.t3 t)) (Nat.blt i 512))
 (λt i k=>Bool.rec (motive:=λ_=>R) (.no 4) (T4.put (some x) i t λt=>k (.t4 t)) (Nat.blt i 4096))
 (λt i k=>Bool.rec (motive:=λ_=>R) (.no 4) (T5.put (some x) i t λt=>k (.t5 t)) (Nat.blt i 32768)) t i k
def trOf (l:List α) (k:Tr α→R):R :=
 fL (lenL l) λn=>Bool.rec (motive:=λ_=>R) (Bool.rec (motive:=λ_=>R) (Bool.rec (motive:=λ_=>R) (Bool.rec (motive:=λ_=>R) (Bool.rec (motive:=λ_=>R) (.no 4) (T5.bld l λt _=>k (.t5 t)) (Nat.ble n 32768)) (T4.bld l λt _=>k (.t4 t)) (Nat.ble n 4096)) (T3.bld l λt _=>k (.t3 t)) (Nat.ble n 512)) (T2.bld l λt _=>k (.t2 t)) (Nat.ble n 64)) (k (.t1 (T1.ofL l))) (Nat.ble n 8)
def Tr.ofF (f:Nat→α) (n:Nat) (k:Tr α→R):R:=Bool.rec (motive:=λ_=>R) (Bool.rec (motive:=λ_=>R) (Bool.rec (motive:=λ_=>R) (Bool.rec (motive:=λ_=>R) (Bool.rec (motive:=λ_=>R) (.no 4) (k (.t5 (T5.ofF f n 0))) (Nat.ble n 32768)) (k (.t4 (T4.ofF f n 0))) (Nat.ble n 4096)) (k (.t3 (T3.ofF f n 0))) (Nat.ble n 512)) (k (.t2 (T2.ofF f n 0))) (Nat.ble n 64)) (k (.t1 (T1.ofF f n 0))) (Nat.ble n 8)
end
def vidEq (a b:Vid):Bool:=Nat.beq a b
inductive KP where
 | int (q:IntKind) | str | bool
inductive KS where
 | p (k:KP) | s (ks:List KP)
inductive Blk (D:Type) where
 | cells (ex:Bool) (n:Nat) (c:Tr V) (ty sz:Nat)
 | map (kT:Nat) (ks:KS) (es:List (V × V)) (ver:Nat)
 | iter (mv:Vid) (ver:Nat) (last:List V) (rest:List (V × V))
 | opq (d:D)
 | dead
inductive H (D:Type) where
 | mk (h:T5 (Blk D)) (nx:Vid) (lg:List Vid)
abbrev E:=T3 V
def E.getp (e:E) (i:Nat):Option V:=Bool.rec (motive:=λ_=>Option V) none (T3.get i e) (Nat.blt i 512)
def E.putp (x:V) (i:Nat) (e:E) (k:E→R):R:=Bool.rec (motive:=λ_=>R) (.no 3) (T3.put (some x) i e k) (Nat.blt i 512)
def E.delp (i:Nat) (e:E) (k:E→R):R:=Bool.rec (motive:=λ_=>R) (.no 3) (T3.put none i e k) (Nat.blt i 512)
def T5.getp {α:Type} (h:T5 α) (v:Nat):Option α:=Bool.rec (motive:=λ_=>Option α) none (T5.get v h) (Nat.blt v 32768)
def T5.putp {α:Type} (x:α) (v:Nat) (h:T5 α) (k:T5 α→R):R:=Bool.rec (motive:=λ_=>R) (.no 5) (T5.put (some x) v h k) (Nat.blt v 32768)
def T4.getp {α:Type} (t:T4 α) (i:Nat):Option α:=Bool.rec (motive:=λ_=>Option α) none (T4.get i t) (Nat.blt i 4096)
def ilt (a b:Int):Bool :=
 Int.rec (motive:=λ_=>Bool) (λa=>Int.rec (motive:=λ_=>Bool) (λb=>Nat.blt a b) (λ_=>false) b)
  (λa=>Int.rec (motive:=λ_=>Bool) (λ_=>true) (λb=>Nat.blt b a) b) a
def ieq (a b:Int):Bool :=
 Int.rec (motive:=λ_=>Bool) (λa=>Int.rec (motive:=λ_=>Bool) (λb=>Nat.beq a b) (λ_=>false) b)
  (λa=>Int.rec (motive:=λ_=>Bool) (λ_=>false) (λb=>Nat.beq a b) b) a
def kIx (k:IntKind):Nat:=IntKind.rec (motive:=λ_=>Nat) 0 1 2 3 4 5 6 7 k
def limK (k:IntKind):Nat:=IntKind.rec (motive:=λ_=>Nat) 128 32768 2147483648 9223372036854775808 256 65536 4294967296 18446744073709551616 k
def seq' (a:List Nat):List Nat→Bool :=
 List.rec (motive:=λ_=>List Nat→Bool) (λb=>List.rec (motive:=λ_=>Bool) true (λ_ _ _=>false) b)
  (λx _ ih b=>List.rec (motive:=λ_=>Bool) false (λy m _=>Bool.rec (motive:=λ_=>Bool) false (ih m) (Nat.beq (Nat.mod x 256) (Nat.mod y 256))) b) a
def V.onB (x:V):(Bool→R)→(Nat)→R :=
 V.rec (motive_1:=λ_=>(Bool→R)→(Nat)→R) (motive_2:=λ_=>Unit)
  (λx0 k n=>k x0)
  (λx0 x1 k n=>R.no n)
  (λx0 k n=>R.no n)
  (λx0 x1 k n=>R.no n)
  (λk n=>R.no n)
  (λx0 x1 x2 x3 k n=>R.no n)
  (λx0 x1 x2 x3 x4 k n=>R.no n)
  (λk n=>R.no n)
  (λx0 k n=>R.no n)
  (λk n=>R.no n)
  (λx0 x1 x2 h0 h1 k n=>R.no n)
  (λk n=>R.no n)
  (λx0 x1 h0 k n=>R.no n)
  (λk n=>R.no n)
  (λx0 h0 k n=>R.no n)
  (λx0 h0 k n=>R.no n)
  (λx0 x1 h0 k n=>R.no n)
  () (λ_ _ _ _=>()) x
def V.onI (x:V):(IntKind→Int→R)→(Nat)→R :=
 V.rec (motive_1:=λ_=>(IntKind→Int→R)→(Nat)→R) (motive_2:=λ_=>Unit)
  (λx0 k n=>R.no n)
  (λx0 x1 k n=>k x0 x1)
  (λx0 k n=>R.no n)
  (λx0 x1 k n=>R.no n)
  (λk n=>R.no n)
  (λx0 x1 x2 x3 k n=>R.no n)
  (λx0 x1 x2 x3 x4 k n=>R.no n)
  (λk n=>R.no n)
  (λx0 k n=>R.no n)
  (λk n=>R.no n)
  (λx0 x1 x2 h0 h1 k n=>R.no n)
  (λk n=>R.no n)
  (λx0 x1 h0 k n=>R.no n)
  (λk n=>R.no n)
  (λx0 h0 k n=>R.no n)
  (λx0 h0 k n=>R.no n)
  (λx0 x1 h0 k n=>R.no n)
  () (λ_ _ _ _=>()) x
def V.onS (x:V):(List Nat→R)→(Nat)→R :=
 V.rec (motive_1:=λ_=>(List Nat→R)→(Nat)→R) (motive_2:=λ_=>Unit)
  (λx0 k n=>R.no n)
  (λx0 x1 k n=>R.no n)
  (λx0 k n=>k x0)
  (λx0 x1 k n=>R.no n)
  (λk n=>R.no n)
  (λx0 x1 x2 x3 k n=>R.no n)
  (λx0 x1 x2 x3 x4 k n=>R.no n)
  (λk n=>R.no n)
  (λx0 k n=>R.no n)
  (λk n=>R.no n)
  (λx0 x1 x2 h0 h1 k n=>R.no n)
  (λk n=>R.no n)
  (λx0 x1 h0 k n=>R.no n)
  (λk n=>R.no n)
  (λx0 h0 k n=>R.no n)
  (λx0 h0 k n=>R.no n)
  (λx0 x1 h0 k n=>R.no n)
  () (λ_ _ _ _=>()) x
def V.onP (x:V):(Vid→Nat→R)→(Nat)→R :=
 V.rec (motive_1:=λ_=>(Vid→Nat→R)→(Nat)→R) (motive_2:=λ_=>Unit)
  (λx0 k n=>R.no n)
  (λx0 x1 k n=>R.no n)
  (λx0 k n=>R.no n)
  (λx0 x1 k n=>k x0 x1)
  (λk n=>R.no n)
  (λx0 x1 x2 x3 k n=>R.no n)
  (λx0 x1 x2 x3 x4 k n=>R.no n)
  (λk n=>R.no n)
  (λx0 k n=>R.no n)
  (λk n=>R.no n)
  (λx0 x1 x2 h0 h1 k n=>R.no n)
  (λk n=>R.no n)
  (λx0 x1 h0 k n=>R.no n)
  (λk n=>R.no n)
  (λx0 h0 k n=>R.no n)
  (λx0 h0 k n=>R.no n)
  (λx0 x1 h0 k n=>R.no n)
  () (λ_ _ _ _=>()) x
def V.onSl (x:V):(Vid→Nat→Nat→Cp→R)→(Nat)→R :=
 V.rec (motive_1:=λ_=>(Vid→Nat→Nat→Cp→R)→(Nat)→R) (motive_2:=λ_=>Unit)
  (λx0 k n=>R.no n)
  (λx0 x1 k n=>R.no n)
  (λx0 k n=>R.no n)
  (λx0 x1 k n=>R.no n)
  (λk n=>R.no n)
  (λx0 x1 x2 x3 k n=>k x0 x1 x2 x3)
  (λx0 x1 x2 x3 x4 k n=>R.no n)
  (λk n=>R.no n)
  (λx0 k n=>R.no n)
  (λk n=>R.no n)
  (λx0 x1 x2 h0 h1 k n=>R.no n)
  (λk n=>R.no n)
  (λx0 x1 h0 k n=>R.no n)
  (λk n=>R.no n)
  (λx0 h0 k n=>R.no n)
  (λx0 h0 k n=>R.no n)
  (λx0 x1 h0 k n=>R.no n)
  () (λ_ _ _ _=>()) x
def V.onM (x:V):(Vid→R)→(Nat)→R :=
 V.rec (motive_1:=λ_=>(Vid→R)→(Nat)→R) (motive_2:=λ_=>Unit)
  (λx0 k n=>R.no n)
  (λx0 x1 k n=>R.no n)
  (λx0 k n=>R.no n)
  (λx0 x1 k n=>R.no n)
  (λk n=>R.no n)
  (λx0 x1 x2 x3 k n=>R.no n)
  (λx0 x1 x2 x3 x4 k n=>R.no n)
  (λk n=>R.no n)
  (λx0 k n=>k x0)
  (λk n=>R.no n)
  (λx0 x1 x2 h0 h1 k n=>R.no n)
  (λk n=>R.no n)
  (λx0 x1 h0 k n=>R.no n)
  (λk n=>R.no n)
  (λx0 h0 k n=>R.no n)
  (λx0 h0 k n=>R.no n)
  (λx0 x1 h0 k n=>R.no n)
  () (λ_ _ _ _=>()) x
def V.onMO (x:V):(Option Vid→R)→(Nat)→R :=
 V.rec (motive_1:=λ_=>(Option Vid→R)→(Nat)→R) (motive_2:=λ_=>Unit)
  (λx0 k n=>R.no n)
  (λx0 x1 k n=>R.no n)
  (λx0 k n=>R.no n)
  (λx0 x1 k n=>R.no n)
  (λk n=>R.no n)
  (λx0 x1 x2 x3 k n=>R.no n)
  (λx0 x1 x2 x3 x4 k n=>R.no n)
  (λk n=>R.no n)
  (λx0 k n=>k (some x0))
  (λk n=>k none)
  (λx0 x1 x2 h0 h1 k n=>R.no n)
  (λk n=>R.no n)
  (λx0 x1 h0 k n=>R.no n)
  (λk n=>R.no n)
  (λx0 h0 k n=>R.no n)
  (λx0 h0 k n=>R.no n)
  (λx0 x1 h0 k n=>R.no n)
  () (λ_ _ _ _=>()) x
def V.onF (x:V):(Nat→List V→List V→R)→(Nat)→R :=
 V.rec (motive_1:=λ_=>(Nat→List V→List V→R)→(Nat)→R) (motive_2:=λ_=>Unit)
  (λx0 k n=>R.no n)
  (λx0 x1 k n=>R.no n)
  (λx0 k n=>R.no n)
  (λx0 x1 k n=>R.no n)
  (λk n=>R.no n)
  (λx0 x1 x2 x3 k n=>R.no n)
  (λx0 x1 x2 x3 x4 k n=>R.no n)
  (λk n=>R.no n)
  (λx0 k n=>R.no n)
  (λk n=>R.no n)
  (λx0 x1 x2 h0 h1 k n=>k x0 x1 x2)
  (λk n=>R.no n)
  (λx0 x1 h0 k n=>R.no n)
  (λk n=>R.no n)
  (λx0 h0 k n=>R.no n)
  (λx0 h0 k n=>R.no n)
  (λx0 x1 h0 k n=>R.no n)
  () (λ_ _ _ _=>()) x
def V.onQ (x:V):(Nat→V→R)→(Nat)→R :=
 V.rec (motive_1:=λ_=>(Nat→V→R)→(Nat)→R) (motive_2:=λ_=>Unit)
  (λx0 k n=>R.no n)
  (λx0 x1 k n=>R.no n)
  (λx0 k n=>R.no n)
  (λx0 x1 k n=>R.no n)
  (λk n=>R.no n)
  (λx0 x1 x2 x3 k n=>R.no n)
  (λx0 x1 x2 x3 x4 k n=>R.no n)
  (λk n=>R.no n)
  (λx0 k n=>R.no n)
  (λk n=>R.no n)
  (λx0 x1 x2 h0 h1 k n=>R.no n)
  (λk n=>R.no n)
  (λx0 x1 h0 k n=>k x0 x1)
  (λk n=>R.no n)
  (λx0 h0 k n=>R.no n)
  (λx0 h0 k n=>R.no n)
  (λx0 x1 h0 k n=>R.no n)
  () (λ_ _ _ _=>()) x
def V.onA (x:V):(List V→R)→(Nat)→R :=
 V.rec (motive_1:=λ_=>(List V→R)→(Nat)→R) (motive_2:=λ_=>Unit)
  (λx0 k n=>R.no n)
  (λx0 x1 k n=>R.no n)
  (λx0 k n=>R.no n)
  (λx0 x1 k n=>R.no n)
  (λk n=>R.no n)
  (λx0 x1 x2 x3 k n=>R.no n)
  (λx0 x1 x2 x3 x4 k n=>R.no n)
  (λk n=>R.no n)
  (λx0 k n=>R.no n)
  (λk n=>R.no n)
  (λx0 x1 x2 h0 h1 k n=>R.no n)
  (λk n=>R.no n)
  (λx0 x1 h0 k n=>R.no n)
  (λk n=>R.no n)
  (λx0 h0 k n=>k x0)
  (λx0 h0 k n=>R.no n)
  (λx0 x1 h0 k n=>k (wL x0 x1))
  () (λ_ _ _ _=>()) x
def V.onT (x:V):(List V→R)→(Nat)→R :=
 V.rec (motive_1:=λ_=>(List V→R)→(Nat)→R) (motive_2:=λ_=>Unit)
  (λx0 k n=>R.no n)
  (λx0 x1 k n=>R.no n)
  (λx0 k n=>R.no n)
  (λx0 x1 k n=>R.no n)
  (λk n=>R.no n)
  (λx0 x1 x2 x3 k n=>R.no n)
  (λx0 x1 x2 x3 x4 k n=>R.no n)
  (λk n=>R.no n)
  (λx0 k n=>R.no n)
  (λk n=>R.no n)
  (λx0 x1 x2 h0 h1 k n=>R.no n)
  (λk n=>R.no n)
  (λx0 x1 h0 k n=>R.no n)
  (λk n=>R.no n)
  (λx0 h0 k n=>R.no n)
  (λx0 h0 k n=>k x0)
  (λx0 x1 h0 k n=>R.no n)
  () (λ_ _ _ _=>()) x
def V.onNil (x:V):(V→R)→(Nat)→R :=
 V.rec (motive_1:=λ_=>(V→R)→(Nat)→R) (motive_2:=λ_=>Unit)
  (λx0 k n=>R.no n)
  (λx0 x1 k n=>R.no n)
  (λx0 k n=>R.no n)
  (λx0 x1 k n=>k (.p x0 x1))
  (λk n=>R.no n)
  (λx0 x1 x2 x3 k n=>R.no n)
  (λx0 x1 x2 x3 x4 k n=>R.no n)
  (λk n=>R.no n)
  (λx0 k n=>R.no n)
  (λk n=>R.no n)
  (λx0 x1 x2 h0 h1 k n=>k (.f x0 x1 x2))
  (λk n=>R.no n)
  (λx0 x1 h0 k n=>k (.q x0 x1))
  (λk n=>R.no n)
  (λx0 h0 k n=>R.no n)
  (λx0 h0 k n=>R.no n)
  (λx0 x1 h0 k n=>R.no n)
  () (λ_ _ _ _=>()) x
def V.onLen (x:V):(Nat→Nat→R)→(Vid→R)→(Nat)→R :=
 V.rec (motive_1:=λ_=>(Nat→Nat→R)→(Vid→R)→(Nat)→R) (motive_2:=λ_=>Unit)
  (λx0 k g n=>R.no n)
  (λx0 x1 k g n=>R.no n)
  (λx0 k g n=>k 0 (lenL x0))
  (λx0 x1 k g n=>R.no n)
  (λk g n=>R.no n)
  (λx0 x1 x2 x3 k g n=>k 1 x2)
  (λx0 x1 x2 x3 x4 k g n=>k 1 0)
  (λk g n=>k 1 0)
  (λx0 k g n=>g x0)
  (λk g n=>k 2 0)
  (λx0 x1 x2 h0 h1 k g n=>R.no n)
  (λk g n=>R.no n)
  (λx0 x1 h0 k g n=>R.no n)
  (λk g n=>R.no n)
  (λx0 h0 k g n=>R.no n)
  (λx0 h0 k g n=>R.no n)
  (λx0 x1 h0 k g n=>R.no n)
  () (λ_ _ _ _=>()) x
def V.onG (x:V):(Bool→R)→(R)→(Nat)→R :=
 V.rec (motive_1:=λ_=>(Bool→R)→(R)→(Nat)→R) (motive_2:=λ_=>Unit)
  (λx0 k u n=>k x0)
  (λx0 x1 k u n=>R.no n)
  (λx0 k u n=>R.no n)
  (λx0 x1 k u n=>R.no n)
  (λk u n=>R.no n)
  (λx0 x1 x2 x3 k u n=>R.no n)
  (λx0 x1 x2 x3 x4 k u n=>R.no n)
  (λk u n=>R.no n)
  (λx0 k u n=>R.no n)
  (λk u n=>R.no n)
  (λx0 x1 x2 h0 h1 k u n=>R.no n)
  (λk u n=>R.no n)
  (λx0 x1 h0 k u n=>R.no n)
  (λk u n=>R.no n)
  (λx0 h0 k u n=>R.no n)
  (λx0 h0 k u n=>u)
  (λx0 x1 h0 k u n=>R.no n)
  () (λ_ _ _ _=>()) x
def V.onZ (x:V):(Nat→Bool→R)→(Nat)→R :=
 V.rec (motive_1:=λ_=>(Nat→Bool→R)→(Nat)→R) (motive_2:=λ_=>Unit)
  (λx0 k n=>R.no n)
  (λx0 x1 k n=>R.no n)
  (λx0 k n=>R.no n)
  (λx0 x1 k n=>k 0 false)
  (λk n=>k 0 true)
  (λx0 x1 x2 x3 k n=>k 1 false)
  (λx0 x1 x2 x3 x4 k n=>k 1 false)
  (λk n=>k 1 true)
  (λx0 k n=>k 2 false)
  (λk n=>k 2 true)
  (λx0 x1 x2 h0 h1 k n=>R.no n)
  (λk n=>R.no n)
  (λx0 x1 h0 k n=>R.no n)
  (λk n=>R.no n)
  (λx0 h0 k n=>R.no n)
  (λx0 h0 k n=>R.no n)
  (λx0 x1 h0 k n=>R.no n)
  () (λ_ _ _ _=>()) x
def V.onApp (x:V):(R)→(Vid→Nat→Nat→Cp→R)→(Nat)→R :=
 V.rec (motive_1:=λ_=>(R)→(Vid→Nat→Nat→Cp→R)→(Nat)→R) (motive_2:=λ_=>Unit)
  (λx0 k0 k n=>R.no n)
  (λx0 x1 k0 k n=>R.no n)
  (λx0 k0 k n=>R.no n)
  (λx0 x1 k0 k n=>R.no n)
  (λk0 k n=>R.no n)
  (λx0 x1 x2 x3 k0 k n=>k x0 x1 x2 x3)
  (λx0 x1 x2 x3 x4 k0 k n=>R.no n)
  (λk0 k n=>k0)
  (λx0 k0 k n=>R.no n)
  (λk0 k n=>R.no n)
  (λx0 x1 x2 h0 h1 k0 k n=>R.no n)
  (λk0 k n=>R.no n)
  (λx0 x1 h0 k0 k n=>R.no n)
  (λk0 k n=>R.no n)
  (λx0 h0 k0 k n=>R.no n)
  (λx0 h0 k0 k n=>R.no n)
  (λx0 x1 h0 k0 k n=>R.no n)
  () (λ_ _ _ _=>()) x
def V.onRd (x:V):(R)→(Vid→Nat→Nat→R)→(List Nat→R)→(Nat)→R :=
 V.rec (motive_1:=λ_=>(R)→(Vid→Nat→Nat→R)→(List Nat→R)→(Nat)→R) (motive_2:=λ_=>Unit)
  (λx0 k0 k g n=>R.no n)
  (λx0 x1 k0 k g n=>R.no n)
  (λx0 k0 k g n=>g x0)
  (λx0 x1 k0 k g n=>R.no n)
  (λk0 k g n=>R.no n)
  (λx0 x1 x2 x3 k0 k g n=>k x0 x1 x2)
  (λx0 x1 x2 x3 x4 k0 k g n=>k0)
  (λk0 k g n=>k0)
  (λx0 k0 k g n=>R.no n)
  (λk0 k g n=>R.no n)
  (λx0 x1 x2 h0 h1 k0 k g n=>R.no n)
  (λk0 k g n=>R.no n)
  (λx0 x1 h0 k0 k g n=>R.no n)
  (λk0 k g n=>R.no n)
  (λx0 h0 k0 k g n=>R.no n)
  (λx0 h0 k0 k g n=>R.no n)
  (λx0 x1 h0 k0 k g n=>R.no n)
  () (λ_ _ _ _=>()) x
def V.onSlN (x:V):(R)→(Vid→Nat→Nat→Cp→R)→(Nat)→R :=
 V.rec (motive_1:=λ_=>(R)→(Vid→Nat→Nat→Cp→R)→(Nat)→R) (motive_2:=λ_=>Unit)
  (λx0 k0 k n=>R.no n)
  (λx0 x1 k0 k n=>R.no n)
  (λx0 k0 k n=>R.no n)
  (λx0 x1 k0 k n=>R.no n)
  (λk0 k n=>R.no n)
  (λx0 x1 x2 x3 k0 k n=>k x0 x1 x2 x3)
  (λx0 x1 x2 x3 x4 k0 k n=>R.no n)
  (λk0 k n=>k0)
  (λx0 k0 k n=>R.no n)
  (λk0 k n=>R.no n)
  (λx0 x1 x2 h0 h1 k0 k n=>R.no n)
  (λk0 k n=>R.no n)
  (λx0 x1 h0 k0 k n=>R.no n)
  (λk0 k n=>R.no n)
  (λx0 h0 k0 k n=>R.no n)
  (λx0 h0 k0 k n=>R.no n)
  (λx0 x1 h0 k0 k n=>R.no n)
  () (λ_ _ _ _=>()) x
def V.onAW (x:V):(List V→R)→((Nat→V)→Nat→R)→(Nat)→R :=
 V.rec (motive_1:=λ_=>(List V→R)→((Nat→V)→Nat→R)→(Nat)→R) (motive_2:=λ_=>Unit)
  (λx0 k g n=>R.no n)
  (λx0 x1 k g n=>R.no n)
  (λx0 k g n=>R.no n)
  (λx0 x1 k g n=>R.no n)
  (λk g n=>R.no n)
  (λx0 x1 x2 x3 k g n=>R.no n)
  (λx0 x1 x2 x3 x4 k g n=>R.no n)
  (λk g n=>R.no n)
  (λx0 k g n=>R.no n)
  (λk g n=>R.no n)
  (λx0 x1 x2 h0 h1 k g n=>R.no n)
  (λk g n=>R.no n)
  (λx0 x1 h0 k g n=>R.no n)
  (λk g n=>R.no n)
  (λx0 h0 k g n=>k x0)
  (λx0 h0 k g n=>R.no n)
  (λx0 x1 h0 k g n=>g x0 x1)
  () (λ_ _ _ _=>()) x
def V.onW (x:V):(R)→((Nat→V)→Nat→R)→R :=
 V.rec (motive_1:=λ_=>(R)→((Nat→V)→Nat→R)→R) (motive_2:=λ_=>Unit)
  (λx0 k g=>k)
  (λx0 x1 k g=>k)
  (λx0 k g=>k)
  (λx0 x1 k g=>k)
  (λk g=>k)
  (λx0 x1 x2 x3 k g=>k)
  (λx0 x1 x2 x3 x4 k g=>k)
  (λk g=>k)
  (λx0 k g=>k)
  (λk g=>k)
  (λx0 x1 x2 h0 h1 k g=>k)
  (λk g=>k)
  (λx0 x1 h0 k g=>k)
  (λk g=>k)
  (λx0 h0 k g=>k)
  (λx0 h0 k g=>k)
  (λx0 x1 h0 k g=>g x0 x1)
  () (λ_ _ _ _=>()) x
def V.onPq (x:V):(R)→(Vid→Nat→R)→(Nat)→R :=
 V.rec (motive_1:=λ_=>(R)→(Vid→Nat→R)→(Nat)→R) (motive_2:=λ_=>Unit)
  (λx0 k0 k n=>R.no n)
  (λx0 x1 k0 k n=>R.no n)
  (λx0 k0 k n=>R.no n)
  (λx0 x1 k0 k n=>k x0 x1)
  (λk0 k n=>k0)
  (λx0 x1 x2 x3 k0 k n=>R.no n)
  (λx0 x1 x2 x3 x4 k0 k n=>R.no n)
  (λk0 k n=>R.no n)
  (λx0 k0 k n=>R.no n)
  (λk0 k n=>R.no n)
  (λx0 x1 x2 h0 h1 k0 k n=>R.no n)
  (λk0 k n=>R.no n)
  (λx0 x1 h0 k0 k n=>R.no n)
  (λk0 k n=>R.no n)
  (λx0 h0 k0 k n=>R.no n)
  (λx0 h0 k0 k n=>R.no n)
  (λx0 x1 h0 k0 k n=>R.no n)
  () (λ_ _ _ _=>()) x
def V.cells (x:V):List V :=
 V.rec (motive_1:=λ_=>List V) (motive_2:=λ_=>Unit)
  (λx0=>[.b x0])
  (λx0 x1=>[.i x0 x1])
  (λx0=>[.s x0])
  (λx0 x1=>[.p x0 x1])
  ([.np])
  (λx0 x1 x2 x3=>[.sl x0 x1 x2 x3])
  (λx0 x1 x2 x3 x4=>[.se x0 x1 x2 x3 x4])
  ([.ns])
  (λx0=>[.m x0])
  ([.nm])
  (λx0 x1 x2 h0 h1=>[.f x0 x1 x2])
  ([.nf])
  (λx0 x1 h0=>[.q x0 x1])
  ([.nq])
  (λx0 h0=>x0)
  (λx0 h0=>[.t x0])
  (λx0 x1 h0=>wL x0 x1)
  () (λ_ _ _ _=>()) x
def V.one (x:V):Bool :=
 V.rec (motive_1:=λ_=>Bool) (motive_2:=λ_=>Unit)
  (λx0=>true)
  (λx0 x1=>true)
  (λx0=>true)
  (λx0 x1=>true)
  (true)
  (λx0 x1 x2 x3=>true)
  (λx0 x1 x2 x3 x4=>true)
  (true)
  (λx0=>true)
  (true)
  (λx0 x1 x2 h0 h1=>true)
  (true)
  (λx0 x1 h0=>true)
  (true)
  (λx0 h0=>false)
  (λx0 h0=>false)
  (λx0 x1 h0=>false)
  () (λ_ _ _ _=>()) x
def allOne (l:List V):Bool:=List.rec (motive:=λ_=>Bool) true (λv _ ih=>Bool.rec (motive:=λ_=>Bool) false ih (V.one v)) l
def tw0:Unit:=()
def tw1:Unit:=tw0
def tw2:Unit:=tw1
def tw3:Unit:=tw2
def tw4:Unit:=tw3
def tw5:Unit:=tw4
def tw6:Unit:=tw5
def tw7:Unit:=tw6
def tw8:Unit:=tw7
def tw9:Unit:=tw8
def tw10:Unit:=tw9
def tw11:Unit:=tw10
def tw12:Unit:=tw11
def tw13:Unit:=tw12
def tw14:Unit:=tw13
def tw15:Unit:=tw14
def tw16:Unit:=tw15
def tw17:Unit:=tw16
def tw18:Unit:=tw17
def tw19:Unit:=tw18
def tw20:Unit:=tw19
def tw21:Unit:=tw20
def tw22:Unit:=tw21
def tw23:Unit:=tw22
def tw24:Unit:=tw23
def tw25:Unit:=tw24
def tw26:Unit:=tw25
def tw27:Unit:=tw26
def tw28:Unit:=tw27
def tw29:Unit:=tw28
def tw30:Unit:=tw29
def tw31:Unit:=tw30
def tw32:Unit:=tw31
def tw33:Unit:=tw32
def tw34:Unit:=tw33
def tw35:Unit:=tw34
def tw36:Unit:=tw35
def tw37:Unit:=tw36
def tw38:Unit:=tw37
def tw39:Unit:=tw38
def tw40:Unit:=tw39
def tw41:Unit:=tw40
def tw42:Unit:=tw41
def tw43:Unit:=tw42
def tw44:Unit:=tw43
def tw45:Unit:=tw44
def tw46:Unit:=tw45
def tw47:Unit:=tw46
def tw48:Unit:=tw47
def tw49:Unit:=tw48
def tw50:Unit:=tw49
def tw51:Unit:=tw50
def tw52:Unit:=tw51
def tw53:Unit:=tw52
def tw54:Unit:=tw53
def tw55:Unit:=tw54
def tw56:Unit:=tw55
def tw57:Unit:=tw56
def tw58:Unit:=tw57
def tw59:Unit:=tw58
def tw60:Unit:=tw59
inductive Opd where
 | l (k:Nat) | t (p:Nat) | c (v:V) | bad
abbrev Lc:=List V
def getO (x:Opd) (L:Lc) (e:E) (k:V→R):R :=
 let _:=tw60
 Opd.rec (motive:=λ_=>R) (λj=>orE (nth j L) k 1) (λp=>orE (E.getp e p) k 2) (λv=>k v) (R.no 3) x
def getL (l:List Opd) (L:Lc) (e:E) (k:List V→R):R :=
 let _:=tw60
 List.rec (motive:=λ_=>(List V→R)→R) (λk=>k []) (λx _ ih k=>getO x L e λv=>ih λvs=>k (v::vs)) l k
section
variable {D:Type}
def Blk.onC (b:Blk D) (k:Bool→Nat→Tr V→Nat→Nat→R) (n:Nat):R :=
 Blk.rec (motive:=λ_=>R) k (λ_ _ _ _=>R.no n) (λ_ _ _ _=>R.no n) (λ_=>R.no n) (R.no n) b
def Blk.onM (b:Blk D) (k:Nat→KS→List (V × V)→Nat→R) (n:Nat):R :=
 Blk.rec (motive:=λ_=>R) (λ_ _ _ _ _=>R.no n) k (λ_ _ _ _=>R.no n) (λ_=>R.no n) (R.no n) b
def Blk.onI (b:Blk D) (k:Vid→Nat→List V→List (V × V)→R) (n:Nat):R :=
 Blk.rec (motive:=λ_=>R) (λ_ _ _ _ _=>R.no n) (λ_ _ _ _=>R.no n) k (λ_=>R.no n) (R.no n) b
def H.get (σ:H D) (v:Vid) (k:Blk D→R):R:=H.rec (motive:=λ_=>R) (λh _ _=>orE (h.getp v) k 5) σ
def H.put (σ:H D) (v:Vid) (b:Blk D) (k:H D→R):R:=H.rec (motive:=λ_=>R) (λh nx lg=>T5.putp b v h λh'=>k (.mk h' nx (v::lg))) σ
def H.add (σ:H D) (v:Vid) (b:Blk D) (k:H D→R):R :=
 H.rec (motive:=λ_=>R) (λh nx lg=>Option.rec (motive:=λ_=>R) (T5.putp b v h λh'=>k (.mk h' nx (v::lg))) (λ_=>R.no 6) (h.getp v)) σ
def H.room (n:Nat) (σ:H D) (k:List Vid→H D→R):R :=
 H.rec (motive:=λ_=>R) (λh nx lg=>Nat.rec (motive:=λ_=>Vid→List Vid→R) (λm l=>k l (.mk h m lg)) (λ_ ih m l=>fL (Nat.succ m) λm'=>ih m' (m::l)) n nx []) σ
def H.cells (σ:H D) (v:Vid) (k:Bool→Nat→Tr V→Nat→Nat→R):R:=σ.get v λb=>b.onC k 7
def rdFrom (c:Tr V) (off n:Nat) (k:List V→R):R :=
 Nat.rec (motive:=λ_=>Nat→(List V→R)→R) (λ_ k=>k []) (λ_ ih off k=>orE (c.get off) (λv=>fL (Nat.succ off) λo=>ih o λl=>k (v::l)) 8) n off k
def wrFrom (l:List V) (c:Tr V) (off:Nat) (k:Tr V→R):R :=
 List.rec (motive:=λ_=>Tr V→Nat→(Tr V→R)→R) (λc _ k=>k c) (λv _ ih c off k=>Tr.put v c off λc'=>fL (Nat.succ off) λo=>ih c' o k) l c off k
def cellF (c:Tr V) (off:Nat) (i:Nat):V:=Option.rec (motive:=λ_=>V) .np (λx=>x) (c.get (Nat.add off i))
def mkRow (v:Vid) (l:List V) (ty sz:Nat) (σ:H D) (k:H D→R):R :=
 trOf l λc=>fL (lenL l) λn=>σ.add v (.cells true n c ty sz) k
abbrev K (D:Type):=V→H D→R
def lstF (z:List V) (i:Nat):V:=Option.rec (motive:=λ_=>V) .np (λx=>x) (nth i z)
def vNew (z:List V) (ty:Nat) (v:Vid) (σ:H D) (k:K D):R :=
 fL (lenL z) λn=>Tr.ofF (lstF z) n λc=>σ.add v (.cells true n c ty 1) λσ=>k (.p v 0) σ
def vBox (ty:Nat) (v:Vid) (x:V) (σ:H D) (k:K D):R:=iff' (allOne x.cells) (mkRow v x.cells ty 1 σ λσ=>k (.p v 0) σ) (R.no 11)
def laid (ps:List (Nat × Nat)) (xs:List V) (l:List V) (k:List V→R):R :=
 List.rec (motive:=λ_=>List V→List V→(List V→R)→R) (λ_ l k=>k l) (λp _ ih xs l k=>List.rec (motive:=λ_=>R) (R.no 12) (λx xs _=>iff' (Nat.beq (lenL x.cells) p.2&&Nat.blt 0 p.2&&allOne x.cells)
  (putK p.1 x.cells l λl=>ih xs l k) (R.no 12)) xs) ps xs l k
def vBuild (z:List V) (n:Nat) (ps:List (Nat × Nat)) (xs:List V) (σ:H D) (k:K D):R:=laid ps xs z λl=>k (.a l) σ
def vBSl (z:List V) (ty sz len n:Nat) (ps:List (Nat × Nat)) (v:Vid) (xs:List V) (σ:H D) (k:K D):R :=
 laid ps xs z λl=>trOf l λc=>σ.add v (.cells true n c ty sz) λσ=>k (.sl v 0 len (.ex len)) σ
def vLd (x:V) (σ:H D) (k:V→R):R:=x.onP (λv off=>σ.cells v λ_ _ c _ _=>orE (c.get off) k 13) 14
def vLdA (n:Nat) (x:V) (σ:H D) (k:V→R):R :=
 x.onP (λv off=>σ.cells v λ_ m c _ _=>Bool.rec (motive:=λ_=>R) (iff' (Nat.ble (Nat.add off n) m) (k (.w (cellF c off) n)) (R.no 15)) (rdFrom c off n λl=>k (.a l)) (Nat.ble n 16)) 15
def wrAll (l:List V) (n m:Nat) (c:Tr V) (off:Nat) (k:Tr V→R):R:=Bool.rec (motive:=λ_=>R) (wrFrom l c off k) (trOf l k) (Nat.beq n m)
def stL (n:Nat) (l:List V) (c:Tr V) (off m:Nat) (k:Tr V→R):R:=iff' (Nat.beq (lenL l) n&&allOne l) (wrAll l n m c off k) (R.no 16)
def vSt (n:Nat) (x y:V) (σ:H D) (k:H D→R):R :=
 x.onP (λv off=>σ.cells v λex m c ty sz=>iff' (Nat.ble (Nat.add off n) m) (Bool.rec (motive:=λ_=>R)
  (y.onW (stL n y.cells c off m λc'=>σ.put v (.cells ex m c' ty sz) k) λf n'=>iff' (Nat.beq n' n&&Nat.beq n m) (Tr.ofF f n λc'=>σ.put v (.cells ex m c' ty sz) k) (stL n y.cells c off m λc'=>σ.put v (.cells ex m c' ty sz) k))
  (Tr.put y c off λc'=>σ.put v (.cells ex m c' ty sz) k) (Nat.beq n 1&&y.one)) (R.no 16)) 17
def vNil (x:V) (k:V→R):R:=x.onNil k 18
inductive EK where
 | int | str | bool | nil (k:Nat) | struct (ks:List Nat) | ptr | none
def primEq (x y:V):Option Bool:=match x,y with
 | .i k a,.i k' b=>match Nat.beq (kIx k) (kIx k') with | true=>some (ieq a b) | false=>none
 | .b a,.b b=>some (a==b)
 | .s a,.s b=>some (seq' a b)
 | _,_=>none
def primsEq:List V→List V→Option Bool
 | [],[]=>some true
 | x::xs,y::ys=>match primEq x y,primsEq xs ys with
  | some a,some b=>some (a&&b)
  | _,_=>none
 | _,_=>none
def primK (k:Nat) (x y:V):Option Bool:=match k,x,y with
 | 0,.i k a,.i k' b=>match Nat.beq (kIx k) (kIx k') with | true=>some (ieq a b) | false=>none
 | 1,.s a,.s b=>some (seq' a b)
 | 2,.b a,.b b=>some (a==b)
 | _,_,_=>none
def primsK:List Nat→List V→List V→Option Bool
 | [],[],[]=>some true
 | k::ks,x::xs,y::ys=>match primK k x y,primsK ks xs ys with
  | some a,some b=>some (a&&b)
  | _,_=>none
 | _,_,_=>none
def eqV (ek:EK) (x y:V) (k:Bool→R):R :=
 EK.rec (motive:=λ_=>R)
  (x.onI (λκ a=>y.onI (λκ' b=>iff' (Nat.beq (kIx κ) (kIx κ')) (k (ieq a b)) (R.no 20)) 20) 20)
  (x.onS (λa=>y.onS (λb=>k (seq' a b)) 21) 21)
  (x.onB (λa=>y.onB (λb=>k (a==b)) 21) 21)
  (λkk=>y.onZ (λky z=>iff' (z&&Nat.beq ky kk) (x.onZ (λkx z=>iff' (Nat.beq kx kk) (k z) (R.no 22)) 22) (R.no 22)) 22)
  (λks=>x.onA (λxs=>y.onA (λys=>orE (primsK ks xs ys) k 23) 23) 23)
  (x.onPq (y.onPq (k true) (λ_ _=>k false) 24) (λv o=>y.onPq (k false) (λv' o'=>iff' (vidEq v v') (k (Nat.beq o o')) (R.no 24)) 24) 24)
  (R.no 24) ek
def vEqn (neg:Bool) (ek:EK) (x y:V) (k:V→R):R:=eqV ek x y λb=>iff' b (iff' neg (k (.b false)) (k (.b true))) (iff' neg (k (.b true)) (k (.b false)))
def forK (κ:IntKind) (z:Int) (k:V→R):R:=Int.rec (motive:=λ_=>R) (λn=>fL n λn=>k (.i κ (.ofNat n))) (λm=>fL m λm=>k (.i κ (.negSucc m))) z
def numK (κ:IntKind) (z:Int) (k:V→R):R :=
 Int.rec (motive:=λ_=>R) (λn=>fL n λn=>iff' (Nat.blt n (limK κ)) (k (.i κ (.ofNat n))) (forK κ (κ.wrap (.ofNat n)) k))
  (λm=>fL m λm=>iff' (Nat.blt (kIx κ) 4&&Nat.blt m (limK κ)) (k (.i κ (.negSucc m))) (forK κ (κ.wrap (.negSucc m)) k)) z
def int2 (f:Nat→Nat→Int) (g:Int→Int→Int) (a b:Int):Int :=
 Int.rec (motive:=λ_=>Int) (λx=>Int.rec (motive:=λ_=>Int) (λy=>f x y) (λ_=>g a b) b) (λ_=>g a b) a
def subN (x y:Nat):Int:=Bool.rec (motive:=λ_=>Int) (.negSucc (Nat.sub (Nat.sub y x) 1)) (.ofNat (Nat.sub x y)) (Nat.ble y x)
def minN (x y:Nat):Nat:=Bool.rec (motive:=λ_=>Nat) y x (Nat.ble x y)
def bitsN (κ:IntKind):Nat:=IntKind.rec (motive:=λ_=>Nat) 8 16 32 64 8 16 32 64 κ
def bit2 (f:Nat→Nat→Nat) (g:IntKind→Int→Int→Int) (κ:IntKind) (a b:Int) (k:V→R):R :=
 forK κ (int2 (λx y=>Bool.rec (motive:=λ_=>Int) (g κ a b) (.ofNat (f x y)) (Nat.beq (kIx κ) 7&&Nat.blt x 18446744073709551616&&Nat.blt y 18446744073709551616)) (g κ) a b) k
def binV (f:IntKind→Int→Int→(V→R)→R) (x y:V) (k:V→R):R:=x.onI (λκ a=>y.onI (λκ' b=>iff' (Nat.beq (kIx κ) (kIx κ')) (f κ a b k) (R.no 27)) 27) 28
def yesNo (b:Bool) (k:V→R):R:=iff' b (k (.b true)) (k (.b false))
def noYes (b:Bool) (k:V→R):R:=iff' b (k (.b false)) (k (.b true))
def bAddI (κ:IntKind) (a b:Int) (k:V→R):R:=numK κ (int2 (λx y=>.ofNat (Nat.add x y)) Int.add a b) k
def bSubI (κ:IntKind) (a b:Int) (k:V→R):R:=numK κ (int2 subN Int.sub a b) k
def bMulI (κ:IntKind) (a b:Int) (k:V→R):R:=numK κ (int2 (λx y=>.ofNat (Nat.mul x y)) Int.mul a b) k
def bQuoI (κ:IntKind) (a b:Int) (k:V→R):R:=iff' (ieq b 0) (R.no 25) (numK κ (int2 (λx y=>.ofNat (Nat.div x y)) Int.tdiv a b) k)
def bRemI (κ:IntKind) (a b:Int) (k:V→R):R:=iff' (ieq b 0) (R.no 25) (forK κ (int2 (λx y=>.ofNat (Nat.mod x y)) Int.tmod a b) k)
def bLssI (_:IntKind) (a b:Int) (k:V→R):R:=yesNo (ilt a b) k
def bLeqI (_:IntKind) (a b:Int) (k:V→R):R:=noYes (ilt b a) k
def bGtrI (_:IntKind) (a b:Int) (k:V→R):R:=yesNo (ilt b a) k
def bGeqI (_:IntKind) (a b:Int) (k:V→R):R:=noYes (ilt a b) k
def bNotI (κ:IntKind) (a b:Int) (k:V→R):R:=forK κ (bAndNot κ a b) k
def vBin (op:BinOp):V→V→(V→R)→R:=match op with
 | .add=>binV bAddI | .sub=>binV bSubI | .mul=>binV bMulI | .quo=>binV bQuoI | .rem=>binV bRemI
 | .lss=>binV bLssI | .leq=>binV bLeqI | .gtr=>binV bGtrI | .geq=>binV bGeqI
 | .and=>binV (bit2 Nat.land bAnd) | .or=>binV (bit2 Nat.lor bOr) | .xor=>binV (bit2 Nat.xor bXor) | .andNot=>binV bNotI
 | _=>λ_ _ _=>R.no 26
def vShl (x y:V) (k:V→R):R:=x.onI (λκ a=>y.onI (λ_ b=>iff' (ilt b 0) (R.no 29) (numK κ (int2 (λx y=>.ofNat (Nat.mul x (Nat.pow 2 (minN y (bitsN κ))))) (λa b=>a * 2 ^ min b.toNat κ.bits) a b) k)) 29) 29
def vShr (x y:V) (k:V→R):R:=x.onI (λκ a=>y.onI (λ_ b=>iff' (ilt b 0) (R.no 29) (forK κ (int2 (λx y=>.ofNat (Nat.div x (Nat.pow 2 (minN y (bitsN κ))))) (λa b=>a.fdiv (2 ^ min b.toNat κ.bits)) a b) k)) 29) 29
def vCat (x y:V) (k:V→R):R:=x.onS (λa=>y.onS (λb=>iff' (Nat.ble (Nat.add (lenL a) (lenL b)) 1000000) (k (.s (appL a b))) (R.no 30)) 30) 30
def vNot (x:V) (k:V→R):R:=x.onB (λb=>iff' b (k (.b false)) (k (.b true))) 31
def vNeg (x:V) (k:V→R):R:=x.onI (λκ n=>numK κ (0 - n) k) 32
def vCpl (x:V) (k:V→R):R:=x.onI (λκ n=>forK κ (bNot κ n) k) 32
def vFA (off:Nat) (x:V) (k:V→R):R:=x.onP (λv o=>fL (Nat.add o off) λo=>k (.p v o)) 33
def partV (agg:Bool) (off n:Nat) (l:List V) (k:V→R):R :=
 iff' agg (iff' (Nat.ble (Nat.add off n) (lenL l)) (k (.a (takeL n (dropL off l)))) (R.no 34)) (orE (nth off l) k 35)
def partW (agg:Bool) (off n:Nat) (f:Nat→V) (m:Nat) (k:V→R):R :=
 iff' (Nat.ble (Nat.add off n) m&&Nat.blt 0 n) (iff' agg (k (.w (λi=>f (Nat.add off i)) n)) (k (f off))) (R.no 34)
def vFld (agg:Bool) (off n:Nat) (x:V) (k:V→R):R:=x.onAW (λl=>partV agg off n l k) (λf m=>partW agg off n f m k) 36
def asI (x:V) (k:Nat→R):R:=x.onI (λ_ n=>Int.rec (motive:=λ_=>R) k (λ_=>R.no 37) n) 37
def vIA (sz:Nat) (x i:V) (k:V→R):R:=asI i λi=>x.onSl (λv off n _=>iff' (Nat.blt i n) (fL (Nat.add off (Nat.mul i sz)) λo=>k (.p v o)) (R.no 38)) 39
def vIAA (len sz:Nat) (x i:V) (k:V→R):R:=asI i λi=>x.onP (λv off=>iff' (Nat.blt i len) (fL (Nat.add off (Nat.mul i sz)) λo=>k (.p v o)) (R.no 40)) 41
def vIS (x i:V) (k:V→R):R:=asI i λi=>x.onS (λl=>orE (nth i l) (λb=>fL (Nat.mod b 256) λb=>k (.i .u8 (.ofNat b))) 42) 43
def vIV (agg:Bool) (len sz:Nat) (x i:V) (k:V→R):R:=asI i λi=>x.onAW (λl=>iff' (Nat.blt i len) (partV agg (Nat.mul i sz) sz l k) (R.no 44)) (λf m=>iff' (Nat.blt i len) (partW agg (Nat.mul i sz) sz f m k) (R.no 44)) 45
def vExt (j:Nat) (x:V) (k:V→R):R:=x.onT (λl=>orE (nth j l) k 46) 47
def vLen (kd:Nat) (x:V) (σ:H D) (k:V→R):R :=
 x.onLen (λkk n=>iff' (Nat.beq kk kd) (fL n λn=>k (.i .i64 (.ofNat n))) (R.no 49)) (λv=>iff' (Nat.beq kd 2) (σ.get v λb=>b.onM (λ_ _ es _=>fL (lenL es) λn=>k (.i .i64 (.ofNat n))) 48) (R.no 49)) 49
def optI (x:Option V) (d:Nat) (k:Nat→R):R:=Option.rec (motive:=λ_=>R) (k d) (λx=>asI x k) x
def vSlS (lo hi:Option V) (x:V) (k:V→R):R :=
 x.onS (λl=>fL (lenL l) λn=>optI hi n λh=>optI lo 0 λo=>iff' (Nat.ble h n&&Nat.ble o h) (k (.s (takeL (Nat.sub h o) (dropL o l)))) (R.no 50)) 51
def slOf (sz:Nat) (v:Vid) (off n o h:Nat) (c:Cp) (k:V→R):R :=
 iff' (Nat.ble o h&&Nat.ble h n) (fL (Nat.add off (Nat.mul o sz)) λoff'=>fL (Nat.sub h o) λm=>Cp.rec (motive:=λ_=>R)
  (λc=>iff' (Nat.blt o c) (fL (Nat.sub c o) λc'=>k (.sl v off' m (.ex c'))) (iff' (Nat.beq o c) (k (.sl v off 0 (.ex 0))) (R.no 52)))
  (λr=>iff' (Nat.beq o 0) (k (.sl v off h (.re r))) (iff' (Nat.blt o n) (fL (Nat.add r o) λr'=>k (.sl v off' m (.re r'))) (iff' (Nat.beq o h) (k (.se v off r o sz)) (R.no 53)))) c) (R.no 54)
def vSl (sz:Nat) (lo hi:Option V) (x:V) (k:V→R):R :=
 x.onSlN (optI hi 0 λh=>optI lo 0 λo=>iff' (Nat.beq h 0&&Nat.beq o 0) (k .ns) (R.no 55))
  (λv off n c=>optI hi n λh=>optI lo 0 λo=>slOf sz v off n o h c k) 56
def vSl3 (sz:Nat) (lo:Option V) (hi mx x:V) (k:V→R):R :=
 asI hi λh=>asI mx λm=>optI lo 0 λo=>x.onSlN (iff' (Nat.beq h 0&&Nat.beq o 0&&Nat.beq m 0) (k .ns) (R.no 57))
  (λv off n _=>iff' (Nat.ble o h&&Nat.ble h m&&Nat.ble m n) (iff' (Nat.beq m o) (k (.sl v off 0 (.ex 0))) (fL (Nat.add off (Nat.mul o sz)) λoff'=>fL (Nat.sub h o) λh'=>fL (Nat.sub m o) λm'=>k (.sl v off' h' (.ex m')))) (R.no 58)) 59
def vSlA (len sz:Nat) (lo hi:Option V) (x:V) (k:V→R):R :=
 x.onP (λv off=>optI hi len λh=>optI lo 0 λo=>iff' (Nat.ble o h&&Nat.ble h len&&Nat.blt o len) (fL (Nat.add off (Nat.mul o sz)) λoff'=>fL (Nat.sub h o) λh'=>fL (Nat.sub len o) λm'=>k (.sl v off' h' (.ex m'))) (R.no 60)) 61
def times (n:Nat) (z:List V):List V:=Nat.rec (motive:=λ_=>List V) [] (λ_ ih=>appL z ih) n
def vMkS (z:List V) (ty sz bytes:Nat) (v:Vid) (l c:V) (σ:H D) (k:K D):R :=
 asI l λl=>asI c λc=>iff' (Nat.ble l c&&Nat.ble (Nat.mul c bytes) 100000000&&Nat.ble c 1000000)
  (fL (Nat.mul c sz) λm=>trOf (times c z) λt=>σ.add v (.cells true m t ty sz) λσ=>k (.sl v 0 l (.ex c)) σ) (R.no 62)
def vClr (z:List V) (sz:Nat) (x:V) (σ:H D) (k:H D→R):R :=
 x.onRd (k σ) (λv off n=>σ.cells v λex m c ty sz'=>iff' (Nat.ble (Nat.add off (Nat.mul n sz)) m) (wrFrom (times n z) c off λc'=>σ.put v (.cells ex m c' ty sz') k) (R.no 87)) (λ_=>R.no 87) 87
def vMkM (kT:Nat) (ks:KS) (v:Vid) (σ:H D) (k:K D):R:=σ.add v (.map kT ks [] 0) λσ=>k (.m v) σ
def kpEq (k:KP) (x y:V) (yes no:R):R :=
 KP.rec (motive:=λ_=>R) (λq=>x.onI (λκ a=>y.onI (λκ' b=>iff' (Nat.beq (kIx κ) (kIx q)&&Nat.beq (kIx κ') (kIx q)) (iff' (ieq a b) yes no) (R.no 63)) 63) 63)
  (x.onS (λa=>y.onS (λb=>iff' (seq' a b) yes no) 63) 63) (x.onB (λa=>y.onB (λb=>iff' (a==b) yes no) 63) 63) k
def kpsEq (ks:List KP) (xs ys:List V) (yes no:R):R :=
 List.rec (motive:=λ_=>List V→List V→R) (λxs ys=>List.rec (motive:=λ_=>R) (List.rec (motive:=λ_=>R) yes (λ_ _ _=>R.no 63) ys) (λ_ _ _=>R.no 63) xs)
  (λk _ ih xs ys=>List.rec (motive:=λ_=>R) (R.no 63) (λx xs _=>List.rec (motive:=λ_=>R) (R.no 63) (λy ys _=>kpEq k x y (ih xs ys) no) ys) xs) ks xs ys
def keyEq (ks:KS) (x y:V) (yes no:R):R :=
 KS.rec (motive:=λ_=>R) (λk=>kpEq k x y yes no) (λks=>x.onA (λxs=>y.onA (λys=>kpsEq ks xs ys yes no) 63) 63) ks
def vEqk (neg:Bool) (ks:KS) (x y:V) (k:V→R):R :=
 keyEq ks x x (keyEq ks y y (keyEq ks x y (iff' neg (k (.b false)) (k (.b true))) (iff' neg (k (.b true)) (k (.b false)))) (R.no 63)) (R.no 63)
def find (ks:KS) (es:List (V × V)) (x:V) (k0:R) (k1:V→R):R :=
 List.rec (motive:=λ_=>R) k0 (λp _ ih=>keyEq ks p.1 x (k1 p.2) ih) es
def putM (ks:KS) (es:List (V × V)) (x y:V) (k:List (V × V)→R):R :=
 List.rec (motive:=λ_=>(List (V × V)→R)→R) (λk=>k [(x,y)]) (λp l ih k=>keyEq ks p.1 x (k ((x,y)::l)) (ih λl=>k (p::l))) es k
def fin (ok b:Bool) (v:V) (k:V→R):R:=iff' ok (k (.t [v,.b b])) (k v)
def vLook (kT:Nat) (ks:KS) (z:V) (ok:Bool) (m i:V) (σ:H D) (k:V→R):R :=
 keyEq ks i i (m.onMO (λo=>Option.rec (motive:=λ_=>R) (fin ok false z k)
  (λv=>σ.get v λb=>b.onM (λkT' ks' es _=>iff' (Nat.beq kT' kT) (find ks' es i (fin ok false z k) λv=>fin ok true v k) (R.no 64)) 65) o) 66) (R.no 63)
def vPutM (kT:Nat) (ks:KS) (m i x:V) (σ:H D) (k:H D→R):R :=
 keyEq ks i i (m.onM (λv=>σ.get v λb=>b.onM (λkT' ks' es ver=>iff' (Nat.beq kT' kT) (putM ks' es i x λes=>σ.put v (.map kT ks' es (Nat.succ ver)) k) (R.no 67)) 68) 69) (R.no 63)
def bytesL (l:List Nat):List V:=List.rec (motive:=λ_=>List V) [] (λb _ ih=>.i .u8 (.ofNat (Nat.mod b 256))::ih) l
def rdSl (sz:Nat) (x:V) (σ:H D) (k:Nat→List V→R):R :=
 x.onRd (k 0 []) (λv off n=>σ.cells v λ_ _ c _ _=>rdFrom c off (Nat.mul n sz) λl=>k n l) (λl=>iff' (Nat.beq sz 1) (fL (lenL l) λn=>k n (bytesL l)) (R.no 70)) 70
def newOpen (v:Vid) (l:List V) (need ty sz:Nat) (σ:H D) (k:K D):R :=
 trOf l λc=>fL (Nat.mul need sz) λn=>σ.add v (.cells false n c ty sz) λσ=>k (.sl v 0 need (.re 0)) σ
def vApp (ty sz bytes:Nat) (v:Vid) (s x:V) (σ:H D) (k:K D):R :=
 rdSl sz x σ λm l=>iff' (Nat.ble m 100000&&Nat.ble (Nat.mul m bytes) 100000000&&allOne l&&Nat.beq (lenL l) (Nat.mul m sz)) (s.onApp
  (iff' (Nat.beq m 0) (k .ns σ) (newOpen v l m ty sz σ k))
  (λw off n c=>σ.cells w λex known t ty' sz'=>iff' (Nat.ble n 100000&&Nat.ble (Nat.mul n bytes) 100000000&&Nat.beq ty' ty&&Nat.beq sz' sz) (fL (Nat.add n m) λneed=>fL (Nat.add off (Nat.mul n sz)) λat_=>Cp.rec (motive:=λ_=>R)
   (λc=>iff' (Nat.ble need c)
    (iff' (Nat.ble (Nat.add at_ (lenL l)) known) (wrFrom l t at_ λt=>σ.put w (.cells ex known t ty sz) λσ=>k (.sl w off need (.ex c)) σ) (R.no 71))
    (rdFrom t off (Nat.mul n sz) λold=>newOpen v (appL old l) need ty sz σ k))
   (λr=>iff' ex (R.no 72) (iff' (Nat.beq off (Nat.mul r sz)) (iff' (Nat.ble (Nat.add off (Nat.mul need sz)) known)
    (iff' (Nat.ble (Nat.add at_ (lenL l)) known) (wrFrom l t at_ λt=>σ.put w (.cells false known t ty sz) λσ=>k (.sl w off need (.re r)) σ) (R.no 71))
    (rdFrom t off (Nat.mul n sz) λold=>σ.put w .dead λσ=>newOpen v (appL old l) need ty sz σ k)) (R.no 75))) c) (R.no 73)) 74) (R.no 79)
def vMM (mx:Bool) (x y:V) (k:V→R):R :=
 x.onI (λκ a=>y.onI (λ_ b=>iff' mx (iff' (ilt a b) (k (.i κ b)) (k (.i κ a))) (iff' (ilt b a) (k (.i κ b)) (k (.i κ a)))) 80) 80
def vConv (κ:IntKind) (x:V) (k:V→R):R:=x.onI (λ_ n=>numK κ n k) 81
def V.byte (x:V):Option Nat:=match x with
 | .i k n=>match Nat.beq (kIx k) 4,n with
  | true,.ofNat n=>some n
  | _,_=>none
 | _=>none
def bytesV (l:List V):Option (List Nat):=List.rec (motive:=λ_=>Option (List Nat)) (some []) (λv _ ih=>Option.rec (motive:=λ_=>Option (List Nat)) none (λn=>Option.rec (motive:=λ_=>Option (List Nat)) none (λr=>some (n::r)) ih) v.byte) l
def vB2S (x:V) (σ:H D) (k:V→R):R :=
 x.onRd (k (.s [])) (λv off n=>σ.cells v λ_ _ c _ _=>rdFrom c off n λl=>orE (bytesV l) (λs=>k (.s s)) 82) (λ_=>R.no 83) 83
def vS2S (x:V) (k:V→R):R:=x.onS (λl=>k (.s l)) 84
def vRng (v:Vid) (x:V) (σ:H D) (k:K D):R:=x.onM (λm=>σ.get m λb=>b.onM (λ_ _ es ver=>σ.add v (.iter m ver [] es) λσ=>k (.p v 0) σ) 90) 91
def R.and (x y:R):R:=R.rec (motive:=λ_=>R) y (λn=>R.no n) x
def okIf (b:Bool) (n:Nat):R:=iff' b .ok (.no n)
def eachOf (md:Bool) (pre l:List (V × V)) (k:V × V→List (V × V)→R):R :=
 List.rec (motive:=λ_=>List (V × V)→R) (λ_=>.ok) (λp l ih pre=>iff' md (R.and (k p (pre++l)) (ih (pre++[p]))) (k p (pre++l))) l pre
def onIter (x:V) (σ:H D) (k:Vid→Vid→Nat→List V→List (V × V)→R):R :=
 x.onP (λv off=>iff' (Nat.beq off 0) (σ.get v λb=>b.onI (λm ver last rest=>σ.get m λb=>b.onM (λ_ _ _ ver'=>iff' (Nat.beq ver ver') (k v m ver last rest) (R.no 92)) 93) 94) (R.no 95)) 95
def vNxt (md:Bool) (x:V) (σ:H D) (k:K D):R :=
 onIter x σ λv m ver _ rest=>List.rec (motive:=λ_=>R) (σ.put v .dead λσ=>k (.t [.b false]) σ)
  (λ_ _ _=>eachOf md [] rest λp l=>σ.put v (.iter m ver [p.1,p.2] l) λσ=>k (.t [.b true,p.1,p.2]) σ) rest
def vEnt (x:V) (σ:H D) (k:V→R):R:=onIter x σ λ_ _ _ last _=>iff' (Nat.beq (lenL last) 2) (k (.t last)) (R.no 96)
end
inductive OK where
  | mv | new (z:List V) (ty:Nat) | box (ty:Nat) | build (z:List V) (n:Nat) (ps:List (Nat × Nat)) | bsl (z:List V) (ty sz len n:Nat) (ps:List (Nat × Nat))
  | ld | ldA (n:Nat) | st (n:Nat) | nil | eq (neg:Bool) (ek:EK) | bin (op:BinOp) | shl | shr | cat | not | neg | cpl
  | fa (off:Nat) | fld (agg:Bool) (off n:Nat) | ia (sz:Nat) | iaa (len sz:Nat) | is | iv (agg:Bool) (len sz:Nat) | ext (j:Nat) | len (kd:Nat)
  | slS (lo hi:Bool) | sl (sz:Nat) (lo hi:Bool) | sl3 (sz:Nat) (lo:Bool) | slA (len sz:Nat) (lo hi:Bool)
  | clr (z:List V) (sz:Nat) | eqk (neg:Bool) (ks:KS) | mks (z:List V) (ty sz bytes:Nat) | mkm (kT:Nat) (ks:KS) | look (kT:Nat) (ks:KS) (z:V) (ok:Bool) | putm (kT:Nat) (ks:KS) | app (ty sz bytes:Nat)
  | mkf (F n:Nat) | mki (t:Nat) | mm (mx:Bool) | conv (κ:IntKind) | b2s | s2s | rng | ent
inductive O where
  | op (k:OK) (args:List Opd) | pick (c a b:Opd) | call (F:Nat) (args:List Opd) | callv (f:Opd) (args:List Opd) | inv (name:String) (x:Opd) (args:List Opd)
  | nxt (x:Opd) | bad (n:Nat)
structure S where
  g:Option (Opd × Bool)
  d:Bool
  o:O
  j:Nat
abbrev Kp:=List (Opd × Vid)
inductive Pl where
  | done (kp:Kp) | bad | take (s:S) (p:Pl) | eff (s:S) (p:Pl) | alt (p q:Pl)
inductive C where
  | skip | reg (n:Nat) (l:List S) (kp:Kp) | draw (n:Nat) (l:List S) (p:Pl)
  | seq (a b:C) | cond (c:Opd) (a b:C) | block (id:Nat) (b:C) | mrg (id:Nat) (ds:List Vid) (b:C) | loop (b:C) | exit (id:Nat) | ret | bad (n:Nat)
def path (t:Nat):Vid:=t
def cellC:Value→Option V
  | .bool b=>some (.b b)
  | .int k n=>some (.i k n)
  | .string s=>some (.s (s.data.toList.map (·.toNat)))
  | .pointer none=>some .np
  | .slice none 0 0=>some .ns
  | .map none=>some .nm
  | .nilFunc=>some .nf
  | .nilIface=>some .nq
  | _=>none
def cellsC:List Value→Option (List V)
  | []=>some []
  | v::l=>match cellC v,cellsC l with
    | some x,some r=>some (x::r)
    | _,_=>none
def valC:Value→Option V
  | .agg cs=>(cellsC cs.toList).map .a
  | .tuple vs=>match vs.toList with | []=>some (.t []) | _=>none
  | v=>cellC v
def idxOf (t:Nat):List (Option Nat)→Nat→Option Nat
  | [],_=>none
  | o::l,n=>match o with
    | none=>idxOf t l (n + 1)
    | some s=>match Nat.beq s t with | true=>some n | false=>idxOf t l (n + 1)
def tmpO (loc:List (Option Nat)) (t:Nat):Opd:=match idxOf t loc 0 with
  | some k=>.l k
  | none=>match Nat.blt t 4000 with | true=>.t (path t) | false=>.bad
def opd (loc:List (Option Nat)):Operand→Opd
  | .tmp t=>tmpO loc t
  | .const v=>match valC v with | some x=>.c x | none=>.bad
  | .global _=>.bad
  | .func f=>.c (.f f [] [])
section
variable (P:Program)
def zeroC (t:TypeId):Option (List V):=match P.info? t with
  | some i=>match i.zero with
    | some z=>cellsC z.cells.toList
    | none=>none
  | none=>none
def zeroV (t:TypeId):Option V:=match P.info? t with
  | some i=>match i.zero with
    | some z=>valC z
    | none=>none
  | none=>none
def sizeC (t:TypeId):Option Nat:=match P.info? t with
  | some i=>some i.size
  | none=>none
def primT (t:TypeId):Option Nat:=match P.underlying t with
  | some (.int _)=>some 0
  | some .string=>some 1
  | some .bool=>some 2
  | _=>none
def primFs:List Field→Nat→Option (List Nat)
  | [],_=>some []
  | f::fs,i=>match Nat.beq f.offset i,f.name== "_",primT P f.type,primFs fs (i + 1) with
    | true,false,some k,some ks=>some (k::ks)
    | _,_,_,_=>none
def ekOf (t:TypeId) (y:Operand):EK:=match P.underlying t with
  | some (.int _)=>.int
  | some .string=>.str
  | some .bool=>.bool
  | some (.pointer el)=>match isNilC y,sizeC P el with | true,_=>.nil 0 | false,some (_ + 1)=>.ptr | _,_=>.none
  | some (.slice _)=>match isNilC y with | true=>.nil 1 | false=>.none
  | some (.map _ _)=>match isNilC y with | true=>.nil 2 | false=>.none
  | some (.struct fs)=>match P.stoodInHeld t,primFs P fs.toList 0 with
    | false,some ks=>.struct ks
    | _,_=>.none
  | _=>.none
def kpOf (t:TypeId):Option KP:=match P.underlying t with
  | some (.int q)=>some (.int q)
  | some .string=>some .str
  | some .bool=>some .bool
  | _=>none
def kpsT (t:TypeId):Option (List KP):=match P.underlying t with
  | some (.array n el)=>match kpOf P el,sizeC P el,sizeC P t with
    | some k,some 1,some m=>match Nat.beq m n&&Nat.ble n 1000 with | true=>some (List.replicate n k) | false=>none
    | _,_,_=>none
  | _=>(kpOf P t).map λk=>[k]
def kpsOf:List Field→Nat→Option (List KP)
  | [],_=>some []
  | f::fs,i=>match Nat.beq f.offset i,f.name== "_",kpsT P f.type with
    | true,false,some k=>(kpsOf fs (i + k.length)).map λks=>k++ks
    | _,_,_=>none
def ksOf (t:TypeId):Option KS:=match P.underlying t with
  | some (.struct fs)=>match P.stoodInHeld t,kpsOf P fs.toList 0 with
    | false,some ks=>some (.s ks)
    | _,_=>none
  | some (.array _ _)=>(kpsT P t).map .s
  | _=>(kpOf P t).map .p
def arrK (t:TypeId):Option KS:=match P.underlying t with
  | some (.array _ _)=>match P.eqGuardType P.depth t with | false=>(kpsT P t).map .s | true=>none
  | _=>none
def fieldC (t:TypeId) (f:Nat):Option Field:=match P.underlying t with
  | some (.struct fs)=>fs[f]?
  | _=>none
variable (loc:List (Option Nat))
def partsF (t:TypeId):List (Nat × Operand)→Option (List (Nat × Nat))
  | []=>some []
  | (i,_)::l=>match fieldC P t i with
    | some f=>match sizeC P f.type,partsF t l with
      | some n,some r=>some ((f.offset,n)::r)
      | _,_=>none
    | none=>none
def partsA (sz:Nat):List (Nat × Operand)→List (Nat × Nat)
  | []=>[]
  | (i,_)::l=>(i * sz,sz)::partsA sz l
def sized:List Field→Bool
  | []=>true
  | f::l=>match sizeC P f.type with
    | some _=>sized l
    | none=>false
def opds (l:List Operand):List Opd:=l.map (opd loc)
def ofO (x:Option Operand):List Opd:=match x with | some x=>[opd loc x] | none=>[]
def isS (x:Option Operand):Bool:=match x with | some _=>true | none=>false
def timesC:Nat→List V→List V
  | 0,_=>[]
  | n + 1,z=>z++timesC n z
def compOp (o:Oper):O:=match o.op with
  | .move x=>.op .mv [opd loc x]
  | .assign x=>.op .mv [opd loc x]
  | .pick c a b=>.pick (opd loc c) (opd loc a) (opd loc b)
  | .alloc t=>match zeroC P t with | some z=>.op (.new z t) [] | none=>.bad 201
  | .box t x=>.op (.box t) [opd loc x]
  | .build t ps=>match P.underlying t with
    | some (.struct fs)=>match zeroC P t,partsF P t ps.toList,sized P fs.toList with
      | some z,some l,true=>.op (.build z z.length l) (opds loc (ps.toList.map (·.2)))
      | _,_,_=>.bad 202
    | some (.array _ el)=>match zeroC P t,sizeC P el with
      | some z,some sz=>.op (.build z z.length (partsA sz ps.toList)) (opds loc (ps.toList.map (·.2)))
      | _,_=>.bad 203
    | _=>.bad 204
  | .buildSlice t len ps=>match P.underlying t with
    | some (.slice el)=>match zeroC P el,sizeC P el with
      | some z,some sz=>match Nat.ble (len * sz) 10000&&Nat.beq z.length sz&&Nat.blt 0 sz with
        | true=>.op (.bsl (timesC len z) el sz len (len * sz) (partsA sz ps.toList)) (opds loc (ps.toList.map (·.2)))
        | false=>.bad 205
      | _,_=>.bad 205
    | _=>.bad 206
  | .load t a=>match P.underlying t,sizeC P t with
    | some u,some n=>match isAggD u with | true=>.op (.ldA n) [opd loc a] | false=>.op .ld [opd loc a]
    | _,_=>.bad 207
  | .store t a x=>match sizeC P t with | some n=>.op (.st n) [opd loc a,opd loc x] | none=>.bad 208
  | .nilCheck x=>.op .nil [opd loc x]
  | .binOp op t x y _=>match op with
    | .eql=>match arrK P t with | some ks=>.op (.eqk false ks) [opd loc x,opd loc y] | none=>.op (.eq false (ekOf P t y)) [opd loc x,opd loc y]
    | .neq=>match arrK P t with | some ks=>.op (.eqk true ks) [opd loc x,opd loc y] | none=>.op (.eq true (ekOf P t y)) [opd loc x,opd loc y]
    | .shl=>.op .shl [opd loc x,opd loc y]
    | .shr=>.op .shr [opd loc x,opd loc y]
    | op=>match P.underlying t with
      | some .string=>match op with | .add=>.op .cat [opd loc x,opd loc y] | _=>.bad 200
      | _=>.op (.bin op) [opd loc x,opd loc y]
  | .unOp op _ x=>match op with
    | .not=>.op .not [opd loc x]
    | .neg=>.op .neg [opd loc x]
    | .xor=>.op .cpl [opd loc x]
    | _=>.bad 209
  | .convert s d x=>match P.underlying s,P.underlying d with
    | some (.int _),some (.int k)=>.op (.conv k) [opd loc x]
    | some .string,some .string=>.op .s2s [opd loc x]
    | some (.slice el),some .string=>match P.underlying el with | some (.int .u8)=>.op .b2s [opd loc x] | _=>.bad 209
    | _,_=>.bad 210
  | .fieldAddr t x f=>match fieldC P t f with
    | some fd=>match sizeC P fd.type with
      | some n=>match Nat.beq n 0 with | true=>.bad 211 | false=>.op (.fa fd.offset) [opd loc x]
      | none=>.bad 211
    | none=>.bad 212
  | .field t x f=>match fieldC P t f with
    | some fd=>match P.underlying fd.type,sizeC P fd.type with
      | some u,some n=>.op (.fld (isAggD u) fd.offset n) [opd loc x]
      | _,_=>.bad 213
    | none=>.bad 214
  | .indexAddr t x i=>match P.underlying t with
    | some (.slice el)=>match sizeC P el with | some sz=>.op (.ia sz) [opd loc x,opd loc i] | none=>.bad 215
    | some (.array n el)=>match sizeC P el with | some sz=>.op (.iaa n sz) [opd loc x,opd loc i] | none=>.bad 216
    | _=>.bad 217
  | .index t x i=>match P.underlying t with
    | some .string=>.op .is [opd loc x,opd loc i]
    | some (.array n el)=>match P.underlying el,sizeC P el with | some u,some sz=>.op (.iv (isAggD u) n sz) [opd loc x,opd loc i] | _,_=>.bad 218
    | _=>.bad 219
  | .extract x j=>.op (.ext j) [opd loc x]
  | .makeMap t r=>match r,P.underlying t with
    | none,some (.map k _)=>(match ksOf P k with | some ks=>.op (.mkm k ks) [] | none=>.bad 220)
    | _,_=>.bad 220
  | .makeSlice t l c=>match P.underlying t with
    | some (.slice el)=>match P.info? el,zeroC P el with | some i,some z=>(match Nat.beq z.length i.size&&Nat.blt 0 i.size with | true=>.op (.mks z el i.size i.bytes) [opd loc l,opd loc c] | false=>.bad 221) | _,_=>.bad 221
    | _=>.bad 222
  | .slice t x lo hi mx=>match P.underlying t with
    | some .string=>match mx with | none=>.op (.slS (isS lo) (isS hi)) (opd loc x::(ofO loc lo++ofO loc hi)) | some _=>.bad 223
    | some (.slice el)=>match sizeC P el,mx,hi with
      | some sz,none,hi=>.op (.sl sz (isS lo) (isS hi)) (opd loc x::(ofO loc lo++ofO loc hi))
      | some sz,some mx,some hi=>.op (.sl3 sz (isS lo)) (opd loc x::opd loc hi::opd loc mx::ofO loc lo)
      | _,_,_=>.bad 224
    | some (.array n el)=>match sizeC P el,mx with | some sz,none=>.op (.slA n sz (isS lo) (isS hi)) (opd loc x::(ofO loc lo++ofO loc hi)) | _,_=>.bad 225
    | _=>.bad 226
  | .lookup t m i ok=>match P.underlying t with
    | some (.map k el)=>match zeroV P el,ksOf P k with | some z,some ks=>.op (.look k ks z ok) [opd loc m,opd loc i] | _,_=>.bad 227
    | _=>.bad 228
  | .mapUpdate t m i x=>match P.underlying t with
    | some (.map k _)=>(match ksOf P k with | some ks=>.op (.putm k ks) [opd loc m,opd loc i,opd loc x] | none=>.bad 229)
    | _=>.bad 229
  | .insert t m i x=>match P.underlying t with
    | some (.map k _)=>(match ksOf P k with | some ks=>.op (.putm k ks) [opd loc m,opd loc i,opd loc x] | none=>.bad 229)
    | _=>.bad 229
  | .makeFunc fn first cap=>match fn with
    | .func F=>.op (.mkf F first.toList.length) (opds loc (first.toList++cap.toList))
    | _=>.bad 230
  | .makeInterface t x=>match P.underlying t with
    | some (.pointer _)=>.op (.mki t) [opd loc x]
    | _=>.bad 237
  | .range t x=>match P.underlying t with
    | some (.map _ _)=>.op .rng [opd loc x]
    | _=>.bad 238
  | .next x str=>match str with | false=>.nxt (opd loc x) | true=>.bad 231
  | .entry x=>.op .ent [opd loc x]
  | .call c=>match c.callee with
    | .value f=>match f with
      | .func F=>.call F (opds loc c.args.toList)
      | f=>.callv (opd loc f) (opds loc c.args.toList)
    | .invoke r name=>.inv name (opd loc r) (opds loc c.args.toList)
    | .builtin b=>match b,c.args.toList,c.argTypes.toList with
      | .len,[x],[t]=>match P.underlying t with
        | some .string=>.op (.len 0) [opd loc x]
        | some (.slice _)=>.op (.len 1) [opd loc x]
        | some (.map _ _)=>.op (.len 2) [opd loc x]
        | some (.array n _)=>.op .mv [.c (.i .i64 (.ofNat n))]
        | _=>.bad 232
      | .append,[s,x],[t,u]=>match P.underlying t with
        | some (.slice el)=>match P.info? el,zeroC P el,P.underlying u with
          | some i,some z,some (.slice _)=>(match Nat.beq z.length i.size&&Nat.blt 0 i.size with | true=>.op (.app el i.size i.bytes) [opd loc s,opd loc x] | false=>.bad 233)
          | some i,some z,some .string=>(match Nat.beq z.length i.size&&Nat.blt 0 i.size with | true=>.op (.app el i.size i.bytes) [opd loc s,opd loc x] | false=>.bad 233)
          | _,_,_=>.bad 233
        | _=>.bad 234
      | .clear,[x],[t]=>match P.underlying t with
        | some (.slice el)=>match zeroC P el,sizeC P el with
          | some z,some sz=>(match Nat.beq z.length sz&&Nat.blt 0 sz with | true=>.op (.clr z sz) [opd loc x] | false=>.bad 235)
          | _,_=>.bad 235
        | _=>.bad 235
      | .max,[x,y],_=>.op (.mm true) [opd loc x,opd loc y]
      | .min,[x,y],_=>.op (.mm false) [opd loc x,opd loc y]
      | _,_,_=>.bad 235
  | _=>.bad 236
def fresh:O→Bool
  | .op k _=>match k with
    | .new _ _=>true | .box _=>true | .bsl ..=>true | .mks ..=>true | .mkm _ _=>true | .app ..=>true | .rng=>true
    | _=>false
  | _=>false
def pureK:OK→Bool
  | .mv | .nil | .fa .. | .ia .. | .iaa .. | .ext .. | .eq .. | .eqk .. | .bin .. | .shl | .shr | .not | .neg | .cpl | .fld .. | .build .. | .conv .. | .is | .iv ..=>true
  | _=>false
def pureO:O→Bool
  | .op k _=>pureK k
  | .pick ..=>true
  | _=>false
def isLd:O→Bool
  | .op k _=>match k with | .ld=>true | .ldA _=>true | _=>false
  | _=>false
def slots:List Oper→Nat→List Nat
  | [],_=>[]
  | o::l,j=>match fresh (compOp P [] o) with
    | true=>j::slots l (j + 1)
    | false=>j::slots l j
def countF:List Oper→Nat
  | []=>0
  | o::l=>match fresh (compOp P [] o) with
    | true=>countF l + 1
    | false=>countF l
def compS (ops:Array Oper) (loc:List (Option Nat)) (o:Oper) (j:Nat):S :=
  { g:=match o.guard with
      | none=>none
      | some (i,b)=>match (ops[i]?).bind (·.dst) with
        | some t=>some (tmpO loc t,b)
        | none=>some (.bad,b)
    d:=match o.dst with | some _=>true | none=>false
    o:=compOp P loc o
    j:=j }
def cons (o:Oper) (loc:List (Option Nat)):List (Option Nat):=match o.dst with | some d=>some d::loc | none=>loc
def keepOf (loc:List (Option Nat)) (kp:List Nat):Kp:=kp.map λt=>(tmpO loc t,path t)
def compL (ops:Array Oper) (kp:List Nat):List Oper→List Nat→List (Option Nat)→List S × Kp
  | [],_,loc=>([],keepOf loc kp)
  | o::l,js,loc=>match js with
    | j::js=>match compL ops kp l js (cons o loc) with | (r,k)=>(compS P ops loc o j::r,k)
    | []=>([],[])
def firstQ (f:Nat→Oper→Bool) (ops:Array Oper) (listed:Array Bool):List Nat→Option Nat
  | []=>none
  | i::l=>match ops[i]? with
    | some o=>match f i o,Region.free .any ops listed i with
      | true,true=>some i
      | _,_=>firstQ f ops listed l
    | none=>firstQ f ops listed l
def takeS (not:List Nat) (i:Nat) (o:Oper):Bool:=match pureO (compOp P [] o) with | true=>true | false=>match isLd (compOp P [] o) with | true=>notIn not i | false=>false
def takeP (_:Nat) (o:Oper):Bool:=pureO (compOp P [] o)
def mkA (ops:Array Oper) (js:Array Nat) (loc:List (Option Nat)) (g:Array Bool→List (Option Nat)→Pl) (listed:Array Bool):List Nat→Pl
  | []=>.bad
  | i::l=>match ops[i]?,js[i]? with
    | some o,some j=>match l with
      | []=>.eff (compS P ops loc o j) (g (listed.setIfInBounds i true) (cons o loc))
      | _::_=>.alt (.eff (compS P ops loc o j) (g (listed.setIfInBounds i true) (cons o loc))) (mkA ops js loc g listed l)
    | _,_=>.bad
def mkP (ops:Array Oper) (js:Array Nat) (kp:List Nat):Nat→Array Bool→List (Option Nat)→Pl
  | 0,listed,loc=>match Region.ready .any ops listed with | []=>.done (keepOf loc kp) | _::_=>.bad
  | f + 1,listed,loc=>match Region.ready .any ops listed with
    | []=>.done (keepOf loc kp)
    | i::l=>match firstQ (takeP P) ops listed (i::l) with
      | some i=>match ops[i]?,js[i]? with
        | some o,some j=>.take (compS P ops loc o j) (mkP ops js kp f (listed.setIfInBounds i true) (cons o loc))
        | _,_=>.bad
      | none=>mkA P ops js loc (mkP ops js kp f) listed (i::l)
def mkT (not:List Nat) (ops:Array Oper) (js:Array Nat) (kp:List Nat):Nat→Array Bool→List (Option Nat)→List S × Pl
  | 0,listed,loc=>([],mkP P ops js kp 0 listed loc)
  | f + 1,listed,loc=>match Region.ready .any ops listed with
    | []=>([],.done (keepOf loc kp))
    | i::l=>match firstQ (takeS P not) ops listed (i::l) with
      | some i=>match ops[i]?,js[i]? with
        | some o,some j=>match mkT not ops js kp f (listed.setIfInBounds i true) (cons o loc) with
          | (r,p)=>(compS P ops loc o j::r,p)
        | _,_=>([],.bad)
      | none=>([],mkP P ops js kp (f + 1) listed loc)
structure Adv where
  ld:Nat→List Nat
  kp:List Nat
  mg:Nat→Bool
def keepL (K:List Nat):List Nat→List Nat→List Nat
  | [],acc=>acc.reverse
  | t::l,acc=>match memN t K,memN t acc with
    | true,false=>keepL K l (t::acc)
    | _,_=>keepL K l acc
def comp (A:Adv):Code→C
  | .skip=>.skip
  | .region id ops d=>match d with
      | false=>match compL P ops (keepL A.kp (dsts ops.toList) []) ops.toList (slots P ops.toList 0) [] with
        | (ss,kp)=>.reg (countF P ops.toList) ss kp
      | true=>match mkT P (A.ld id) ops (slots P ops.toList 0).toArray (keepL A.kp (dsts ops.toList) []) ops.size (Array.replicate ops.size false) [] with
        | (l,p)=>.draw (countF P ops.toList) l p
  | .seq a b=>.seq (comp A a) (comp A b)
  | .cond c a b=>.cond (opd [] c) (comp A a) (comp A b)
  | .block id b=>match A.mg id with
    | false=>.block id (comp A b)
    | true=>.mrg id ((asg b).map path) (comp A b)
  | .loop b=>.loop (comp A b)
  | .exit id=>.exit id
  | .ret=>.ret
  | _=>.bad 240
inductive RV where
  | tmp (p:Vid) | cell (p:Vid) (n:Nat) (agg:Bool) | bad
def compR:ResultVar→RV
  | .tmp t=>match Nat.blt t 4000 with | true=>.tmp (path t) | false=>.bad
  | .cell a t=>match P.underlying t,sizeC P t,Nat.blt a 4000 with
    | some u,some n,true=>.cell (path a) n (isAggD u)
    | _,_,_=>.bad
inductive FC where
  | mk (np:Nat) (c:C) (rs:List RV) | none
def fnC (A:Nat→Adv) (F:Nat):FC:=match P.funcs[F]? with
  | some fn=>match fn.body with
    | some c=>match Nat.blt fn.ntmps 4000&&Nat.ble (fn.params.size + fn.nfree) fn.ntmps,codeOk fn.ntmps c,(List.range (fn.params.size + fn.nfree)).all λt=>memN t (A F).kp with
      | true,true,true=>.mk (fn.params.size + fn.nfree) (comp P (A F) c) (fn.results.toList.map (compR P))
      | _,_,_=>.none
    | none=>.none
  | none=>.none
def methF (t:TypeId) (name:String):Option Nat:=match P.info? t with
  | some i=>match i.methods.find? (·.name==name) with
    | some m=>match m.path.toList,m.func,P.underlying t with
      | [],some (F,true),some (.pointer _)=>some F
      | _,_,_=>none
    | none=>none
  | none=>none
end
def cpEq:Cp→Cp→Bool
  | .ex a,.ex b=>Nat.beq a b
  | .re a,.re b=>Nat.beq a b
  | _,_=>false
def seq'':List Nat→List Nat→Bool
  | [],[]=>true
  | a::l,b::m=>match Nat.beq a b with | true=>seq'' l m | false=>false
  | _,_=>false
mutual
def vEq:V→V→Bool
  | .b x,.b y=>x==y
  | .i k a,.i k' b=>match Nat.beq (kIx k) (kIx k') with | true=>ieq a b | false=>false
  | .s a,.s b=>seq'' a b
  | .p v o,.p v' o'=>match vidEq v v' with | true=>Nat.beq o o' | false=>false
  | .np,.np=>true
  | .sl v o n c,.sl v' o' n' c'=>match vidEq v v',Nat.beq o o',Nat.beq n n',cpEq c c' with
    | true,true,true,true=>true
    | _,_,_,_=>false
  | .se v o r p s,.se v' o' r' p' s'=>match vidEq v v',Nat.beq o o',Nat.beq r r',Nat.beq p p',Nat.beq s s' with
    | true,true,true,true,true=>true
    | _,_,_,_,_=>false
  | .ns,.ns=>true
  | .m v,.m v'=>vidEq v v'
  | .nm,.nm=>true
  | .f F a c,.f F' a' c'=>match Nat.beq F F',vEqs a a',vEqs c c' with
    | true,true,true=>true
    | _,_,_=>false
  | .nf,.nf=>true
  | .q t x,.q t' x'=>match Nat.beq t t' with | true=>vEq x x' | false=>false
  | .nq,.nq=>true
  | .a l,.a l'=>vEqs l l'
  | .t l,.t l'=>vEqs l l'
  | _,_=>false
  termination_by structural x=>x
def vEqs:List V→List V→Bool
  | [],[]=>true
  | x::l,y::l'=>match vEq x y with | true=>vEqs l l' | false=>false
  | _,_=>false
  termination_by structural x=>x
end
section
variable {D:Type}
abbrev Hk (D:Type):=List V→H D→K D→R
def bindK {α β:Type} (f:α→β) (k:α):β:=f k
def vAt (j:Nat) (vs:List Vid):Vid:=Option.rec (motive:=λ_=>Vid) 0 (λv=>v) (nth j vs)
def vK (o:OK) (vs:List V) (v:Vid) (σ:H D) (k:K D):R:=match o,vs with
  | .mv,[x]=>k x σ
  | .new z ty,[]=>vNew z ty v σ k
  | .box ty,[x]=>vBox ty v x σ k
  | .build z n ps,xs=>vBuild z n ps xs σ k
  | .bsl z ty sz len n ps,xs=>vBSl z ty sz len n ps v xs σ k
  | .ld,[x]=>vLd x σ λu=>k u σ
  | .ldA n,[x]=>vLdA n x σ λu=>k u σ
  | .st n,[x,y]=>vSt n x y σ λσ=>k (.t []) σ
  | .nil,[x]=>vNil x λu=>k u σ
  | .eq neg ek,[x,y]=>vEqn neg ek x y λu=>k u σ
  | .bin op,[x,y]=>vBin op x y λu=>k u σ
  | .shl,[x,y]=>vShl x y λu=>k u σ
  | .shr,[x,y]=>vShr x y λu=>k u σ
  | .cat,[x,y]=>vCat x y λu=>k u σ
  | .not,[x]=>vNot x λu=>k u σ
  | .neg,[x]=>vNeg x λu=>k u σ
  | .cpl,[x]=>vCpl x λu=>k u σ
  | .fa off,[x]=>vFA off x λu=>k u σ
  | .fld agg off n,[x]=>vFld agg off n x λu=>k u σ
  | .ia sz,[x,i]=>vIA sz x i λu=>k u σ
  | .iaa len sz,[x,i]=>vIAA len sz x i λu=>k u σ
  | .is,[x,i]=>vIS x i λu=>k u σ
  | .iv agg len sz,[x,i]=>vIV agg len sz x i λu=>k u σ
  | .ext j,[x]=>vExt j x λu=>k u σ
  | .len kd,[x]=>vLen kd x σ λu=>k u σ
  | .slS true true,[x,lo,hi]=>vSlS (some lo) (some hi) x λu=>k u σ
  | .slS true false,[x,lo]=>vSlS (some lo) none x λu=>k u σ
  | .slS false true,[x,hi]=>vSlS none (some hi) x λu=>k u σ
  | .slS false false,[x]=>vSlS none none x λu=>k u σ
  | .sl sz true true,[x,lo,hi]=>vSl sz (some lo) (some hi) x λu=>k u σ
  | .sl sz true false,[x,lo]=>vSl sz (some lo) none x λu=>k u σ
  | .sl sz false true,[x,hi]=>vSl sz none (some hi) x λu=>k u σ
  | .sl sz false false,[x]=>vSl sz none none x λu=>k u σ
  | .sl3 sz true,[x,hi,mx,lo]=>vSl3 sz (some lo) hi mx x λu=>k u σ
  | .sl3 sz false,[x,hi,mx]=>vSl3 sz none hi mx x λu=>k u σ
  | .slA len sz true true,[x,lo,hi]=>vSlA len sz (some lo) (some hi) x λu=>k u σ
  | .slA len sz true false,[x,lo]=>vSlA len sz (some lo) none x λu=>k u σ
  | .slA len sz false true,[x,hi]=>vSlA len sz none (some hi) x λu=>k u σ
  | .slA len sz false false,[x]=>vSlA len sz none none x λu=>k u σ
  | .mks z ty sz bytes,[l,c]=>vMkS z ty sz bytes v l c σ k
  | .eqk neg ks,[x,y]=>vEqk neg ks x y λu=>k u σ
  | .clr z sz,[x]=>vClr z sz x σ λσ=>k (.t []) σ
  | .mkm kT ks,[]=>vMkM kT ks v σ k
  | .look kT ks z ok,[m,i]=>vLook kT ks z ok m i σ λu=>k u σ
  | .putm kT ks,[m,i,x]=>vPutM kT ks m i x σ λσ=>k (.t []) σ
  | .app ty sz bytes,[s,x]=>vApp ty sz bytes v s x σ k
  | .mkf F n,xs=>k (.f F (xs.take n) (xs.drop n)) σ
  | .mki t,[x]=>k (.q t x) σ
  | .mm mx,[x,y]=>vMM mx x y λu=>k u σ
  | .conv κ,[x]=>vConv κ x λu=>k u σ
  | .b2s,[x]=>vB2S x σ λu=>k u σ
  | .s2s,[x]=>vS2S x λu=>k u σ
  | .rng,[x]=>vRng v x σ k
  | .ent,[x]=>vEnt x σ λu=>k u σ
  | _,_=>R.no 99
def evO (P:Program) (cl:Nat→Hk D) (md:Bool) (v:Vid) (o:O) (L:Lc) (e:E) (σ:H D) (k:K D):R:=match o with
  | .op o args=>getL args L e λvs=>vK o vs v σ k
  | .pick c a b=>bindK (λj=>getO c L e λc=>c.onB (λc=>iff' c (getO a L e λv=>j v) (getO b L e λv=>j v)) 10) (λv=>k v σ)
  | .call F args=>getL args L e λl=>cl F l σ k
  | .callv f args=>getO f L e λf=>getL args L e λl=>f.onF (λF a c=>cl F ((a++l)++c) σ k) 101
  | .inv name x args=>getO x L e λx=>getL args L e λl=>x.onQ (λt y=>orE (methF P t name) (λF=>cl F (y::l) σ k) 102) 103
  | .nxt x=>getO x L e λx=>vNxt md x σ k
  | .bad n=>R.no n
def push (d:Bool) (v:V) (L:Lc):Lc:=let _:=tw60;match d with | true=>v::L | false=>L
def guarded (g:Opd × Bool) (L:Lc) (e:E) (yes no:R):R :=
  getO g.1 L e λy=>y.onG (λy=>match g.2 with | true=>iff' y yes no | false=>iff' y no yes) no 110
def evS (P:Program) (cl:Nat→Hk D) (md:Bool) (vs:List Vid) (s:S) (L:Lc) (e:E) (σ:H D) (k:Lc→H D→R):R:=match s.g with
  | none=>evO P cl md (vAt s.j vs) s.o L e σ λv σ=>k (push s.d v L) σ
  | some g=>bindK (λj=>guarded g L e (evO P cl md (vAt s.j vs) s.o L e σ λv σ=>j v σ) (j (.t []) σ)) (λv σ=>k (push s.d v L) σ)
def evL (P:Program) (cl:Nat→Hk D) (md:Bool) (vs:List Vid) (e:E):List S→Lc→H D→(Lc→H D→R)→R
  | [],L,σ,k=>k L σ
  | s::l,L,σ,k=>evS P cl md vs s L e σ λL σ=>evL P cl md vs e l L σ k
def keepE (L:Lc):Kp→E→(E→R)→R
  | [],e,k=>k e
  | p::l,e,k=>getO p.1 L e λv=>E.putp v p.2 e λe=>keepE L l e k
abbrev Pg:=List (Vid × Nat × V)
def pgs (v:Vid) (off:Nat) (l:List V) (r:Pg):Pg :=
  List.rec (motive:=λ_=>Nat→Pg) (λ_=>r) (λx _ ih off=>(v,off,x)::ih (Nat.succ off)) l off
def vLdP (x:V) (σ:H D) (r:Pg) (k:V→Pg→R):R:=x.onP (λv off=>σ.cells v λ_ _ c _ _=>orE (c.get off) (λu=>k u ((v,off,u)::r)) 120) 121
def vLdAP (n:Nat) (x:V) (σ:H D) (r:Pg) (k:V→Pg→R):R:=x.onP (λv off=>σ.cells v λ_ _ c _ _=>rdFrom c off n λl=>k (.a l) (pgs v off l r)) 121
def noCl:Nat→Hk D:=λ_ _ _ _=>R.no 105
def evTO (P:Program) (o:O) (L:Lc) (e:E) (σ:H D) (r:Pg) (k:V→Pg→R):R:=match o with
  | .op .ld [x]=>getO x L e λx=>vLdP x σ r k
  | .op (.ldA n) [x]=>getO x L e λx=>vLdAP n x σ r k
  | o=>match pureO o with
    | true=>evO P noCl false 0 o L e σ λv _=>k v r
    | false=>R.no 106
def evTk (P:Program) (s:S) (L:Lc) (e:E) (σ:H D) (r:Pg) (k:Lc→Pg→R):R:=match s.g with
  | none=>evTO P s.o L e σ r λv r=>k (push s.d v L) r
  | some g=>bindK (λj=>guarded g L e (evTO P s.o L e σ r λv r=>j v r) (j (.t []) r)) (λv r=>k (push s.d v L) r)
def evPu (P:Program) (o:O) (L:Lc) (e:E) (σ:H D) (k:V→R):R:=match pureO o with
  | true=>evO P noCl false 0 o L e σ λv _=>k v
  | false=>R.no 107
def evT (P:Program) (e:E) (σ:H D):List S→Lc→Pg→(Lc→Pg→R)→R
  | [],L,r,k=>k L r
  | s::l,L,r,k=>evTk P s L e σ r λL r=>evT P e σ l L r k
def holds (σ:H D) (r:Pg) (k:R):R :=
  List.rec (motive:=λ_=>R) k (λp _ ih=>σ.cells p.1 λ_ _ c _ _=>orE (c.get p.2.1) (λu=>iff' (vEq u p.2.2) ih (R.no 122)) 123) r
def altR (md:Bool) (a b:R):R:=iff' md (R.and a b) a
def evP (P:Program) (cl:Nat→Hk D) (md:Bool) (vs:List Vid) (r:Pg) (e:E) (k:E→H D→R):Pl→Lc→H D→R
  | .done kp,L,σ=>keepE L kp e λe=>k e σ
  | .bad,_,_=>R.no 124
  | .take s p,L,σ=>match s.g with
    | none=>evPu P s.o L e σ λv=>evP P cl md vs r e k p (push s.d v L) σ
    | some g=>bindK (λj=>guarded g L e (evPu P s.o L e σ λv=>j v) (j (.t []))) (λv=>evP P cl md vs r e k p (push s.d v L) σ)
  | .eff s p,L,σ=>evS P cl md vs s L e σ λL σ=>holds σ r (evP P cl md vs r e k p L σ)
  | .alt p q,L,σ=>altR md (evP P cl md vs r e k p L σ) (evP P cl md vs r e k q L σ)
def lone:Pl→Bool
  | .done _=>true
  | .bad=>true
  | .take _ p=>lone p
  | .eff _ p=>lone p
  | .alt _ _=>false
def keepsOf:Pl→List Vid
  | .done kp=>kp.map (·.2)
  | .bad=>[]
  | .take _ p=>keepsOf p
  | .eff _ p=>keepsOf p
  | .alt p _=>keepsOf p
def both (a b:Bool):Bool:=Bool.rec (motive:=λ_=>Bool) false b a
def memKV (x y:V) (m:List (V × V)):Bool:=List.rec (motive:=λ_=>Bool) false (λq _ ih=>Bool.rec (motive:=λ_=>Bool) ih (vEq y q.2) (vEq x q.1)) m
def esEq (l m:List (V × V)):Bool:=List.rec (motive:=λ_=>Bool) true (λp _ ih=>both (memKV p.1 p.2 m) ih) l
def oEq (x y:Option V):Bool:=Option.rec (motive:=λ_=>Bool) (Option.rec (motive:=λ_=>Bool) true (λ_=>false) y) (λu=>Option.rec (motive:=λ_=>Bool) false (λu'=>vEq u u') y) x
def e8Eq {α:Type} (f:α→α→Bool) (a b:E8 α):Bool:=both (f a.c0 b.c0) (both (f a.c1 b.c1) (both (f a.c2 b.c2) (both (f a.c3 b.c3) (both (f a.c4 b.c4) (both (f a.c5 b.c5) (both (f a.c6 b.c6) (f a.c7 b.c7)))))))
def T1.eq (a b:T1 V):Bool:=e8Eq oEq a b
def T2.eq (a b:T2 V):Bool:=e8Eq T1.eq a b
def T3.eq (a b:T3 V):Bool:=e8Eq T2.eq a b
def T4.eq (a b:T4 V):Bool:=e8Eq T3.eq a b
def T5.eq (a b:T5 V):Bool:=e8Eq T4.eq a b
def trEq (c d:Tr V):Bool:=match c,d with
  | .t1 a,.t1 b=>T1.eq a b
  | .t2 a,.t2 b=>T2.eq a b
  | .t3 a,.t3 b=>T3.eq a b
  | .t4 a,.t4 b=>T4.eq a b
  | .t5 a,.t5 b=>T5.eq a b
  | _,_=>false
def kpSame:KP→KP→Bool
  | .int q,.int q'=>Nat.beq (kIx q) (kIx q')
  | .str,.str=>true
  | .bool,.bool=>true
  | _,_=>false
def kpsSame:List KP→List KP→Bool
  | [],[]=>true
  | x::l,y::m=>match kpSame x y with | true=>kpsSame l m | false=>false
  | _,_=>false
def ksSame:KS→KS→Bool
  | .p x,.p y=>kpSame x y
  | .s l,.s m=>kpsSame l m
  | _,_=>false
def blkEq (b b':Blk D):Bool:=match b,b' with
  | .cells ex n c ty sz,.cells ex' n' c' ty' sz'=>both (ex==ex') (both (Nat.beq n n') (both (Nat.beq ty ty') (both (Nat.beq sz sz') (trEq c c'))))
  | .map kT ks es ver,.map kT' ks' es' ver'=>both (Nat.beq kT kT') (both (ksSame ks ks') (both (Nat.beq ver ver') (both (Nat.beq es.length es'.length) (both (esEq es es') (esEq es' es)))))
  | .dead,.dead=>true
  | _,_=>false
def logEq (l:List Vid) (h h':T5 (Blk D)):Bool :=
  List.rec (motive:=λ_=>Bool) true (λv _ ih=>Option.rec (motive:=λ_=>Bool) false (λb=>Option.rec (motive:=λ_=>Bool) false (λb'=>both (blkEq b b') ih) (h'.getp v)) (h.getp v)) l
def hEq (σ σ':H D):Bool:=match σ,σ' with
  | .mk h nx lg,.mk h' nx' lg'=>both (vidEq nx nx') (both (logEq lg h h') (logEq lg' h h'))
def eEq (ds:List Vid) (e e':E):Bool :=
  List.rec (motive:=λ_=>Bool) true (λp _ ih=>Option.rec (motive:=λ_=>Bool) false (λu=>Option.rec (motive:=λ_=>Bool) false (λu'=>both (vEq u u') ih) (e'.getp p)) (e.getp p)) ds
def H.new (σ:H D) (k:List Vid→H D→R):R:=H.rec (motive:=λ_=>R) (λh nx lg=>k lg (.mk h nx [])) σ
def H.old (σ:H D) (l:List Vid) (k:H D→R):R:=H.rec (motive:=λ_=>R) (λh nx lg=>k (.mk h nx (lg++l))) σ
def delE (ds:List Vid) (e:E) (k:E→R):R:=List.rec (motive:=λ_=>E→(E→R)→R) (λe k=>k e) (λp _ ih e k=>E.delp p e λe=>ih e k) ds e k
def mergeR (ds:List Vid) (md:Bool) (σ:H D) (run:Bool→H D→(E→H D→R)→R) (k:E→H D→R):R :=
  iff' md (σ.new λlg σ=>run false σ λe1 σ1=>R.and (run true σ λe2 σ2=>okIf (both (eEq ds e2 e1) (hEq σ2 σ1)) 130) (σ1.old lg λσ1=>k e1 σ1)) (run false σ k)
def evDraw (P:Program) (cl:Bool→Nat→Hk D) (md:Bool) (vs:List Vid) (l:List S) (p:Pl) (e:E) (σ:H D) (k:E→H D→R):R :=
  evT P e σ l [] [] λL r=>match lone p with
    | true=>evP P (cl md) md vs r e k p L σ
    | false=>mergeR (keepsOf p) md σ (λmd σ k=>evP P (cl md) md vs r e k p L σ) k
abbrev Kc (D:Type):=E→H D→R
def loopR (n:Nat) (b:Kc D→Kc D):Kc D:=Nat.rec (motive:=λ_=>E→H D→R) (λ_ _=>R.no 141) (λ_ r e σ=>b r e σ) n
def mrgR (id:Nat) (ds:List Vid) (md:Bool) (e:E) (σ:H D) (run:Bool→H D→(Nat→Kc D)→R) (kn:Kc D):R :=
  iff' md (σ.new λlg σ=>run false σ λi e1 σ1=>iff' (Nat.beq i id) (R.and (run true σ λi e2 σ2=>iff' (Nat.beq i id) (okIf (hEq σ2 σ1) 144) (R.no 143)) (σ1.old lg λσ1=>delE ds e λe=>kn e σ1)) (R.no 143))
    (run false σ λi e1 σ1=>iff' (Nat.beq i id) (delE ds e λe=>kn e σ1) (R.no 143))
def noK (n:Nat):Kc D:=λ_ _=>R.no n
def evC (P:Program) (fu:Nat) (cl:Bool→Nat→Hk D):C→Bool→E→H D→Kc D→(Nat→Kc D)→Kc D→R
  | .skip,_,e,σ,kn,_,_=>kn e σ
  | .reg n l kp,md,e,σ,kn,_,_=>match n with
    | 0=>evL P (cl md) md [] e l [] σ λL σ=>keepE L kp e λe=>kn e σ
    | n + 1=>σ.room (n + 1) λvs σ=>evL P (cl md) md vs e l [] σ λL σ=>keepE L kp e λe=>kn e σ
  | .draw n l p,md,e,σ,kn,_,_=>match n with
    | 0=>evDraw P cl md [] l p e σ kn
    | n + 1=>σ.room (n + 1) λvs σ=>evDraw P cl md vs l p e σ kn
  | .seq a b,md,e,σ,kn,kx,kr=>bindK (λkn=>evC P fu cl a md e σ kn kx kr) (λe σ=>evC P fu cl b md e σ kn kx kr)
  | .cond c a b,md,e,σ,kn,kx,kr=>getO c [] e λc=>c.onB (λc=>iff' c (evC P fu cl a md e σ kn kx kr) (evC P fu cl b md e σ kn kx kr)) 140
  | .block id b,md,e,σ,kn,kx,kr=>evC P fu cl b md e σ kn (λi e σ=>iff' (Nat.beq i id) (kn e σ) (kx i e σ)) kr
  | .mrg id ds b,md,e,σ,kn,_,_=>mrgR id ds md e σ (λmd σ kx=>evC P fu cl b md e σ (noK 142) kx (noK 145)) kn
  | .loop b,md,e,σ,_,kx,kr=>loopR fu (λr e σ=>evC P fu cl b md e σ r kx kr) e σ
  | .exit id,_,e,σ,_,kx,_=>kx id e σ
  | .ret,_,e,σ,_,_,kr=>kr e σ
  | .bad n,_,_,_,_,_,_=>R.no n
def resV (r:RV) (e:E) (σ:H D) (k:V→R):R:=let _:=tw60;match r with
  | .tmp p=>orE (E.getp e p) k 150
  | .cell p n agg=>orE (E.getp e p) (λx=>match agg with | true=>vLdA n x σ k | false=>vLd x σ k) 151
  | .bad=>R.no 152
def resL (e:E) (σ:H D):List RV→(List V→R)→R
  | [],k=>k []
  | r::l,k=>resV r e σ λv=>resL e σ l λvs=>k (v::vs)
def evRet (rs:List RV) (k:K D) (e:E) (σ:H D):R:=resL e σ rs λvs=>match vs with
  | [v]=>k v σ
  | vs=>k (.t vs) σ
def T2.ofL {α:Type} (l:List α):T2 α:=⟨T1.ofL l,T1.ofL (dropL 8 l),T1.ofL (dropL 16 l),T1.ofL (dropL 24 l),T1.ofL (dropL 32 l),T1.ofL (dropL 40 l),T1.ofL (dropL 48 l),T1.ofL (dropL 56 l)⟩
def E.args (l:List V):E:=⟨Bool.rec (motive:=λ_=>T2 V) (T2.ofL l) ⟨T1.ofL l,T1.nil,T1.nil,T1.nil,T1.nil,T1.nil,T1.nil,T1.nil⟩ (Nat.ble (lenL l) 8),T2.nil,T2.nil,T2.nil,T2.nil,T2.nil,T2.nil,T2.nil⟩
def argE (np:Nat) (l:List V) (k:E→R):R:=iff' (Nat.beq (lenL l) np&&Nat.ble np 64) (k (E.args l)) (R.no 163)
abbrev Fx (D:Type):=Nat→(Bool→Nat→Hk D)→Bool→Hk D
def evFn (P:Program) (A:Nat→Adv) (F:Nat):Fx D:=λfu cl md args σ k=>match fnC P A F with
  | .mk np c rs=>argE np args λe=>bindK (λkr=>evC P fu cl c md e σ kr (λ_=>noK 161) kr) (evRet rs k)
  | .none=>R.no 10000
def E8.up {α:Type} (d:D8) (f:α→α) (c:E8 α):E8 α:=D8.rec (motive:=λ_=>E8 α)
  ⟨f c.c0,c.c1,c.c2,c.c3,c.c4,c.c5,c.c6,c.c7⟩
  ⟨c.c0,f c.c1,c.c2,c.c3,c.c4,c.c5,c.c6,c.c7⟩
  ⟨c.c0,c.c1,f c.c2,c.c3,c.c4,c.c5,c.c6,c.c7⟩
  ⟨c.c0,c.c1,c.c2,f c.c3,c.c4,c.c5,c.c6,c.c7⟩
  ⟨c.c0,c.c1,c.c2,c.c3,f c.c4,c.c5,c.c6,c.c7⟩
  ⟨c.c0,c.c1,c.c2,c.c3,c.c4,f c.c5,c.c6,c.c7⟩
  ⟨c.c0,c.c1,c.c2,c.c3,c.c4,c.c5,f c.c6,c.c7⟩
  ⟨c.c0,c.c1,c.c2,c.c3,c.c4,c.c5,c.c6,f c.c7⟩ d
def insT (x:Fx D) (i:Nat) (t:T4 (Fx D)):T4 (Fx D):=E8.up (q3 i) (E8.up (q2 i) (E8.up (q1 i) (E8.up (q0 i) λ_=>some x))) t
def tabL (l:List (Nat × Fx D)):T4 (Fx D):=List.rec (motive:=λ_=>T4 (Fx D)) T4.nil (λp _ ih=>insT p.2 p.1 ih) l
def evF (T:T4 (Fx D)) (fu fuel:Nat):Bool→Nat→Hk D :=
  Nat.rec (motive:=λ_=>Bool→Nat→Hk D) (λ_ _ _ _ _=>R.no 160) (λ_ ih md F args σ k=>iff' (Nat.blt F 4096) (orE (T.getp F) (λh=>h fu ih md args σ k) (10000 + F)) (R.no 161)) fuel
end
end Go.Ev
end
section
namespace Go.Fk
open Go Go.MapKept Go.Maps
open Go.ChangeMaps (setBlock)
end Go.Fk
end
section
namespace Go.Ev
open Go Go.Fk
theorem orE_ok {α:Type} {o:Option α} {k:α→R} {n:Nat} (h:orE o k n=.ok):∃ a,o=some a∧k a=.ok:=by
 cases o with
 | none=>cases h
 | some a=>exact⟨a,rfl,h⟩
theorem iff_t {b:Bool} {x y:R} (h:iff' b x y=.ok):(b=true∧x=.ok)∨(b=false∧y=.ok):=by
 cases b
 ·exact .inr ⟨rfl,h⟩
 ·exact .inl ⟨rfl,h⟩
theorem iff_ok {b:Bool} {x:R} {n:Nat} (h:iff' b x (R.no n)=.ok):b=true∧x=.ok:=by
 cases b
 ·cases h
 ·exact⟨rfl,h⟩
theorem fL_eq (n:Nat) (k:Nat→R):fL n k=k n:=rfl
theorem okIf_ok {b:Bool} {n:Nat} (h:okIf b n=.ok):b=true:=(iff_ok h).1
theorem both_ok {a b:Bool}:both a b=true↔a=true∧b=true:=by cases a <;> cases b <;> simp [both]
section
variable {α:Type}
theorem nth_eq:∀ (k:Nat) (l:List α),nth k l=l[k]?
 | 0,[]=>rfl
 | 0,x::l=>rfl
 | k + 1,[]=>rfl
 | k + 1,x::l=>by
  show nth k l=_
  rw [nth_eq k l];simp
theorem lenL_eq:∀ l:List α,lenL l=l.length
 | []=>rfl
 | x::l=>by show Nat.succ (lenL l)=_;rw [lenL_eq l];rfl
theorem dropL_eq:∀ (n:Nat) (l:List α),dropL n l=l.drop n
 | 0,l=>rfl
 | n + 1,[]=>rfl
 | n + 1,x::l=>dropL_eq n l
theorem takeL_eq:∀ (n:Nat) (l:List α),takeL n l=l.take n
 | 0,l=>rfl
 | n + 1,[]=>rfl
 | n + 1,x::l=>by show x::takeL n l=_;rw [takeL_eq n l];rfl
theorem appL_eq:∀ a b:List α,appL a b=a++b
 | [],b=>rfl
 | x::a,b=>by show x::appL a b=_;rw [appL_eq a b];rfl
theorem wL_eq (f:Nat→α) (n:Nat):wL f n=(List.range n).map f:=by
 have:∀ n i,(Nat.rec (motive:=λ_=>Nat→List α) (λ_=>[]) (λ_ ih i=>f i::ih (Nat.succ i)) n i:List α)=(List.range' i n).map f:=by
  intro n
  induction n with
  | zero=>intro i;rfl
  | succ n ih=>intro i;rw [List.range'_succ];exact congrArg (f i::·) (ih (i + 1))
 rw [List.range_eq_range'];exact this n 0
def D8.val:D8→Nat
 | .d0=>0 | .d1=>1 | .d2=>2 | .d3=>3 | .d4=>4 | .d5=>5 | .d6=>6 | .d7=>7
theorem dg_val:∀ a,a < 8→(dg0_8 a).val=a
 | 0,_=>rfl | 1,_=>rfl | 2,_=>rfl | 3,_=>rfl | 4,_=>rfl | 5,_=>rfl | 6,_=>rfl | 7,_=>rfl
 | n + 8,h=>by omega
theorem D8.ext {a b:D8} (h:a.val=b.val):a=b:=by cases a <;> cases b <;> first | rfl | cases h
def E8.tab (g:Nat→α):E8 α:=⟨g 0,g 1,g 2,g 3,g 4,g 5,g 6,g 7⟩
theorem E8.get_tab (d:D8) (g:Nat→α):E8.get d (E8.tab g)=g d.val:=by cases d <;> rfl
def E8.upd (d:D8) (c:E8 α) (x:α):E8 α:=E8.tab λi=>if i=d.val then x else E8.get (dg0_8 i) c
theorem E8.put_eq (d:D8) (c:E8 α) (x:α) (k:E8 α→R):E8.put d c x k=k (E8.upd d c x):=by cases c;cases d <;> rfl
theorem E8.get_upd (d e:D8) (c:E8 α) (x:α):E8.get e (E8.upd d c x)=if e.val=d.val then x else E8.get e c:=by
 unfold E8.upd
 rw [E8.get_tab]
 by_cases h:e.val=d.val
 ·rw [if_pos h,if_pos h]
 ·rw [if_neg h,if_neg h];cases e <;> rfl
theorem q0_val (i:Nat):(q0 i).val=i % 8:=dg_val _ (Nat.mod_lt _ (by omega))
theorem q1_val (i:Nat):(q1 i).val=i / 8 % 8:=dg_val _ (Nat.mod_lt _ (by omega))
theorem q2_val (i:Nat):(q2 i).val=i / 64 % 8:=dg_val _ (Nat.mod_lt _ (by omega))
theorem q3_val (i:Nat):(q3 i).val=i / 512 % 8:=dg_val _ (Nat.mod_lt _ (by omega))
theorem q4_val (i:Nat):(q4 i).val=i / 4096 % 8:=dg_val _ (Nat.mod_lt _ (by omega))
def T1.set (x:Option α) (i:Nat) (t:T1 α):T1 α:=E8.upd (q0 i) t x
theorem T1.put_eq (x:Option α) (i:Nat) (t:T1 α) (k:T1 α→R):T1.put x i t k=k (T1.set x i t):=E8.put_eq ..
theorem T1.get_set (x:Option α) (i j:Nat) (t:T1 α):T1.get j (T1.set x i t)=if j % 8=i % 8 then x else T1.get j t:=by
 show E8.get (q0 j) (E8.upd (q0 i) t x)=_
 rw [E8.get_upd,q0_val,q0_val];rfl
def T2.set (x:Option α) (i:Nat) (t:T2 α):T2 α:=E8.upd (q1 i) t (T1.set x i (E8.get (q1 i) t))
theorem T2.put_eq (x:Option α) (i:Nat) (t:T2 α) (k:T2 α→R):T2.put x i t k=k (T2.set x i t):=by
 show T1.put x i (E8.get (q1 i) t) (λc=>E8.put (q1 i) t c k)=_
 rw [T1.put_eq,E8.put_eq];rfl
theorem T2.get_set (x:Option α) (i j:Nat) (t:T2 α):T2.get j (T2.set x i t)=if j % 64=i % 64 then x else T2.get j t:=by
 show T1.get j (E8.get (q1 j) (E8.upd (q1 i) t (T1.set x i (E8.get (q1 i) t))))=_
 rw [E8.get_upd,q1_val,q1_val]
 by_cases h:j / 8 % 8=i / 8 % 8
 ·have e:q1 j=q1 i:=D8.ext (by rw [q1_val,q1_val,h])
  rw [if_pos h,T1.get_set,← e]
  by_cases h2:j % 8=i % 8
  ·rw [if_pos h2,if_pos (by omega)]
  ·rw [if_neg h2,if_neg (by omega)];rfl
 ·rw [if_neg h,if_neg (by omega)];rfl
def T3.set (x:Option α) (i:Nat) (t:T3 α):T3 α:=E8.upd (q2 i) t (T2.set x i (E8.get (q2 i) t))
theorem T3.put_eq (x:Option α) (i:Nat) (t:T3 α) (k:T3 α→R):T3.put x i t k=k (T3.set x i t):=by
 show T2.put x i (E8.get (q2 i) t) (λc=>E8.put (q2 i) t c k)=_
 rw [T2.put_eq,E8.put_eq];rfl
theorem T3.get_set (x:Option α) (i j:Nat) (t:T3 α):T3.get j (T3.set x i t)=if j % 512=i % 512 then x else T3.get j t:=by
 show T2.get j (E8.get (q2 j) (E8.upd (q2 i) t (T2.set x i (E8.get (q2 i) t))))=_
 rw [E8.get_upd,q2_val,q2_val]
 by_cases h:j / 64 % 8=i / 64 % 8
 ·have e:q2 j=q2 i:=D8.ext (by rw [q2_val,q2_val,h])
  rw [if_pos h,T2.get_set,← e]
  by_cases h2:j % 64=i % 64
  ·rw [if_pos h2,if_pos (by omega)]
  ·rw [if_neg h2,if_neg (by omega)];rfl
 ·rw [if_neg h,if_neg (by omega)];rfl
def T4.set (x:Option α) (i:Nat) (t:T4 α):T4 α:=E8.upd (q3 i) t (T3.set x i (E8.get (q3 i) t))
theorem T4.put_eq (x:Option α) (i:Nat) (t:T4 α) (k:T4 α→R):T4.put x i t k=k (T4.set x i t):=by
 show T3.put x i (E8.get (q3 i) t) (λc=>E8.put (q3 i) t c k)=_
 rw [T3.put_eq,E8.put_eq];rfl
theorem T4.get_set (x:Option α) (i j:Nat) (t:T4 α):T4.get j (T4.set x i t)=if j % 4096=i % 4096 then x else T4.get j t:=by
 show T3.get j (E8.get (q3 j) (E8.upd (q3 i) t (T3.set x i (E8.get (q3 i) t))))=_
 rw [E8.get_upd,q3_val,q3_val]
 by_cases h:j / 512 % 8=i / 512 % 8
 ·have e:q3 j=q3 i:=D8.ext (by rw [q3_val,q3_val,h])
  rw [if_pos h,T3.get_set,← e]
  by_cases h2:j % 512=i % 512
  ·rw [if_pos h2,if_pos (by omega)]
  ·rw [if_neg h2,if_neg (by omega)];rfl
 ·rw [if_neg h,if_neg (by omega)];rfl
def T5.set (x:Option α) (i:Nat) (t:T5 α):T5 α:=E8.upd (q4 i) t (T4.set x i (E8.get (q4 i) t))
theorem T5.put_eq (x:Option α) (i:Nat) (t:T5 α) (k:T5 α→R):T5.put x i t k=k (T5.set x i t):=by
 show T4.put x i (E8.get (q4 i) t) (λc=>E8.put (q4 i) t c k)=_
 rw [T4.put_eq,E8.put_eq];rfl
theorem T5.get_set (x:Option α) (i j:Nat) (t:T5 α):T5.get j (T5.set x i t)=if j % 32768=i % 32768 then x else T5.get j t:=by
 show T4.get j (E8.get (q4 j) (E8.upd (q4 i) t (T4.set x i (E8.get (q4 i) t))))=_
 rw [E8.get_upd,q4_val,q4_val]
 by_cases h:j / 4096 % 8=i / 4096 % 8
 ·have e:q4 j=q4 i:=D8.ext (by rw [q4_val,q4_val,h])
  rw [if_pos h,T4.get_set,← e]
  by_cases h2:j % 4096=i % 4096
  ·rw [if_pos h2,if_pos (by omega)]
  ·rw [if_neg h2,if_neg (by omega)];rfl
 ·rw [if_neg h,if_neg (by omega)];rfl
theorem T1.get_tab (j:Nat) (g:Nat→Option α):T1.get j (E8.tab g)=g (j % 8):=by show E8.get (q0 j) _=_;rw [E8.get_tab,q0_val]
theorem T2.get_tab (j:Nat) (g:Nat→T1 α):T2.get j (E8.tab g)=T1.get j (g (j / 8 % 8)):=by show T1.get j (E8.get (q1 j) _)=_;rw [E8.get_tab,q1_val]
theorem T3.get_tab (j:Nat) (g:Nat→T2 α):T3.get j (E8.tab g)=T2.get j (g (j / 64 % 8)):=by show T2.get j (E8.get (q2 j) _)=_;rw [E8.get_tab,q2_val]
theorem T4.get_tab (j:Nat) (g:Nat→T3 α):T4.get j (E8.tab g)=T3.get j (g (j / 512 % 8)):=by show T3.get j (E8.get (q3 j) _)=_;rw [E8.get_tab,q3_val]
theorem T5.get_tab (j:Nat) (g:Nat→T4 α):T5.get j (E8.tab g)=T4.get j (g (j / 4096 % 8)):=by show T4.get j (E8.get (q4 j) _)=_;rw [E8.get_tab,q4_val]
theorem leafF_eq (f:Nat→α) (n b:Nat):leafF f n b=if b < n then some (f b) else none:=by
 unfold leafF
 by_cases h:b < n
 ·rw [if_pos h,show Nat.blt b n=true by simpa using h]
 ·rw [if_neg h];cases hb:Nat.blt b n with
  | false=>rfl
  | true=>exact absurd (by simpa using hb) h
theorem T1.get_ofF (f:Nat→α) (n b j:Nat):T1.get j (T1.ofF f n b)=leafF f n (b + j % 8):=T1.get_tab j λi=>leafF f n (b + i)
theorem T2.get_ofF (f:Nat→α) (n b j:Nat):T2.get j (T2.ofF f n b)=leafF f n (b + j % 64):=by
 rw [show T2.ofF f n b=E8.tab (λi=>T1.ofF f n (b + 8 * i)) from rfl,T2.get_tab,T1.get_ofF]
 congr 1;omega
theorem T3.get_ofF (f:Nat→α) (n b j:Nat):T3.get j (T3.ofF f n b)=leafF f n (b + j % 512):=by
 rw [show T3.ofF f n b=E8.tab (λi=>T2.ofF f n (b + 64 * i)) from rfl,T3.get_tab,T2.get_ofF]
 congr 1;omega
theorem T4.get_ofF (f:Nat→α) (n b j:Nat):T4.get j (T4.ofF f n b)=leafF f n (b + j % 4096):=by
 rw [show T4.ofF f n b=E8.tab (λi=>T3.ofF f n (b + 512 * i)) from rfl,T4.get_tab,T3.get_ofF]
 congr 1;omega
theorem T5.get_ofF (f:Nat→α) (n b j:Nat):T5.get j (T5.ofF f n b)=leafF f n (b + j % 32768):=by
 rw [show T5.ofF f n b=E8.tab (λi=>T4.ofF f n (b + 4096 * i)) from rfl,T5.get_tab,T4.get_ofF]
 congr 1;omega
def T1.ofA (l:List α):T1 α:=E8.tab λi=>l[i]?
def T2.ofA (l:List α):T2 α:=E8.tab λi=>T1.ofA (l.drop (8 * i))
def T3.ofA (l:List α):T3 α:=E8.tab λi=>T2.ofA (l.drop (64 * i))
def T4.ofA (l:List α):T4 α:=E8.tab λi=>T3.ofA (l.drop (512 * i))
def T5.ofA (l:List α):T5 α:=E8.tab λi=>T4.ofA (l.drop (4096 * i))
theorem T1.get_ofA (l:List α) (j:Nat):T1.get j (T1.ofA l)=l[j % 8]?:=T1.get_tab j _
theorem T2.get_ofA (l:List α) (j:Nat):T2.get j (T2.ofA l)=l[j % 64]?:=by
 rw [show T2.ofA l=E8.tab (λi=>T1.ofA (l.drop (8 * i))) from rfl,T2.get_tab,T1.get_ofA,List.getElem?_drop]
 congr 1;omega
theorem T3.get_ofA (l:List α) (j:Nat):T3.get j (T3.ofA l)=l[j % 512]?:=by
 rw [show T3.ofA l=E8.tab (λi=>T2.ofA (l.drop (64 * i))) from rfl,T3.get_tab,T2.get_ofA,List.getElem?_drop]
 congr 1;omega
theorem T4.get_ofA (l:List α) (j:Nat):T4.get j (T4.ofA l)=l[j % 4096]?:=by
 rw [show T4.ofA l=E8.tab (λi=>T3.ofA (l.drop (512 * i))) from rfl,T4.get_tab,T3.get_ofA,List.getElem?_drop]
 congr 1;omega
theorem T5.get_ofA (l:List α) (j:Nat):T5.get j (T5.ofA l)=l[j % 32768]?:=by
 rw [show T5.ofA l=E8.tab (λi=>T4.ofA (l.drop (4096 * i))) from rfl,T5.get_tab,T4.get_ofA,List.getElem?_drop]
 congr 1;omega
theorem T1.ofL_eq (l:List α):T1.ofL l=T1.ofA l:=by unfold T1.ofL T1.ofA E8.tab;simp only [nth_eq]
theorem hd_eq (l:List α) (k:Option α→List α→R):hd l k=k l[0]? (l.drop 1):=by cases l <;> rfl
theorem T1.bld_eq (l:List α) (k:T1 α→List α→R):T1.bld l k=k (T1.ofA l) (l.drop 8):=by
 unfold T1.bld T1.ofA E8.tab
 simp only [hd_eq,List.drop_drop,List.getElem?_drop,Nat.add_zero]
theorem T1.nil_eq:(T1.nil:T1 α)=T1.ofA []:=rfl
theorem T1.nx_eq (l:List α) (k:T1 α→List α→R):T1.nx l k=k (T1.ofA l) (l.drop 8):=by
 cases l with
 | nil=>show k T1.nil []=_;rw [T1.nil_eq];simp
 | cons x l=>exact T1.bld_eq _ _
theorem T2.bld_eq (l:List α) (k:T2 α→List α→R):T2.bld l k=k (T2.ofA l) (l.drop 64):=by
 unfold T2.bld T2.ofA E8.tab
 simp only [T1.nx_eq,List.drop_drop,Nat.reduceMul,Nat.reduceAdd,List.drop_zero]
theorem T2.nil_eq:(T2.nil:T2 α)=T2.ofA []:=by unfold T2.nil T2.ofA E8.tab E8.all;simp only [List.drop_nil,T1.nil_eq]
theorem T2.nx_eq (l:List α) (k:T2 α→List α→R):T2.nx l k=k (T2.ofA l) (l.drop 64):=by
 cases l with
 | nil=>show k T2.nil []=_;rw [T2.nil_eq];simp
 | cons x l=>exact T2.bld_eq _ _
theorem T3.bld_eq (l:List α) (k:T3 α→List α→R):T3.bld l k=k (T3.ofA l) (l.drop 512):=by
 unfold T3.bld T3.ofA E8.tab
 simp only [T2.nx_eq,List.drop_drop,Nat.reduceMul,Nat.reduceAdd,List.drop_zero]
theorem T3.nil_eq:(T3.nil:T3 α)=T3.ofA []:=by unfold T3.nil T3.ofA E8.tab E8.all;simp only [List.drop_nil,T2.nil_eq]
theorem T3.nx_eq (l:List α) (k:T3 α→List α→R):T3.nx l k=k (T3.ofA l) (l.drop 512):=by
 cases l with
 | nil=>show k T3.nil []=_;rw [T3.nil_eq];simp
 | cons x l=>exact T3.bld_eq _ _
theorem T4.bld_eq (l:List α) (k:T4 α→List α→R):T4.bld l k=k (T4.ofA l) (l.drop 4096):=by
 unfold T4.bld T4.ofA E8.tab
 simp only [T3.nx_eq,List.drop_drop,Nat.reduceMul,Nat.reduceAdd,List.drop_zero]
theorem T4.nil_eq:(T4.nil:T4 α)=T4.ofA []:=by unfold T4.nil T4.ofA E8.tab E8.all;simp only [List.drop_nil,T3.nil_eq]
theorem T4.nx_eq (l:List α) (k:T4 α→List α→R):T4.nx l k=k (T4.ofA l) (l.drop 4096):=by
 cases l with
 | nil=>show k T4.nil []=_;rw [T4.nil_eq];simp
 | cons x l=>exact T4.bld_eq _ _
theorem T5.bld_eq (l:List α) (k:T5 α→List α→R):T5.bld l k=k (T5.ofA l) (l.drop 32768):=by
 unfold T5.bld T5.ofA E8.tab
 simp only [T4.nx_eq,List.drop_drop,Nat.reduceMul,Nat.reduceAdd,List.drop_zero]
theorem blt_false {a b:Nat} (h:Nat.blt a b=false):¬ a < b:=λh'=>by
 have:Nat.blt a b=true:=by simpa using h'
 rw [h] at this;cases this
theorem put_ok {x:α} {t:Tr α} {i:Nat} {k:Tr α→R} (h:Tr.put x t i k=.ok):∃ t',(∀ j,t'.get j=if j=i then some x else t.get j)∧k t'=.ok:=by
 cases t
 case t1 t =>
  have h':Bool.rec (motive:=λ_=>R) (.no 4) (T1.put (some x) i t λt=>k (.t1 t)) (Nat.blt i 8)=.ok:=h
  cases hb:Nat.blt i 8 with
  | false=>rw [hb] at h';cases h'
  | true =>
   rw [hb] at h'
   have hi:i < 8:=by simpa using hb
   refine⟨.t1 (T1.set (some x) i t),λj=>?_,(T1.put_eq (some x) i t λt=>k (.t1 t)).symm.trans h'⟩
   show Bool.rec (motive:=λ_=>Option α) none (T1.get j (T1.set (some x) i t)) (Nat.blt j 8)=if j=i then some x else Bool.rec (motive:=λ_=>Option α) none (T1.get j t) (Nat.blt j 8)
   cases hj:Nat.blt j 8 with
   | false=>have:=blt_false hj;rw [if_neg (by omega)]
   | true =>
    have hj:j < 8:=by simpa using hj
    show T1.get j (T1.set (some x) i t)=if j=i then some x else T1.get j t
    rw [T1.get_set]
    by_cases e:j=i
    ·rw [if_pos e,if_pos (by omega)]
    ·rw [if_neg e,if_neg (by omega)]
 case t2 t =>
  have h':Bool.rec (motive:=λ_=>R) (.no 4) (T2.put (some x) i t λt=>k (.t2 t)) (Nat.blt i 64)=.ok:=h
  cases hb:Nat.blt i 64 with
  | false=>rw [hb] at h';cases h'
  | true =>
   rw [hb] at h'
   have hi:i < 64:=by simpa using hb
   refine⟨.t2 (T2.set (some x) i t),λj=>?_,(T2.put_eq (some x) i t λt=>k (.t2 t)).symm.trans h'⟩
   show Bool.rec (motive:=λ_=>Option α) none (T2.get j (T2.set (some x) i t)) (Nat.blt j 64)=if j=i then some x else Bool.rec (motive:=λ_=>Option α) none (T2.get j t) (Nat.blt j 64)
   cases hj:Nat.blt j 64 with
   | false=>have:=blt_false hj;rw [if_neg (by omega)]
   | true =>
    have hj:j < 64:=by simpa using hj
    show T2.get j (T2.set (some x) i t)=if j=i then some x else T2.get j t
    rw [T2.get_set]
    by_cases e:j=i
    ·rw [if_pos e,if_pos (by omega)]
    ·rw [if_neg e,if_neg (by omega)]
 case t3 t =>
  have h':Bool.rec (motive:=λ_=>R) (.no 4) (T3.put (some x) i t λt=>k (.t3 t)) (Nat.blt i 512)=.ok:=h
  cases hb:Nat.blt i 512 with
  | false=>rw [hb] at h';cases h'
  | true =>
   rw [hb] at h'
   have hi:i < 512:=by simpa using hb
   refine⟨.t3 (T3.set (some x) i t),λj=>?_,(T3.put_eq (some x) i t λt=>k (.t3 t)).symm.trans h'⟩
   show Bool.rec (motive:=λ_=>Option α) none (T3.get j (T3.set (some x) i t)) (Nat.blt j 512)=if j=i then some x else Bool.rec (motive:=λ_=>Option α) none (T3.get j t) (Nat.blt j 512)
   cases hj:Nat.blt j 512 with
   | false=>have:=blt_false hj;rw [if_neg (by omega)]
   | true =>
    have hj:j < 512:=by simpa using hj
    show T3.get j (T3.set (some x) i t)=if j=i then some x else T3.get j t
    rw [T3.get_set]
    by_cases e:j=i
    ·rw [if_pos e,if_pos (by omega)]
    ·rw [if_neg e,if_neg (by omega)]
 case t4 t =>
  have h':Bool.rec (motive:=λ_=>R) (.no 4) (T4.put (some x) i t λt=>k (.t4 t)) (Nat.blt i 4096)=.ok:=h
  cases hb:Nat.blt i 4096 with
  | false=>rw [hb] at h';cases h'
  | true =>
   rw [hb] at h'
   have hi:i < 4096:=by simpa using hb
   refine⟨.t4 (T4.set (some x) i t),λj=>?_,(T4.put_eq (some x) i t λt=>k (.t4 t)).symm.trans h'⟩
   show Bool.rec (motive:=λ_=>Option α) none (T4.get j (T4.set (some x) i t)) (Nat.blt j 4096)=if j=i then some x else Bool.rec (motive:=λ_=>Option α) none (T4.get j t) (Nat.blt j 4096)
   cases hj:Nat.blt j 4096 with
   | false=>have:=blt_false hj;rw [if_neg (by omega)]
   | true =>
    have hj:j < 4096:=by simpa using hj
    show T4.get j (T4.set (some x) i t)=if j=i then some x else T4.get j t
    rw [T4.get_set]
    by_cases e:j=i
    ·rw [if_pos e,if_pos (by omega)]
    ·rw [if_neg e,if_neg (by omega)]
 case t5 t =>
  have h':Bool.rec (motive:=λ_=>R) (.no 4) (T5.put (some x) i t λt=>k (.t5 t)) (Nat.blt i 32768)=.ok:=h
  cases hb:Nat.blt i 32768 with
  | false=>rw [hb] at h';cases h'
  | true =>
   rw [hb] at h'
   have hi:i < 32768:=by simpa using hb
   refine⟨.t5 (T5.set (some x) i t),λj=>?_,(T5.put_eq (some x) i t λt=>k (.t5 t)).symm.trans h'⟩
   show Bool.rec (motive:=λ_=>Option α) none (T5.get j (T5.set (some x) i t)) (Nat.blt j 32768)=if j=i then some x else Bool.rec (motive:=λ_=>Option α) none (T5.get j t) (Nat.blt j 32768)
   cases hj:Nat.blt j 32768 with
   | false=>have:=blt_false hj;rw [if_neg (by omega)]
   | true =>
    have hj:j < 32768:=by simpa using hj
    show T5.get j (T5.set (some x) i t)=if j=i then some x else T5.get j t
    rw [T5.get_set]
    by_cases e:j=i
    ·rw [if_pos e,if_pos (by omega)]
    ·rw [if_neg e,if_neg (by omega)]
theorem put_ret {x:α} (t:Tr α) (i:Nat):(∃ t',∀ k,Tr.put x t i k=k t')∨∃ n,∀ k,Tr.put x t i k=R.no n:=by
 cases t
 case t1 t =>
  cases hb:Nat.blt i 8 with
  | false=>exact .inr ⟨4,λk=>by show Bool.rec (motive:=λ_=>R) (.no 4) (T1.put (some x) i t λt=>k (.t1 t)) (Nat.blt i 8)=_;rw [hb]⟩
  | true=>exact .inl ⟨.t1 (T1.set (some x) i t),λk=>by show Bool.rec (motive:=λ_=>R) (.no 4) (T1.put (some x) i t λt=>k (.t1 t)) (Nat.blt i 8)=_;rw [hb];exact T1.put_eq ..⟩
 case t2 t =>
  cases hb:Nat.blt i 64 with
  | false=>exact .inr ⟨4,λk=>by show Bool.rec (motive:=λ_=>R) (.no 4) (T2.put (some x) i t λt=>k (.t2 t)) (Nat.blt i 64)=_;rw [hb]⟩
  | true=>exact .inl ⟨.t2 (T2.set (some x) i t),λk=>by show Bool.rec (motive:=λ_=>R) (.no 4) (T2.put (some x) i t λt=>k (.t2 t)) (Nat.blt i 64)=_;rw [hb];exact T2.put_eq ..⟩
 case t3 t =>
  cases hb:Nat.blt i 512 with
  | false=>exact .inr ⟨4,λk=>by show Bool.rec (motive:=λ_=>R) (.no 4) (T3.put (some x) i t λt=>k (.t3 t)) (Nat.blt i 512)=_;rw [hb]⟩
  | true=>exact .inl ⟨.t3 (T3.set (some x) i t),λk=>by show Bool.rec (motive:=λ_=>R) (.no 4) (T3.put (some x) i t λt=>k (.t3 t)) (Nat.blt i 512)=_;rw [hb];exact T3.put_eq ..⟩
 case t4 t =>
  cases hb:Nat.blt i 4096 with
  | false=>exact .inr ⟨4,λk=>by show Bool.rec (motive:=λ_=>R) (.no 4) (T4.put (some x) i t λt=>k (.t4 t)) (Nat.blt i 4096)=_;rw [hb]⟩
  | true=>exact .inl ⟨.t4 (T4.set (some x) i t),λk=>by show Bool.rec (motive:=λ_=>R) (.no 4) (T4.put (some x) i t λt=>k (.t4 t)) (Nat.blt i 4096)=_;rw [hb];exact T4.put_eq ..⟩
 case t5 t =>
  cases hb:Nat.blt i 32768 with
  | false=>exact .inr ⟨4,λk=>by show Bool.rec (motive:=λ_=>R) (.no 4) (T5.put (some x) i t λt=>k (.t5 t)) (Nat.blt i 32768)=_;rw [hb]⟩
  | true=>exact .inl ⟨.t5 (T5.set (some x) i t),λk=>by show Bool.rec (motive:=λ_=>R) (.no 4) (T5.put (some x) i t λt=>k (.t5 t)) (Nat.blt i 32768)=_;rw [hb];exact T5.put_eq ..⟩
theorem trOf_ok {l:List α} {k:Tr α→R} (h:trOf l k=.ok):∃ c:Tr α,(∀ j,c.get j=l[j]?)∧k c=.ok:=by
 unfold trOf at h
 rw [fL_eq,lenL_eq] at h
 have key:∀ (n:Nat),l.length≤n→∀ j,(Bool.rec (motive:=λ_=>Option α) none l[j % n]? (Nat.blt j n):Option α)=l[j]?:=by
  intro n hn j
  cases hb:Nat.blt j n with
  | false=>have:=blt_false hb;show none=_;rw [List.getElem?_eq_none (by omega)]
  | true =>
       have:j < n:=by simpa using hb
       show l[j % n]?=_;rw [Nat.mod_eq_of_lt this]
 rcases iff_t (b:=Nat.ble l.length 8) h with⟨hb,h⟩ | ⟨_,h⟩
 ·refine⟨.t1 (T1.ofA l),λj=>?_,?_⟩
  ·show Bool.rec (motive:=λ_=>Option α) none (T1.get j (T1.ofA l)) (Nat.blt j 8)=_
   rw [T1.get_ofA];exact key _ (Nat.le_of_ble_eq_true hb) j
  ·rw [← T1.ofL_eq];exact h
 rcases iff_t (b:=Nat.ble l.length 64) h with⟨hb,h⟩ | ⟨_,h⟩
 ·refine⟨.t2 (T2.ofA l),λj=>?_,?_⟩
  ·show Bool.rec (motive:=λ_=>Option α) none (T2.get j (T2.ofA l)) (Nat.blt j 64)=_
   rw [T2.get_ofA];exact key _ (Nat.le_of_ble_eq_true hb) j
  ·rw [T2.bld_eq] at h;exact h
 rcases iff_t (b:=Nat.ble l.length 512) h with⟨hb,h⟩ | ⟨_,h⟩
 ·refine⟨.t3 (T3.ofA l),λj=>?_,?_⟩
  ·show Bool.rec (motive:=λ_=>Option α) none (T3.get j (T3.ofA l)) (Nat.blt j 512)=_
   rw [T3.get_ofA];exact key _ (Nat.le_of_ble_eq_true hb) j
  ·rw [T3.bld_eq] at h;exact h
 rcases iff_t (b:=Nat.ble l.length 4096) h with⟨hb,h⟩ | ⟨_,h⟩
 ·refine⟨.t4 (T4.ofA l),λj=>?_,?_⟩
  ·show Bool.rec (motive:=λ_=>Option α) none (T4.get j (T4.ofA l)) (Nat.blt j 4096)=_
   rw [T4.get_ofA];exact key _ (Nat.le_of_ble_eq_true hb) j
  ·rw [T4.bld_eq] at h;exact h
 rcases iff_t (b:=Nat.ble l.length 32768) h with⟨hb,h⟩ | ⟨_,h⟩
 ·refine⟨.t5 (T5.ofA l),λj=>?_,?_⟩
  ·show Bool.rec (motive:=λ_=>Option α) none (T5.get j (T5.ofA l)) (Nat.blt j 32768)=_
   rw [T5.get_ofA];exact key _ (Nat.le_of_ble_eq_true hb) j
  ·rw [T5.bld_eq] at h;exact h
 cases h
theorem trOf_ret (l:List α):(∃ c:Tr α,∀ k,trOf l k=k c)∨∀ k:Tr α→R,trOf l k=R.no 4:=by
 unfold trOf
 simp only [fL_eq,T2.bld_eq,T3.bld_eq,T4.bld_eq,T5.bld_eq]
 cases Nat.ble (lenL l) 8 with
 | true=>exact .inl ⟨_,λ_=>rfl⟩
 | false =>
 cases Nat.ble (lenL l) 64 with
 | true=>exact .inl ⟨_,λ_=>rfl⟩
 | false =>
 cases Nat.ble (lenL l) 512 with
 | true=>exact .inl ⟨_,λ_=>rfl⟩
 | false =>
 cases Nat.ble (lenL l) 4096 with
 | true=>exact .inl ⟨_,λ_=>rfl⟩
 | false =>
 cases Nat.ble (lenL l) 32768 with
 | true=>exact .inl ⟨_,λ_=>rfl⟩
 | false =>
 exact .inr λ_=>rfl
theorem ofF_ret (f:Nat→α) (n:Nat):(∃ c:Tr α,∀ k,Tr.ofF f n k=k c)∨∀ k:Tr α→R,Tr.ofF f n k=R.no 4:=by
 unfold Tr.ofF
 cases Nat.ble n 8 with
 | true=>exact .inl ⟨_,λ_=>rfl⟩
 | false =>
 cases Nat.ble n 64 with
 | true=>exact .inl ⟨_,λ_=>rfl⟩
 | false =>
 cases Nat.ble n 512 with
 | true=>exact .inl ⟨_,λ_=>rfl⟩
 | false =>
 cases Nat.ble n 4096 with
 | true=>exact .inl ⟨_,λ_=>rfl⟩
 | false =>
 cases Nat.ble n 32768 with
 | true=>exact .inl ⟨_,λ_=>rfl⟩
 | false =>
 exact .inr λ_=>rfl
theorem ofF_ok {f:Nat→α} {n:Nat} {k:Tr α→R} (h:Tr.ofF f n k=.ok):∃ c:Tr α,(∀ j,c.get j=if j < n then some (f j) else none)∧k c=.ok:=by
 unfold Tr.ofF at h
 have key:∀ (m:Nat),n≤m→∀ j,(Bool.rec (motive:=λ_=>Option α) none (leafF f n (0 + j % m)) (Nat.blt j m):Option α)=if j < n then some (f j) else none:=by
  intro m hm j
  rw [leafF_eq]
  cases hb:Nat.blt j m with
  | false=>have:=blt_false hb;show none=_;rw [if_neg (by omega)]
  | true =>
       have:j < m:=by simpa using hb
       show (if 0 + j % m < n then some (f (0 + j % m)) else none)=_;rw [Nat.mod_eq_of_lt this,Nat.zero_add]
 rcases iff_t (b:=Nat.ble n 8) h with⟨hb,h⟩ | ⟨_,h⟩
 ·exact⟨.t1 (T1.ofF f n 0),λj=>by show Bool.rec (motive:=λ_=>Option α) none (T1.get j (T1.ofF f n 0)) (Nat.blt j 8)=_;rw [T1.get_ofF];exact key _ (Nat.le_of_ble_eq_true hb) j,h⟩
 rcases iff_t (b:=Nat.ble n 64) h with⟨hb,h⟩ | ⟨_,h⟩
 ·exact⟨.t2 (T2.ofF f n 0),λj=>by show Bool.rec (motive:=λ_=>Option α) none (T2.get j (T2.ofF f n 0)) (Nat.blt j 64)=_;rw [T2.get_ofF];exact key _ (Nat.le_of_ble_eq_true hb) j,h⟩
 rcases iff_t (b:=Nat.ble n 512) h with⟨hb,h⟩ | ⟨_,h⟩
 ·exact⟨.t3 (T3.ofF f n 0),λj=>by show Bool.rec (motive:=λ_=>Option α) none (T3.get j (T3.ofF f n 0)) (Nat.blt j 512)=_;rw [T3.get_ofF];exact key _ (Nat.le_of_ble_eq_true hb) j,h⟩
 rcases iff_t (b:=Nat.ble n 4096) h with⟨hb,h⟩ | ⟨_,h⟩
 ·exact⟨.t4 (T4.ofF f n 0),λj=>by show Bool.rec (motive:=λ_=>Option α) none (T4.get j (T4.ofF f n 0)) (Nat.blt j 4096)=_;rw [T4.get_ofF];exact key _ (Nat.le_of_ble_eq_true hb) j,h⟩
 rcases iff_t (b:=Nat.ble n 32768) h with⟨hb,h⟩ | ⟨_,h⟩
 ·exact⟨.t5 (T5.ofF f n 0),λj=>by show Bool.rec (motive:=λ_=>Option α) none (T5.get j (T5.ofF f n 0)) (Nat.blt j 32768)=_;rw [T5.get_ofF];exact key _ (Nat.le_of_ble_eq_true hb) j,h⟩
 cases h
end
theorem putp_eq (x:V) (i:Nat) (t:E):(∃ t':E,(∀ j,t'.getp j=if j=i then some x else t.getp j)∧∀ k,E.putp x i t k=k t')∨∀ k,E.putp x i t k=R.no 3:=by
 cases hb:Nat.blt i 512 with
 | false=>exact .inr λk=>by show Bool.rec (motive:=λ_=>R) (.no 3) (T3.put (some x) i t k) (Nat.blt i 512)=_;rw [hb]
 | true =>
  have hi:i < 512:=by simpa using hb
  refine .inl ⟨T3.set (some x) i t,λj=>?_,λk=>by show Bool.rec (motive:=λ_=>R) (.no 3) (T3.put (some x) i t k) (Nat.blt i 512)=_;rw [hb];exact T3.put_eq ..⟩
  show Bool.rec (motive:=λ_=>Option V) none (T3.get j (T3.set (some x) i t)) (Nat.blt j 512)=if j=i then some x else Bool.rec (motive:=λ_=>Option V) none (T3.get j t) (Nat.blt j 512)
  cases hj:Nat.blt j 512 with
  | false=>have:=blt_false hj;rw [if_neg (by omega)]
  | true =>
   have hj:j < 512:=by simpa using hj
   show T3.get j (T3.set (some x) i t)=if j=i then some x else T3.get j t
   rw [T3.get_set]
   by_cases e:j=i
   ·rw [if_pos e,if_pos (by omega)]
   ·rw [if_neg e,if_neg (by omega)]
theorem putp_ok {x:V} {i:Nat} {t:E} {k:E→R} (h:E.putp x i t k=.ok):∃ t':E,(∀ j,t'.getp j=if j=i then some x else t.getp j)∧k t'=.ok:=by
 rcases putp_eq x i t with⟨t',h1,h2⟩ | h2
 ·exact⟨t',h1,(h2 k).symm.trans h⟩
 ·rw [h2] at h;cases h
theorem hputp_eq {α:Type} (x:α) (i:Nat) (t:T5 α):(∃ t':T5 α,(∀ j,t'.getp j=if j=i then some x else t.getp j)∧∀ k,T5.putp x i t k=k t')∨∀ k,T5.putp x i t k=R.no 5:=by
 cases hb:Nat.blt i 32768 with
 | false=>exact .inr λk=>by show Bool.rec (motive:=λ_=>R) (.no 5) (T5.put (some x) i t k) (Nat.blt i 32768)=_;rw [hb]
 | true =>
  have hi:i < 32768:=by simpa using hb
  refine .inl ⟨T5.set (some x) i t,λj=>?_,λk=>by show Bool.rec (motive:=λ_=>R) (.no 5) (T5.put (some x) i t k) (Nat.blt i 32768)=_;rw [hb];exact T5.put_eq ..⟩
  show Bool.rec (motive:=λ_=>Option α) none (T5.get j (T5.set (some x) i t)) (Nat.blt j 32768)=if j=i then some x else Bool.rec (motive:=λ_=>Option α) none (T5.get j t) (Nat.blt j 32768)
  cases hj:Nat.blt j 32768 with
  | false=>have:=blt_false hj;rw [if_neg (by omega)]
  | true =>
   have hj:j < 32768:=by simpa using hj
   show T5.get j (T5.set (some x) i t)=if j=i then some x else T5.get j t
   rw [T5.get_set]
   by_cases e:j=i
   ·rw [if_pos e,if_pos (by omega)]
   ·rw [if_neg e,if_neg (by omega)]
theorem hputp_ok {α:Type} {x:α} {i:Nat} {t:T5 α} {k:T5 α→R} (h:T5.putp x i t k=.ok):∃ t':T5 α,(∀ j,t'.getp j=if j=i then some x else t.getp j)∧k t'=.ok:=by
 rcases hputp_eq x i t with⟨t',h1,h2⟩ | h2
 ·exact⟨t',h1,(h2 k).symm.trans h⟩
 ·rw [h2] at h;cases h
theorem delp_eq (i:Nat) (t:E):(∃ t':E,(∀ j,t'.getp j=if j=i then none else t.getp j)∧∀ k,E.delp i t k=k t')∨∀ k,E.delp i t k=R.no 3:=by
 cases hb:Nat.blt i 512 with
 | false=>exact .inr λk=>by show Bool.rec (motive:=λ_=>R) (.no 3) (T3.put none i t k) (Nat.blt i 512)=_;rw [hb]
 | true =>
  have hi:i < 512:=by simpa using hb
  refine .inl ⟨T3.set none i t,λj=>?_,λk=>by show Bool.rec (motive:=λ_=>R) (.no 3) (T3.put none i t k) (Nat.blt i 512)=_;rw [hb];exact T3.put_eq ..⟩
  show Bool.rec (motive:=λ_=>Option V) none (T3.get j (T3.set none i t)) (Nat.blt j 512)=if j=i then none else Bool.rec (motive:=λ_=>Option V) none (T3.get j t) (Nat.blt j 512)
  cases hj:Nat.blt j 512 with
  | false=>have:=blt_false hj;rw [if_neg (by omega)]
  | true =>
   have hj:j < 512:=by simpa using hj
   show T3.get j (T3.set none i t)=if j=i then none else T3.get j t
   rw [T3.get_set]
   by_cases e:j=i
   ·rw [if_pos e,if_pos (by omega)]
   ·rw [if_neg e,if_neg (by omega)]
theorem delp_ok {i:Nat} {t:E} {k:E→R} (h:E.delp i t k=.ok):∃ t':E,(∀ j,t'.getp j=if j=i then none else t.getp j)∧k t'=.ok:=by
 rcases delp_eq i t with⟨t',h1,h2⟩ | h2
 ·exact⟨t',h1,(h2 k).symm.trans h⟩
 ·rw [h2] at h;cases h
theorem vidEq_ok {a b:Vid}:vidEq a b=true↔a=b:=by unfold vidEq;exact⟨kB,λh=>by subst h;exact Nat.beq_refl a⟩
structure Loc where
 blk:Nat
 base:Nat
 cap:Nat
abbrev Phi:=Vid→Option Loc
def Phi.le (φ φ':Phi):Prop:=∀ v L,φ v=some L→φ' v=some L
theorem Phi.le.refl (φ:Phi):φ.le φ:=λ_ _ h=>h
theorem Phi.le.trans {a b c:Phi} (h:a.le b) (h':b.le c):a.le c:=λv L x=>h' v L (h v L x)
def bytesOf (l:List Nat):ByteArray:=⟨(l.map UInt8.ofNat).toArray⟩
def capOf (L:Loc):Cp→Nat
 | .ex c=>c
 | .re k=>L.cap - k
mutual
def dec (φ:Phi):V→Option Value
 | .b x=>some (.bool x)
 | .i k n=>some (.int k n)
 | .s l=>some (.string (bytesOf l))
 | .p v off=>(φ v).map λL=>.pointer (some ⟨L.blk,L.base + off,none⟩)
 | .np=>some (.pointer none)
 | .sl v off n c=>(φ v).bind λL=>if n≤capOf L c then some (.slice (some ⟨L.blk,L.base + off,none⟩) n (capOf L c)) else none
 | .se v off r o sz=>(φ v).map λL=>.slice (some ⟨L.blk,if L.cap - r=o then L.base + off else L.base + off + o * sz,none⟩) 0 (L.cap - r - o)
 | .ns=>some (.slice none 0 0)
 | .m v=>(φ v).map λL=>.map (some L.blk)
 | .nm=>some (.map none)
 | .f F a c=>(decs φ a).bind λa=>(decs φ c).map λc=>.func (.func F) a.toArray c.toArray
 | .nf=>some .nilFunc
 | .q t x=>(dec φ x).map λx=>.iface t x
 | .nq=>some .nilIface
 | .a l=>(decs φ l).map λl=>.agg l.toArray
 | .t l=>(decs φ l).map λl=>.tuple l.toArray
 | .w f n=>((List.range n).mapM λi=>(dec φ (f i)).filter oneCell).map λl=>.agg l.toArray
def decs (φ:Phi):List V→Option (List Value)
 | []=>some []
 | x::l=>(dec φ x).bind λx=>(decs φ l).map λl=>x::l
end
theorem map_le {β:Type} {φ φ':Phi} (h:φ.le φ') {v:Vid} {f:Loc→β} {y:β} (hy:(φ v).map f=some y):(φ' v).map f=some y:=by
 obtain⟨L,h1,rfl⟩:=kE hy
 rw [h v L h1];rfl
theorem mapM_mono {α β:Type} {f g:α→Option β} (h:∀ a y,f a=some y→g a=some y):∀ (l:List α) (m:List β),l.mapM f=some m→l.mapM g=some m
 | [],m,e=>by simpa using e
 | a::l,m,e=>by
  simp only [List.mapM_cons,Option.bind_eq_bind,Option.bind_eq_some_iff] at e ⊢
  obtain⟨y,h1,m',h2,h3⟩:=e
  exact⟨y,h a y h1,m',mapM_mono h l m' h2,h3⟩
mutual
theorem dec_mono {φ φ':Phi} (h:φ.le φ'):∀ (x:V) (y:Value),dec φ x=some y→dec φ' x=some y
 | .b x,y,e=>by simpa [dec] using e
 | .i k n,y,e=>by simpa [dec] using e
 | .s l,y,e=>by simpa [dec] using e
 | .p v off,y,e=>by simp only [dec] at e ⊢;exact map_le h e
 | .np,y,e=>by simpa [dec] using e
 | .sl v off n c,y,e=>by
  simp only [dec,Option.bind_eq_some_iff] at e ⊢
  obtain⟨M,h1,h2⟩:=e
  exact⟨M,h v M h1,h2⟩
 | .se v off r o sz,y,e=>by simp only [dec] at e ⊢;exact map_le h e
 | .ns,y,e=>by simpa [dec] using e
 | .m v,y,e=>by simp only [dec] at e ⊢;exact map_le h e
 | .nm,y,e=>by simpa [dec] using e
 | .f F a c,y,e=>by
  simp only [dec,Option.bind_eq_some_iff,Option.map_eq_some_iff] at e ⊢
  obtain⟨a',h1,c',h2,h3⟩:=e
  exact⟨a',decs_mono h a _ h1,c',decs_mono h c _ h2,h3⟩
 | .nf,y,e=>by simpa [dec] using e
 | .q t x,y,e=>by
  simp only [dec,Option.map_eq_some_iff] at e ⊢
  obtain⟨x',h1,h2⟩:=e
  exact⟨x',dec_mono h x _ h1,h2⟩
 | .nq,y,e=>by simpa [dec] using e
 | .a l,y,e=>by
  simp only [dec,Option.map_eq_some_iff] at e ⊢
  obtain⟨x',h1,h2⟩:=e
  exact⟨x',decs_mono h l _ h1,h2⟩
 | .t l,y,e=>by
  simp only [dec,Option.map_eq_some_iff] at e ⊢
  obtain⟨x',h1,h2⟩:=e
  exact⟨x',decs_mono h l _ h1,h2⟩
 | .w f n,y,e=>by
  simp only [dec,Option.map_eq_some_iff] at e ⊢
  obtain⟨x',h1,h2⟩:=e
  exact⟨x',mapM_mono (λi y hy=>by rw [Option.filter_eq_some_iff] at hy ⊢;exact⟨dec_mono h (f i) y hy.1,hy.2⟩) _ _ h1,h2⟩
theorem decs_mono {φ φ':Phi} (h:φ.le φ'):∀ (x:List V) (y:List Value),decs φ x=some y→decs φ' x=some y
 | [],y,e=>by simpa [decs] using e
 | x::l,y,e=>by
  simp only [decs,Option.bind_eq_some_iff,Option.map_eq_some_iff] at e ⊢
  obtain⟨a',h1,c',h2,h3⟩:=e
  exact⟨a',dec_mono h x _ h1,c',decs_mono h l _ h2,h3⟩
end
theorem decs_eq (φ:Phi):∀ l:List V,decs φ l=l.mapM (dec φ)
 | []=>rfl
 | x::l=>by
  rw [decs,List.mapM_cons,decs_eq φ l]
  cases dec φ x with
  | none=>rfl
  | some a=>cases List.mapM (dec φ) l <;> rfl
theorem mapM_filter {α β:Type} {f:α→Option β} {p:β→Bool}:∀ (l:List α) (m:List β),l.mapM (λa=>(f a).filter p)=some m↔(l.mapM f=some m∧∀ y∈m,p y=true)
 | [],m=>by simp;rintro rfl;simp
 | a::l,m=>by
  simp only [List.mapM_cons,Option.bind_eq_bind,Option.bind_eq_some_iff,Option.filter_eq_some_iff,mapM_filter l,Option.pure_def,Option.some.injEq]
  constructor
  ·rintro⟨y,⟨h1,h2⟩,m',⟨h3,h4⟩,rfl⟩
   exact⟨⟨y,h1,m',h3,rfl⟩,by simpa using ⟨h2,h4⟩⟩
  ·rintro⟨⟨y,h1,m',h3,rfl⟩,h4⟩
   simp at h4
   exact⟨y,⟨h1,h4.1⟩,m',⟨h3,h4.2⟩,rfl⟩
theorem dec_w (φ:Phi) (f:Nat→V) (n:Nat) (y:Value):dec φ (.w f n)=some y↔∃ vs,decs φ (wL f n)=some vs∧(∀ v∈vs,oneCell v=true)∧y=.agg vs.toArray:=by
 rw [dec,wL_eq,decs_eq,List.mapM_map,Option.map_eq_some_iff]
 constructor
 ·rintro⟨m,h1,rfl⟩
  obtain⟨h2,h3⟩:=(mapM_filter _ _).1 h1
  exact⟨m,h2,h3,rfl⟩
 ·rintro⟨m,h1,h2,rfl⟩
  exact⟨m,(mapM_filter _ _).2 ⟨h1,h2⟩,rfl⟩
inductive AsA:V→List V→Prop
 | a (l:List V):AsA (.a l) l
 | w (f:Nat→V) (n:Nat):AsA (.w f n) (wL f n)
theorem AsA.dec {x:V} {l:List V} {φ:Phi} {y:Value} (h:AsA x l) (hx:dec φ x=some y):dec φ (.a l)=some y:=by
 cases h with
 | a=>exact hx
 | w f n =>
  obtain⟨vs,h1,_,rfl⟩:=(dec_w φ f n y).1 hx
  rw [Ev.dec,h1];rfl
theorem AsA.of {x:V} {l:List V} {φ:Phi} {vs:List Value} (h:AsA x l) (hd:decs φ l=some vs) (h1:∀ v∈vs,oneCell v=true):Ev.dec φ x=some (.agg vs.toArray):=by
 cases h with
 | a=>rw [Ev.dec,hd];rfl
 | w f n=>exact (dec_w φ f n _).2 ⟨vs,hd,h1,rfl⟩
theorem decs_cons {φ:Phi} {x:V} {l:List V} {y:Value} {m:List Value} (h:dec φ x=some y) (h':decs φ l=some m):decs φ (x::l)=some (y::m):=by simp [decs,h,h']
theorem decs_cons_inv {φ:Phi} {x:V} {l:List V} {m:List Value} (h:decs φ (x::l)=some m):∃ y m',m=y::m'∧dec φ x=some y∧decs φ l=some m':=by
 simp only [decs,Option.bind_eq_some_iff,Option.map_eq_some_iff] at h
 obtain⟨y,h1,m',h2,h3⟩:=h
 exact⟨y,m',h3.symm,h1,h2⟩
theorem decs_append {φ:Phi}:∀ {l l':List V} {m m':List Value},decs φ l=some m→decs φ l'=some m'→decs φ (l++l')=some (m++m')
 | [],l',m,m',h,h'=>by simp [decs] at h;subst h;simpa using h'
 | x::l,l',m,m',h,h'=>by
  obtain⟨y,n,rfl,h1,h2⟩:=decs_cons_inv h
  exact decs_cons h1 (decs_append h2 h')
theorem decs_length {φ:Phi}:∀ {l:List V} {m:List Value},decs φ l=some m→m.length=l.length
 | [],m,h=>by simp [decs] at h;subst h;rfl
 | x::l,m,h=>by
  obtain⟨y,n,rfl,h1,h2⟩:=decs_cons_inv h
  simp [decs_length h2]
theorem decs_get {φ:Phi}:∀ {l:List V} {m:List Value},decs φ l=some m→∀ {i:Nat} {x:V},l[i]?=some x→∃ y,m[i]?=some y∧dec φ x=some y
 | [],m,h,i,x,hx=>by simp at hx
 | u::l,m,h,i,x,hx=>by
  obtain⟨y,n,rfl,h1,h2⟩:=decs_cons_inv h
  cases i with
  | zero=>simp at hx;subst hx;exact⟨y,rfl,h1⟩
  | succ i=>simp at hx;simpa using decs_get h2 hx
theorem decs_mk {φ:Phi}:∀ {l:List V} {m:List Value},l.length=m.length→(∀ (i:Nat) x,l[i]?=some x→∃ y,m[i]?=some y∧dec φ x=some y)→decs φ l=some m
 | [],m,h,hx=>by cases m with | nil=>rfl | cons _ _=>simp at h
 | u::l,m,h,hx=>by
  cases m with
  | nil=>simp at h
  | cons y m =>
   obtain⟨y',h1,h2⟩:=hx 0 u rfl
   simp at h1;subst h1
   exact decs_cons h2 (decs_mk (by simpa using h) λi x hi=>by simpa using hx (i + 1) x (by simpa using hi))
theorem oneV_dec {φ:Phi} {x:V} {y:Value} (h:dec φ x=some y) (h1:x.one=true):oneCell y=true:=by
 cases x
 case sl v off n c =>
  simp only [dec,Option.bind_eq_some_iff] at h
  obtain⟨M,_,h2⟩:=h
  split at h2 <;> simp at h2
  subst h2;rfl
 case a l=>cases h1
 case t l=>cases h1
 case w f n=>cases h1
 all_goals simp only [dec,Option.map_eq_some_iff,Option.bind_eq_some_iff,Option.some.injEq] at h
 all_goals first | (subst h;rfl) | (obtain⟨_,_,rfl⟩:=h;rfl) | (obtain⟨_,_,_,_,rfl⟩:=h;rfl)
theorem allOne_ok:∀ {l:List V},allOne l=true→∀ x∈l,x.one=true
 | [],_,x,hx=>by cases hx
 | u::l,h,x,hx=>by
  have h':Bool.rec (motive:=λ_=>Bool) false (allOne l) u.one=true:=h
  cases hu:u.one with
  | false=>rw [hu] at h';cases h'
  | true =>
   rw [hu] at h'
   cases hx with
   | head=>exact hu
   | tail _ hx=>exact allOne_ok h' x hx
theorem cellsV_dec {φ:Phi} {x:V} {y:Value} (h:dec φ x=some y) (h1:allOne x.cells=true):decs φ x.cells=some (cellsL y):=by
 have key:∀ l,dec φ (.a l)=some y→decs φ l=some (cellsL y):=by
  intro l h
  simp only [dec,Option.map_eq_some_iff] at h
  obtain⟨m,hm,rfl⟩:=h
  simpa [cellsL] using hm
 cases x
 case sl v off n c =>
  show decs φ [.sl v off n c]=_
  simp only [decs,h]
  simp only [dec,Option.bind_eq_some_iff] at h
  obtain⟨M,_,h2⟩:=h
  split at h2 <;> simp at h2
  subst h2;rfl
 case t l=>cases h1
 case a l=>exact key l h
 case w f n=>exact key _ ((AsA.w f n).dec h)
 all_goals
  simp only [dec,Option.map_eq_some_iff,Option.bind_eq_some_iff,Option.some.injEq] at h
  show decs φ [_]=_
  first
  | (subst h;simp [decs,dec,cellsL];done)
  | (obtain⟨_,h1,rfl⟩:=h;simp [decs,dec,cellsL,h1];done)
  | (obtain⟨_,h1,_,h2,rfl⟩:=h;simp [decs,dec,cellsL,h1,h2];done)
section
variable {x:V} {n:Nat}
theorem onB_ok {k:Bool→R} (h:x.onB k n=.ok):∃ b,x=.b b∧k b=.ok:=by cases x <;> first | exact⟨_,rfl,h⟩ | cases h
theorem onI_ok {k:IntKind→Int→R} (h:x.onI k n=.ok):∃ κ i,x=.i κ i∧k κ i=.ok:=by cases x <;> first | exact⟨_,_,rfl,h⟩ | cases h
theorem onS_ok {k:List Nat→R} (h:x.onS k n=.ok):∃ l,x=.s l∧k l=.ok:=by cases x <;> first | exact⟨_,rfl,h⟩ | cases h
theorem onP_ok {k:Vid→Nat→R} (h:x.onP k n=.ok):∃ v o,x=.p v o∧k v o=.ok:=by cases x <;> first | exact⟨_,_,rfl,h⟩ | cases h
theorem onSl_ok {k:Vid→Nat→Nat→Cp→R} (h:x.onSl k n=.ok):∃ v o m c,x=.sl v o m c∧k v o m c=.ok:=by cases x <;> first | exact⟨_,_,_,_,rfl,h⟩ | cases h
theorem onM_ok {k:Vid→R} (h:x.onM k n=.ok):∃ v,x=.m v∧k v=.ok:=by cases x <;> first | exact⟨_,rfl,h⟩ | cases h
theorem onMO_ok {k:Option Vid→R} (h:x.onMO k n=.ok):(∃ v,x=.m v∧k (some v)=.ok)∨(x=.nm∧k none=.ok):=by cases x <;> first | exact .inl ⟨_,rfl,h⟩ | exact .inr ⟨rfl,h⟩ | cases h
theorem onF_ok {k:Nat→List V→List V→R} (h:x.onF k n=.ok):∃ F a c,x=.f F a c∧k F a c=.ok:=by cases x <;> first | exact⟨_,_,_,rfl,h⟩ | cases h
theorem onQ_ok {k:Nat→V→R} (h:x.onQ k n=.ok):∃ t y,x=.q t y∧k t y=.ok:=by cases x <;> first | exact⟨_,_,rfl,h⟩ | cases h
theorem onA_ok {k:List V→R} (h:x.onA k n=.ok):∃ l,AsA x l∧k l=.ok:=by cases x <;> first | exact⟨_,.a _,h⟩ | exact⟨_,.w _ _,h⟩ | cases h
theorem AsA.on {k:List V→R} {l:List V} (h:AsA x l):x.onA k n=k l:=by cases h <;> rfl
theorem onAW_ok {k:List V→R} {g:(Nat→V)→Nat→R} (h:x.onAW k g n=.ok):(∃ l,x=.a l∧k l=.ok)∨∃ f m,x=.w f m∧g f m=.ok:=by cases x <;> first | exact .inl ⟨_,rfl,h⟩ | exact .inr ⟨_,_,rfl,h⟩ | cases h
theorem onW_ok {k:R} {g:(Nat→V)→Nat→R} (h:x.onW k g=.ok):k=.ok∨∃ f m,x=.w f m∧g f m=.ok:=by cases x <;> first | exact .inl h | exact .inr ⟨_,_,rfl,h⟩
theorem onPq_ok {k0:R} {k:Vid→Nat→R} (h:x.onPq k0 k n=.ok):(x=.np∧k0=.ok)∨∃ v o,x=.p v o∧k v o=.ok:=by cases x <;> first | exact .inl ⟨rfl,h⟩ | exact .inr ⟨_,_,rfl,h⟩ | cases h
theorem onT_ok {k:List V→R} (h:x.onT k n=.ok):∃ l,x=.t l∧k l=.ok:=by cases x <;> first | exact⟨_,rfl,h⟩ | cases h
theorem onNil_ok {k:V→R} (h:x.onNil k n=.ok):((∃ v o,x=.p v o)∨(∃ F a c,x=.f F a c)∨∃ t y,x=.q t y)∧k x=.ok:=by
 cases x <;> first | exact⟨.inl ⟨_,_,rfl⟩,h⟩ | exact⟨.inr (.inl ⟨_,_,_,rfl⟩),h⟩ | exact⟨.inr (.inr ⟨_,_,rfl⟩),h⟩ | cases h
theorem onLen_ok {k:Nat→Nat→R} {g:Vid→R} (h:x.onLen k g n=.ok):(∃ l,x=.s l∧k 0 l.length=.ok)∨(∃ v o m c,x=.sl v o m c∧k 1 m=.ok)∨(∃ v o r p s,x=.se v o r p s∧k 1 0=.ok)∨(x=.ns∧k 1 0=.ok)∨(x=.nm∧k 2 0=.ok)∨∃ v,x=.m v∧g v=.ok:=by
 cases x
 case s l=>exact .inl ⟨_,rfl,by rw [← lenL_eq];exact h⟩
 case sl=>exact .inr (.inl ⟨_,_,_,_,rfl,h⟩)
 case se=>exact .inr (.inr (.inl ⟨_,_,_,_,_,rfl,h⟩))
 case ns=>exact .inr (.inr (.inr (.inl ⟨rfl,h⟩)))
 case nm=>exact .inr (.inr (.inr (.inr (.inl ⟨rfl,h⟩))))
 case m=>exact .inr (.inr (.inr (.inr (.inr ⟨_,rfl,h⟩))))
 all_goals cases h
theorem onG_ok {k:Bool→R} {u:R} (h:x.onG k u n=.ok):(∃ b,x=.b b∧k b=.ok)∨∃ l,x=.t l∧u=.ok:=by cases x <;> first | exact .inl ⟨_,rfl,h⟩ | exact .inr ⟨_,rfl,h⟩ | cases h
theorem onZ_ok {k:Nat→Bool→R} (h:x.onZ k n=.ok):(x=.np∧k 0 true=.ok)∨((∃ v o,x=.p v o)∧k 0 false=.ok)∨(x=.ns∧k 1 true=.ok)∨(((∃ v o m c,x=.sl v o m c)∨(∃ v o r p s,x=.se v o r p s))∧k 1 false=.ok)∨(x=.nm∧k 2 true=.ok)∨((∃ v,x=.m v)∧k 2 false=.ok):=by
 cases x
 case np=>exact .inl ⟨rfl,h⟩
 case p=>exact .inr (.inl ⟨⟨_,_,rfl⟩,h⟩)
 case ns=>exact .inr (.inr (.inl ⟨rfl,h⟩))
 case sl=>exact .inr (.inr (.inr (.inl ⟨.inl ⟨_,_,_,_,rfl⟩,h⟩)))
 case se=>exact .inr (.inr (.inr (.inl ⟨.inr ⟨_,_,_,_,_,rfl⟩,h⟩)))
 case nm=>exact .inr (.inr (.inr (.inr (.inl ⟨rfl,h⟩))))
 case m=>exact .inr (.inr (.inr (.inr (.inr ⟨⟨_,rfl⟩,h⟩))))
 all_goals cases h
theorem onApp_ok {k0:R} {k:Vid→Nat→Nat→Cp→R} (h:x.onApp k0 k n=.ok):(x=.ns∧k0=.ok)∨∃ v o m c,x=.sl v o m c∧k v o m c=.ok:=by cases x <;> first | exact .inl ⟨rfl,h⟩ | exact .inr ⟨_,_,_,_,rfl,h⟩ | cases h
theorem onSlN_ok {k0:R} {k:Vid→Nat→Nat→Cp→R} (h:x.onSlN k0 k n=.ok):(x=.ns∧k0=.ok)∨∃ v o m c,x=.sl v o m c∧k v o m c=.ok:=by cases x <;> first | exact .inl ⟨rfl,h⟩ | exact .inr ⟨_,_,_,_,rfl,h⟩ | cases h
theorem onRd_ok {k0:R} {k:Vid→Nat→Nat→R} {g:List Nat→R} (h:x.onRd k0 k g n=.ok):(x=.ns∧k0=.ok)∨(∃ v o r p s,x=.se v o r p s∧k0=.ok)∨(∃ v o m c,x=.sl v o m c∧k v o m=.ok)∨∃ l,x=.s l∧g l=.ok:=by
 cases x
 case ns=>exact .inl ⟨rfl,h⟩
 case se=>exact .inr (.inl ⟨_,_,_,_,_,rfl,h⟩)
 case sl=>exact .inr (.inr (.inl ⟨_,_,_,_,rfl,h⟩))
 case s=>exact .inr (.inr (.inr ⟨_,rfl,h⟩))
 all_goals cases h
theorem asI_ok {k:Nat→R} (h:asI x k=.ok):∃ κ i,x=.i κ (.ofNat i)∧k i=.ok:=by
 obtain⟨κ,i,rfl,h⟩:=onI_ok h
 cases i with
 | ofNat i=>exact⟨_,_,rfl,h⟩
 | negSucc i=>cases h
end
section
variable {D:Type}
def H.look (σ:H D) (v:Vid):Option (Blk D):=match σ with | .mk h _ _=>h.getp v
def H.log (σ:H D):List Vid:=match σ with | .mk _ _ l=>l
theorem H.get_ok {σ:H D} {v:Vid} {k:Blk D→R} (h:σ.get v k=.ok):∃ b,σ.look v=some b∧k b=.ok:=by
 cases σ;exact orE_ok h
theorem H.put_ok {σ:H D} {v:Vid} {b:Blk D} {k:H D→R} (h:σ.put v b k=.ok):∃ σ',(∀ v',σ'.look v'=if v'=v then some b else σ.look v')∧σ'.log=v::σ.log∧k σ'=.ok:=by
 cases σ with
 | mk t0 nx lg =>
  obtain⟨t,h1,h2⟩:=hputp_ok h
  exact⟨.mk t nx (v::lg),h1,rfl,h2⟩
theorem H.add_ok {σ:H D} {v:Vid} {b:Blk D} {k:H D→R} (h:σ.add v b k=.ok):σ.look v=none∧∃ σ',(∀ v',σ'.look v'=if v'=v then some b else σ.look v')∧σ'.log=v::σ.log∧k σ'=.ok:=by
 cases σ with
 | mk t nx lg =>
  have h':Option.rec (motive:=λ_=>R) (T5.putp b v t λh'=>k (.mk h' nx (v::lg))) (λ_=>R.no 6) (t.getp v)=.ok:=h
  cases hv:t.getp v with
  | some _=>rw [hv] at h';cases h'
  | none =>
   rw [hv] at h'
   obtain⟨t',h1,h2⟩:=hputp_ok h'
   exact⟨hv,.mk t' nx (v::lg),h1,rfl,h2⟩
theorem H.room_ok {σ:H D} {n:Nat} {k:List Vid→H D→R} (h:H.room n σ k=.ok):∃ vs σ',(∀ v,σ'.look v=σ.look v)∧σ'.log=σ.log∧k vs σ'=.ok:=by
 cases σ with
 | mk t nx lg =>
  have:∀ n m l,(Nat.rec (motive:=λ_=>Vid→List Vid→R) (λm l=>k l (.mk t m lg)) (λ_ ih m l=>fL (Nat.succ m) λm'=>ih m' (m::l)) n:Vid→List Vid→R) m l=.ok→∃ l m,k l (.mk t m lg)=.ok:=by
   intro n
   induction n with
   | zero=>intro m l h;exact⟨_,_,h⟩
   | succ n ih=>intro m l h;exact ih _ _ h
  obtain⟨l,m,h⟩:=this n nx [] h
  exact⟨l,.mk t m lg,λ_=>rfl,rfl,h⟩
theorem onC_ok {b:Blk D} {k:Bool→Nat→Tr V→Nat→Nat→R} {n:Nat} (h:b.onC k n=.ok):∃ ex m c ty sz,b=.cells ex m c ty sz∧k ex m c ty sz=.ok:=by
 cases b <;> first | exact⟨_,_,_,_,_,rfl,h⟩ | cases h
theorem onMp_ok {b:Blk D} {k:Nat→KS→List (V × V)→Nat→R} {n:Nat} (h:b.onM k n=.ok):∃ kT ks es ver,b=.map kT ks es ver∧k kT ks es ver=.ok:=by
 cases b <;> first | exact⟨_,_,_,_,rfl,h⟩ | cases h
theorem onIt_ok {b:Blk D} {k:Vid→Nat→List V→List (V × V)→R} {n:Nat} (h:b.onI k n=.ok):∃ m ver last rest,b=.iter m ver last rest∧k m ver last rest=.ok:=by
 cases b <;> first | exact⟨_,_,_,_,rfl,h⟩ | cases h
theorem H.cells_ok {σ:H D} {v:Vid} {k:Bool→Nat→Tr V→Nat→Nat→R} (h:σ.cells v k=.ok):∃ ex n c ty sz,σ.look v=some (.cells ex n c ty sz)∧k ex n c ty sz=.ok:=by
 obtain⟨b,h1,h2⟩:=H.get_ok h
 obtain⟨ex,n,c,ty,sz,rfl,h3⟩:=onC_ok h2
 exact⟨_,_,_,_,_,h1,h3⟩
theorem rdFrom_ok {c:Tr V}:∀ {n off:Nat} {k:List V→R},rdFrom c off n k=.ok→∃ l,l.length=n∧(∀ i,i < n→c.get (off + i)=l[i]?)∧k l=.ok
 | 0,off,k,h=>⟨[],rfl,λi hi=>by omega,h⟩
 | n + 1,off,k,h=>by
  have h':orE (c.get off) (λv=>fL (Nat.succ off) λo=>rdFrom c o n λl=>k (v::l)) 8=.ok:=h
  obtain⟨v,h1,h2⟩:=orE_ok h'
  rw [fL_eq] at h2
  obtain⟨l,h3,h4,h5⟩:=rdFrom_ok h2
  refine⟨v::l,by simp [h3],λi hi=>?_,h5⟩
  cases i with
  | zero=>simpa using h1
  | succ i =>
   have:=h4 i (by omega)
   rw [show off + (i + 1)=Nat.succ off + i from by omega]
   simpa using this
theorem wrFrom_ok:∀ {l:List V} {c:Tr V} {off:Nat} {k:Tr V→R},wrFrom l c off k=.ok→∃ c',(∀ j,c'.get j=if off≤j∧j < off + l.length then l[j - off]? else c.get j)∧k c'=.ok
 | [],c,off,k,h=>⟨c,λj=>by rw [if_neg (by intro h;simp at h;omega)],h⟩
 | v::l,c,off,k,h=>by
  have h':Tr.put v c off (λc'=>fL (Nat.succ off) λo=>wrFrom l c' o k)=.ok:=h
  obtain⟨c1,h1,h2⟩:=put_ok h'
  rw [fL_eq] at h2
  obtain⟨c2,h3,h4⟩:=wrFrom_ok h2
  refine⟨c2,λj=>?_,h4⟩
  rw [h3,h1]
  by_cases hj:j=off
  ·subst hj
   rw [if_neg (by omega),if_pos rfl,if_pos (by simp)]
   simp
  ·rw [if_neg hj]
   by_cases h5:Nat.succ off≤j∧j < Nat.succ off + l.length
   ·rw [if_pos h5,if_pos (by simp;omega),show j - off=(j - Nat.succ off) + 1 from by omega]
    simp
   ·rw [if_neg h5,if_neg (by simp;omega)]
theorem overK_ok {α:Type}:∀ {xs l:List α} {k:List α→R},overK xs l k=.ok→∃ l',l'.length=l.length∧xs.length≤l.length∧(∀ j:Nat,l'[j]?=if j < xs.length then xs[j]? else l[j]?)∧k l'=.ok
 | [],l,k,h=>⟨l,rfl,by simp,λj=>by simp,h⟩
 | x::xs,[],k,h=>by cases h
 | x::xs,y::l,k,h=>by
  obtain⟨l',h1,h2,h3,h4⟩:=overK_ok (show overK xs l (λt=>k (x::t))=.ok from h)
  refine⟨x::l',by simp [h1],by simpa using h2,λj=>?_,h4⟩
  cases j with
  | zero=>simp
  | succ j=>simp [h3]
theorem putK_ok {α:Type}:∀ {i:Nat} {xs l:List α} {k:List α→R},putK i xs l k=.ok→∃ l',l'.length=l.length∧i + xs.length≤l.length∧(∀ j,l'[j]?=if i≤j∧j < i + xs.length then xs[j - i]? else l[j]?)∧k l'=.ok
 | 0,xs,l,k,h=>by
  obtain⟨l',h1,h2,h3,h4⟩:=overK_ok (show overK xs l k=.ok from h)
  exact⟨l',h1,by omega,λj=>by rw [h3];simp,h4⟩
 | i + 1,xs,[],k,h=>by cases h
 | i + 1,xs,y::l,k,h=>by
  obtain⟨l',h1,h2,h3,h4⟩:=putK_ok (show putK i xs l (λt=>k (y::t))=.ok from h)
  refine⟨y::l',by simp [h1],by simp;omega,λj=>?_,h4⟩
  cases j with
  | zero=>simp
  | succ j =>
   rw [List.getElem?_cons_succ,h3,List.getElem?_cons_succ,show j + 1 - (i + 1)=j - i from by omega]
   by_cases hj:i≤j∧j < i + xs.length
   ·rw [if_pos hj,if_pos (by omega)]
   ·rw [if_neg hj,if_neg (by omega)]
def Live:Blk D→Prop
 | .cells ..=>True
 | .map ..=>True
 | .iter ..=>True
 | _=>False
structure Base where
 w:World
 M:Nat→Prop
def Base.New (w0:Base) (b:Nat):Prop:=w0.M b∨w0.w.heap.size≤b
theorem Base.new_of {w0:Base} {w:World} (h:Keeps w0.M w0.w w) {b:Nat} (hb:w.heap.size≤b):w0.New b:=.inr (Nat.le_trans h.size hb)
variable (P:Program) (Hd:D→Loc→View→Prop) (w0:Base)
structure CellsAt (φ:Phi) (w:World) (L:Loc) (ex:Bool) (n:Nat) (c:Tr V) (ty sz:Nat) (cs:Array Value):Prop where
 at_:w.heap[L.blk]?=some (.cells cs ty (0,0))
 get:∀ i x,c.get i=some x→i < n∧∃ y,dec φ x=some y∧cs[L.base + i]?=some y∧oneCell y=true
 has:∀ i,i < n→(c.get i).isSome=true
 full:ex=true→cs.size=n∧L.base=0
 open_:ex=false→0 < sz∧n≤L.cap * sz∧(0 < L.cap→L.base + L.cap * sz≤cs.size)
def KPs:KP→V→Prop
 | .int q,x=>∃ n,x=.i q n
 | .str,x=>∃ l,x=.s l
 | .bool,x=>∃ b,x=.b b
def KSs:KS→V→Prop
 | .p k,x=>KPs k x
 | .s ks,x=>∃ xs,AsA x xs∧All2 KPs ks xs
structure MapAt' (φ:Phi) (ks:KS) (arr:Array MapEntry) (clock:Nat) (es:List (V × V)):Prop where
 st:MapKept.Stamped arr clock
 size:arr.size=es.length
 shape:∀ p∈es,KSs ks p.1
 to_:∀ e∈arr.toList,∃ p∈es,dec φ p.1=some e.key∧dec φ p.2=some e.val
 of:∀ p∈es,∃ e∈arr.toList,dec φ p.1=some e.key∧dec φ p.2=some e.val
 nd:es.Pairwise λp q=>∀ a,dec φ p.1=some a→dec φ q.1≠some a
def BlkOK (σ:H D) (φ:Phi) (w:World) (L:Loc):Blk D→Prop
 | .cells ex n c ty sz=>w0.New L.blk∧∃ cs,CellsAt φ w L ex n c ty sz cs
 | .map kT ks es ver=>w0.New L.blk∧ksOf P kT=some ks∧∃ arr clock,w.heap[L.blk]?=some (.map arr clock)∧MapAt' φ ks arr clock es
 | .iter m ver last rest=>w0.New L.blk∧L.base=0∧∃ Lm since seen stepped,φ m=some Lm∧w.heap[L.blk]?=some (.mapIter (some Lm.blk) since seen stepped) ∧
   ∃ kT ks es ver',σ.look m=some (.map kT ks es ver')∧ver≤ver'∧(ver=ver'→∃ arr clock,w.heap[Lm.blk]?=some (.map arr clock)∧since=clock ∧
    ((last=[]∧seen=#[]∧stepped=clock)∨(stepped=clock∧∃ e∈arr.toList,seen.back?=some e.born∧decs φ last=some [e.key,e.val])) ∧
    (∀ s∈seen.toList,∃ e∈arr.toList,e.born=s) ∧
    (∀ e∈arr.toList,seen.contains e.born=false→∃ p∈rest,dec φ p.1=some e.key∧dec φ p.2=some e.val) ∧
    (∀ p∈rest,∃ e∈arr.toList,seen.contains e.born=false∧dec φ p.1=some e.key∧dec φ p.2=some e.val)∧(rest.Pairwise λp q=>∀ x,dec φ p.1=some x→dec φ q.1≠some x))
 | .opq d=>∃ Hv:View,Hd d L Hv∧(∀ b o,Hv b o→w.heap[b]?=some o)∧∀ b o,Hv b o→∀ v' b' L',σ.look v'=some b'→Live b'→φ v'=some L'→L'.blk≠b
 | .dead=>True
structure Rel (φ:Phi) (σ:H D) (w:World):Prop where
 keeps:Keeps w0.M w0.w w
 gone:∀ v,σ.look v=none→φ v=none
 blk:∀ v b,σ.look v=some b→b≠.dead→∃ L,φ v=some L∧BlkOK P Hd w0 σ φ w L b
 inj:∀ v v' b b' L L',σ.look v=some b→Live b→σ.look v'=some b'→Live b'→φ v=some L→φ v'=some L'→L.blk=L'.blk→v=v'
def Ext (σ σ':H D):Prop:=∃ l,σ'.log=l++σ.log∧∀ v,v ∉ l→σ'.look v=σ.look v
end
theorem Ext.refl {D:Type} (σ:H D):Ext σ σ:=⟨[],rfl,λ_ _=>rfl⟩
theorem Ext.trans {D:Type} {a b c:H D} (h:Ext a b) (h':Ext b c):Ext a c:=by
 obtain⟨l,h1,h2⟩:=h
 obtain⟨m,h3,h4⟩:=h'
 exact⟨m++l,by rw [h3,h1,List.append_assoc],λv hv=>by rw [h4 v (λhm=>hv (by simp [hm])),h2 v (λhm=>hv (by simp [hm]))]⟩
theorem Ext.put {D:Type} {σ σ':H D} {v:Vid} {b:Blk D} (h:∀ v',σ'.look v'=if v'=v then some b else σ.look v') (hl:σ'.log=v::σ.log):Ext σ σ' :=
 ⟨[v],hl,λv' hv=>by rw [h,if_neg (by simpa using hv)]⟩
theorem Ext.same {D:Type} {σ σ':H D} (h:∀ v',σ'.look v'=σ.look v') (hl:σ'.log=σ.log):Ext σ σ':=⟨[],hl,λv _=>h v⟩
section
variable {D:Type} {P:Program} {Hd:D→Loc→View→Prop} {w0:Base} {φ φ':Phi} {σ σ':H D} {w w':World}
theorem CellsAt.mono {L:Loc} {ex:Bool} {n:Nat} {c:Tr V} {ty sz:Nat} {cs:Array Value} (h:CellsAt φ w L ex n c ty sz cs) (hle:φ.le φ') (hw:w'.heap[L.blk]?=w.heap[L.blk]?):CellsAt φ' w' L ex n c ty sz cs :=
 ⟨by rw [hw];exact h.at_,λi x hx=>let ⟨h1,y,h2,h3⟩:=h.get i x hx;⟨h1,y,dec_mono hle x y h2,h3⟩,h.has,h.full,h.open_⟩
theorem MapAt'.mono {ks:KS} {arr:Array MapEntry} {clock:Nat} {es:List (V × V)} (h:MapAt' φ ks arr clock es) (hle:φ.le φ'):MapAt' φ' ks arr clock es :=
 ⟨h.st,h.size,h.shape,λe he=>let ⟨p,hp,h1,h2⟩:=h.to_ e he;⟨p,hp,dec_mono hle _ _ h1,dec_mono hle _ _ h2⟩,
  λp hp=>let ⟨e,he,h1,h2⟩:=h.of p hp;⟨e,he,dec_mono hle _ _ h1,dec_mono hle _ _ h2⟩,
  h.nd.imp_of_mem λ{p q} hp hq hpq a ha ha'=>by
   obtain⟨e1,_,b1,_⟩:=h.of p hp
   obtain⟨e2,_,b2,_⟩:=h.of q hq
   have c1:=dec_mono hle _ _ b1
   have c2:=dec_mono hle _ _ b2
   rw [ha] at c1;rw [ha'] at c2
   cases c1
   exact hpq _ b1 (by rw [b2];exact c2.symm)⟩
theorem BlkOK.ge {L:Loc} {b:Blk D} (h:BlkOK P Hd w0 σ φ w L b) (hl:Live b):w0.New L.blk:=by
 cases b <;> simp only [BlkOK] at h <;> first | exact h.1 | exact hl.elim
theorem BlkOK.some {L:Loc} {b:Blk D} (h:BlkOK P Hd w0 σ φ w L b) (hl:Live b):∃ o,w.heap[L.blk]?=some o:=by
 cases b <;> simp only [BlkOK] at h
 case cells=>obtain⟨_,cs,hc⟩:=h;exact⟨_,hc.at_⟩
 case map=>obtain⟨_,_,arr,clock,hc,_⟩:=h;exact⟨_,hc⟩
 case iter=>obtain⟨_,_,Lm,since,seen,st,_,hc,_⟩:=h;exact⟨_,hc⟩
 all_goals exact hl.elim
theorem Rel.live (h:Rel P Hd w0 φ σ w) {v:Vid} {b:Blk D} (hv:σ.look v=some b) (hl:Live b):∃ L,φ v=some L∧BlkOK P Hd w0 σ φ w L b :=
 h.blk v b hv (by rintro rfl;exact hl)
theorem Rel.cells (h:Rel P Hd w0 φ σ w) {v:Vid} {ex:Bool} {n:Nat} {c:Tr V} {ty sz:Nat} (hv:σ.look v=some (.cells ex n c ty sz)):∃ L cs,φ v=some L∧w0.New L.blk∧CellsAt φ w L ex n c ty sz cs:=by
 obtain⟨L,h1,h2,cs,h3⟩:=h.live hv trivial
 exact⟨L,cs,h1,h2,h3⟩
theorem Rel.step {Ch:Nat→Prop} (h:Rel P Hd w0 φ σ w) (hle:φ.le φ') (hk:Keeps Ch w w')
  (hch:∀ b,b < w.heap.size→Ch b→∃ u bu Lu,σ.look u=some bu∧Live bu∧φ u=some Lu∧Lu.blk=b)
  (hnone:∀ v,σ'.look v=none→φ' v=none)
  (hlive:∀ v b L,σ'.look v=some b→Live b→φ' v=some L→(∃ u bu Lu,σ.look u=some bu∧Live bu∧φ u=some Lu∧Lu.blk=L.blk)∨w.heap.size≤L.blk)
  (hinj:∀ v v' b b' L L',σ'.look v=some b→Live b→σ'.look v'=some b'→Live b'→φ' v=some L→φ' v'=some L'→L.blk=L'.blk→v=v')
  (hold:∀ v b,σ'.look v=some b→b≠.dead→(σ.look v=some b∧∀ L,φ v=some L→Live b→¬ Ch L.blk)∨∃ L,φ' v=some L∧BlkOK P Hd w0 σ' φ' w' L b)
  (hmap:∀ m kT ks es ver,σ.look m=some (.map kT ks es ver)→(σ'.look m=some (.map kT ks es ver)∧∀ L,φ m=some L→¬ Ch L.blk)∨∃ es' ver',σ'.look m=some (.map kT ks es' ver')∧ver < ver') :
  Rel P Hd w0 φ' σ' w':=by
 have hkeep:∀ {b:Nat} {o:Obj},w.heap[b]?=some o→¬ Ch b→w'.heap[b]?=some o:=λh1 h2=>hk.blk h1 h2
 refine⟨?_,hnone,λv b hv hd=>?_,hinj⟩
 ·exact h.keeps.then hk λb hb hc=>by
   obtain⟨u,bu,Lu,h1,h2,h3,h4⟩:=hch b (Nat.lt_of_lt_of_le hb h.keeps.size) hc
   obtain⟨L,h5,h6⟩:=h.live h1 h2
   rw [h3] at h5;cases h5
   rcases h6.ge h2 with h7 | h7
   ·rw [h4] at h7;exact h7
   ·omega
 ·rcases hold v b hv hd with⟨h1,h2⟩ | h1
  ·obtain⟨L,h3,h4⟩:=h.blk v b h1 hd
   refine⟨L,hle v L h3,?_⟩
   have h2':=h2 L h3
   cases b with
   | cells ex n c ty sz =>
    obtain⟨h5,cs,h6⟩:=h4
    exact⟨h5,cs,h6.mono hle (by rw [h6.at_];exact hkeep h6.at_ (h2' trivial))⟩
   | map kT ks es ver =>
    obtain⟨h5,h50,arr,clock,h6,h7⟩:=h4
    exact⟨h5,h50,arr,clock,hkeep h6 (h2' trivial),h7.mono hle⟩
   | iter m ver last rest =>
    obtain⟨h5,h6,Lm,since,seen,st,h7,h8,kT,ks,es,ver',h9,h10,h11⟩:=h4
    rcases hmap m kT ks es ver' h9 with⟨h12,h13⟩ | ⟨es',ver'',h12,h13⟩
    ·refine⟨h5,h6,Lm,since,seen,st,hle _ _ h7,hkeep h8 (h2' trivial),kT,ks,es,ver',h12,h10,λhe=>?_⟩
     obtain⟨arr,clock,a1,a2,a3,a4,a5,a6,a7⟩:=h11 he
     refine⟨arr,clock,hkeep a1 (h13 Lm h7),a2,a3.imp id (λ⟨b1,e,b2,b3,b4⟩=>⟨b1,e,b2,b3,decs_mono hle _ _ b4⟩),a4,λe he hs=>?_,λp hp=>?_,a7.imp_of_mem λ{p q} hp hq hpq x hx hx'=>?_⟩
     ·obtain⟨p,hp,b1,b2⟩:=a5 e he hs;exact⟨p,hp,dec_mono hle _ _ b1,dec_mono hle _ _ b2⟩
     ·obtain⟨e,he,hs,b1,b2⟩:=a6 p hp;exact⟨e,he,hs,dec_mono hle _ _ b1,dec_mono hle _ _ b2⟩
     ·obtain⟨e1,_,_,b1,_⟩:=a6 p hp
      obtain⟨e2,_,_,b2,_⟩:=a6 q hq
      have c1:=dec_mono hle _ _ b1
      have c2:=dec_mono hle _ _ b2
      rw [hx] at c1;rw [hx'] at c2
      cases c1;
      exact hpq _ b1 (by rw [b2];exact c2.symm)
    ·exact⟨h5,h6,Lm,since,seen,st,hle _ _ h7,hkeep h8 (h2' trivial),kT,ks,es',ver'',h12,by omega,λhe=>by omega⟩
   | opq d =>
    obtain⟨Hv,h5,h6,h7⟩:=h4
    refine⟨Hv,h5,λb o hb=>hkeep (h6 b o hb) λhc=>?_,λb o hb v' b' L' h8 h9 h10 he=>?_⟩
    ·obtain⟨u,bu,Lu,h1,h2,h3,h4⟩:=hch b (lt_of_some (h6 b o hb)) hc
     exact h7 b o hb u bu Lu h1 h2 h3 h4
    ·rcases hlive v' b' L' h8 h9 h10 with⟨u,bu,Lu,a1,a2,a3,a4⟩ | a1
     ·exact h7 b o hb u bu Lu a1 a2 a3 (a4.trans he)
     ·have:=lt_of_some (h6 b o hb);omega
   | dead=>exact absurd rfl hd
  ·exact h1
theorem Rel.same (h:Rel P Hd w0 φ σ w) (hw:w'.heap=w.heap) (hk:Keeps No w w') (hσ:∀ v,σ'.look v=σ.look v):Rel P Hd w0 φ σ' w':=by
 refine h.step (Ch:=No) (Phi.le.refl _) hk (λ_ _ h=>h.elim) (λv hv=>h.gone v (by rw [← hσ];exact hv)) (λv b L hv hl hL=>.inl ⟨v,b,L,by rw [← hσ];exact hv,hl,hL,rfl⟩)
  (λv v' b b' L L' h1 h2 h3 h4=>h.inj v v' b b' L L' (by rw [← hσ];exact h1) h2 (by rw [← hσ];exact h3) h4) (λv b hv _=>.inl ⟨by rw [← hσ];exact hv,λ_ _ _ h=>h⟩)
  (λm kT ks es ver hm=>.inl ⟨by rw [hσ];exact hm,λ_ _ h=>h⟩)
theorem Rel.drew (h:Rel P Hd w0 φ σ w):Rel P Hd w0 φ σ w.drew:=h.same rfl Keeps.drew λ_=>rfl
theorem Rel.set (h:Rel P Hd w0 φ σ w) {v:Vid} {b b':Blk D} {L:Loc} {o:Obj} (hv:σ.look v=some b) (hl:Live b) (hL:φ v=some L) (hu:Upd L.blk o w w')
  (hσ:∀ v',σ'.look v'=if v'=v then some b' else σ.look v') (hl':Live b') (hm:∀ kT ks es ver,b=.map kT ks es ver→∃ es' ver',b'=.map kT ks es' ver'∧ver < ver')
  (hb:BlkOK P Hd w0 σ' φ w' L b'):Rel P Hd w0 φ σ' w':=by
 have hof:∀ {u c},σ'.look u=some c→Live c→∃ c',σ.look u=some c'∧Live c':=by
  intro u c hu hc
  rw [hσ] at hu
  by_cases huv:u=v
  ·subst huv;exact⟨b,hv,hl⟩
  ·rw [if_neg huv] at hu;exact⟨c,hu,hc⟩
 refine h.step (Ch:=(·=L.blk)) (Phi.le.refl _) hu.keeps (λb' _ hb=>⟨v,b,L,hv,hl,hL,hb.symm⟩) (λu hn=>?_) (λu c L' hu hc hL'=>?_) (λu u' c c' M M' h1 h2 h3 h4 h5 h6 h7=>?_) (λu c hu hd=>?_) (λm kT ks es ver hm'=>?_)
 ·rw [hσ] at hn
  by_cases huv:u=v
  ·rw [if_pos huv] at hn;cases hn
  ·rw [if_neg huv] at hn;exact h.gone u hn
 ·obtain⟨c',h1,h2⟩:=hof hu hc
  exact .inl ⟨u,c',L',h1,h2,hL',rfl⟩
 ·obtain⟨d,e1,e2⟩:=hof h1 h2
  obtain⟨d',e3,e4⟩:=hof h3 h4
  exact h.inj u u' d d' M M' e1 e2 e3 e4 h5 h6 h7
 ·rw [hσ] at hu
  by_cases huv:u=v
  ·subst huv;rw [if_pos rfl] at hu;cases hu;exact .inr ⟨L,hL,hb⟩
  ·rw [if_neg huv] at hu
   refine .inl ⟨hu,λM hM hc he=>huv (h.inj u v c b M L hu hc hv hl hM hL he)⟩
 ·by_cases huv:m=v
  ·subst huv
   rw [hv] at hm';cases hm'
   obtain⟨es',ver',h1,h2⟩:=hm kT ks es ver rfl
   exact .inr ⟨es',ver',by rw [hσ,if_pos rfl,h1],h2⟩
  ·refine .inl ⟨by rw [hσ,if_neg huv];exact hm',λM hM he=>huv (h.inj m v _ b M L hm' trivial hv hl hM hL he)⟩
def Phi.with (φ:Phi) (v:Vid) (L:Loc):Phi:=λu=>if u=v then some L else φ u
theorem Phi.with_le {v:Vid} {L:Loc} (h:φ v=none):φ.le (φ.with v L):=λu M hu=>by
 unfold Phi.with
 rw [if_neg]
 ·exact hu
 ·rintro rfl;rw [h] at hu;cases hu
theorem Phi.with_eq {v:Vid} {L:Loc}:φ.with v L v=some L:=by simp [Phi.with]
theorem Rel.new (h:Rel P Hd w0 φ σ w) {v:Vid} {b':Blk D} {L:Loc} {o:Obj} (hv:σ.look v=none) (hn:New L.blk o w w') (hσ:∀ v',σ'.look v'=if v'=v then some b' else σ.look v')
  (hb:BlkOK P Hd w0 σ' (φ.with v L) w' L b'):Rel P Hd w0 (φ.with v L) σ' w':=by
 have hne:∀ {u c},σ.look u=some c→u≠v:=by rintro u c hu rfl;rw [hv] at hu;cases hu
 have hlt:∀ {u c M},σ.look u=some c→Live c→φ u=some M→M.blk < w.heap.size:=by
  intro u c M hu hc hM
  obtain⟨M',h1,h2⟩:=h.live hu hc
  rw [hM] at h1;cases h1
  obtain⟨o,ho⟩:=h2.some hc
  exact lt_of_some ho
 refine h.step (Ch:=No) (Phi.with_le (h.gone v hv)) hn.keeps (λ_ _ h=>h.elim) (λu hu=>?_) (λu c M hu hc hM=>?_) (λu u' c c' M M' h1 h2 h3 h4 h5 h6 h7=>?_) (λu c hu hd=>?_) (λm kT ks es ver hm'=>?_)
 ·rw [hσ] at hu
  by_cases huv:u=v
  ·rw [if_pos huv] at hu;cases hu
  ·rw [if_neg huv] at hu;simp [Phi.with,huv,h.gone u hu]
 ·rw [hσ] at hu
  by_cases huv:u=v
  ·subst huv;rw [Phi.with_eq] at hM;cases hM;exact .inr (by rw [hn.eq];exact Nat.le_refl _)
  ·rw [if_neg huv] at hu
   simp only [Phi.with,if_neg huv] at hM
   exact .inl ⟨u,c,M,hu,hc,hM,rfl⟩
 ·rw [hσ] at h1 h3
  by_cases huv:u=v
  ·by_cases huv':u'=v
   ·rw [huv,huv']
   ·subst huv
    rw [if_neg huv'] at h3
    simp only [Phi.with,if_neg huv'] at h6
    rw [Phi.with_eq] at h5;cases h5
    have:=hlt h3 h4 h6
    rw [← h7,hn.eq] at this;omega
  ·rw [if_neg huv] at h1
   simp only [Phi.with,if_neg huv] at h5
   by_cases huv':u'=v
   ·subst huv'
    rw [Phi.with_eq] at h6;cases h6
    have:=hlt h1 h2 h5
    rw [h7,hn.eq] at this;omega
   ·rw [if_neg huv'] at h3
    simp only [Phi.with,if_neg huv'] at h6
    exact h.inj u u' c c' M M' h1 h2 h3 h4 h5 h6 h7
 ·rw [hσ] at hu
  by_cases huv:u=v
  ·subst huv;rw [if_pos rfl] at hu;cases hu;exact .inr ⟨L,Phi.with_eq,hb⟩
  ·rw [if_neg huv] at hu;exact .inl ⟨hu,λ_ _ _ h=>h⟩
 ·exact .inl ⟨by rw [hσ,if_neg (hne hm')];exact hm',λ_ _ h=>h⟩
def Post (P:Program) (Hd:D→Loc→View→Prop) (w0:Base) (φ:Phi) (σ:H D) (k:V→H D→R) (y:Value) (w':World):Prop :=
 ∃ φ' v σ',φ.le φ'∧Rel P Hd w0 φ' σ' w'∧dec φ' v=some y∧Ext σ σ'∧k v σ'=.ok
theorem Post.pure (h:Rel P Hd w0 φ σ w) {v:V} {y:Value} {k:V→H D→R} (hv:dec φ v=some y) (hk:k v σ=.ok):Post P Hd w0 φ σ k y w:=⟨φ,v,σ,.refl _,h,hv,.refl _,hk⟩
theorem Rel.cell (h:Rel P Hd w0 φ σ w) {v:Vid} {ex:Bool} {n:Nat} {c:Tr V} {ty sz:Nat} (hv:σ.look v=some (.cells ex n c ty sz)) {off:Nat} {u:V} (hu:c.get off=some u) {y:Value} (hy:dec φ (.p v off)=some y) :
  ∃ a z,y=.pointer (some a)∧w.cell? a=some z∧dec φ u=some z∧oneCell z=true∧∀ i u',c.get (off + i)=some u'→∃ z',w.cell? (a.add i)=some z'∧dec φ u'=some z'∧oneCell z'=true:=by
 obtain⟨L,cs,h1,h2,h3⟩:=h.cells hv
 simp only [dec,h1,Option.map_some,Option.some.injEq] at hy
 subst hy
 have key:∀ i u',c.get (off + i)=some u'→∃ z',w.cell? (Addr.add ⟨L.blk,L.base + off,none⟩ i)=some z'∧dec φ u'=some z'∧oneCell z'=true:=by
  intro i u' hu'
  obtain⟨_,z,h4,h5,h6⟩:=h3.get _ _ hu'
  refine⟨z,?_,h4,h6⟩
  rw [add_eq]
  exact cell_of h3.at_ (by rw [← h5];congr 1;omega)
 obtain⟨z,h4,h5,h6⟩:=key 0 u hu
 exact⟨_,z,rfl,by simpa [Addr.add] using h4,h5,h6,key⟩
theorem vLd_ok {x:V} {k:V→R} (h:vLd x σ k=.ok):∃ v off ex n c ty sz u,x=.p v off∧σ.look v=some (.cells ex n c ty sz)∧c.get off=some u∧k u=.ok:=by
 obtain⟨v,off,rfl,h⟩:=onP_ok h
 obtain⟨ex,n,c,ty,sz,h1,h⟩:=H.cells_ok h
 obtain⟨u,h2,h3⟩:=orE_ok h
 exact⟨v,off,ex,n,c,ty,sz,u,rfl,h1,h2,h3⟩
theorem CellsAt.in_ {L:Loc} {ex:Bool} {n:Nat} {c:Tr V} {ty sz:Nat} {cs:Array Value} (h:CellsAt φ w L ex n c ty sz cs) {i:Nat} (hi:i < n):∃ u y,c.get i=some u∧dec φ u=some y∧cs[L.base + i]?=some y∧oneCell y=true:=by
 obtain⟨u,hu⟩:=Option.isSome_iff_exists.1 (h.has i hi)
 obtain⟨_,y,h1,h2,h3⟩:=h.get i u hu
 exact⟨u,y,hu,h1,h2,h3⟩
theorem vLdA_ok {m:Nat} {x:V} {k:V→R} (h:vLdA m x σ k=.ok):∃ v off ex n c ty sz u l,x=.p v off∧σ.look v=some (.cells ex n c ty sz)∧AsA u l∧l.length=m∧((∀ i,i < n→(c.get i).isSome=true)→∀ i,i < m→c.get (off + i)=l[i]?)∧k u=.ok:=by
 obtain⟨v,off,rfl,h⟩:=onP_ok h
 obtain⟨ex,n,c,ty,sz,h1,h⟩:=H.cells_ok h
 rcases iff_t (b:=Nat.ble m 16) h with⟨_,h⟩ | ⟨_,h⟩
 ·obtain⟨l,h2,h3,h4⟩:=rdFrom_ok h
  exact⟨v,off,ex,n,c,ty,sz,_,l,rfl,h1,.a l,h2,λ_=>h3,h4⟩
 ·obtain⟨hb,h⟩:=iff_ok h
  have hb:off + m≤n:=Nat.le_of_ble_eq_true hb
  refine⟨v,off,ex,n,c,ty,sz,_,_,rfl,h1,.w _ _,by rw [wL_eq];simp,λhh i hi=>?_,h⟩
  obtain⟨u,hu⟩:=Option.isSome_iff_exists.1 (hh (off + i) (by omega))
  rw [wL_eq,hu]
  have:cellF c off i=u:=by show Option.rec (motive:=λ_=>V) .np (λx=>x) (c.get (off + i))=u;rw [hu]
  simp [hi,this]
theorem loadCellsFrom_ok {a:Addr} {w:World}:∀ (vs:List Value) (i:Nat) (acc:Array Value),(∀ (j:Nat) v,vs[j]?=some v→w.cell? (a.add (i + j))=some v) →
  (loadCellsFrom a i vs.length acc).run P w=.ok (acc++vs.toArray) w
 | [],i,acc,h=>by simp [loadCellsFrom]
 | v::vs,i,acc,h=>by
  have h0:=h 0 v rfl
  simp only [List.length_cons,loadCellsFrom,load,Sem.run_bind,Sem.run,Nat.add_zero] at h0 ⊢
  rw [h0]
  simp only [Sem.run_pure,Result.andThen_ok]
  rw [loadCellsFrom_ok vs (i + 1) (acc.push v) λj u hu=>by rw [show i + 1 + j=i + (j + 1) from by omega];exact h (j + 1) u (by simpa using hu)]
  simp
theorem run_loadCells {a:Addr} {w:World} {vs:List Value} (h:∀ (j:Nat) v,vs[j]?=some v→w.cell? (a.add j)=some v):(loadCells a vs.length).run P w=.ok vs.toArray w:=by
 unfold loadCells
 rw [loadCellsFrom_ok vs 0 #[] (by simpa using h)]
 simp
end
def opdV (x:Opd) (L:Lc) (e:E):Option V:=match x with
 | .l j=>nth j L
 | .t p=>e.getp p
 | .c v=>some v
 | .bad=>none
theorem getO_ok {x:Opd} {L:Lc} {e:E} {k:V→R} (h:getO x L e k=.ok):∃ u,opdV x L e=some u∧k u=.ok:=by
 cases x with
 | l j=>exact orE_ok (show orE (nth j L) k 1=.ok from h)
 | t p=>exact orE_ok (show orE (e.getp p) k 2=.ok from h)
 | c v=>exact⟨v,rfl,h⟩
 | bad=>cases h
theorem getL_ok {L:Lc} {e:E}:∀ {l:List Opd} {k:List V→R},getL l L e k=.ok→∃ us,All2 (λx u=>opdV x L e=some u) l us∧k us=.ok
 | [],k,h=>⟨[],.nil,h⟩
 | x::l,k,h=>by
  have h':getO x L e (λv=>getL l L e λvs=>k (v::vs))=.ok:=h
  obtain⟨u,h1,h2⟩:=getO_ok h'
  obtain⟨us,h3,h4⟩:=getL_ok h2
  exact⟨u::us,.cons h1 h3,h4⟩
theorem bytes_const (s:ByteArray):bytesOf (s.data.toList.map (·.toNat))=s:=by
 cases s with
 | mk d =>
  unfold bytesOf
  congr 1
  rw [List.map_map]
  have:(UInt8.ofNat ∘ λx:UInt8=>x.toNat)=id:=by funext x;simp
  rw [this];simp
theorem cellC_dec {φ:Phi} {v:Value} {x:V} (h:cellC v=some x):dec φ x=some v:=by
 unfold cellC at h
 split at h <;> first | (cases h;done) | skip
 all_goals (simp only [Option.some.injEq] at h;subst h)
 all_goals first | rfl | (simp [dec,decs,bytes_const];done)
theorem cellC_one {v:Value} {x:V} (h:cellC v=some x):oneCell v=true∧x.one=true:=by
 unfold cellC at h
 split at h <;> first | (cases h;done) | skip
 all_goals (simp only [Option.some.injEq] at h;subst h;exact⟨rfl,rfl⟩)
theorem cellsC_dec {φ:Phi}:∀ {l:List Value} {x:List V},cellsC l=some x→decs φ x=some l
 | [],x,h=>by simp [cellsC] at h;subst h;rfl
 | v::l,x,h=>by
  simp only [cellsC] at h
  split at h <;> try (cases h;done)
  rename_i a b ha hb
  simp at h;subst h
  exact decs_cons (cellC_dec ha) (cellsC_dec hb)
theorem cellsC_one:∀ {l:List Value} {x:List V},cellsC l=some x→(∀ v∈l,oneCell v=true)∧∀ u∈x,u.one=true
 | [],x,h=>by simp [cellsC] at h;subst h;simp
 | v::l,x,h=>by
  simp only [cellsC] at h
  split at h <;> try (cases h;done)
  rename_i a b ha hb
  simp at h;subst h
  obtain⟨h1,h2⟩:=cellsC_one hb
  obtain⟨h3,h4⟩:=cellC_one ha
  refine⟨λu hu=>?_,λu hu=>?_⟩
  ·rcases List.mem_cons.1 hu with rfl | hu
   ·exact h3
   ·exact h1 u hu
  ·rcases List.mem_cons.1 hu with rfl | hu
   ·exact h4
   ·exact h2 u hu
theorem valC_dec {φ:Phi} {v:Value} {x:V} (h:valC v=some x):dec φ x=some v:=by
 unfold valC at h
 split at h
 ·obtain⟨l,h1,rfl⟩:=kE h
  simp [dec,cellsC_dec h1]
 ·rename_i vs
  split at h <;> try (cases h;done)
  rename_i hv
  simp at h;subst h
  have:vs=#[]:=by cases vs;simp_all
  subst this;rfl
 ·exact cellC_dec h
structure Cx (φ:Phi) (loc:List (Option Nat)) (L:Lc) (e:E) (ρ:Operand→Value):Prop where
 tmp:∀ t u,opdV (tmpO loc t) L e=some u→dec φ u=some (ρ (.tmp t))
 const:∀ v,ρ (.const v)=v
 func:∀ f,ρ (.func f)=.func (.func f) #[] #[]
theorem Cx.opd {φ:Phi} {loc:List (Option Nat)} {L:Lc} {e:E} {ρ:Operand→Value} (h:Cx φ loc L e ρ) {x:Operand} {u:V} (hx:opdV (opd loc x) L e=some u):dec φ u=some (ρ x):=by
 cases x with
 | tmp t=>exact h.tmp t u hx
 | const v =>
  simp only [Ev.opd] at hx
  rw [h.const]
  cases hv:valC v with
  | none=>rw [hv] at hx;cases hx
  | some y=>rw [hv] at hx;simp only [opdV,Option.some.injEq] at hx;subst hx;exact valC_dec hv
 | global g=>cases hx
 | func f=>simp only [Ev.opd,opdV,Option.some.injEq] at hx;subst hx;rw [h.func];rfl
theorem Cx.opds {φ:Phi} {loc:List (Option Nat)} {L:Lc} {e:E} {ρ:Operand→Value} (h:Cx φ loc L e ρ):∀ {l:List Operand} {us:List V},All2 (λx u=>opdV x L e=some u) (opds loc l) us→decs φ us=some (l.map ρ)
 | [],us,ha=>by cases ha;rfl
 | x::l,us,ha=>by
  cases ha with
  | cons h1 h2=>exact decs_cons (h.opd h1) (h.opds h2)
theorem kIx_eq {a b:IntKind} (h:Nat.beq (kIx a) (kIx b)=true):a=b:=by cases a <;> cases b <;> first | rfl | cases h
theorem ilt_eq (a b:Int):ilt a b=decide (a < b):=by
 cases a <;> cases b <;> rename_i x y
 ·show Nat.blt x y=_
  by_cases h:x < y
  ·rw [show Nat.blt x y=true by simpa using h];simp;omega
  ·rw [show Nat.blt x y=false by cases hb:Nat.blt x y with | false=>rfl | true=>exact absurd (by simpa using hb) h];simp;omega
 ·show false=_;simp;omega
 ·show true=_;simp;omega
 ·show Nat.blt y x=_
  by_cases h:y < x
  ·rw [show Nat.blt y x=true by simpa using h];simp;omega
  ·rw [show Nat.blt y x=false by cases hb:Nat.blt y x with | false=>rfl | true=>exact absurd (by simpa using hb) h];simp;omega
theorem nbeq (x y:Nat):Nat.beq x y=decide (x=y):=by
 cases h:Nat.beq x y with
 | true=>simp [kB h]
 | false=>simp [Nat.ne_of_beq_eq_false h]
theorem ieq_eq (a b:Int):ieq a b=(a==b):=by
 cases a <;> cases b <;> rename_i x y
 ·show Nat.beq x y=_;rw [nbeq];by_cases h:x=y <;> simp [h];omega
 ·show false=_;symm;simp
 ·show false=_;symm;simp
 ·show Nat.beq x y=_;rw [nbeq];by_cases h:x=y <;> simp [h]
theorem wrap_in {k:IntKind} (m:Nat) (h:(m:Int) < 2 ^ (if k.signed then k.bits - 1 else k.bits)):k.wrap (Int.ofNat m)=Int.ofNat m:=by
 cases k <;> simp [IntKind.wrap,IntKind.bits,IntKind.signed] at h ⊢ <;> omega
theorem wrap_neg {k:IntKind} (m:Nat) (h1:k.signed=true) (h:m < limK k):k.wrap (Int.negSucc m)=Int.negSucc m:=by
 cases k <;> simp [IntKind.signed] at h1 <;> simp [limK] at h <;> simp only [IntKind.wrap,IntKind.bits,IntKind.signed] <;> simp <;> omega
theorem forK_eq (κ:IntKind) (z:Int) (k:V→R):forK κ z k=k (.i κ z):=by cases z <;> rfl
theorem numK_eq (κ:IntKind) (z:Int) (k:V→R):numK κ z k=k (.i κ (κ.wrap z)):=by
 cases z with
 | ofNat n =>
  show iff' (Nat.blt n (limK κ)) (k (.i κ (.ofNat n))) (forK κ (κ.wrap (.ofNat n)) k)=_
  cases h:Nat.blt n (limK κ) with
  | false=>exact forK_eq ..
  | true =>
   show k (.i κ (.ofNat n))=_
   have h:n < limK κ:=by simpa using h
   rw [wrap_in n (by cases κ <;> simp [limK] at h <;> simp [IntKind.bits,IntKind.signed] <;> omega)]
 | negSucc m =>
  show iff' (Nat.blt (kIx κ) 4&&Nat.blt m (limK κ)) (k (.i κ (.negSucc m))) (forK κ (κ.wrap (.negSucc m)) k)=_
  cases h:(Nat.blt (kIx κ) 4&&Nat.blt m (limK κ)) with
  | false=>exact forK_eq ..
  | true =>
   show k (.i κ (.negSucc m))=_
   simp only [Bool.and_eq_true] at h
   rw [wrap_neg m (by cases κ <;> first | rfl | exact absurd h.1 (by decide)) (by simpa using h.2)]
theorem int2_eq {f:Nat→Nat→Int} {g:Int→Int→Int} (h:∀ x y:Nat,f x y=g (.ofNat x) (.ofNat y)) (a b:Int):int2 f g a b=g a b:=by
 cases a <;> cases b <;> first | exact h _ _ | rfl
theorem subN_eq (x y:Nat):subN x y=Int.sub (.ofNat x) (.ofNat y):=by
 show Bool.rec (motive:=λ_=>Int) _ _ (Nat.ble y x)=Int.ofNat x - Int.ofNat y
 cases h:Nat.ble y x with
 | false =>
  have:¬ y≤x:=λh'=>by rw [Nat.ble_eq_true_of_le h'] at h;cases h
  show Int.negSucc (y - x - 1)=_
  simp only [Int.ofNat_eq_natCast];omega
 | true =>
  have:y≤x:=Nat.le_of_ble_eq_true h
  show Int.ofNat (x - y)=_
  simp only [Int.ofNat_eq_natCast];omega
theorem minN_eq (x y:Nat):minN x y=min x y:=by
 show Bool.rec (motive:=λ_=>Nat) y x (Nat.ble x y)=_
 cases h:Nat.ble x y with
 | false =>
  have:¬ x≤y:=λh'=>by rw [Nat.ble_eq_true_of_le h'] at h;cases h
  show y=_;omega
 | true =>
  have:x≤y:=Nat.le_of_ble_eq_true h
  show x=_;omega
theorem bitsN_eq (κ:IntKind):bitsN κ=κ.bits:=by cases κ <;> rfl
theorem yesNo_eq (b:Bool) (k:V→R):yesNo b k=k (.b b):=by cases b <;> rfl
theorem noYes_eq (b:Bool) (k:V→R):noYes b k=k (.b (!b)):=by cases b <;> rfl
theorem binV_ok {f:IntKind→Int→Int→(V→R)→R} {x y:V} {k:V→R} (h:binV f x y k=.ok):∃ κ a b,x=.i κ a∧y=.i κ b∧f κ a b k=.ok:=by
 obtain⟨κ,a,e1,h1⟩:=onI_ok h
 obtain⟨κ',b,e2,h2⟩:=onI_ok h1
 obtain⟨hk,h3⟩:=iff_ok h2
 have:=kIx_eq hk;subst this
 exact⟨κ,a,b,e1,e2,h3⟩
theorem seq_eq:∀ (a b:List Nat),seq' a b=((bytesOf a).toList==(bytesOf b).toList):=by
 have key:∀ l:List Nat,(bytesOf l).toList=l.map UInt8.ofNat:=by
  intro l
  simp [bytesOf,ByteArray.toList_eq]
 intro a
 induction a with
 | nil =>
  intro b
  cases b with
  | nil=>simp only [key];rfl
  | cons y b=>simp only [key];show false=_;simp
 | cons x a ih =>
  intro b
  cases b with
  | nil=>simp only [key];show false=_;simp
  | cons y b =>
   have ih':=ih b
   simp only [key] at ih' ⊢
   show Bool.rec (motive:=λ_=>Bool) false (seq' a b) (Nat.beq (x % 256) (y % 256))=_
   simp only [List.map_cons]
   have hxy:(UInt8.ofNat x=UInt8.ofNat y)↔x % 256=y % 256:=by
    constructor
    ·intro h;have:=congrArg UInt8.toNat h;simpa using this
    ·intro h;apply UInt8.toNat_inj.1;simpa using h
   rw [nbeq]
   by_cases h:x % 256=y % 256
   ·simp [h,hxy.2 h,ih']
   ·have h':¬ UInt8.ofNat x=UInt8.ofNat y:=λe=>h (hxy.1 e)
    simp [h,h']
section
variable {P:Program} {φ:Phi} {loc:List (Option Nat)} {L:Lc} {e:E} {ρ:Operand→Value} {o:Oper} {k:V→R}
def PureOK (P:Program) (φ:Phi) (ρ:Operand→Value) (o:Oper) (k:V→R):Prop:=∃ u y,dec φ u=some y∧(∀ w,(execOp ρ o).run P w=.ok (.value y) w)∧k u=.ok
theorem run_v {s:Sem Value} {w w':World} {v:Value} (h:s.run P w=.ok v w'):(do pure (Next.value (← s)):Sem Next).run P w=.ok (.value v) w':=by simp [h]
theorem run_u {s:Sem Unit} {w w':World} (h:s.run P w=.ok () w'):(do s;pure Next.skip:Sem Next).run P w=.ok .skip w':=by simp [h]
theorem PureOK.mk {s:Sem Value} {u:V} {y:Value} (hx:execOp ρ o=(do pure (Next.value (← s)):Sem Next)) (hu:dec φ u=some y) (hs:∀ w,s.run P w=.ok y w) (hk:k u=.ok):PureOK P φ ρ o k :=
 ⟨u,y,hu,λw=>by rw [hx];exact run_v (hs w),hk⟩
theorem pure_mv {x:Operand} {u:V} (ho:o.op=.move x∨o.op=.assign x) (hx:dec φ u=some (ρ x)) (hk:k u=.ok):PureOK P φ ρ o k :=
 ⟨u,ρ x,hx,λw=>by rcases ho with ho | ho <;> simp [execOp,ho],hk⟩
theorem dec_i {κ:IntKind} {i:Int} {y:Value} (h:dec φ (.i κ i)=some y):y=.int κ i:=by simpa [dec] using h.symm
theorem dec_b {b:Bool} {y:Value} (h:dec φ (.b b)=some y):y=.bool b:=by simpa [dec] using h.symm
theorem dec_s {l:List Nat} {y:Value} (h:dec φ (.s l)=some y):y=.string (bytesOf l):=by simpa [dec] using h.symm
theorem dec_p {v:Vid} {off:Nat} {y:Value} (h:dec φ (.p v off)=some y):∃ M,φ v=some M∧y=.pointer (some ⟨M.blk,M.base + off,none⟩):=by
 obtain⟨M,h1,h2⟩:=kE (show (φ v).map _=some y from h)
 exact⟨M,h1,h2.symm⟩
theorem dec_sl {v:Vid} {off n:Nat} {c:Cp} {y:Value} (h:dec φ (.sl v off n c)=some y):∃ M,φ v=some M∧y=.slice (some ⟨M.blk,M.base + off,none⟩) n (capOf M c)∧n≤capOf M c:=by
 obtain⟨M,h1,h2⟩:=Option.bind_eq_some_iff.1 (show (φ v).bind _=some y from h)
 split at h2 <;> simp at h2
 rename_i h3
 exact⟨M,h1,h2.symm,h3⟩
theorem dec_sl_mk {v:Vid} {off n:Nat} {c:Cp} {M:Loc} (h:φ v=some M) (hn:n≤capOf M c):dec φ (.sl v off n c)=some (.slice (some ⟨M.blk,M.base + off,none⟩) n (capOf M c)):=by
 simp [dec,h,hn]
theorem dec_m {v:Vid} {y:Value} (h:dec φ (.m v)=some y):∃ M,φ v=some M∧y=.map (some M.blk):=by
 obtain⟨M,h1,h2⟩:=kE (show (φ v).map _=some y from h)
 exact⟨M,h1,h2.symm⟩
theorem dec_a {l:List V} {y:Value} (h:dec φ (.a l)=some y):∃ m,decs φ l=some m∧y=.agg m.toArray:=by
 obtain⟨M,h1,h2⟩:=kE (show (decs φ l).map _=some y from h)
 exact⟨M,h1,h2.symm⟩
theorem dec_t {l:List V} {y:Value} (h:dec φ (.t l)=some y):∃ m,decs φ l=some m∧y=.tuple m.toArray:=by
 obtain⟨M,h1,h2⟩:=kE (show (decs φ l).map _=some y from h)
 exact⟨M,h1,h2.symm⟩
theorem dec_f {F:Nat} {a c:List V} {y:Value} (h:dec φ (.f F a c)=some y):∃ m n,decs φ a=some m∧decs φ c=some n∧y=.func (.func F) m.toArray n.toArray:=by
 obtain⟨m,h1,h2⟩:=Option.bind_eq_some_iff.1 (show (decs φ a).bind _=some y from h)
 obtain⟨n,h3,h4⟩:=kE h2
 exact⟨m,n,h1,h3,h4.symm⟩
theorem dec_q {t:Nat} {x:V} {y:Value} (h:dec φ (.q t x)=some y):∃ z,dec φ x=some z∧y=.iface t z:=by
 obtain⟨m,h1,h2⟩:=kE (show (dec φ x).map _=some y from h)
 exact⟨m,h1,h2.symm⟩
theorem pure_nil {x:Operand} {u:V} (ho:o.op=.nilCheck x) (hx:dec φ u=some (ρ x)) (h:vNil u k=.ok):PureOK P φ ρ o k:=by
 obtain⟨h1,h2⟩:=onNil_ok h
 refine⟨u,ρ x,hx,λw=>?_,h2⟩
 rcases h1 with⟨v,off,rfl⟩ | ⟨F,a,c,rfl⟩ | ⟨t,z,rfl⟩
 ·obtain⟨M,_,hy⟩:=dec_p hx
  simp [execOp,ho,hy]
 ·obtain⟨m,n,_,_,hy⟩:=dec_f hx
  simp [execOp,ho,hy]
 ·obtain⟨z',_,hy⟩:=dec_q hx
  simp [execOp,ho,hy]
theorem fieldC_ok {t f:Nat} {fd:Field} (h:fieldC P t f=some fd):∃ fs,P.underlying t=some (.struct fs)∧fs[f]?=some fd:=by
 unfold fieldC at h
 split at h
 ·rename_i fs hu;exact⟨fs,hu,h⟩
 ·cases h
theorem sizeC_ok {t n:Nat} (h:sizeC P t=some n):∃ i,P.info? t=some i∧i.size=n:=by
 unfold sizeC at h
 split at h
 ·rename_i i hi;exact⟨i,hi,by simpa using h⟩
 ·cases h
theorem pure_fa {t:Nat} {x:Operand} {f:Nat} {u:V} {fd:Field} {n:Nat} (ho:o.op=.fieldAddr t x f) (hf:fieldC P t f=some fd) (hn:sizeC P fd.type=some n) (h0:n≠0) (hx:dec φ u=some (ρ x))
  (h:vFA fd.offset u k=.ok):PureOK P φ ρ o k:=by
 obtain⟨v,off,rfl,h⟩:=onP_ok h
 obtain⟨M,hM,hy⟩:=dec_p hx
 obtain⟨fs,hu,hfs⟩:=fieldC_ok hf
 obtain⟨i,hi,rfl⟩:=sizeC_ok hn
 refine PureOK.mk (s:=Instr.fieldAt t (ρ x) f) (u:=.p v (off + fd.offset)) (y:=.pointer (some ⟨M.blk,M.base + (off + fd.offset),none⟩)) (by simp [execOp,ho]) (by simp [dec,hM]) (λw=>?_) h
 rw [hy]
 simp only [Instr.fieldAt,Sem.run_bind,run_underlying' w hu,Result.andThen_ok,hfs,Instr.sureAddr,Sem.run_pure,fieldPlace,run_sizeOf' w hi]
 rw [if_neg h0]
 simp only [Sem.run_pure,Result.andThen_ok,add_eq,Nat.add_assoc]
theorem pure_ia {t el:Nat} {x i:Operand} {u j:V} {inf:TypeInfo} (ho:o.op=.indexAddr t x i) (ht:P.underlying t=some (.slice el)) (hi:P.info? el=some inf) (hx:dec φ u=some (ρ x)) (hj:dec φ j=some (ρ i))
  (h:vIA inf.size u j k=.ok):PureOK P φ ρ o k:=by
 obtain⟨κ,n,rfl,h⟩:=asI_ok h
 obtain⟨v,off,m,c,rfl,h⟩:=onSl_ok h
 obtain⟨hb,h⟩:=iff_ok h
 have hb':n < m:=by simpa using hb
 obtain⟨M,hM,hy,_⟩:=dec_sl hx
 refine PureOK.mk (s:=Instr.indexAt t (ρ x) (ρ i)) (u:=.p v (off + n * inf.size)) (y:=.pointer (some ⟨M.blk,M.base + (off + n * inf.size),none⟩)) (by simp [execOp,ho]) (by simp [dec,hM]) (λw=>?_) h
 rw [hy,dec_i hj]
 rw [run_indexAt_sl w _ _ _ _ _ ht hi rfl (by simp only [Int.ofNat_eq_natCast];omega),add_eq]
 simp [Nat.add_assoc]
theorem pure_iaa {t el len:Nat} {x i:Operand} {u j:V} {inf:TypeInfo} (ho:o.op=.indexAddr t x i) (ht:P.underlying t=some (.array len el)) (hi:P.info? el=some inf) (hx:dec φ u=some (ρ x)) (hj:dec φ j=some (ρ i))
  (h:vIAA len inf.size u j k=.ok):PureOK P φ ρ o k:=by
 obtain⟨κ,n,rfl,h⟩:=asI_ok h
 obtain⟨v,off,rfl,h⟩:=onP_ok h
 obtain⟨hb,h⟩:=iff_ok h
 have hb':n < len:=by simpa using hb
 obtain⟨M,hM,hy⟩:=dec_p hx
 refine PureOK.mk (s:=Instr.indexAt t (ρ x) (ρ i)) (u:=.p v (off + n * inf.size)) (y:=.pointer (some ⟨M.blk,M.base + (off + n * inf.size),none⟩)) (by simp [execOp,ho]) (by simp [dec,hM]) (λw=>?_) h
 rw [hy,dec_i hj]
 rw [run_indexAt_arr w _ _ _ _ ht hi (by simp only [Int.ofNat_eq_natCast];omega),add_eq]
 simp [Nat.add_assoc]
theorem pure_ext {x:Operand} {j:Nat} {u:V} (ho:o.op=.extract x j) (hx:dec φ u=some (ρ x)) (h:vExt j u k=.ok):PureOK P φ ρ o k:=by
 obtain⟨l,rfl,h⟩:=onT_ok h
 obtain⟨v,h1,h2⟩:=orE_ok h
 rw [nth_eq] at h1
 obtain⟨m,h3,hy⟩:=dec_t hx
 obtain⟨y,h4,h5⟩:=decs_get h3 h1
 exact PureOK.mk (s:=Instr.extract (ρ x) j) (by simp [execOp,ho]) h5 (λw=>by simp [hy,Instr.extract,h4]) h2
theorem pure_bin {op:BinOp} {t yt:Nat} {x y:Operand} {yn:Bool} {u:V} {val:Value} (ho:o.op=.binOp op t x y yt) (hyn:yn=true→ρ y=.pointer none∨(∃ l c,ρ y=.slice none l c)∨ρ y=.map none)
  (H:sBin P op t (ρ x) (ρ y) yn (λv=>v=val) False) (hd:dec φ u=some val) (hk:k u=.ok):PureOK P φ ρ o k:=by
 rcases sBin_pure (P:=P) (ox:=x) (oy:=y) hyn H with⟨v,h1,rfl⟩ | h
 ·exact PureOK.mk (s:=do eqGuard op t x y (ρ x) (ρ y);binOp op t (ρ x) (ρ y)) (by simp [execOp,ho]) hd h1 hk
 ·exact h.elim
theorem bit2_eq {f:Nat→Nat→Nat} {g:IntKind→Int→Int→Int} (hf:∀ x y:Nat,x < 18446744073709551616→y < 18446744073709551616→g .u64 (Int.ofNat x) (Int.ofNat y)=Int.ofNat (f x y)) (κ:IntKind) (a b:Int) (k:V→R):bit2 f g κ a b k=k (.i κ (g κ a b)):=by
 unfold bit2
 rw [forK_eq]
 congr 2
 cases a with
 | negSucc a=>cases b <;> rfl
 | ofNat x =>
  cases b with
  | negSucc b=>rfl
  | ofNat y =>
   show Bool.rec (motive:=λ_=>Int) (g κ _ _) (.ofNat (f x y)) (Nat.beq (kIx κ) 7&&Nat.blt x 18446744073709551616&&Nat.blt y 18446744073709551616)=_
   cases h1:(Nat.beq (kIx κ) 7&&Nat.blt x 18446744073709551616&&Nat.blt y 18446744073709551616) with
   | false=>rfl
   | true =>
    simp only [Bool.and_eq_true] at h1
    obtain⟨⟨h1,h2⟩,h3⟩:=h1
    have hκ:κ=.u64:=by cases κ <;> first | rfl | cases h1
    subst hκ
    exact (hf x y (by simpa using h2) (by simpa using h3)).symm
theorem u64_nat {x:Nat} (h:x < 18446744073709551616):BitVec.ofInt (IntKind.bits .u64) (Int.ofNat x)=BitVec.ofNat 64 x:=by
 show BitVec.ofInt 64 (x:Int)=_
 rw [BitVec.ofInt_natCast]
theorem wrap_u64 {m:Nat} (h:m < 18446744073709551616):IntKind.wrap .u64 (m:Int)=Int.ofNat m:=wrap_in (k:=.u64) m (by show (m:Int) < 18446744073709551616;omega)
theorem land_eq (κ:IntKind) (a b:Int) (k:V→R):bit2 Nat.land bAnd κ a b k=k (.i κ (bAnd κ a b)):=by
 refine bit2_eq (λx y hx hy=>?_) κ a b k
 unfold bAnd
 rw [u64_nat hx,u64_nat hy]
 show IntKind.wrap .u64 ((BitVec.ofNat 64 x &&& BitVec.ofNat 64 y).toNat:Int)=_
 rw [BitVec.toNat_and,BitVec.toNat_ofNat,BitVec.toNat_ofNat,Nat.mod_eq_of_lt hx,Nat.mod_eq_of_lt hy]
 have:x &&& y < 18446744073709551616:=Nat.lt_of_le_of_lt Nat.and_le_left hx
 exact wrap_u64 this
theorem lor_eq (κ:IntKind) (a b:Int) (k:V→R):bit2 Nat.lor bOr κ a b k=k (.i κ (bOr κ a b)):=by
 refine bit2_eq (λx y hx hy=>?_) κ a b k
 unfold bOr
 rw [u64_nat hx,u64_nat hy]
 show IntKind.wrap .u64 ((BitVec.ofNat 64 x ||| BitVec.ofNat 64 y).toNat:Int)=_
 rw [BitVec.toNat_or,BitVec.toNat_ofNat,BitVec.toNat_ofNat,Nat.mod_eq_of_lt hx,Nat.mod_eq_of_lt hy]
 have:x ||| y < 18446744073709551616:=Nat.or_lt_two_pow (n:=64) hx hy
 exact wrap_u64 this
theorem lxor_eq (κ:IntKind) (a b:Int) (k:V→R):bit2 Nat.xor bXor κ a b k=k (.i κ (bXor κ a b)):=by
 refine bit2_eq (λx y hx hy=>?_) κ a b k
 unfold bXor
 rw [u64_nat hx,u64_nat hy]
 show IntKind.wrap .u64 ((BitVec.ofNat 64 x ^^^ BitVec.ofNat 64 y).toNat:Int)=_
 rw [BitVec.toNat_xor,BitVec.toNat_ofNat,BitVec.toNat_ofNat,Nat.mod_eq_of_lt hx,Nat.mod_eq_of_lt hy]
 have:x ^^^ y < 18446744073709551616:=Nat.xor_lt_two_pow (n:=64) hx hy
 exact wrap_u64 this
theorem pure_binI {op:BinOp} {t yt:Nat} {x y:Operand} {a b:V} (ho:o.op=.binOp op t x y yt) (h1:op≠.eql) (h2:op≠.neq) (h3:op≠.shl) (h4:op≠.shr) (hx:dec φ a=some (ρ x)) (hy:dec φ b=some (ρ y))
  (h:vBin op a b k=.ok):PureOK P φ ρ o k:=by
 have fin:∀ {f:IntKind→Int→Int→(V→R)→R} (val:IntKind→Int→Int→Value) (u:IntKind→Int→Int→V),binV f a b k=.ok→(∀ κ m n,f κ m n k=.ok→(dec φ (u κ m n)=some (val κ m n)∧sBin P op t (.int κ m) (.int κ n) false (λv=>v=val κ m n) False∧k (u κ m n)=.ok))→PureOK P φ ρ o k:=by
  intro f val u h hh
  obtain⟨κ,m,n,rfl,rfl,h0⟩:=binV_ok h
  obtain⟨h1,h2,h3⟩:=hh κ m n h0
  exact pure_bin (yn:=false) ho (by simp) (by rw [dec_i hx,dec_i hy];exact h2) h1 h3
 cases op <;> first | exact absurd rfl h1 | exact absurd rfl h2 | exact absurd rfl h3 | exact absurd rfl h4 | (cases h;done) | skip
 ·exact fin (λκ m n=>.int κ (κ.wrap (m + n))) (λκ m n=>.i κ (κ.wrap (m + n))) h λκ m n h=>⟨rfl,by simp [sBin],by
   have h:numK κ (int2 (λx y=>.ofNat (Nat.add x y)) Int.add m n) k=.ok:=h
   rw [show int2 (λx y=>.ofNat (Nat.add x y)) Int.add m n=Int.add m n from int2_eq (f:=λx y=>.ofNat (Nat.add x y)) (g:=Int.add) (λ_ _=>rfl) m n,numK_eq] at h;exact h⟩
 ·exact fin (λκ m n=>.int κ (κ.wrap (m - n))) (λκ m n=>.i κ (κ.wrap (m - n))) h λκ m n h=>⟨rfl,by simp [sBin],by
   have h:numK κ (int2 subN Int.sub m n) k=.ok:=h
   rw [int2_eq subN_eq,numK_eq] at h;exact h⟩
 ·exact fin (λκ m n=>.int κ (κ.wrap (m * n))) (λκ m n=>.i κ (κ.wrap (m * n))) h λκ m n h=>⟨rfl,by simp [sBin],by
   have h:numK κ (int2 (λx y=>.ofNat (Nat.mul x y)) Int.mul m n) k=.ok:=h
   rw [show int2 (λx y=>.ofNat (Nat.mul x y)) Int.mul m n=Int.mul m n from int2_eq (f:=λx y=>.ofNat (Nat.mul x y)) (g:=Int.mul) (λ_ _=>rfl) m n,numK_eq] at h;exact h⟩
 ·refine fin (λκ m n=>.int κ (κ.wrap (m.tdiv n))) (λκ m n=>.i κ (κ.wrap (m.tdiv n))) h λκ m n h=>?_
  have h:iff' (ieq n 0) (R.no 25) (numK κ (int2 (λx y=>.ofNat (Nat.div x y)) Int.tdiv m n) k)=.ok:=h
  rcases iff_t h with⟨_,h⟩ | ⟨h0,h⟩
  ·cases h
  ·rw [ieq_eq] at h0
   rw [show int2 (λx y=>.ofNat (Nat.div x y)) Int.tdiv m n=Int.tdiv m n from int2_eq (f:=λx y=>.ofNat (Nat.div x y)) (g:=Int.tdiv) (λ_ _=>rfl) m n,numK_eq] at h
   exact⟨rfl,by simp [sBin,Need];simpa using h0,h⟩
 ·refine fin (λκ m n=>.int κ (m.tmod n)) (λκ m n=>.i κ (m.tmod n)) h λκ m n h=>?_
  have h:iff' (ieq n 0) (R.no 25) (forK κ (int2 (λx y=>.ofNat (Nat.mod x y)) Int.tmod m n) k)=.ok:=h
  rcases iff_t h with⟨_,h⟩ | ⟨h0,h⟩
  ·cases h
  ·rw [ieq_eq] at h0
   rw [show int2 (λx y=>.ofNat (Nat.mod x y)) Int.tmod m n=Int.tmod m n from int2_eq (f:=λx y=>.ofNat (Nat.mod x y)) (g:=Int.tmod) (λ_ _=>rfl) m n,forK_eq] at h
   exact⟨rfl,by simp [sBin,Need];simpa using h0,h⟩
 ·exact fin (λκ m n=>.int κ (bAnd κ m n)) (λκ m n=>.i κ (bAnd κ m n)) h λκ m n h=>⟨rfl,by simp [sBin],by rw [land_eq] at h;exact h⟩
 ·exact fin (λκ m n=>.int κ (bOr κ m n)) (λκ m n=>.i κ (bOr κ m n)) h λκ m n h=>⟨rfl,by simp [sBin],by rw [lor_eq] at h;exact h⟩
 ·exact fin (λκ m n=>.int κ (bXor κ m n)) (λκ m n=>.i κ (bXor κ m n)) h λκ m n h=>⟨rfl,by simp [sBin],by rw [lxor_eq] at h;exact h⟩
 ·exact fin (λκ m n=>.int κ (bAndNot κ m n)) (λκ m n=>.i κ (bAndNot κ m n)) h λκ m n h=>⟨rfl,by simp [sBin],by have h:forK κ (bAndNot κ m n) k=.ok:=h;rw [forK_eq] at h;exact h⟩
 ·exact fin (λκ m n=>.bool (decide (m < n))) (λκ m n=>.b (decide (m < n))) h λκ m n h=>⟨rfl,by simp [sBin],by have h:yesNo (ilt m n) k=.ok:=h;rw [yesNo_eq,ilt_eq] at h;exact h⟩
 ·exact fin (λκ m n=>.bool (decide (m≤n))) (λκ m n=>.b (decide (m≤n))) h λκ m n h=>⟨rfl,by simp [sBin],by have h:noYes (ilt n m) k=.ok:=h;rw [noYes_eq,ilt_eq,show (!decide (n < m))=decide (m≤n) by rw [← decide_not];simp] at h;exact h⟩
 ·exact fin (λκ m n=>.bool (decide (n < m))) (λκ m n=>.b (decide (n < m))) h λκ m n h=>⟨rfl,by simp [sBin],by have h:yesNo (ilt n m) k=.ok:=h;rw [yesNo_eq,ilt_eq] at h;exact h⟩
 ·exact fin (λκ m n=>.bool (decide (n≤m))) (λκ m n=>.b (decide (n≤m))) h λκ m n h=>⟨rfl,by simp [sBin],by have h:noYes (ilt m n) k=.ok:=h;rw [noYes_eq,ilt_eq,show (!decide (m < n))=decide (n≤m) by rw [← decide_not];simp] at h;exact h⟩
theorem pure_shl {t yt:Nat} {x y:Operand} {a b:V} (ho:o.op=.binOp .shl t x y yt) (hx:dec φ a=some (ρ x)) (hy:dec φ b=some (ρ y)) (h:vShl a b k=.ok):PureOK P φ ρ o k:=by
 obtain⟨κ,m,e1,h'⟩:=onI_ok h
 clear h;subst e1
 obtain⟨κ',n,e2,h⟩:=onI_ok h'
 clear h';subst e2
 rcases iff_t h with⟨_,h⟩ | ⟨h0,h⟩
 ·cases h
 rw [ilt_eq] at h0
 have h0':0≤n:=by simpa using h0
 exact pure_bin (yn:=false) ho (by simp) (val:=.int κ (κ.wrap (m * 2 ^ min n.toNat κ.bits))) (by rw [dec_i hx,dec_i hy];simp [sBin,Need,h0']) (u:=.i κ (κ.wrap (m * 2 ^ min n.toNat κ.bits))) (by simp [dec]) (by
  have e:int2 (λx y=>.ofNat (Nat.mul x (Nat.pow 2 (minN y (bitsN κ))))) (λa b=>a * 2 ^ min b.toNat κ.bits) m n=m * 2 ^ min n.toNat κ.bits:=int2_eq (g:=λa b=>a * 2 ^ min b.toNat κ.bits) (λx y=>by
   rw [minN_eq,bitsN_eq]
   show ((x * 2 ^ min y κ.bits:Nat):Int)=(x:Int) * 2 ^ min y κ.bits
   rw [Int.natCast_mul,Int.natCast_pow];rfl) m n
  rw [e,numK_eq] at h
  exact h)
theorem pure_shr {t yt:Nat} {x y:Operand} {a b:V} (ho:o.op=.binOp .shr t x y yt) (hx:dec φ a=some (ρ x)) (hy:dec φ b=some (ρ y)) (h:vShr a b k=.ok):PureOK P φ ρ o k:=by
 obtain⟨κ,m,e1,h'⟩:=onI_ok h
 clear h;subst e1
 obtain⟨κ',n,e2,h⟩:=onI_ok h'
 clear h';subst e2
 rcases iff_t h with⟨_,h⟩ | ⟨h0,h⟩
 ·cases h
 rw [ilt_eq] at h0
 have h0':0≤n:=by simpa using h0
 exact pure_bin (yn:=false) ho (by simp) (val:=.int κ (m.fdiv (2 ^ min n.toNat κ.bits))) (by rw [dec_i hx,dec_i hy];simp [sBin,Need,h0']) (u:=.i κ (m.fdiv (2 ^ min n.toNat κ.bits))) (by simp [dec]) (by
  have e:int2 (λx y=>.ofNat (Nat.div x (Nat.pow 2 (minN y (bitsN κ))))) (λa b=>a.fdiv (2 ^ min b.toNat κ.bits)) m n=m.fdiv (2 ^ min n.toNat κ.bits):=int2_eq (g:=λa b=>a.fdiv (2 ^ min b.toNat κ.bits)) (λx y=>by
   rw [minN_eq,bitsN_eq]
   show ((x / 2 ^ min y κ.bits:Nat):Int)=(x:Int).fdiv (2 ^ min y κ.bits)
   have:(0:Int) < 2 ^ min y κ.bits:=Int.pow_pos (by omega)
   rw [Int.fdiv_eq_ediv_of_nonneg _ (by omega),Int.natCast_ediv,Int.natCast_pow];rfl) m n
  rw [e,forK_eq] at h
  exact h)
theorem pure_not {t:Nat} {x:Operand} {u:V} (ho:o.op=.unOp .not t x) (hx:dec φ u=some (ρ x)) (h:vNot u k=.ok):PureOK P φ ρ o k:=by
 obtain⟨b,rfl,h⟩:=onB_ok h
 have:=dec_b hx
 rcases iff_t h with⟨rfl,h⟩ | ⟨rfl,h⟩
 ·exact PureOK.mk (s:=Op.unary .not (ρ x)) (u:=.b false) (y:=.bool false) (by simp [execOp,ho]) rfl (λw=>by simp [this,Op.unary]) h
 ·exact PureOK.mk (s:=Op.unary .not (ρ x)) (u:=.b true) (y:=.bool true) (by simp [execOp,ho]) rfl (λw=>by simp [this,Op.unary]) h
theorem pure_neg {t:Nat} {x:Operand} {u:V} (ho:o.op=.unOp .neg t x) (hx:dec φ u=some (ρ x)) (h:vNeg u k=.ok):PureOK P φ ρ o k:=by
 obtain⟨κ,n,rfl,h⟩:=onI_ok h
 exact PureOK.mk (s:=Op.unary .neg (ρ x)) (y:=.int κ (κ.wrap (0 - n))) (by simp [execOp,ho]) (u:=.i κ (κ.wrap (0 - n))) (by simp only [dec]) (λw=>by simp [dec_i hx,Op.unary,Op.intArith]) (by have h:numK κ (0 - n) k=.ok:=h;rw [numK_eq] at h;exact h)
theorem pure_cpl {t:Nat} {x:Operand} {u:V} (ho:o.op=.unOp .xor t x) (hx:dec φ u=some (ρ x)) (h:vCpl u k=.ok):PureOK P φ ρ o k:=by
 obtain⟨κ,n,rfl,h⟩:=onI_ok h
 exact PureOK.mk (s:=Op.unary .xor (ρ x)) (y:=.int κ (bNot κ n)) (by simp [execOp,ho]) (u:=.i κ (bNot κ n)) (by simp only [dec]) (λw=>by simp [dec_i hx,Op.unary,Op.intBits,bNot,bXor]) (by have h:forK κ (bNot κ n) k=.ok:=h;rw [forK_eq] at h;exact h)
theorem pure_conv {s d:Nat} {x:Operand} {u:V} {κs κ:IntKind} (ho:o.op=.convert s d x) (hs:P.underlying s=some (.int κs)) (hd:P.underlying d=some (.int κ)) (hx:dec φ u=some (ρ x)) (h:vConv κ u k=.ok):PureOK P φ ρ o k:=by
 obtain⟨κ',n,rfl,h⟩:=onI_ok h
 exact PureOK.mk (s:=convert s d (ρ x)) (u:=.i κ (κ.wrap n)) (y:=.int κ (κ.wrap n)) (by simp [execOp,ho]) (by simp only [dec]) (λw=>by
  rw [dec_i hx]
  simp [convert,run_underlying' w hs,run_underlying' w hd,Conv.intToInt]) (by have h:numK κ n k=.ok:=h;rw [numK_eq] at h;exact h)
end
section
variable {P:Program} {φ:Phi} {loc:List (Option Nat)} {L:Lc} {e:E} {ρ:Operand→Value} {o:Oper} {k:V→R}
theorem primK_ok {n:Nat} {t:TypeId} {x y:V} {a b:Value} {r:Bool} (hp:primT P t=some n) (hx:dec φ x=some a) (hy:dec φ y=some b) (h:primK n x y=some r):cellEq P t a b=some r:=by
 unfold primT at hp
 unfold primK at h
 split at h
 ·rename_i κ m κ' m'
  split at h <;> try (cases h;done)
  rename_i hk
  have:=kIx_eq hk;subst this
  simp only [Option.some.injEq] at h
  have e1:=dec_i hx
  have e2:=dec_i hy
  subst e1 e2
  split at hp <;> first | (rename_i hu;simp [cellEq,hu,← h,ieq_eq];done) | (simp at hp;done)
 ·simp only [Option.some.injEq] at h
  have e1:=dec_s hx
  have e2:=dec_s hy
  subst e1 e2
  split at hp <;> first | (rename_i hu;simp [cellEq,hu,← h,seq_eq];done) | (simp at hp;done)
 ·simp only [Option.some.injEq] at h
  have e1:=dec_b hx
  have e2:=dec_b hy
  subst e1 e2
  split at hp <;> first | (rename_i hu;simp [cellEq,hu,← h];done) | (simp at hp;done)
 ·cases h
theorem primsK_ok:∀ {fs:List Field} {i:Nat} {ks:List Nat} {xs ys:List V} {az bs:List Value} {r:Bool},primFs P fs i=some ks→decs φ xs=some az→decs φ ys=some bs→primsK ks xs ys=some r→recEq P fs az bs i=some r
 | [],i,ks,xs,ys,az,bs,r,hf,hx,hy,h=>by
  simp [primFs] at hf;subst hf
  cases xs <;> cases ys <;> simp [primsK] at h
  subst h;rfl
 | f::fs,i,ks,xs,ys,az,bs,r,hf,hx,hy,h=>by
  simp only [primFs] at hf
  split at hf <;> try (cases hf;done)
  rename_i k ks' h1 h2 h3 h4
  simp only [Option.some.injEq] at hf;subst hf
  cases xs with
  | nil=>simp [primsK] at h
  | cons x xs =>
   cases ys with
   | nil=>simp [primsK] at h
   | cons y ys =>
    simp only [primsK] at h
    split at h <;> try (cases h;done)
    rename_i a b ha hb
    simp only [Option.some.injEq] at h;subst h
    obtain⟨a',az',rfl,e1,e2⟩:=decs_cons_inv hx
    obtain⟨b',bs',rfl,e3,e4⟩:=decs_cons_inv hy
    have c1:=primK_ok h3 e1 e3 ha
    have c2:=primsK_ok h4 e2 e4 hb
    cases fs with
    | nil =>
     simp [primFs] at h4;subst h4
     cases xs <;> cases ys <;> simp [primsK] at hb
     subst hb
     simp [recEq,h1,h2,c1]
    | cons g fs =>
     simp only [recEq,h1,h2]
     rw [c1,c2]
theorem equalIn_pp {d:Nat} {t el:TypeId} {inf:TypeInfo} (w:World) (hu:P.underlying t=some (.pointer el)) (hi:P.info? el=some inf) (hs:inf.size≠0) {a b:Addr} (hab:a.block=b.block) :
  (Op.equalIn (d + 1) t (.pointer (some a)) (.pointer (some b))).run P w=.ok (a==b) w:=by
 simp [Op.equalIn,run_underlying' w hu,run_sizeOf' w hi,hs,sameAddr,hab]
theorem equalIn_pn {d:Nat} {t el:TypeId} (w:World) (hu:P.underlying t=some (.pointer el)) (a:Addr):(Op.equalIn (d + 1) t (.pointer (some a)) (.pointer none)).run P w=.ok false w:=by
 simp [Op.equalIn,run_underlying' w hu]
theorem equalIn_np {d:Nat} {t el:TypeId} (w:World) (hu:P.underlying t=some (.pointer el)) (b:Option Addr):(Op.equalIn (d + 1) t (.pointer none) (.pointer b)).run P w=.ok b.isNone w:=by
 simp [Op.equalIn,run_underlying' w hu]
theorem pure_ptr {neg:Bool} {op:BinOp} {t yt:Nat} {x y:Operand} {r:Bool} (hop:op=if neg then .neq else .eql) (ho:o.op=.binOp op t x y yt) {p:Option Addr} (hx:ρ x=.pointer p) (h:∀ w,(Op.equalIn 10000 t (ρ x) (ρ y)).run P w=.ok r w)
  (hk:iff' r (iff' neg (k (.b false)) (k (.b true))) (iff' neg (k (.b true)) (k (.b false)))=.ok):PureOK P φ ρ o k:=by
 refine PureOK.mk (s:=do eqGuard op t x y (ρ x) (ρ y);binOp op t (ρ x) (ρ y)) (u:=.b (if neg then !r else r)) (y:=.bool (if neg then !r else r)) (by simp [execOp,ho]) rfl (λw=>?_) (by cases neg <;> cases r <;> exact hk)
 rw [Sem.run_bind,run_eqGuard_int w (by rw [hx];simp) (by rw [hx];simp),Result.andThen_ok]
 have h:=h w
 rw [hx] at h ⊢
 cases neg
 ·obtain rfl:op=.eql:=hop
  exact run_eql h
 ·obtain rfl:op=.neq:=hop
  exact run_neq h
theorem pure_eq {neg:Bool} {op:BinOp} {t yt:Nat} {x y:Operand} {a b:V} (hop:op=if neg then .neq else .eql) (ho:o.op=.binOp op t x y yt) (hρ:∀ v,ρ (.const v)=v) (hx:dec φ a=some (ρ x)) (hy:dec φ b=some (ρ y))
  (h:vEqn neg (ekOf P t y) a b k=.ok):PureOK P φ ρ o k:=by
 have hyn:isNilC y=true→ρ y=.pointer none∨(∃ l c,ρ y=.slice none l c)∨ρ y=.map none:=λhn=>isNilC_spec (n:=ρ) hn λv hv=>by rw [hv,hρ]
 have fin:∀ {r:Bool},(∀ neg:Bool,sBin P (if neg then .neq else .eql) t (ρ x) (ρ y) (isNilC y) (λv=>v=.bool (if neg then !r else r)) False)→iff' r (iff' neg (k (.b false)) (k (.b true))) (iff' neg (k (.b true)) (k (.b false)))=.ok→PureOK P φ ρ o k:=by
  intro r hs hk
  have hs':=hs neg
  rw [← hop] at hs'
  cases neg <;> cases r
  ·exact pure_bin ho hyn hs' (u:=.b false) (by simp [dec]) hk
  ·exact pure_bin ho hyn hs' (u:=.b true) (by simp [dec]) hk
  ·exact pure_bin ho hyn hs' (u:=.b true) (by simp [dec]) hk
  ·exact pure_bin ho hyn hs' (u:=.b false) (by simp [dec]) hk
 unfold vEqn at h
 generalize hek:ekOf P t y=ek at h
 unfold ekOf at hek
 split at hek
 ·subst hek
  obtain⟨κ,m,e1,h1⟩:=onI_ok (x:=a) h
  clear h;subst e1
  obtain⟨κ',n,e2,h2⟩:=onI_ok h1
  clear h1;subst e2
  obtain⟨hk,h3⟩:=iff_ok h2
  clear h2
  have:=kIx_eq hk;subst this
  refine fin (λneg=>?_) h3
  rw [dec_i hx,dec_i hy]
  cases neg <;> simp [sBin,ieq_eq] <;> rfl
 ·subst hek
  obtain⟨l,e1,h1⟩:=onS_ok (x:=a) h
  clear h;subst e1
  obtain⟨m,e2,h2⟩:=onS_ok h1
  clear h1;subst e2
  refine fin (λneg=>?_) h2
  rw [dec_s hx,dec_s hy]
  cases neg <;> simp [sBin,seq_eq]
 ·rename_i hu
  subst hek
  obtain⟨l,e1,h1⟩:=onB_ok (x:=a) h
  clear h;subst e1
  obtain⟨m,e2,h2⟩:=onB_ok h1
  clear h1;subst e2
  refine fin (λneg=>?_) h2
  rw [dec_b hx,dec_b hy]
  cases neg <;> simp [sBin,hu]
 ·rename_i el hu
  split at hek <;> subst hek
  ·rename_i hn
   have h':b.onZ (λky z=>iff' (z&&Nat.beq ky 0) (a.onZ (λkx z=>iff' (Nat.beq kx 0) (iff' z (iff' neg (k (.b false)) (k (.b true))) (iff' neg (k (.b true)) (k (.b false)))) (R.no 22)) 22) (R.no 22)) 22=.ok:=h
   clear h
   rcases onZ_ok h' with⟨rfl,h1⟩ | ⟨_,h1⟩ | ⟨_,h1⟩ | ⟨_,h1⟩ | ⟨_,h1⟩ | ⟨_,h1⟩ <;> obtain⟨hb,h1⟩:=iff_ok h1 <;> first | (simp at hb;done) | skip
   have ey:ρ y=.pointer none:=by simpa [dec] using hy.symm
   rcases onZ_ok h1 with⟨rfl,h2⟩ | ⟨⟨v,off,rfl⟩,h2⟩ | ⟨_,h2⟩ | ⟨_,h2⟩ | ⟨_,h2⟩ | ⟨_,h2⟩ <;> obtain⟨hb',h2⟩:=iff_ok h2 <;> first | (simp at hb';done) | skip
   ·have ex:ρ x=.pointer none:=by simpa [dec] using hx.symm
    refine fin (r:=true) (λneg=>?_) h2
    rw [ex,ey,hn];cases neg <;> simp [sBin,hu]
   ·obtain⟨M,_,ex⟩:=dec_p hx
    refine fin (r:=false) (λneg=>?_) h2
    rw [ex,ey,hn];cases neg <;> simp [sBin,hu]
  ·rename_i s hn hs
   obtain⟨inf,hi,hin⟩:=sizeC_ok hs
   have h':a.onPq (b.onPq (iff' true (iff' neg (k (.b false)) (k (.b true))) (iff' neg (k (.b true)) (k (.b false)))) (λ_ _=>iff' false (iff' neg (k (.b false)) (k (.b true))) (iff' neg (k (.b true)) (k (.b false)))) 24)
    (λv o=>b.onPq (iff' false (iff' neg (k (.b false)) (k (.b true))) (iff' neg (k (.b true)) (k (.b false)))) (λv' o'=>iff' (vidEq v v') (iff' (Nat.beq o o') (iff' neg (k (.b false)) (k (.b true))) (iff' neg (k (.b true)) (k (.b false)))) (R.no 24)) 24) 24=.ok:=h
   clear h
   rcases onPq_ok h' with⟨rfl,h1⟩ | ⟨v,off,rfl,h1⟩
   ·have ex:ρ x=.pointer none:=by simpa [dec] using hx.symm
    rcases onPq_ok h1 with⟨rfl,h2⟩ | ⟨v',off',rfl,h2⟩
    ·have ey:ρ y=.pointer none:=by simpa [dec] using hy.symm
     exact pure_ptr hop ho ex (r:=true) (λw=>by rw [ex,ey];exact equalIn_np w hu none) h2
    ·obtain⟨M,_,ey⟩:=dec_p hy
     exact pure_ptr hop ho ex (r:=false) (λw=>by rw [ex,ey];exact equalIn_np w hu _) h2
   ·obtain⟨M,hM,ex⟩:=dec_p hx
    rcases onPq_ok h1 with⟨rfl,h2⟩ | ⟨v',off',rfl,h2⟩
    ·have ey:ρ y=.pointer none:=by simpa [dec] using hy.symm
     exact pure_ptr hop ho ex (r:=false) (λw=>by rw [ex,ey];exact equalIn_pn w hu _) h2
    ·obtain⟨hv,h3⟩:=iff_ok h2
     have:=vidEq_ok.1 hv;subst this
     obtain⟨M',hM',ey⟩:=dec_p hy
     rw [hM] at hM';cases hM'
     refine pure_ptr hop ho ex (r:=Nat.beq off off') (λw=>?_) h3
     have hb:Nat.beq off off'=((⟨M.blk,M.base + off,none⟩:Addr)==⟨M.blk,M.base + off',none⟩):=by
      rw [nbeq,Bool.eq_iff_iff,beq_iff_eq]
      simp
     rw [ex,ey,hb]
     exact equalIn_pp w hu hi (by omega) rfl
  ·cases h
 ·rename_i el hu
  split at hek <;> subst hek
  ·rename_i hn
   have h':b.onZ (λky z=>iff' (z&&Nat.beq ky 1) (a.onZ (λkx z=>iff' (Nat.beq kx 1) (iff' z (iff' neg (k (.b false)) (k (.b true))) (iff' neg (k (.b true)) (k (.b false)))) (R.no 22)) 22) (R.no 22)) 22=.ok:=h
   clear h
   rcases onZ_ok h' with⟨_,h1⟩ | ⟨_,h1⟩ | ⟨rfl,h1⟩ | ⟨_,h1⟩ | ⟨_,h1⟩ | ⟨_,h1⟩ <;> obtain⟨hb,h1⟩:=iff_ok h1 <;> first | (simp at hb;done) | skip
   have ey:ρ y=.slice none 0 0:=by simpa [dec] using hy.symm
   rcases onZ_ok h1 with⟨_,h2⟩ | ⟨_,h2⟩ | ⟨rfl,h2⟩ | ⟨h3,h2⟩ | ⟨_,h2⟩ | ⟨_,h2⟩ <;> obtain⟨hb',h2⟩:=iff_ok h2 <;> first | (simp at hb';done) | skip
   ·have ex:ρ x=.slice none 0 0:=by simpa [dec] using hx.symm
    refine fin (r:=true) (λneg=>?_) h2
    rw [ex,ey,hn];cases neg <;> simp [sBin,hu]
   ·have ex:∃ ad l c,ρ x=.slice (some ad) l c:=by
     rcases h3 with⟨v,off,m,c,rfl⟩ | ⟨v,off,r,p,s,rfl⟩
     ·obtain⟨M,_,ex,_⟩:=dec_sl hx;exact⟨_,_,_,ex⟩
     ·obtain⟨M,_,ex⟩:=kE (show (φ v).map _=some (ρ x) from hx);exact⟨_,_,_,ex.symm⟩
    obtain⟨ad,l,c,ex⟩:=ex
    refine fin (r:=false) (λneg=>?_) h2
    rw [ex,ey,hn];cases neg <;> simp [sBin,hu]
  ·cases h
 ·rename_i kk el hu
  split at hek <;> subst hek
  ·rename_i hn
   have h':b.onZ (λky z=>iff' (z&&Nat.beq ky 2) (a.onZ (λkx z=>iff' (Nat.beq kx 2) (iff' z (iff' neg (k (.b false)) (k (.b true))) (iff' neg (k (.b true)) (k (.b false)))) (R.no 22)) 22) (R.no 22)) 22=.ok:=h
   clear h
   rcases onZ_ok h' with⟨_,h1⟩ | ⟨_,h1⟩ | ⟨_,h1⟩ | ⟨_,h1⟩ | ⟨rfl,h1⟩ | ⟨_,h1⟩ <;> obtain⟨hb,h1⟩:=iff_ok h1 <;> first | (simp at hb;done) | skip
   have ey:ρ y=.map none:=by simpa [dec] using hy.symm
   rcases onZ_ok h1 with⟨_,h2⟩ | ⟨_,h2⟩ | ⟨_,h2⟩ | ⟨_,h2⟩ | ⟨rfl,h2⟩ | ⟨⟨v,rfl⟩,h2⟩ <;> obtain⟨hb',h2⟩:=iff_ok h2 <;> first | (simp at hb';done) | skip
   ·have ex:ρ x=.map none:=by simpa [dec] using hx.symm
    refine fin (r:=true) (λneg=>?_) h2
    rw [ex,ey,hn];cases neg <;> simp [sBin,hu]
   ·obtain⟨M,_,ex⟩:=dec_m hx
    refine fin (r:=false) (λneg=>?_) h2
    rw [ex,ey,hn];cases neg <;> simp [sBin,hu]
  ·cases h
 ·rename_i fs hu
  split at hek <;> subst hek
  ·rename_i ks hst hpf
   have h':a.onA (λxs=>b.onA (λys=>orE (primsK ks xs ys) (λb=>iff' b (iff' neg (k (.b false)) (k (.b true))) (iff' neg (k (.b true)) (k (.b false)))) 23) 23) 23=.ok:=h
   clear h
   obtain⟨xs,e1,h1⟩:=onA_ok h'
   obtain⟨ys,e2,h2⟩:=onA_ok h1
   have hx:=e1.dec hx;have hy:=e2.dec hy
   obtain⟨r,h3,h4⟩:=orE_ok h2
   obtain⟨m,h5,ex⟩:=dec_a hx
   obtain⟨n,h6,ey⟩:=dec_a hy
   have hr:recEqT P t m.toArray n.toArray=some r:=by
    unfold recEqT
    rw [hu]
    simp only [hst]
    exact primsK_ok hpf h5 h6 h3
   refine fin (λneg=>?_) h4
   rw [ex,ey];cases neg <;> simp [sBin,hr]
  ·cases h
 ·subst hek;cases h
theorem part_ok {agg:Bool} {off n:Nat} {l:List V} {m:List Value} {ft:TypeId} {ud:TypeDesc} {inf:TypeInfo} (hl:decs φ l=some m) (hu:P.underlying ft=some ud) (ha:isAggD ud=agg) (hi:P.info? ft=some inf) (hn:inf.size=n)
  (h:partV agg off n l k=.ok):∃ u y,dec φ u=some y∧(∀ w,(part ft m.toArray off).run P w=.ok y w)∧k u=.ok:=by
 have hlen:=decs_length hl
 rcases iff_t (show iff' agg _ _=.ok from h) with⟨h1,h2⟩ | ⟨h1,h2⟩
 ·obtain⟨h3,h4⟩:=iff_ok h2
  rw [lenL_eq] at h3
  have h3':off + n≤l.length:=Nat.le_of_ble_eq_true h3
  rw [takeL_eq,dropL_eq] at h4
  refine⟨_,.agg ((m.drop off).take n).toArray,?_,λw=>?_,h4⟩
  ·have:decs φ ((l.drop off).take n)=some ((m.drop off).take n):=by
    refine decs_mk (by simp [hlen]) λi x hx=>?_
    rw [List.getElem?_take] at hx ⊢
    split at hx
    ·rename_i hi'
     rw [List.getElem?_drop] at hx ⊢
     rw [if_pos hi']
     exact decs_get hl hx
    ·cases hx
   simp [dec,this]
  ·simp only [part,Sem.run_bind,run_isAgg' w hu,ha,h1,Result.andThen_ok,if_true,run_sizeOf' w hi,Sem.run_pure,hn]
   congr 2
   apply Array.ext'
   simp
 ·obtain⟨u,h3,h4⟩:=orE_ok h2
  rw [nth_eq] at h3
  obtain⟨y,h5,h6⟩:=decs_get hl h3
  refine⟨u,y,h6,λw=>?_,h4⟩
  simp [part,run_isAgg' w hu,ha,h1,h5]
theorem partW_ok {agg:Bool} {off n q:Nat} {f:Nat→V} {m:List Value} {ft:TypeId} {ud:TypeDesc} {inf:TypeInfo} (hl:decs φ (wL f q)=some m) (hone:∀ v∈m,oneCell v=true) (hu:P.underlying ft=some ud) (ha:isAggD ud=agg) (hi:P.info? ft=some inf) (hn:inf.size=n)
  (h:partW agg off n f q k=.ok):∃ u y,dec φ u=some y∧(∀ w,(part ft m.toArray off).run P w=.ok y w)∧k u=.ok:=by
 obtain⟨hb,h0⟩:=iff_ok h
 simp only [Bool.and_eq_true] at hb
 have hb1:off + n≤q:=Nat.le_of_ble_eq_true hb.1
 have hb2:0 < n:=by simpa using hb.2
 have hget:∀ i,i < q→(wL f q)[i]?=some (f i):=λi hi=>by rw [wL_eq];simp [hi]
 rcases iff_t (show iff' agg _ _=.ok from h0) with⟨h1,h2⟩ | ⟨h1,h2⟩
 ·have hp:partV agg off n (wL f q) (λu=>k (.w (λi=>f (Nat.add off i)) n))=.ok:=by
   unfold partV
   rw [h1,show Nat.ble (Nat.add off n) (lenL (wL f q))=true by rw [lenL_eq,wL_eq];simpa using hb1]
   exact h2
  obtain⟨h3,h4⟩:=iff_ok (show iff' _ _ _=.ok by have:=hp;unfold partV at this;rw [h1] at this;exact this)
  refine⟨_,.agg ((m.drop off).take n).toArray,?_,λw=>?_,h2⟩
  ·have:decs φ (wL (λi=>f (Nat.add off i)) n)=some ((m.drop off).take n):=by
    refine decs_mk (by have:=decs_length hl;rw [wL_eq] at this;rw [wL_eq];simp at this ⊢;omega) λi x hx=>?_
    rw [wL_eq] at hx
    have hi':i < n:=by have:=(kA hx).1;simpa using this
    simp [hi'] at hx
    subst hx
    rw [List.getElem?_take,if_pos hi',List.getElem?_drop]
    exact decs_get hl (hget (off + i) (by omega))
   exact (dec_w ..).2 ⟨_,this,λv hv=>hone v (List.mem_of_mem_drop (List.mem_of_mem_take hv)),rfl⟩
  ·simp only [part,Sem.run_bind,run_isAgg' w hu,ha,h1,Result.andThen_ok,if_true,run_sizeOf' w hi,Sem.run_pure,hn]
   congr 2
   apply Array.ext'
   simp
 ·obtain⟨y,h5,h6⟩:=decs_get hl (hget off (by omega))
  refine⟨f off,y,h6,λw=>?_,h2⟩
  simp [part,run_isAgg' w hu,ha,h1,h5]
theorem pure_fld {t:Nat} {x:Operand} {f:Nat} {u:V} {fd:Field} {n:Nat} {ud:TypeDesc} (ho:o.op=.field t x f) (hf:fieldC P t f=some fd) (hud:P.underlying fd.type=some ud) (hn:sizeC P fd.type=some n) (hx:dec φ u=some (ρ x))
  (h:vFld (isAggD ud) fd.offset n u k=.ok):PureOK P φ ρ o k:=by
 obtain⟨fs,hu,hfs⟩:=fieldC_ok hf
 obtain⟨i,hi,hin⟩:=sizeC_ok hn
 have key:∃ m:List Value,ρ x=.agg m.toArray∧∃ v y,dec φ v=some y∧(∀ w,(part fd.type m.toArray fd.offset).run P w=.ok y w)∧k v=.ok:=by
  rcases onAW_ok h with⟨l,rfl,h1⟩ | ⟨f,q,rfl,h1⟩
  ·obtain⟨m,hm,ex⟩:=dec_a hx
   exact⟨m,ex,part_ok hm hud rfl hi hin h1⟩
  ·obtain⟨m,hm,h1c,ex⟩:=(dec_w ..).1 hx
   exact⟨m,ex,partW_ok hm h1c hud rfl hi hin h1⟩
 obtain⟨m,ex,v,y,h2,h3,h4⟩:=key
 exact PureOK.mk (s:=Instr.field t (ρ x) f) (by simp [execOp,ho]) h2 (λw=>by
  rw [ex]
  simp only [Instr.field,Sem.run_bind,run_underlying' w hu,Result.andThen_ok,hfs,asAgg,Sem.run_pure,h3]) h4
theorem pure_iv {t el len:Nat} {x i:Operand} {u j:V} {ud:TypeDesc} {n:Nat} (ho:o.op=.index t x i) (ht:P.underlying t=some (.array len el)) (hud:P.underlying el=some ud) (hn:sizeC P el=some n) (hx:dec φ u=some (ρ x)) (hj:dec φ j=some (ρ i))
  (h:vIV (isAggD ud) len n u j k=.ok):PureOK P φ ρ o k:=by
 obtain⟨κ,q,e0,h0⟩:=asI_ok h
 clear h;subst e0
 obtain⟨inf,hi,hin⟩:=sizeC_ok hn
 have key:q < len∧∃ m:List Value,ρ x=.agg m.toArray∧∃ v y,dec φ v=some y∧(∀ w,(part el m.toArray (Nat.mul q n)).run P w=.ok y w)∧k v=.ok:=by
  rcases onAW_ok h0 with⟨l,rfl,h1⟩ | ⟨f,r,rfl,h1⟩
  ·obtain⟨hb,h1⟩:=iff_ok h1
   obtain⟨m,hm,ex⟩:=dec_a hx
   exact⟨by simpa using hb,m,ex,part_ok hm hud rfl hi hin h1⟩
  ·obtain⟨hb,h1⟩:=iff_ok h1
   obtain⟨m,hm,h1c,ex⟩:=(dec_w ..).1 hx
   exact⟨by simpa using hb,m,ex,partW_ok hm h1c hud rfl hi hin h1⟩
 obtain⟨hb',m,ex,v,y,h2,h3,h4⟩:=key
 exact PureOK.mk (s:=Instr.index t (ρ x) (ρ i)) (by simp [execOp,ho]) h2 (λw=>by
  rw [ex,dec_i hj]
  simp only [Instr.index,asIntOf,Sem.run_bind,Sem.run_pure,run_underlying' w ht,Result.andThen_ok]
  rw [if_pos (by simp only [Int.ofNat_eq_natCast];omega)]
  simp only [run_sizeOf' w hi,Sem.run_bind,Result.andThen_ok,hin]
  exact h3 w) h4
theorem ba_get (s:ByteArray) (i:Nat):s[i]?=s.data.toList[i]?:=by
 have hs:s.size=s.data.toList.length:=by show s.data.size=s.data.toList.length;simp
 by_cases h:i < s.size
 ·rw [getElem?_pos s i h,kC (by rw [← hs];exact h)]
  rfl
 ·rw [getElem?_neg s i h,List.getElem?_eq_none (by rw [← hs];omega)]
theorem bytesOf_get (l:List Nat) (i:Nat):(bytesOf l)[i]?=(l[i]?).map UInt8.ofNat:=by
 rw [ba_get];simp [bytesOf]
theorem pure_is {t:Nat} {x i:Operand} {u j:V} (ho:o.op=.index t x i) (ht:P.underlying t=some .string) (hx:dec φ u=some (ρ x)) (hj:dec φ j=some (ρ i)) (h:vIS u j k=.ok):PureOK P φ ρ o k:=by
 obtain⟨κ,q,e0,h0⟩:=asI_ok h
 clear h;subst e0
 obtain⟨l,e1,h1⟩:=onS_ok h0
 clear h0;subst e1
 obtain⟨b,h2,h3⟩:=orE_ok h1
 rw [nth_eq] at h2
 exact PureOK.mk (s:=Instr.index t (ρ x) (ρ i)) (y:=.int .u8 (UInt8.ofNat b).toNat) (by simp [execOp,ho]) (by simp [dec];show ((b % 256:Nat):Int)=_;omega) (λw=>by
  rw [dec_s hx,dec_i hj]
  exact run_index_str w _ _ _ _ ht (by simp) (by rw [bytesOf_get];simp [h2])) h3
end
section
variable {P:Program} {φ:Phi} {loc:List (Option Nat)} {L:Lc} {e:E} {ρ:Operand→Value} {o:Oper} {k:V→R}
def RowL (φ:Phi) (l:List V) (cells:List Value):Prop:=decs φ l=some cells∧∀ y∈cells,oneCell y=true
def wr (off:Nat):List Value→List Value→List Value
 | [],cs=>cs
 | v::l,cs=>wr (off + 1) l (cs.set off v)
theorem wr_length:∀ (l cs:List Value) (off:Nat),(wr off l cs).length=cs.length
 | [],cs,off=>rfl
 | v::l,cs,off=>by rw [wr,wr_length];simp
theorem wr_get:∀ (l cs:List Value) (off i:Nat),off + l.length≤cs.length→(wr off l cs)[i]?=if off≤i∧i < off + l.length then l[i - off]? else cs[i]?
 | [],cs,off,i,h=>by rw [wr,if_neg (by intro h;simp at h;omega)]
 | v::l,cs,off,i,h=>by
  rw [wr,wr_get l _ _ _ (by simp at h ⊢;omega)]
  by_cases h1:off + 1≤i∧i < off + 1 + l.length
  ·rw [if_pos h1,if_pos (by simp;omega),show i - off=(i - (off + 1)) + 1 from by omega];simp
  ·rw [if_neg h1]
   by_cases h2:i=off
   ·subst h2
    rw [if_pos (by simp),List.getElem?_set]
    simp at h;simp;omega
   ·rw [if_neg (by simp;omega),List.getElem?_set,if_neg (Ne.symm h2)]
theorem fold_wr:∀ (l:List Value) (j off:Nat) (cells:Array Value),((l.zipIdx j).foldl (λcs p=>cs.setIfInBounds (off + p.2) p.1) cells).toList=wr (off + j) l cells.toList
 | [],j,off,cells=>rfl
 | v::l,j,off,cells=>by
  simp only [List.zipIdx_cons,List.foldl_cons]
  rw [fold_wr l (j + 1) off,wr]
  simp [Nat.add_assoc]
theorem cells_eq (v:Value):v.cells=(cellsL v).toArray:=by cases v <;> simp [Value.cells,cellsL]
theorem fill_cons (place:Nat→Option (Nat × Nat)) (cells:Array Value) (i off size:Nat) (v:Value) (rest:List (Nat × Value)) (hp:place i=some (off,size)) (h1:(cellsL v).length=size) (h2:off + size≤cells.size) :
  ∃ cells':Array Value,cells'.toList=wr off (cellsL v) cells.toList∧Instr.fill place cells ((i,v)::rest)=Instr.fill place cells' rest:=by
 refine⟨v.cells.zipIdx.foldl (λcs (c,j)=>cs.setIfInBounds (off + j) c) cells,?_,?_⟩
 ·rw [cells_eq]
  have:=fold_wr (cellsL v) 0 off cells
  simp only [Nat.add_zero] at this
  rw [← this]
  rw [← Array.foldl_toList]
  simp
 ·rw [Instr.fill,hp]
  simp only
  rw [if_neg]
  rw [cells_eq]
  simp
  omega
theorem laid_ok {place:Nat→Option (Nat × Nat)}:∀ {ps:List (Nat × Nat)} {xs:List V} {l:List V} {cells:Array Value} {parts:List (Nat × Value)} {k:List V→R},laid ps xs l k=.ok→parts.map (λp=>place p.1)=ps.map some →
  decs φ xs=some (parts.map (·.2))→RowL φ l cells.toList→∃ l' cells',Instr.fill place cells parts=some cells'∧cells'.size=cells.size∧RowL φ l' cells'.toList∧k l'=.ok
 | [],xs,l,cells,parts,k,h,hp,hd,hr=>by
  cases parts with
  | nil=>exact⟨l,cells,rfl,rfl,hr,h⟩
  | cons _ _=>simp at hp
 | p::ps,[],l,cells,parts,k,h,hp,hd,hr=>by cases h
 | p::ps,x::xs,l,cells,parts,k,h,hp,hd,hr=>by
  cases parts with
  | nil=>simp at hp
  | cons q parts =>
   simp only [List.map_cons,List.cons.injEq] at hp
   obtain⟨y,m,e1,hx,hxs⟩:=decs_cons_inv hd
   simp only [List.map_cons,List.cons.injEq] at e1
   obtain⟨e1,e2⟩:=e1
   have h':iff' (Nat.beq (lenL x.cells) p.2&&Nat.blt 0 p.2&&allOne x.cells) (putK p.1 x.cells l λl=>laid ps xs l k) (R.no 12)=.ok:=h
   obtain⟨hb,h1⟩:=iff_ok h'
   simp only [Bool.and_eq_true] at hb
   obtain⟨⟨b1,b2⟩,b3⟩:=hb
   rw [lenL_eq] at b1
   have b1':=kB b1
   have hcv:=cellsV_dec hx b3
   have hlen:=decs_length hcv
   have hll:=decs_length hr.1
   obtain⟨l1,g1,g2,g3,h3⟩:=putK_ok h1
   have hsz:p.1 + p.2≤cells.toList.length:=by omega
   obtain⟨i,v⟩:=q
   simp only at hp e1 e2
   obtain⟨cells1,h4,h5⟩:=fill_cons place cells i p.1 p.2 v parts (by rw [hp.1]) (by rw [e1,hlen,b1']) (by simpa using hsz)
   have hlc:(cellsL v).length=p.2:=by rw [e1,hlen,b1']
   have hr1:RowL φ l1 cells1.toList:=by
    have hget:∀ (j:Nat) u,l1[j]?=some u→∃ y,cells1.toList[j]?=some y∧dec φ u=some y∧oneCell y=true:=by
     intro j u hu
     rw [g3] at hu
     rw [h4,wr_get _ _ _ _ (by rw [hlc];exact hsz)]
     by_cases hj:p.1≤j∧j < p.1 + x.cells.length
     ·rw [if_pos hj] at hu
      rw [if_pos (by rw [hlc,← b1'];exact hj)]
      obtain⟨y1,g1,g2⟩:=decs_get hcv hu
      exact⟨y1,by rw [e1];exact g1,g2,oneV_dec g2 (allOne_ok b3 u (kD hu))⟩
     ·rw [if_neg hj] at hu
      rw [if_neg (by rw [hlc,← b1'];exact hj)]
      obtain⟨y1,g1,g2⟩:=decs_get hr.1 hu
      exact⟨y1,g1,g2,hr.2 y1 (kD g1)⟩
    have hl1:l1.length=cells1.toList.length:=by rw [g1,h4,wr_length,hll]
    refine⟨decs_mk hl1 λj u hu=>(hget j u hu).imp λy h=>⟨h.1,h.2.1⟩,λy hy=>?_⟩
    obtain⟨j,hj⟩:=List.getElem?_of_mem hy
    have hj':j < l1.length:=by rw [hl1];exact (kA hj).1
    obtain⟨y',c1,_,c2⟩:=hget j _ (kC hj')
    rw [hj] at c1;cases c1
    exact c2
   obtain⟨l',cells',g1,g2,g3,g4⟩:=laid_ok h3 hp.2 (by rw [hxs,e2]) hr1
   refine⟨l',cells',by rw [h5,g1],?_,g3,g4⟩
   rw [g2]
   have:=congrArg List.length h4
   rw [wr_length] at this
   simpa using this
theorem zeroC_ok {t:TypeId} {z:List V} (h:zeroC P t=some z):∃ i zv,P.info? t=some i∧i.zero=some zv∧cellsC zv.cells.toList=some z∧∀ w,(zeroValue t).run P w=.ok zv w:=by
 unfold zeroC at h
 split at h <;> try (cases h;done)
 rename_i i hi
 split at h <;> try (cases h;done)
 rename_i zv hz
 exact⟨i,zv,hi,hz,h,λw=>by simp [zeroValue,run_typeInfo' w hi,hz]⟩
theorem run_places:∀ {fs:List Field},sized P fs=true→∃ pl:List (Nat × Nat),(∀ w,(fs.mapM λf=>do pure (f.offset,← sizeOf f.type):Sem (List (Nat × Nat))).run P w=.ok pl w)∧∀ (i:Nat) (f:Field) (n:Nat),fs[i]?=some f→sizeC P f.type=some n→pl[i]?=some (f.offset,n)
 | [],h=>⟨[],λw=>rfl,λi f n hf=>by simp at hf⟩
 | f::fs,h=>by
  simp only [sized] at h
  split at h <;> try (cases h;done)
  rename_i n hn
  obtain⟨pl,h1,h2⟩:=run_places h
  obtain⟨i,hi,hin⟩:=sizeC_ok hn
  refine⟨(f.offset,n)::pl,λw=>?_,λj g m hg hm=>?_⟩
  ·simp only [List.mapM_cons,Sem.run_bind,run_sizeOf' w hi,Result.andThen_ok,Sem.run_pure,h1,hin]
  ·cases j with
   | zero =>
    simp at hg;subst hg
    rw [hn] at hm
    simp at hm;subst hm;rfl
   | succ j=>simp at hg ⊢;exact h2 j g m hg hm
theorem partsF_ok {t:TypeId} {fs:Array Field} {pl:List (Nat × Nat)} (ht:P.underlying t=some (.struct fs)) (hpl:∀ (i:Nat) (f:Field) (n:Nat),fs.toList[i]?=some f→sizeC P f.type=some n→pl[i]?=some (f.offset,n)) :
  ∀ {l:List (Nat × Operand)} {ps:List (Nat × Nat)},partsF P t l=some ps→(l.map λp=>(pl.toArray)[p.1]?)=ps.map some
 | [],ps,h=>by simp [partsF] at h;subst h;rfl
 | (i,x)::l,ps,h=>by
  simp only [partsF] at h
  split at h <;> try (cases h;done)
  rename_i f hf
  split at h <;> try (cases h;done)
  rename_i n r hn hr
  simp only [Option.some.injEq] at h;subst h
  obtain⟨fs',h1,h2⟩:=fieldC_ok hf
  rw [ht] at h1;cases h1
  simp only [List.map_cons]
  rw [partsF_ok ht hpl hr]
  congr 1
  have:=hpl i f n (by simpa using h2) hn
  simpa using this
theorem partsA_ok {sz:Nat}:∀ {l:List (Nat × Operand)},(l.map λp=>(some (p.1 * sz,sz):Option (Nat × Nat)))=(partsA sz l).map some
 | []=>rfl
 | (i,x)::l=>by simp only [List.map_cons,partsA];rw [partsA_ok]
theorem vBuild_ok {D:Type} {σ:H D} {z:List V} {zv:Value} {place:Nat→Option (Nat × Nat)} {parts:List (Nat × Value)} {ps:List (Nat × Nat)} {xs:List V} {k:V→H D→R} (hz:cellsC zv.cells.toList=some z)
  (hp:parts.map (λp=>place p.1)=ps.map some) (hd:decs φ xs=some (parts.map (·.2))) (h:vBuild z z.length ps xs σ k=.ok) :
  ∃ l cells,Instr.fill place zv.cells parts=some cells∧dec φ (.a l)=some (.agg cells)∧k (.a l) σ=.ok:=by
 have hr:RowL φ z zv.cells.toList:=⟨cellsC_dec hz,(cellsC_one hz).1⟩
 obtain⟨l,cells',h3,h4,h5,h6⟩:=laid_ok (show laid ps xs z (λl=>k (.a l) σ)=.ok from h) hp hd hr
 exact⟨l,cells',h3,by simp [dec,h5.1],h6⟩
theorem map_parts (ps:Array (Nat × Operand)) (ρ:Operand→Value):(ps.map λ(i,x)=>(i,ρ x)).toList=ps.toList.map λp=>(p.1,ρ p.2):=by simp
theorem pure_build_s {D:Type} {σ:H D} {k:V→H D→R} {t:TypeId} {ps:Array (Nat × Operand)} {fs:Array Field} {z:List V} {l:List (Nat × Nat)} {us:List V} (ho:o.op=.build t ps) (ht:P.underlying t=some (.struct fs)) (hz:zeroC P t=some z) (hl:partsF P t ps.toList=some l)
  (hs:sized P fs.toList=true) (hus:decs φ us=some ((ps.toList.map (·.2)).map ρ)) (h:vBuild z z.length l us σ k=.ok):PureOK P φ ρ o (λu=>k u σ):=by
 obtain⟨i,zv,hi,hzv,hzc,hrun⟩:=zeroC_ok hz
 obtain⟨pl,h1,h2⟩:=run_places hs
 obtain⟨l',cells,h3,h4,h5⟩:=vBuild_ok (φ:=φ) (place:=(pl.toArray[·]?)) (parts:=ps.toList.map λp=>(p.1,ρ p.2)) hzc (by rw [List.map_map];exact partsF_ok ht h2 hl) (by rw [hus];simp) h
 refine PureOK.mk (s:=Instr.build t (ps.map λ(i,x)=>(i,ρ x))) (by simp [execOp,ho]) h4 (λw=>?_) h5
 simp only [Instr.build,Sem.run_bind,hrun,Result.andThen_ok,run_underlying' w ht]
 rw [Array.mapM_eq_mapM_toList]
 simp only [Sem.run_bind,Sem.run_map,h1,Result.andThen_ok]
 rw [map_parts,h3]
 rfl
theorem pure_build_a {D:Type} {σ:H D} {k:V→H D→R} {t el n:TypeId} {ps:Array (Nat × Operand)} {z:List V} {sz:Nat} {us:List V} (ho:o.op=.build t ps) (ht:P.underlying t=some (.array n el)) (hz:zeroC P t=some z) (hsz:sizeC P el=some sz)
  (hus:decs φ us=some ((ps.toList.map (·.2)).map ρ)) (h:vBuild z z.length (partsA sz ps.toList) us σ k=.ok):PureOK P φ ρ o (λu=>k u σ):=by
 obtain⟨i,zv,hi,hzv,hzc,hrun⟩:=zeroC_ok hz
 obtain⟨inf,hinf,hin⟩:=sizeC_ok hsz
 obtain⟨l',cells,h3,h4,h5⟩:=vBuild_ok (φ:=φ) (place:=λi=>some (i * sz,sz)) (parts:=ps.toList.map λp=>(p.1,ρ p.2)) hzc (by rw [List.map_map];exact partsA_ok) (by rw [hus];simp) h
 refine PureOK.mk (s:=Instr.build t (ps.map λ(i,x)=>(i,ρ x))) (by simp [execOp,ho]) h4 (λw=>?_) h5
 simp only [Instr.build,Sem.run_bind,hrun,Result.andThen_ok,run_underlying' w ht,run_sizeOf' w hinf,hin]
 rw [map_parts,h3]
 rfl
theorem pure_pick {D:Type} {σ:H D} {k:V→H D→R} {c a b:Operand} (hc:Cx φ loc L e ρ) (ho:o.op=.pick c a b)
  (h:bindK (λj=>getO (opd loc c) L e λc=>c.onB (λc=>iff' c (getO (opd loc a) L e λv=>j v) (getO (opd loc b) L e λv=>j v)) 10) (λv=>k v σ)=.ok):PureOK P φ ρ o (λu=>k u σ):=by
 unfold bindK at h
 obtain⟨u,h1,h2⟩:=getO_ok h
 obtain⟨x,rfl,h3⟩:=onB_ok h2
 have ec:=dec_b (hc.opd h1)
 rcases iff_t h3 with⟨rfl,h4⟩ | ⟨rfl,h4⟩
 ·obtain⟨v,h5,h6⟩:=getO_ok h4
  exact⟨v,ρ a,hc.opd h5,λw=>by simp [execOp,ho,ec,asBool],h6⟩
 ·obtain⟨v,h5,h6⟩:=getO_ok h4
  exact⟨v,ρ b,hc.opd h5,λw=>by simp [execOp,ho,ec,asBool],h6⟩
end
section
variable {P:Program} {φ:Phi} {loc:List (Option Nat)} {L:Lc} {e:E} {ρ:Operand→Value} {o:Oper} {k:V→R}
theorem ba_ext {a b:ByteArray} (h:a.data.toList=b.data.toList):a=b:=by
 cases a;cases b;congr 1;exact Array.ext' h
theorem bytesOf_append (a b:List Nat):bytesOf a++bytesOf b=bytesOf (a++b):=by
 apply ba_ext;simp [bytesOf,ByteArray.data_append]
theorem bytesOf_extract (l:List Nat) (o h:Nat):(bytesOf l).extract o h=bytesOf ((l.drop o).take (h - o)):=by
 apply ba_ext
 simp [bytesOf,ByteArray.data_extract,List.map_drop,List.map_take]
theorem bytesOf_size (l:List Nat):(bytesOf l).size=l.length:=by
 show (l.map UInt8.ofNat).toArray.size=_;simp
theorem pure_cat {t yt:Nat} {x y:Operand} {a b:V} (ho:o.op=.binOp .add t x y yt) (hx:dec φ a=some (ρ x)) (hy:dec φ b=some (ρ y)) (h:vCat a b k=.ok):PureOK P φ ρ o k:=by
 obtain⟨l,e1,h1⟩:=onS_ok (x:=a) h
 clear h;subst e1
 obtain⟨m,e2,h2⟩:=onS_ok h1
 clear h1;subst e2
 obtain⟨hb,h3⟩:=iff_ok h2
 rw [lenL_eq,lenL_eq] at hb
 rw [appL_eq] at h3
 have hb':l.length + m.length≤1000000:=Nat.le_of_ble_eq_true hb
 refine pure_bin (yn:=false) ho (by simp) (val:=.string (bytesOf (l++m))) ?_ (by simp [dec]) h3
 rw [dec_s hx,dec_s hy]
 simp only [sBin,Need,bytesOf_size,bytesOf_append]
 refine⟨?_,trivial⟩
 simp [IntKind.max,IntKind.signed,IntKind.bits];omega
theorem run_bound {κ:IntKind} {i y:Nat} {c:BoundsCode} {w:World} (h:i≤y):(Instr.sliceBound (.int κ (i:Int)) y c).run P w=.ok i w:=by
 simp [Instr.sliceBound,asIntOf,h]
def OptR (φ:Phi) (ρ:Operand→Value) (x:Option Operand) (u:Option V):Prop:=match x,u with
 | none,none=>True
 | some x,some u=>dec φ u=some (ρ x)
 | _,_=>False
theorem optI_ok {x:Option Operand} {u:Option V} {d:Nat} {k:Nat→R} (hr:OptR φ ρ x u) (h:optI u d k=.ok):∃ i,((x=none∧i=d)∨∃ z κ,x=some z∧ρ z=.int κ (.ofNat i))∧k i=.ok:=by
 cases x <;> cases u <;> simp only [OptR] at hr
 ·exact⟨d,.inl ⟨rfl,rfl⟩,h⟩
 ·rename_i x u
  obtain⟨κ,i,rfl,h1⟩:=asI_ok (show asI u k=.ok from h)
  exact⟨i,.inr ⟨x,κ,rfl,dec_i hr⟩,h1⟩
theorem run_bounds {isS:Bool} {len cap:Nat} {lo hi:Option Operand} {l h:Nat} {w:World} (hh:(hi=none∧h=len)∨∃ z κ,hi=some z∧ρ z=.int κ (.ofNat h)) (hl:(lo=none∧l=0)∨∃ z κ,lo=some z∧ρ z=.int κ (.ofNat l))
  (h1:l≤h) (h2:h≤cap):(Instr.sliceBounds isS len cap (lo.map ρ) (hi.map ρ) none).run P w=.ok (l,h,cap) w:=by
 rcases hh with⟨rfl,rfl⟩ | ⟨z,κ,rfl,ez⟩ <;> rcases hl with⟨rfl,rfl⟩ | ⟨z',κ',rfl,ez'⟩
 ·simp [Instr.sliceBounds]
 ·simp [Instr.sliceBounds,ez',run_bound h1]
 ·simp [Instr.sliceBounds,ez,run_bound h2]
 ·simp [Instr.sliceBounds,ez,ez',run_bound h2,run_bound h1]
theorem pure_slS {t:Nat} {x:Operand} {lo hi:Option Operand} {u:V} {ul uh:Option V} (ho:o.op=.slice t x lo hi none) (ht:P.underlying t=some .string) (hx:dec φ u=some (ρ x)) (hlo:OptR φ ρ lo ul) (hhi:OptR φ ρ hi uh)
  (h:vSlS ul uh u k=.ok):PureOK P φ ρ o k:=by
 obtain⟨l,e1,h1⟩:=onS_ok (x:=u) h
 clear h;subst e1
 rw [fL_eq,lenL_eq] at h1
 obtain⟨hn,r1,h2⟩:=optI_ok hhi h1
 obtain⟨ln,r2,h3⟩:=optI_ok hlo h2
 obtain⟨hb,h4⟩:=iff_ok h3
 rw [takeL_eq,dropL_eq] at h4
 simp only [Bool.and_eq_true] at hb
 have b1:=Nat.le_of_ble_eq_true hb.1
 have b2:=Nat.le_of_ble_eq_true hb.2
 refine PureOK.mk (s:=Instr.sliceAt t (ρ x) (lo.map ρ) (hi.map ρ) none) (y:=.string (bytesOf ((l.drop ln).take (hn - ln)))) (by simp [execOp,ho]) (by simp [dec]) (λw=>?_) h4
 rw [dec_s hx]
 simp only [Instr.sliceAt,Sem.run_bind,run_underlying' w ht,Result.andThen_ok,Instr.slice]
 rw [bytesOf_size]
 simp only [Option.isSome_none,Bool.false_eq_true,if_false]
 rw [Sem.run_bind,run_bounds r1 r2 b2 b1]
 simp [bytesOf_extract]
theorem pure_sl {t el:Nat} {x:Operand} {lo hi:Option Operand} {u:V} {ul uh:Option V} {inf:TypeInfo} (ho:o.op=.slice t x lo hi none) (ht:P.underlying t=some (.slice el)) (hi':P.info? el=some inf) (hx:dec φ u=some (ρ x)) (hlo:OptR φ ρ lo ul) (hhi:OptR φ ρ hi uh)
  (h:vSl inf.size ul uh u k=.ok):PureOK P φ ρ o k:=by
 have run:∀ {a:Option Addr} {len cap l h:Nat} (w:World),ρ x=.slice a len cap→((hi=none∧h=len)∨∃ z κ,hi=some z∧ρ z=.int κ (.ofNat h))→((lo=none∧l=0)∨∃ z κ,lo=some z∧ρ z=.int κ (.ofNat l))→l≤h→h≤cap →
   (Instr.sliceAt t (ρ x) (lo.map ρ) (hi.map ρ) none).run P w=.ok (.slice (if cap=l then a else a.map (·.add (l * inf.size))) (h - l) (cap - l)) w:=by
  intro a len cap l h w ex r1 r2 b1 b2
  rw [ex]
  simp only [Instr.sliceAt,Sem.run_bind,run_underlying' w ht,Result.andThen_ok,Instr.slice]
  rw [run_bounds r1 r2 b1 b2]
  simp only [Result.andThen_ok,run_sizeOf' w hi',Sem.run_bind,Sem.run_pure]
 rcases onSlN_ok (x:=u) h with⟨e1,h1⟩ | ⟨v,off,n,c,e1,h1⟩
 ·clear h;subst e1
  have ex:ρ x=.slice none 0 0:=by simpa [dec] using hx.symm
  obtain⟨hn,r1,h2⟩:=optI_ok hhi h1
  obtain⟨ln,r2,h3⟩:=optI_ok hlo h2
  obtain⟨hb,h4⟩:=iff_ok h3
  simp only [Bool.and_eq_true] at hb
  have b1:=kB hb.1
  have b2:=kB hb.2
  subst b1 b2
  exact PureOK.mk (y:=.slice none 0 0) (by simp [execOp,ho];rfl) (by simp [dec]) (λw=>by rw [run w ex r1 r2 (Nat.le_refl _) (Nat.le_refl _)];simp) h4
 ·clear h;subst e1
  obtain⟨M,hM,ex,hcap⟩:=dec_sl hx
  obtain⟨hn,r1,h2⟩:=optI_ok hhi h1
  obtain⟨ln,r2,h3⟩:=optI_ok hlo h2
  obtain⟨hb,h4⟩:=iff_ok h3
  simp only [Bool.and_eq_true] at hb
  have b1:=Nat.le_of_ble_eq_true hb.1
  have b2:=Nat.le_of_ble_eq_true hb.2
  have fin:∀ {u':V} {y:Value},dec φ u'=some y→y=.slice (if capOf M c=ln then (some ⟨M.blk,M.base + off,none⟩) else (some ⟨M.blk,M.base + off + ln * inf.size,none⟩)) (hn - ln) (capOf M c - ln)→k u'=.ok→PureOK P φ ρ o k:=λhd hy hk =>
   PureOK.mk (by simp [execOp,ho];rfl) hd (λw=>by rw [run w ex r1 r2 b1 (by omega),hy];simp [add_eq]) hk
  cases c with
  | ex c =>
   rcases iff_t (show iff' _ _ _=.ok from h4) with⟨g1,g2⟩ | ⟨g1,g2⟩
   ·have g1':ln < c:=by simpa using g1
    refine fin (dec_sl_mk (M:=M) hM (by simp only [capOf] at hcap ⊢;show hn - ln≤c - ln;omega)) ?_ g2
    rw [if_neg (show ¬ capOf M (.ex c)=ln by simp only [capOf];omega)]
    show Value.slice (some ⟨M.blk,M.base + (off + ln * inf.size),none⟩) (hn - ln) (c - ln)=_
    rw [Nat.add_assoc] <;> rfl
   ·obtain⟨g3,g4⟩:=iff_ok g2
    have g3':=kB g3
    simp only [capOf] at hcap
    refine fin (dec_sl_mk (M:=M) hM (by simp [capOf])) ?_ g4
    rw [if_pos (show capOf M (.ex c)=ln by simp only [capOf];omega)]
    simp only [capOf]
    congr 1 <;> omega
  | re r =>
   rcases iff_t (show iff' _ _ _=.ok from h4) with⟨g1,g2⟩ | ⟨g1,g2⟩
   ·have g1':=kB g1
    subst g1'
    refine fin (dec_sl_mk (M:=M) hM (by simp only [capOf] at hcap ⊢;omega)) ?_ g2
    simp [capOf]
   ·rcases iff_t g2 with⟨g3,g4⟩ | ⟨g3,g4⟩
    ·have g3':ln < n:=by simpa using g3
     simp only [capOf] at hcap
     refine fin (dec_sl_mk (M:=M) hM (by simp only [capOf];show hn - ln≤M.cap - (r + ln);omega)) ?_ g4
     rw [if_neg (show ¬ capOf M (.re r)=ln by simp only [capOf];omega)]
     show Value.slice (some ⟨M.blk,M.base + (off + ln * inf.size),none⟩) (hn - ln) (M.cap - (r + ln))=_
     rw [Nat.add_assoc] <;> (first | rfl | (simp only [capOf];rw [Nat.sub_sub]))
    ·obtain⟨g5,g6⟩:=iff_ok g4
     have g5':=kB g5
     subst g5'
     refine fin (u':=.se v off r ln inf.size) (y:=.slice (some ⟨M.blk,if M.cap - r=ln then M.base + off else M.base + off + ln * inf.size,none⟩) 0 (M.cap - r - ln)) (by simp [dec,hM]) ?_ g6
     have:capOf M (.re r)=M.cap - r:=rfl
     by_cases hh:M.cap - r=ln
     ·rw [if_pos hh,if_pos (show capOf M (.re r)=ln from hh),Nat.sub_self];rfl
     ·rw [if_neg hh,if_neg (show ¬ capOf M (.re r)=ln from hh),Nat.sub_self];rfl
theorem pure_sl3 {t el:Nat} {x hi mx:Operand} {lo:Option Operand} {u uh um:V} {ul:Option V} {inf:TypeInfo} (ho:o.op=.slice t x lo (some hi) (some mx)) (ht:P.underlying t=some (.slice el)) (hi':P.info? el=some inf) (hx:dec φ u=some (ρ x)) (hlo:OptR φ ρ lo ul)
  (hhi:dec φ uh=some (ρ hi)) (hmx:dec φ um=some (ρ mx)) (h:vSl3 inf.size ul uh um u k=.ok):PureOK P φ ρ o k:=by
 obtain⟨κh,hn,e1,h1⟩:=asI_ok h
 clear h;subst e1
 obtain⟨κm,mn,e2,h2⟩:=asI_ok h1
 clear h1;subst e2
 have eh:=dec_i hhi
 have em:=dec_i hmx
 obtain⟨ln,r2,h3⟩:=optI_ok hlo h2
 have run:∀ {a:Option Addr} {len cap:Nat} (w:World),ρ x=.slice a len cap→ln≤hn→hn≤mn→mn≤cap →
   (Instr.sliceAt t (ρ x) (lo.map ρ) (some (ρ hi)) (some (ρ mx))).run P w=.ok (.slice (if mn=ln then a else a.map (·.add (ln * inf.size))) (hn - ln) (mn - ln)) w:=by
  intro a len cap w ex b1 b2 b3
  rw [ex,eh,em]
  simp only [Instr.sliceAt,Sem.run_bind,run_underlying' w ht,Result.andThen_ok,Instr.slice,Instr.sliceBounds,if_true,Int.ofNat_eq_natCast,run_bound b3,run_bound b2,Option.isSome_some]
  rcases r2 with⟨rfl,rfl⟩ | ⟨z,κ,rfl,ez⟩
  ·simp [run_sizeOf' w hi']
  ·simp [ez,run_bound b1,run_sizeOf' w hi']
 rcases onSlN_ok (x:=u) h3 with⟨e1,h4⟩ | ⟨v,off,n,c,e1,h4⟩
 ·subst e1
  obtain⟨hb,h5⟩:=iff_ok h4
  simp only [Bool.and_eq_true] at hb
  have b1:=kB hb.1.1
  have b2:=kB hb.1.2
  have b3:=kB hb.2
  subst b1 b2 b3
  have ex:ρ x=.slice none 0 0:=by simpa [dec] using hx.symm
  exact PureOK.mk (y:=.slice none 0 0) (by simp [execOp,ho];rfl) (by simp [dec]) (λw=>by rw [run w ex (Nat.le_refl _) (Nat.le_refl _) (Nat.le_refl _)];simp) h5
 ·subst e1
  obtain⟨hb,h5⟩:=iff_ok h4
  simp only [Bool.and_eq_true] at hb
  have b1:=Nat.le_of_ble_eq_true hb.1.1
  have b2:=Nat.le_of_ble_eq_true hb.1.2
  have b3:=Nat.le_of_ble_eq_true hb.2
  obtain⟨M,hM,ex,hcap⟩:=dec_sl hx
  have fin:∀ {u':V} {y:Value},dec φ u'=some y→y=.slice (if mn=ln then (some ⟨M.blk,M.base + off,none⟩) else (some ⟨M.blk,M.base + off + ln * inf.size,none⟩)) (hn - ln) (mn - ln)→k u'=.ok→PureOK P φ ρ o k:=λhd hy hk =>
   PureOK.mk (by simp [execOp,ho];rfl) hd (λw=>by rw [run w ex b1 b2 (by omega),hy];simp [add_eq]) hk
  rcases iff_t h5 with⟨g1,g2⟩ | ⟨g1,g2⟩
  ·have g1':=kB g1
   refine fin (dec_sl_mk (M:=M) hM (by simp [capOf])) ?_ g2
   rw [if_pos g1'];simp [capOf];omega
  ·have g1':=Nat.ne_of_beq_eq_false g1
   refine fin (dec_sl_mk (M:=M) hM (by simp only [capOf];show hn - ln≤mn - ln;omega)) ?_ g2
   rw [if_neg g1']
   show Value.slice (some ⟨M.blk,M.base + (off + ln * inf.size),none⟩) (hn - ln) (mn - ln)=_
   rw [Nat.add_assoc] <;> rfl
theorem pure_slA {t el len:Nat} {x:Operand} {lo hi:Option Operand} {u:V} {ul uh:Option V} {inf:TypeInfo} (ho:o.op=.slice t x lo hi none) (ht:P.underlying t=some (.array len el)) (hi':P.info? el=some inf) (hx:dec φ u=some (ρ x)) (hlo:OptR φ ρ lo ul) (hhi:OptR φ ρ hi uh)
  (h:vSlA len inf.size ul uh u k=.ok):PureOK P φ ρ o k:=by
 obtain⟨v,off,e1,h1⟩:=onP_ok (x:=u) h
 clear h;subst e1
 obtain⟨M,hM,ex⟩:=dec_p hx
 obtain⟨hn,r1,h2⟩:=optI_ok hhi h1
 obtain⟨ln,r2,h3⟩:=optI_ok hlo h2
 obtain⟨hb,h4⟩:=iff_ok h3
 simp only [Bool.and_eq_true] at hb
 have b1:=Nat.le_of_ble_eq_true hb.1.1
 have b2:=Nat.le_of_ble_eq_true hb.1.2
 have b3:ln < len:=by simpa using hb.2
 refine PureOK.mk (s:=Instr.sliceAt t (ρ x) (lo.map ρ) (hi.map ρ) none) (by simp [execOp,ho]) (dec_sl_mk (M:=M) hM (by simp only [capOf];show hn - ln≤len - ln;omega)) (λw=>?_) h4
 rw [ex]
 simp only [Instr.sliceAt,Sem.run_bind,run_underlying' w ht,Result.andThen_ok,Instr.sureAddr,Sem.run_pure]
 rw [run_bounds r1 r2 b1 b2]
 simp only [Result.andThen_ok,run_sizeOf' w hi',Sem.run_bind,Sem.run_pure]
 rw [if_neg (show ¬ len=ln by omega),add_eq]
 show Result.ok (Value.slice (some ⟨M.blk,M.base + off + ln * inf.size,none⟩) (hn - ln) (len - ln)) w=Result.ok (Value.slice (some ⟨M.blk,M.base + (off + ln * inf.size),none⟩) (hn - ln) (len - ln)) w
 rw [Nat.add_assoc]
theorem pure_mkf {F:Nat} {first cap:Array Operand} {us:List V} (ho:o.op=.makeFunc (.func F) first cap) (hus:decs φ us=some ((first.toList++cap.toList).map ρ)) (h:k (.f F (us.take first.toList.length) (us.drop first.toList.length))=.ok):PureOK P φ ρ o k:=by
 have hl:=decs_length hus
 have h1:decs φ (us.take first.toList.length)=some (first.toList.map ρ):=by
  refine decs_mk (by simp at hl ⊢;omega) λi x hx=>?_
  rw [List.getElem?_take] at hx
  split at hx <;> try (cases hx;done)
  rename_i hi
  obtain⟨y,h2,h3⟩:=decs_get hus hx
  rw [List.map_append,List.getElem?_append_left (by simpa using hi)] at h2
  exact⟨y,h2,h3⟩
 have h2:decs φ (us.drop first.toList.length)=some (cap.toList.map ρ):=by
  refine decs_mk (by simp at hl ⊢;omega) λi x hx=>?_
  rw [List.getElem?_drop] at hx
  obtain⟨y,h2,h3⟩:=decs_get hus hx
  rw [List.map_append,List.getElem?_append_right (by simp)] at h2
  simp at h2
  exact⟨y,by simpa using h2,h3⟩
 exact PureOK.mk (s:=Instr.makeFunc (.func F) (first.map ρ) (cap.map ρ)) (y:=.func (.func F) (first.toList.map ρ).toArray (cap.toList.map ρ).toArray) (by simp [execOp,ho]) (by simp only [dec,h1,h2];rfl) (λw=>by
  have e1:(first.toList.map ρ).toArray=first.map ρ:=by apply Array.ext';simp
  have e2:(cap.toList.map ρ).toArray=cap.map ρ:=by apply Array.ext';simp
  rw [e1,e2];rfl) h
theorem pure_mki {t el:Nat} {x:Operand} {u:V} (ho:o.op=.makeInterface t x) (ht:P.underlying t=some (.pointer el)) (hx:dec φ u=some (ρ x)) (h:k (.q t u)=.ok):PureOK P φ ρ o k :=
 PureOK.mk (s:=Instr.makeInterface t (ρ x)) (y:=.iface t (ρ x)) (by simp [execOp,ho]) (by simp [dec,hx]) (λw=>by simp [Instr.makeInterface,run_underlying' w ht]) h
theorem pure_s2s {s d:Nat} {x:Operand} {u:V} (ho:o.op=.convert s d x) (hs:P.underlying s=some .string) (hd:P.underlying d=some .string) (hx:dec φ u=some (ρ x)) (h:vS2S u k=.ok):PureOK P φ ρ o k:=by
 obtain⟨l,e1,h1⟩:=onS_ok (x:=u) h
 clear h;subst e1
 exact PureOK.mk (s:=convert s d (ρ x)) (by simp [execOp,ho]) hx (λw=>by
  rw [dec_s hx]
  simp [convert,run_underlying' w hs,run_underlying' w hd]) h1
end
end Go.Ev
end
end
