/-
  A part of the proof: what the functions of the program come to, read off the model: no premise of its own, no axiom. Blank space is spared. By an AI agent.
-/
import Derived.Test.YtihllmhdjbomjaaGreatDoorA2
import Derived.Test.YtihllmhdjbomjaaGreatDoorA1
import Derived.Test.YtihllmhdjbomjaaGreatDoorMaps
import Derived.Lib.Bytealg
set_option linter.all false
set_option maxRecDepth 100000
noncomputable section
section
namespace Go.Fk
open Go Go.MapKept Go.Maps
open Go.WideElems (Fit rd rg rg_of)
theorem intTy:P.underlying T.int=some (.int .i64):=by kernel_rfl
theorem setTy:MapTy P T.nfa_set T.int T.bool (.int .i64) .bool:=⟨by kernel_rfl,int_keyed intTy⟩
abbrev SetAt (H:View) (m:Nat) (S:Int→Prop):Prop:=MapAt P T.int (.int .i64) .bool H m λk v=>S k∧v=true
abbrev SetO (H:View) (mo:Option Nat) (S:Int→Prop):Prop:=MapO P T.int (.int .i64) .bool H mo λk v=>S k∧v=true
theorem SetAt.congr {H:View} {m:Nat} {S S':Int→Prop} (h:SetAt H m S) (hr:∀ k,S k↔S' k):SetAt H m S':=MapAt.congr h λx y=>by rw [hr x]
def Pos (k:Int):Prop:=0≤k∧k < 1000000
theorem Pos.ok {k:Int} (h:Pos k):OkKey P T.int (.int .i64 k):=by
 refine⟨.int .i64 k,keyOf_int_mk intTy ?_⟩
 obtain⟨h1,h2⟩:=h
 have e1:IntKind.min .i64=-9223372036854775808:=rfl
 have e2:IntKind.max .i64=9223372036854775807:=rfl
 simp only [Lit.wf,Bool.and_eq_true,decide_eq_true_eq,e1,e2]
 omega
theorem maps_Copy_spec {w:World} {dst:Nat} {src:Option Nat} {M M':Nat→Prop} {D S:Int→Prop} {K:Unit→World→Prop} (hd:SetAt (V M' w) dst D) (hs:SetO (V M w) src S) (hne:src≠some dst) (hp:∀ k,S k→Pos k)
  (hK:∀ w',Keeps (·=dst) w w'→SetAt (V M' w') dst (λk=>D k∨S k)→K () w'):maps_Copy.C (some dst) src w K:=by
 refine maps_Copy.ok _ _ _ _ ?_
 simp only [maps_Copy.M]
 have hlt:=hd.lt
 have hout:=hd.out
 refine range_map setTy.ty hs (λr d _ w'=>Keeps (λb=>b=dst) w w'∧SetAt (V M' w') dst λk=>D k∨d k) ?_ ?_ ?_ ?_
 ·intro r w' hr hk
  exact⟨hk.no,SetAt.congr (hd.keep hk id hout) λk=>by simp⟩
 ·intro r d _ w1 w2 hr ⟨h1,h2⟩ hk
  exact⟨h1.then hk λi hi e=>by omega,h2.keep hk (λe=>by omega) hout⟩
 ·rintro r d _ w2 x y hr hr2 ⟨h1,h2⟩ ⟨hx,rfl⟩ hnd hm again hagain
  refine App0.put (M:=M') (kt:=.int .i64) (vt:=.bool) (x:=x) (y:=true) setTy h2 (hp x hx).ok λw' hk hz hs'=>?_
  refine hagain () w' ⟨h1.trans hk,?_⟩ ?_ ?_
  ·refine MapAt.congr hs' λa b=>?_
   by_cases hax:a=x
   ·subst hax;simp
   ·simp [hax]
  ·exact hk.keep r hr2 (by omega)
  ·rintro m rfl
   by_cases hm2:m < w2.heap.size
   ·exact hk.keep m hm2 λe=>hne (by rw [e])
   ·rw [Array.getElem?_eq_none (by omega),Array.getElem?_eq_none (by omega)]
 ·rintro r d _ w2 hr ⟨h1,h2⟩ hd
  exact hK w2 h1 (h2.congr λk=>by rw [hd k];simp)
theorem nfa_set_with_spec {w:World} {a b:Option Nat} {M:Nat→Prop} {A B:Int→Prop} {K:Option Nat→World→Prop} (ha:SetO (V M w) a A) (ha0:a≠none) (hb:SetO (V M w) b B) (hp:∀ k,B k→Pos k)
  (hK:∀ m w',Keeps No w w'→w.heap.size≤m→SetAt (V No w') m (λk=>A k∨B k)→K (some m) w'):nfa_set_with.C a b w K:=by
 refine nfa_set_with.ok _ _ _ _ ?_
 simp only [nfa_set_with.M]
 cases a with
 | none=>exact absurd rfl ha0
 | some a =>
  obtain⟨es,clock,⟨h0,h1⟩,h2⟩:=ha
  refine Calls.mono (Go.Proofs.Tryz.maps_Clone a es clock w h1) ?_
  rintro e w' ⟨rfl,rfl⟩
  refine⟨some w.heap.size,rfl,?_⟩
  refine Al.mk (o:=.map es clock) (w:=w) (k:=λb' w'=>b'=w.heap.size→maps_Copy.C (some b') b w' λ_ w2=>K (some b') w2) (λb' w1 hn hb'=>?_) rfl
  have h3:SetAt (V No w1) b' A:=⟨es,clock,⟨id,hn.at_⟩,h2⟩
  refine maps_Copy_spec h3 (hb.mono (V.keeps0 hn.keeps)) ?_ hp λw2 hk h4=>?_
  ·rintro rfl
   have:=MapAt.lt hb
   omega
  ·exact hK b' w2 ((hn.keeps.no (M:=No)).then hk λi hi e=>by omega) (by omega) h4
theorem nodup_bound:∀ (n:Nat) (l:List Int),l.Nodup→(∀ k∈l,0≤k∧k < n)→l.length≤n:=by
 intro n
 induction n with
 | zero =>
  intro l _ h
  cases l with
  | nil=>simp
  | cons a l=>have:=h a (by simp);omega
 | succ n ih =>
  intro l hn h
  have h1:(l.erase (n:Int)).length≤n:=ih _ (hn.erase _) λk hk=>by
   have h2:=(hn.mem_erase_iff).1 hk
   have h3:=h k h2.2
   have h4:k≠(n:Int):=h2.1
   omega
  have:=List.length_erase (a:=(n:Int)) (l:=l)
  split at this <;> omega
def boolElem (v:Value):Option (DataW Unit × List MemPlace):=match v with
 | .bool b=>some (.lit (.bool b),[])
 | _=>none
theorem sorted_unique:∀ {l l':List Int},l.Pairwise (· < ·)→l'.Pairwise (· < ·)→(∀ k,k∈l↔k∈l')→l=l'
 | [],[],_,_,_=>rfl
 | [],b::l',_,_,h=>by have:=(h b).2 (by simp);simp at this
 | a::l,[],_,_,h=>by have:=(h a).1 (by simp);simp at this
 | a::l,b::l',h1,h2,h=>by
  rw [List.pairwise_cons] at h1 h2
  have hab:a=b:=by
   have h3:=(h a).1 (by simp)
   have h4:=(h b).2 (by simp)
   rcases List.mem_cons.1 h3 with h3 | h3
   ·exact h3
   ·rcases List.mem_cons.1 h4 with h4 | h4
    ·exact h4.symm
    ·have:=h2.1 a h3;have:=h1.1 b h4;omega
  subst hab
  rw [sorted_unique h1.2 h2.2 λk=>?_]
  have:=h k
  simp only [List.mem_cons] at this
  constructor
  ·intro hk
   rcases this.1 (.inr hk) with rfl | h5
   ·have:=h1.1 _ hk;omega
   ·exact h5
  ·intro hk
   rcases this.2 (.inr hk) with rfl | h5
   ·have:=h2.1 _ hk;omega
   ·exact h5
theorem nfa_set_sorted_spec {w:World} {mo:Option Nat} {M:Nat→Prop} {S:Int→Prop} {K:Sl→World→Prop} (h:SetO (V M w) mo S) (hp:∀ k,S k→Pos k)
  (hK:∀ (l:Sl) (xs:List Int) w',Keeps No w w'→Own w' w.heap.size T.int 1 l (xs.map (Ty.int .i64).enc)→xs.Pairwise (· < ·)→(∀ k,k∈xs↔S k)→K l w'):nfa_set_sorted.C mo w K:=by
 refine nfa_set_sorted.ok _ _ _ ?_
 simp only [nfa_set_sorted.M]
 refine Calls.mono (Go.Proofs.Tryz.maps_Keys mo w) ?_
 rintro e w1 ⟨rfl,rfl⟩
 refine⟨.func (.func FN.maps_Keys_S1) #[] #[.pointer (some ⟨w.heap.size,0,none⟩)],rfl,?_⟩
 have hk0:Keeps No w (w.alloc (.cells #[.map mo] T.nfa_set)):=Al.mk (o:=.cells #[.map mo] T.nfa_set) (w:=w) (k:=λb' w'=>Keeps No w w') (λ_ _ hn=>hn.keeps)
 cases mo with
 | none =>
  refine Calls.mono (Go.Proofs.Tryz.slices_Sorted_nil w) ?_
  rintro e w2 ⟨rfl,hb⟩
  refine⟨⟨none,0,0⟩,rfl,hK _ [] w2 (hk0.trans (Keeps.of_below (by simpa using hb))) (Own.nil _ _ _ _) .nil λk=>?_⟩
  simp
  intro hk
  exact h k true ⟨hk,rfl⟩
 | some m =>
  obtain⟨es,clock,⟨h0,hb⟩,hs,h3,h4⟩:=h
  have hread:∀ e∈es.toList,∃ k:Int,e.key=.int .i64 k∧S k∧rd P T.int boolElem e=some (.int .i64 k,.lit (.bool true)):=by
   intro e he
   obtain⟨⟨l,hl⟩,k,v,h5,h6,h7,rfl⟩:=h3 e he
   refine⟨k,h5,h7,?_⟩
   have h8:=hl
   rw [h5] at h8
   obtain⟨k',h9,rfl,_⟩:=keyOf_i64 intTy h8
   cases encZ_inj h9
   simp [rd,hl,h6,boolElem,Ty.enc]
  have hrg:∀ e∈es.toList,∃ k:Int,e.key=.int .i64 k∧S k∧rg P T.int boolElem e=(.int .i64 k,.lit (.bool true)):=by
   intro e he
   obtain⟨k,h5,h6,h7⟩:=hread e he
   exact⟨k,h5,h6,rg_of h7⟩
  have hkeys:∀ k,k∈es.toList.map (λe=>intOf (rg P T.int boolElem e).1)↔S k:=by
   intro k
   rw [List.mem_map]
   constructor
   ·rintro⟨e,he,rfl⟩
    obtain⟨k,_,h6,h7⟩:=hrg e he
    rw [h7];exact h6
   ·intro hk
    obtain⟨e,he,h5,_⟩:=h4 k true ⟨hk,rfl⟩
    obtain⟨k',h8,h6,h7⟩:=hrg e he
    rw [h5] at h8
    cases encZ_inj h8
    exact⟨e,he,by rw [h7];rfl⟩
  have hnd:(es.toList.map (λe=>intOf (rg P T.int boolElem e).1)).Nodup:=by
   rw [List.Nodup,List.pairwise_map]
   refine List.Pairwise.imp_of_mem ?_ ((stamped_iff es clock).1 hs).2.2
   intro a b ha hb hne he
   obtain⟨k,h5,_,h7⟩:=hrg a ha
   obtain⟨k',h5',_,h7'⟩:=hrg b hb
   rw [h7,h7'] at he
   simp only [intOf] at he
   exact hne (by rw [h5,h5',he])
  have hlen:es.size≤1000000:=by
   have:=nodup_bound 1000000 _ hnd λk hk=>hp k ((hkeys k).1 hk)
   simpa using this
  have hown:World.ownsMap w P T.int boolElem m es.size (.map ((es.toList.map (rg P T.int boolElem)).foldr DataW.insert [])):=by
   refine⟨es,clock,hb,⟨?_,hs,λe he=>?_⟩,Nat.le_refl _,rfl⟩
   ·have:(1000000:Nat)≤maxLen:=by decide
    omega
   ·obtain⟨k,_,_,h7⟩:=hread e he
    exact⟨_,h7⟩
  have hsize:Maps.size (DataW.map ((es.toList.map (rg P T.int boolElem)).foldr DataW.insert []))=es.size:=by
   rw [size_eq,length_sorted];simp
  refine Calls.mono (Go.Proofs.Tryz.slices_Sorted m es.size _ boolElem w hown ?_ ?_) ?_
  ·rw [hsize]
   have:(1000000:Nat)≤maxLen:=by decide
   omega
  ·rw [hsize];omega
  ·rintro e w2 ⟨v,ss,rfl,hperm,hrow,_,hbelow⟩
   have hperm2:ss.Perm (es.toList.map (λe=>intOf (rg P T.int boolElem e).1)):=by
    refine hperm.trans ?_
    have:intKeys (DataW.map ((es.toList.map (rg P T.int boolElem)).foldr DataW.insert []))=((es.toList.map (rg P T.int boolElem)).foldr DataW.insert []).map λp=>intOf p.1:=rfl
    rw [this]
    have h9:=(Go.WideShapes.sorted_perm (es.toList.map (rg P T.int boolElem))).map λp=>intOf p.1
    rw [List.map_map] at h9
    simpa only [Function.comp_def] using h9
   have hms:=List.mergeSort_perm ss (λx y=>decide (x≤y))
   have hnd2:(ss.mergeSort (λx y=>decide (x≤y))).Nodup:=(hms.trans hperm2).nodup_iff.2 hnd
   have hsorted:(ss.mergeSort (λx y=>decide (x≤y))).Pairwise (· < ·):=by
    have h1:=List.pairwise_mergeSort (le:=λx y:Int=>decide (x≤y)) (λa b c h1 h2=>by simp only [decide_eq_true_eq] at *;omega) (λa b=>by simp only [Bool.or_eq_true,decide_eq_true_eq];omega) ss
    exact (h1.and hnd2).imp λ{a b} ⟨h2,h3⟩=>by simp only [decide_eq_true_eq] at h2;have h3:a≠b:=h3;omega
   obtain⟨a,n,c,rfl⟩:∃ a n c,v=.slice a n c:=by
    rcases hrow.2 with⟨rfl,h⟩ | ⟨g,cap,cur,rfl,_⟩
    ·exact⟨_,_,_,rfl⟩
    ·exact⟨_,_,_,rfl⟩
   have hlen2:n=ss.length:=by
    rcases hrow.2 with⟨hv,h⟩ | ⟨g,cap,cur,hv,_⟩
    ·cases hv;omega
    ·cases hv;rfl
   subst hlen2
   refine⟨⟨a,ss.length,c⟩,rfl,hK _ (ss.mergeSort (λx y=>decide (x≤y))) w2 ?_ ?_ hsorted λk=>?_⟩
   ·have:w.heap.size + 1=(w.alloc (.cells #[.map (some m)] T.nfa_set)).heap.size:=by simp
    rw [this] at hbelow
    exact hk0.trans (Keeps.of_below hbelow)
   ·obtain⟨h1,h2⟩:=hrow
    refine⟨h1,h2.imp id ?_⟩
    rintro⟨g,cap,cur,hv,hge,hrest⟩
    exact⟨g,cap,cur,hv,by omega,hrest⟩
   ·rw [hms.mem_iff,hperm2.mem_iff,hkeys]
end Go.Fk
end
section
namespace Go.Fk
open Go Go.MapKept
theorem append_nil {P:Program} {T T' E size bytes:Nat} {z:Value} {w:World} {k:Sl→World→Prop} (hE:Elem P T E z size bytes) (hk:k ⟨none,0,0⟩ w) :
  App P (Builtin.append_ #[T,T] T' #[.slice none 0 0,.slice none 0 0]) (.one .sl) w k:=by
 obtain⟨i,hi,hzz⟩:=kE hE.inf
 refine⟨⟨none,0,0⟩,w,?_,hk⟩
 simp only [Prod.mk.injEq] at hzz
 obtain⟨hz,hs,hb⟩:=hzz
 simp [Builtin.append_,run_underlying hE.sl,Go.run_sizeOf w hi,Builtin.lenOf,Builtin.firstCells,Result.andThen,RTy.enc,Ty.enc]
 done
theorem elPtr:Elem P T.sl_p_regex_Node T.p_regex_Node (.pointer none) 1 8:=⟨by kernel_rfl,by kernel_rfl,rfl,by decide⟩
theorem elPos:Elem P T.sl_nfa_position T.nfa_position (.agg #[.int .u64 0,.int .u64 0,.int .u64 0,.int .u64 0,.int .i64 0,.map none]) 6 48:=⟨by kernel_rfl,by kernel_rfl,rfl,by decide⟩
theorem elKnown:Elem P T.sl_nfa_known T.nfa_known (.agg #[.map none,.map none,.bool false]) 3 24:=⟨by kernel_rfl,by kernel_rfl,rfl,by decide⟩
theorem elInt:Elem P T.sl_int T.int (.int .i64 0) 1 8:=⟨by kernel_rfl,by kernel_rfl,rfl,by decide⟩
end Go.Fk
namespace Go.Fk
theorem regex_Parts_spec {M:Nat→Prop} {w:World} {p:Option Addr} {x:Re} {K:Sl→World→Prop} (hM:Old M w) (h:Nd (V M w) p x)
  (hk:∀ l ps w',Keeps No w w'→SlT .ptr (V M w') l ps→All2 (Nd (V M w')) ps x.parts→K l w'):regex_Parts.C p w K:=by
 have key:∀ (c:Nat) (cs:List (Option Addr)) (m:Nat),w.heap[c]?=some (.cells (cs.map Value.pointer).toArray T.p_regex_Node (0,0))→cs.length=m→m≤2→All2 (Nd (V M w)) cs x.parts →
   App P (Builtin.append_ #[T.sl_p_regex_Node,T.sl_p_regex_Node] T.sl_p_regex_Node #[.slice none 0 0,.slice (some ⟨c,0,none⟩) m m]) (.one .sl) w K:=by
  intro c cs m hc hm hm2 ha
  refine append_own (l:=⟨none,0,0⟩) (xs:=[]) (news:=cs.map Value.pointer) (base:=w.heap.size) elPtr (Own.nil _ _ _ _) (by simpa using hm) (λj u hu=>?_) (by simp [Value.oneCell']) (by simp only [];omega) (by simp only [];omega) (Nat.le_refl _) λl' w' h1 h2 h3 h4=>?_
  ·rw [Nat.zero_add]
   exact cell_of hc (by simpa using hu)
  ·have hk0:Keeps No w w':=h3.mono λb _ ⟨a,h,_⟩=>by simp at h
   refine hk l' cs w' hk0 (Own.reads (t:=.ptr) (base:=w.heap.size) (E:=T.p_regex_Node) (show Own w' w.heap.size T.p_regex_Node 1 l' (cs.map Value.pointer) by simpa using h1) λb hb hm=>?_) (ha.mono λa b hN=>hN.mono (V.keeps0 hk0))
   have:=(h1.ge hb).1
   have:=hM b hm
   omega
 cases h with
 | set h hw =>
  refine regex_Parts.ok _ _ _ ?_
  simp only [regex_Parts.M,NilC_some]
  exact Ld.sl (cell_of h.2 rfl) (append_nil elPtr (hk _ [] w Keeps.refl SlT.nil .nil))
 | empty h =>
  refine regex_Parts.ok _ _ _ ?_
  simp only [regex_Parts.M,NilC_some]
  exact Ld.sl (cell_of h.2 rfl) (append_nil elPtr (hk _ [] w Keeps.refl SlT.nil .nil))
 | cat h h' hp hq =>
  refine regex_Parts.ok _ _ _ ?_
  simp only [regex_Parts.M,NilC_some]
  exact Ld.sl (cell_of h.2 rfl) (key _ [_,_] 2 h'.2 rfl (by omega) (.cons hp (.cons hq .nil)))
 | or h h' hp hq =>
  refine regex_Parts.ok _ _ _ ?_
  simp only [regex_Parts.M,NilC_some]
  exact Ld.sl (cell_of h.2 rfl) (key _ [_,_] 2 h'.2 rfl (by omega) (.cons hp (.cons hq .nil)))
 | star h h' hp =>
  refine regex_Parts.ok _ _ _ ?_
  simp only [regex_Parts.M,NilC_some]
  exact Ld.sl (cell_of h.2 rfl) (key _ [_] 1 h'.2 rfl (by omega) (.cons hp .nil))
theorem cnt_parts {x:Re} (h:x.kind≠0):x.cnt=(x.parts.map Re.cnt).sum:=by
 cases x <;> simp [Re.cnt,Re.parts,Re.kind] at *
theorem nfa_count_spec {most:Int} (hm0:0≤most) (hm1:most < 1000000):∀ (n:Nat) (x:Re),x.size≤n→∀ {M:Nat→Prop} {w:World} {p:Option Addr} {K:Int→World→Prop} (hM:Old M w) (hs:x.size < 1000000000000) (h:Nd (V M w) p x)
  (hk:∀ (r:Int) w',Keeps No w w'→0≤r→r≤x.cnt→((x.cnt:Int)≤most→r=x.cnt)→(most < x.cnt→most < r)→K r w'),nfa_count.C p most w K:=by
 intro n
 induction n with
 | zero=>intro x hx;have:=size_pos x;omega
 | succ n ih =>
  intro x hx M w p K hM hs h hk
  refine nfa_count.ok _ _ _ _ ?_
  simp only [nfa_count.M]
  refine regex_Kind_spec h ?_
  refine Br.mk (λht=>?_) (λhf=>?_)
  ·have:x.cnt=1:=by cases x <;> simp [Re.kind,Re.cnt] at *
   exact hk 1 w Keeps.refl (by omega) (by omega) (by omega) (by omega)
  ·have hkind:x.kind≠0:=by simpa using hf
   refine regex_Parts_spec hM h λl ps w1 hk1 hl ha=>?_
   have hc:=cnt_parts hkind
   have hsz:=Re.size_parts x
   have hp2:x.parts.length≤2:=by cases x <;> simp [Re.parts]
   have hlen:=hl.1;have hal:=ha.length
   refine Loop.mk (λs w'=>Keeps No w1 w'∧∃ (k:Nat),k≤ps.length∧s.2=(k:Int)∧0≤s.1∧s.1≤(((x.parts.map Re.cnt).take k).sum:Nat)∧((((x.parts.map Re.cnt).take k).sum:Nat)≤most→s.1=(((x.parts.map Re.cnt).take k).sum:Nat)) ∧
    (most < (((x.parts.map Re.cnt).take k).sum:Nat)→most < s.1)) (λs=>(ps.length:Nat) - s.2.toNat) ⟨Keeps.refl,0,by omega,by simp⟩ ?_
   rintro⟨s1,s2⟩ w2 ⟨hk2,k,hkl,e2,h0,h1,h2,h3⟩ R hR
   dsimp only at e2 h0 h1 h2 h3
   subst e2
   refine Br.mk (λht=>?_) (λhf=>?_)
   ·have ht:k < ps.length:=by simpa [hlen] using ht
    refine IdxS.get (M:=M) (hl.mono (V.keeps0 hk2)) (by simp) (by simp;omega) λq hq=>?_
    simp at hq
    obtain⟨y,hy,hN⟩:=ha.get _ _ hq
    have hy':(x.parts.map Re.cnt)[k]?=some y.cnt:=by simp [hy]
    have h4:=sum_take_succ _ _ _ hy'
    have h5:=sum_take_le (x.parts.map Re.cnt) (k + 1)
    have hyz:(x.parts.map Re.size)[k]?=some y.size:=by simp [hy]
    have h6:=sum_take_succ _ _ _ hyz
    have h7:=sum_take_le (x.parts.map Re.size) (k + 1)
    have h8:=x.cnt_size
    refine Br.mk (λht=>?_) (λhf=>?_)
    ·have ht:=kG ht
     exact hk s1 w2 (hk1.trans hk2) h0 (by omega) (by omega) (λ_=>ht)
    ·have hf:=kF hf
     refine ih y (by omega) ((hM.keeps hk1).keeps hk2) (by omega) (hN.mono (V.keeps0 hk2)) λr w3 hk3 g0 g1 g2 g3=>?_
     refine hR _ _ ⟨hk2.trans hk3,k + 1,by omega,?_⟩ ?_
     ·dsimp only
      rw [w64_eq (by omega),w64_eq (by omega),h4]
      refine⟨by omega,by omega,by omega,?_,?_⟩ <;> omega
     ·dsimp only;rw [w64_eq (by omega)];omega
   ·have hf:ps.length≤k:=by simpa [hlen] using hf
    have:k=x.parts.length:=by omega
    subst this
    have e:(List.take x.parts.length (List.map Re.cnt x.parts)).sum=x.cnt:=by rw [hc,List.take_of_length_le (by simp)]
    rw [e] at h1 h2 h3
    exact hk s1 w2 (hk1.trans hk2) h0 h1 h2 h3
end Go.Fk
end
section
namespace Go.Fk
open Go Go.MapKept
structure PosV where
 n0:Nat
 n1:Nat
 n2:Nat
 n3:Nat
 rule:Int
 m:Nat
def PosV.cells (v:PosV):List Value:=[.int .u64 v.n0,.int .u64 v.n1,.int .u64 v.n2,.int .u64 v.n3,.int .i64 v.rule,.map (some v.m)]
structure MachAt (w:World) (bm base:Nat) (fs:List ((Nat→Bool) × Int)) (F:Int→Int→Prop) (l rl:Sl) (vs:List PosV) (Ft:Nat→Prop):Prop where
 at_:w.heap[bm]?=some (.cells #[.slice l.a l.n l.c,.slice rl.a rl.n rl.c] T.nfa_Machine (0,0))
 own:Own w base T.nfa_position 6 l (vs.map PosV.cells).flatten
 pos:All2 (λv x=>Words x.1 v.n0 v.n1 v.n2 v.n3∧v.rule=x.2) vs fs
 sets:∀ (i:Nat) v,vs[i]?=some v→SetAt (V No w) v.m (F i)
 apart:∀ (i j:Nat) v v',vs[i]?=some v→vs[j]?=some v'→v.m=v'.m→i=j
 foot:∀ b,(b=bm∨l.blk b∨∃ v∈vs,v.m=b)→Ft b
 old:∀ b,Ft b→base≤b∧b < w.heap.size
 fin:∀ p q,F p q→(0≤p∧p < fs.length)∧0≤q∧q < fs.length
 few:fs.length≤2000
def Mach (w:World) (bm base:Nat) (fs:List ((Nat→Bool) × Int)) (F:Int→Int→Prop) (rl:Sl) (Ft:Nat→Prop):Prop:=∃ l vs,MachAt w bm base fs F l rl vs Ft
theorem MachAt.keep {w w':World} {bm base:Nat} {fs:List ((Nat→Bool) × Int)} {F:Int→Int→Prop} {l rl:Sl} {vs:List PosV} {Ft N:Nat→Prop} (h:MachAt w bm base fs F l rl vs Ft) (hk:Keeps N w w') (hn:∀ b,N b→¬ Ft b):MachAt w' bm base fs F l rl vs Ft where
 at_:=hk.blk h.at_ λhm=>hn _ hm (h.foot _ (.inl rfl))
 own:=h.own.keep hk λb hb hb'=>hn b hb (h.foot _ (.inr (.inl hb')))
 pos:=h.pos
 sets:=λi v hv=>(h.sets i v hv).keep hk (λhm=>hn _ hm (h.foot _ (.inr (.inr ⟨v,kD hv,rfl⟩)))) id
 apart:=h.apart
 foot:=h.foot
 old:=λb hb=>⟨(h.old b hb).1,Nat.lt_of_lt_of_le (h.old b hb).2 hk.size⟩
 fin:=h.fin
 few:=h.few
theorem Mach.keep {w w':World} {bm base:Nat} {fs:List ((Nat→Bool) × Int)} {F:Int→Int→Prop} {rl:Sl} {Ft N:Nat→Prop} (h:Mach w bm base fs F rl Ft) (hk:Keeps N w w') (hn:∀ b,N b→¬ Ft b):Mach w' bm base fs F rl Ft:=by
 obtain⟨l,vs,h⟩:=h
 exact⟨l,vs,h.keep hk hn⟩
theorem Mach.keep0 {w w':World} {bm base:Nat} {fs:List ((Nat→Bool) × Int)} {F:Int→Int→Prop} {rl:Sl} {Ft:Nat→Prop} (h:Mach w bm base fs F rl Ft) (hk:Keeps No w w'):Mach w' bm base fs F rl Ft:=h.keep hk λ_ h=>h.elim
theorem Mach.congr {w:World} {bm base:Nat} {fs:List ((Nat→Bool) × Int)} {F F':Int→Int→Prop} {rl:Sl} {Ft:Nat→Prop} (h:Mach w bm base fs F rl Ft) (hF:∀ p q,F p q↔F' p q):Mach w bm base fs F' rl Ft:=by
 have:F=F':=funext λp=>funext λq=>propext (hF p q)
 exact this ▸ h
theorem Mach.old {w:World} {bm base:Nat} {fs:List ((Nat→Bool) × Int)} {F:Int→Int→Prop} {rl:Sl} {Ft:Nat→Prop} (h:Mach w bm base fs F rl Ft):Old Ft w:=by
 obtain⟨l,vs,h⟩:=h
 exact λb hb=>(h.old b hb).2
theorem Mach.few {w:World} {bm base:Nat} {fs:List ((Nat→Bool) × Int)} {F:Int→Int→Prop} {rl:Sl} {Ft:Nat→Prop} (h:Mach w bm base fs F rl Ft):fs.length≤2000:=by
 obtain⟨l,vs,h⟩:=h
 exact h.few
theorem MachAt.len {w:World} {bm base:Nat} {fs:List ((Nat→Bool) × Int)} {F:Int→Int→Prop} {l rl:Sl} {vs:List PosV} {Ft:Nat→Prop} (h:MachAt w bm base fs F l rl vs Ft):l.n=fs.length∧vs.length=fs.length:=by
 have h1:=h.own.len
 rw [flatten_len (sz:=6) (λc hc=>by obtain⟨v,_,rfl⟩:=List.mem_map.1 hc;rfl),List.length_map] at h1
 have h2:=h.pos.length
 omega
theorem MachAt.rows {w:World} {bm base:Nat} {fs:List ((Nat→Bool) × Int)} {F:Int→Int→Prop} {l rl:Sl} {vs:List PosV} {Ft:Nat→Prop} (h:MachAt w bm base fs F l rl vs Ft):SlC (V No w) l 6 (vs.map PosV.cells) :=
 Own.readsC h.own (by omega) (λc hc=>by obtain⟨v,_,rfl⟩:=List.mem_map.1 hc;rfl) λ_ _ h=>h.elim
theorem nfa_Machine_link_spec {w:World} {bm base from_ to:Nat} {fs:List ((Nat→Bool) × Int)} {F:Int→Int→Prop} {rl:Sl} {Ft:Nat→Prop} {A B:Int→Prop} {K:Unit→World→Prop}
  (hm:Mach w bm base fs F rl Ft) (ha:SetAt (V Ft w) from_ A) (hb:SetAt (V Ft w) to B) (hA:∀ k,A k→0≤k∧k < fs.length) (hB:∀ k,B k→0≤k∧k < fs.length)
  (hK:∀ w',Keeps Ft w w'→Mach w' bm base fs (λp q=>F p q∨(A p∧B q)) rl Ft→K () w'):nfa_Machine_link.C (some ⟨bm,0,none⟩) (some from_) (some to) w K:=by
 refine nfa_Machine_link.ok _ _ _ _ _ ?_
 simp only [nfa_Machine_link.M,NilC_some]
 refine range_map (mo:=some from_) setTy.ty ha (λr d _ w'=>Keeps Ft w w'∧Mach w' bm base fs (λp q=>F p q∨(d p∧B q)) rl Ft) ?_ ?_ ?_ ?_
 ·intro r w' hr hk
  exact⟨hk.no,(hm.keep0 hk).congr λp q=>by simp⟩
 ·rintro r d _ w1 w2 hr ⟨h1,h2⟩ hk
  have hold:=hm.old
  exact⟨h1.then hk λi hi e=>by omega,h2.keep hk λb hb hf=>by have:=hold b hf;omega⟩
 ·rintro r d _ w2 x y hr hr2 ⟨h1,l,vs,h2⟩ ⟨hx,rfl⟩ hnd hmm again hagain
  have hlen:=h2.len
  have hx2:=hA x hx
  refine Ld.sl (cell_of h2.at_ rfl) ?_
  refine IdxS.recd (M:=No) h2.rows hx2.1 (by simp;omega) λg off c hc hcell=>?_
  rw [List.getElem?_map] at hc
  obtain⟨v,hv,rfl⟩:=kE hc
  rw [add_eq]
  refine Ld.map (hcell 5 _ rfl) ?_
  have hset:=h2.sets _ v hv
  have hvm:Ft v.m:=h2.foot _ (.inr (.inr ⟨v,kD hv,rfl⟩))
  have e:((x.toNat:Nat):Int)=x:=by omega
  refine maps_Copy_spec (M:=Ft) hset (MapO.mono (mo:=some to) hb (V.keeps h1)) ?_ (λk hk=>?_) λw3 hk3 hs3=>?_
  ·intro e
   cases e
   exact hb.out hvm
  ·have:=hB k hk;have:=hm.few;unfold Pos;omega
  ·refine hagain () w3 ⟨h1.trans (hk3.mono λi _ e=>e ▸ hvm),l,vs,?_⟩ ?_ ?_
   ·refine⟨hk3.blk h2.at_ ?_,h2.own.keep hk3 ?_,h2.pos,λi v' hv'=>?_,h2.apart,h2.foot,λb hb=>⟨(h2.old b hb).1,Nat.lt_of_lt_of_le (h2.old b hb).2 hk3.size⟩,?_,h2.few⟩
    ·intro e
     obtain⟨es,clock,⟨_,h⟩,_⟩:=hset
     rw [← e,h2.at_] at h
     cases h
    ·rintro b rfl hb'
     obtain⟨es,clock,⟨_,h⟩,_⟩:=hset
     obtain⟨a,ha,hab⟩:=hb'
     rcases h2.own.2 with⟨hv,_⟩ | ⟨g,cap,cur,hv,_,hg,_⟩
     ·simp [Sl.val,ha] at hv
     ·simp [Sl.val,ha] at hv
      obtain⟨rfl,_⟩:=hv
      subst hab
      rw [h] at hg
      cases hg
    ·by_cases hi:i=x.toNat
     ·subst hi
      rw [hv] at hv'
      cases hv'
      rw [e] at hs3
      exact hs3.congr λk=>by rw [e];constructor <;> (intro h;rcases h with h | h) <;> simp_all
     ·have hne:v'.m≠v.m:=λe1=>hi (h2.apart _ _ _ _ hv' hv e1)
      refine ((h2.sets i v' hv').keep hk3 hne id).congr λk=>?_
      have:(i:Int)≠x:=by omega
      simp [this]
    ·rintro p q (h | ⟨h,h'⟩)
     ·exact h2.fin p q (.inl h)
     ·rcases h with h | rfl
      ·exact h2.fin p q (.inr ⟨h,h'⟩)
      ·exact⟨hx2,hB q h'⟩
   ·refine hk3.keep r hr2 λe=>?_
    have:=hm.old _ hvm
    omega
   ·rintro m ⟨⟩
    have hlt:=(ha.mono (V.keeps h1)).lt
    exact hk3.keep from_ hlt λe=>ha.out (e ▸ hvm)
 ·rintro r d _ w2 hr ⟨h1,h2⟩ hd
  refine hK w2 h1 (h2.congr λp q=>?_)
  rw [hd p];simp
abbrev kobj (a b:Option Nat) (e:Bool):Obj:=.cells #[.map a,.map b,.bool e] T.nfa_known (0,0)
theorem Ld3 {b:Nat} {x y:Option Nat} {e:Bool} {w:World} {k:Option Nat→Option Nat→Bool→Prop} (hb:w.heap[b]?=some (kobj x y e)) (h:k x y e) :
  Ld .map ⟨b,0,none⟩ w λr0=>Ld .map ⟨b,1,none⟩ w λr1=>Ld .bool ⟨b,2,none⟩ w λr2=>k r0 r1 r2 :=
 Ld.map (cell_of hb rfl) (Ld.map (cell_of hb rfl) (Ld.bool (cell_of hb rfl) h))
section
variable {w:World} {bm base:Nat} {fs:List ((Nat→Bool) × Int)} {F:Int→Int→Prop} {rl:Sl} {Ft:Nat→Prop}
structure CatSt (w w5:World) (bm base:Nat) (fs:List ((Nat→Bool) × Int)) (F:Int→Int→Prop) (rl:Sl) (Ft:Nat→Prop) (x1 x2 x3 bo a1 a2 b1 b2 c1 c2:Nat) (ea eb e:Bool):Prop where
 k:Keeps Ft w w5
 m:Mach w5 bm base fs F rl Ft
 h1:w5.heap[x1]?=some (kobj (some a1) (some a2) ea)
 h2:w5.heap[x2]?=some (kobj (some b1) (some b2) eb)
 h3:w5.heap[x3]?=some (kobj none none false)
 ho:w5.heap[bo]?=some (kobj (some c1) (some c2) e)
 n1:bo≠x1
 n2:bo≠x2
 n3:bo≠x3
 ge:w.heap.size≤x1∧w.heap.size≤x2∧w.heap.size≤x3∧w.heap.size≤bo
theorem CatSt.keep0 {w w5 w6:World} {x1 x2 x3 bo a1 a2 b1 b2 c1 c2:Nat} {ea eb e:Bool} (h:CatSt w w5 bm base fs F rl Ft x1 x2 x3 bo a1 a2 b1 b2 c1 c2 ea eb e) (hk:Keeps No w5 w6):CatSt w w6 bm base fs F rl Ft x1 x2 x3 bo a1 a2 b1 b2 c1 c2 ea eb e :=
 ⟨h.k.then0 hk,h.m.keep0 hk,hk.blk0 h.h1,hk.blk0 h.h2,hk.blk0 h.h3,hk.blk0 h.ho,h.n1,h.n2,h.n3,h.ge⟩
theorem CatSt.put {w w5 w6:World} {x1 x2 x3 bo a1 a2 b1 b2 c1 c2 d1 d2:Nat} {ea eb e:Bool} (hold:Old Ft w) (h:CatSt w w5 bm base fs F rl Ft x1 x2 x3 bo a1 a2 b1 b2 c1 c2 ea eb e) (u:Upd bo (kobj (some d1) (some d2) e) w5 w6):CatSt w w6 bm base fs F rl Ft x1 x2 x3 bo a1 a2 b1 b2 d1 d2 ea eb e :=
 ⟨h.k.then u.keeps λi hi e=>by have:=h.ge;omega,h.m.keep u.keeps λb e hf=>by have:=hold b hf;have:=h.ge;omega,u.keeps.blk h.h1 (Ne.symm h.n1),u.keeps.blk h.h2 (Ne.symm h.n2),u.keeps.blk h.h3 (Ne.symm h.n3),u.at_,h.n1,h.n2,h.n3,h.ge⟩
theorem nfa_Machine_cat_spec {a1 a2 b1 b2:Nat} {ea eb:Bool} {A1 A2 B1 B2:Int→Prop} {K:(Option Nat × Option Nat × Bool)→World→Prop} (hm:Mach w bm base fs F rl Ft)
  (hA1:SetAt (V Ft w) a1 A1) (hA2:SetAt (V Ft w) a2 A2) (hB1:SetAt (V Ft w) b1 B1) (hB2:SetAt (V Ft w) b2 B2)
  (iA2:∀ k,A2 k→0≤k∧k < fs.length) (iB1:∀ k,B1 k→0≤k∧k < fs.length)
  (hK:∀ c1 c2 w',Keeps Ft w w'→Mach w' bm base fs (λp q=>F p q∨(A2 p∧B1 q)) rl Ft→SetAt (V Ft w') c1 (λk=>A1 k∨(ea=true∧B1 k))→SetAt (V Ft w') c2 (λk=>B2 k∨(eb=true∧A2 k))→K (some c1,some c2,ea&&eb) w') :
  nfa_Machine_cat.C (some ⟨bm,0,none⟩) (some a1,some a2,ea) (some b1,some b2,eb) w K:=by
 have hold:=hm.old
 have hfew:=hm.few
 have pA2:∀ k,A2 k→Pos k:=λk hk=>by have:=iA2 k hk;unfold Pos;omega
 have pB1:∀ k,B1 k→Pos k:=λk hk=>by have:=iB1 k hk;unfold Pos;omega
 refine nfa_Machine_cat.ok _ _ _ _ _ ?_
 simp only [nfa_Machine_cat.M]
 refine Al.mk λx1 w1 n1=>Al.mk λx2 w2 n2=>Al.mk λx3 w3 n3=>?_
 have e1:=n1.eq;have e2:=n2.eq;have e3:=n3.eq;have s1:=n1.size;have s2:=n2.size;have s3:=n3.size
 have k3:Keeps No w w3:=(n1.keeps.trans n2.keeps).trans n3.keeps
 have g1:=n3.keeps.blk0 (n2.keeps.blk0 n1.at_)
 have g2:=n3.keeps.blk0 n2.at_
 refine Ld.map (cell_of g1 rfl) (Ld.map (cell_of g2 rfl) ?_)
 refine nfa_Machine_link_spec (hm.keep0 k3) (hA2.mono (V.keeps0 k3)) (hB1.mono (V.keeps0 k3)) iA2 iB1 λw4 k4 m4=>?_
 have kk4:Keeps Ft w w4:=(k3.no).trans k4
 have nf:∀ b,w.heap.size≤b→¬ Ft b:=λb hb hf=>by have:=hold b hf;omega
 have f1:=k4.blk g1 (nf _ (by omega))
 have f2:=k4.blk g2 (nf _ (by omega))
 have f3:=k4.blk n3.at_ (nf _ (by omega))
 refine Join.cut (λs w5=>∃ bo,s=⟨bo,0,none⟩∧CatSt w w5 bm base fs (λp q=>F p q∨(A2 p∧B1 q)) rl Ft x1 x2 x3 bo a1 a2 b1 b2 a1 b2 ea eb (ea&&eb)) ?_ ?_
 ·rintro _ w5 ⟨bo,rfl,c5⟩
  refine Join.cut (λ_ w6=>∃ c1,CatSt w w6 bm base fs (λp q=>F p q∨(A2 p∧B1 q)) rl Ft x1 x2 x3 bo a1 a2 b1 b2 c1 b2 ea eb (ea&&eb)∧SetAt (V Ft w6) c1 (λk=>A1 k∨(ea=true∧B1 k))) ?_ ?_
  ·rintro _ w6 ⟨c1,c6,hc1⟩
   have fin:∀ {w7:World} {c2:Nat},CatSt w w7 bm base fs (λp q=>F p q∨(A2 p∧B1 q)) rl Ft x1 x2 x3 bo a1 a2 b1 b2 c1 c2 ea eb (ea&&eb)→SetAt (V Ft w7) c1 (λk=>A1 k∨(ea=true∧B1 k))→SetAt (V Ft w7) c2 (λk=>B2 k∨(eb=true∧A2 k)) →
     Ld .map ⟨bo,0,none⟩ w7 λx41_0=>Ld .map (Addr.add ⟨bo,0,none⟩ 1) w7 λx41_1=>Ld .bool (Addr.add ⟨bo,0,none⟩ 2) w7 λx41_2=>St (⟨x3,0,none⟩) (.map x41_0) w7 λw9=>St (⟨x3,1,none⟩) (.map x41_1) w9 λw10=>St (⟨x3,2,none⟩) (.bool x41_2) w10 λw11=>Ld .map (⟨x3,0,none⟩) w11 λr0_0=>Ld .map (⟨x3,1,none⟩) w11 λr0_1=>Ld .bool (⟨x3,2,none⟩) w11 λr0_2=>K (r0_0,r0_1,r0_2) w11:=by
    intro w7 c2 c7 h1 h2
    refine Ld3 (k:=λx41_0 x41_1 x41_2=>St (⟨x3,0,none⟩) (.map x41_0) w7 λw9=>St (⟨x3,1,none⟩) (.map x41_1) w9 λw10=>St (⟨x3,2,none⟩) (.bool x41_2) w10 λw11=>Ld .map (⟨x3,0,none⟩) w11 λr0_0=>Ld .map (⟨x3,1,none⟩) w11 λr0_1=>Ld .bool (⟨x3,2,none⟩) w11 λr0_2=>K (r0_0,r0_1,r0_2) w11) c7.ho ?_
    refine St3 c7.h3 λw8 u8=>Ld3 (k:=λa b c=>K (a,b,c) w8) u8.at_ ?_
    have hx3:=c7.ge.2.2.1
    have hv:∀ {m:Nat} {S:Int→Prop},SetAt (V Ft w7) m S→SetAt (V Ft w8) m S:=λ{m S} h=>h.keep u8.keeps (λe=>by
     subst e
     obtain⟨es,clock,⟨_,h⟩,_⟩:=h
     rw [c7.h3] at h
     cases h) h.out
    refine hK c1 c2 w8 (c7.k.then u8.keeps λi hi e=>by omega) (c7.m.keep u8.keeps λb e hf=>by subst e;exact nf _ hx3 hf) (hv h1) (hv h2)
   refine Ld.bool (cell_of c6.h2 rfl) (Br.mk (λht=>?_) (λhf=>?_))
   ·refine Ld.map (cell_of c6.h2 rfl) (Ld.map (cell_of c6.h1 rfl) ?_)
    refine nfa_set_with_spec (a:=some b2) (b:=some a2) (M:=Ft) (hB2.mono (V.keeps c6.k)) (by simp) (hA2.mono (V.keeps c6.k)) pA2 λm w7 k7 hge hs7=>?_
    have c7:=c6.keep0 k7
    refine St.blk c7.ho (by simp) λw8 u8=>?_
    have c8:=c7.put hold (d1:=c1) (d2:=m) u8
    have hne:∀ {m':Nat} {S:Int→Prop} {M:Nat→Prop},SetAt (V M w7) m' S→¬ m'=bo:=λ{m' S M} h e=>by
     subst e
     obtain⟨es,clock,⟨_,h⟩,_⟩:=h
     rw [c7.ho] at h
     cases h
    have hc7:=hc1.mono (V.keeps0 k7)
    refine fin c8 (hc7.keep u8.keeps (hne hc7) hc7.out) ((hs7.keep u8.keeps (hne hs7) (nf _ (Nat.le_trans c6.k.size hge))).congr λk=>by simp [ht])
   ·refine fin c6 hc1 ((hB2.mono (V.keeps c6.k)).congr λk=>by simp [hf])
  ·intro j hj
   refine Ld.bool (cell_of c5.h1 rfl) (Br.mk (λht=>?_) (λhf=>?_))
   ·refine Ld.map (cell_of c5.h1 rfl) (Ld.map (cell_of c5.h2 rfl) ?_)
    refine nfa_set_with_spec (a:=some a1) (b:=some b1) (M:=Ft) (hA1.mono (V.keeps c5.k)) (by simp) (hB1.mono (V.keeps c5.k)) pB1 λm w7 k7 hge hs7=>?_
    have c7:=c5.keep0 k7
    refine St.blk c7.ho (by simp) λw8 u8=>?_
    have hne:∀ {m':Nat} {S:Int→Prop} {M:Nat→Prop},SetAt (V M w7) m' S→¬ m'=bo:=λ{m' S M} h e=>by
     subst e
     obtain⟨es,clock,⟨_,h⟩,_⟩:=h
     rw [c7.ho] at h
     cases h
    refine hj () w8 ⟨m,c7.put hold (d1:=m) (d2:=b2) u8,(hs7.keep u8.keeps (hne hs7) (nf _ (Nat.le_trans c5.k.size hge))).congr λk=>by simp [ht]⟩
   ·refine hj () w5 ⟨a1,c5,(hA1.mono (V.keeps c5.k)).congr λk=>by simp [hf]⟩
 ·intro j hj
  refine Ld.map (cell_of f1 rfl) (Ld.map (cell_of f2 rfl) (Ld.bool (cell_of f1 rfl) ?_))
  have hs4:=k4.size
  have mk:∀ {e:Bool} {w5:World} {bo:Nat},New bo (kobj none none false) w4 w5→(ea&&eb)=e→St ⟨bo,0,none⟩ (.map (some a1)) w5 λw9=>St ⟨bo,1,none⟩ (.map (some b2)) w9 λw10=>St ⟨bo,2,none⟩ (.bool e) w10 λw11=>j ⟨bo,0,none⟩ w11:=by
   intro e w5 bo n5 he
   refine St3 n5.at_ λw6 u6=>hj _ w6 ⟨bo,rfl,?_⟩
   have e5:=n5.eq
   refine⟨(kk4.then0 n5.keeps).then u6.keeps λi hi e=>by omega,(m4.keep0 n5.keeps).keep u6.keeps λb e hf=>nf _ (by omega) hf,u6.keeps.blk (n5.keeps.blk0 f1) (by omega),u6.keeps.blk (n5.keeps.blk0 f2) (by omega),u6.keeps.blk (n5.keeps.blk0 f3) (by omega),?_,by omega,by omega,by omega,by omega⟩
   rw [he];exact u6.at_
  refine Br.mk (λht=>?_) (λhf=>?_)
  ·refine Ld.bool (cell_of f2 rfl) (Al.mk λbo w5 n5=>?_)
   exact mk n5 (by rw [ht];rfl)
  ·refine Al.mk λbo w5 n5=>?_
   exact mk n5 (by rw [hf];rfl)
end
theorem regex_Bytes_spec {M:Nat→Prop} {w:World} {p:Option Addr} {f:Nat→Bool} {K:(Int × Int × Int × Int)→World→Prop} (h:Nd (V M w) p (.set f))
  (hk:∀ (n0 n1 n2 n3:Nat) w',Words f n0 n1 n2 n3→Keeps No w w'→K (n0,n1,n2,n3) w'):regex_Bytes.C p w K:=by
 cases h with
 | set h hw =>
  rename_i b n0 n1 n2 n3
  refine regex_Bytes.ok _ _ _ ?_
  simp only [regex_Bytes.M,NilC_some]
  refine Al.mk λb1 w1 h1=>?_
  have hb:=h1.keeps.blk0 h.2
  show Ld _ _ _ _
  refine Ld.int (cell_of hb rfl) (Ld.int (cell_of hb rfl) (Ld.int (cell_of hb rfl) (Ld.int (cell_of hb rfl) ?_)))
  refine St4 h1.at_ λw2 u2=>?_
  refine Ld.int (cell_of u2.at_ rfl) (Ld.int (cell_of u2.at_ rfl) (Ld.int (cell_of u2.at_ rfl) (Ld.int (cell_of u2.at_ rfl) ?_)))
  exact hk _ _ _ _ w2 hw (u2.keeps0 h1.keeps (Nat.le_of_eq h1.eq.symm))
theorem Mach.push {w wA:World} {bm base b m n0 n1 n2 n3:Nat} {fs:List ((Nat→Bool) × Int)} {F:Int→Int→Prop} {l rl:Sl} {vs:List PosV} {Ft:Nat→Prop} {f:Nat→Bool} {rule:Int} {k:World→Prop}
  (hm:MachAt w bm base fs F l rl vs Ft) (hbase:base≤w.heap.size) (hk:Keeps No w wA) (hb:wA.heap[b]?=some (.cells #[.int .u64 n0,.int .u64 n1,.int .u64 n2,.int .u64 n3,.int .i64 rule,.map (some m)] T.nfa_position (0,0)))
  (hmm:wA.heap[m]?=some (.map #[] 0)) (hge:w.heap.size≤m) (hfew:fs.length + 1≤2000) (hw:Words f n0 n1 n2 n3)
  (hK:∀ w' Ft',Keeps Ft w w'→(∀ b,Ft' b→Ft b∨w.heap.size≤b)→Mach w' bm base (fs++[(f,rule)]) F rl Ft'→k w') :
  App P (Builtin.append_ #[T.sl_nfa_position,T.sl_nfa_position] T.sl_nfa_position #[.slice l.a l.n l.c,.slice (some ⟨b,0,none⟩) 1 1]) (.one .sl) wA λx34 w16 =>
   St ⟨bm,0,none⟩ (.slice x34.a x34.n x34.c) w16 λw17=>k w17:=by
 have hl:=hm.len
 have hmA:=hm.keep hk λ_ h=>h.elim
 refine appendC (c:=PosV.cells ⟨n0,n1,n2,n3,rule,m⟩) (base:=base) elPos hmA.own rfl hb ?_ (by omega) (by omega) (Nat.le_trans hbase hk.size) λl' w16 o16 e16 k16 g16=>?_
 ·intro u hu
  simp [PosV.cells] at hu
  rcases hu with rfl | rfl | rfl | rfl | rfl | rfl <;> rfl
 ·have hbl:∀ b',l.blk b'→Ft b':=λb' h=>hm.foot _ (.inr (.inl h))
  have hrow:∀ b',l.blk b'→∃ cs,wA.heap[b']?=some (.cells cs T.nfa_position (0,0)):=by
   rintro b' ⟨a,ha,rfl⟩
   rcases hmA.own.2 with⟨hv,_⟩ | ⟨g,cap,cur,hv,_,hg,_⟩
   ·simp [Sl.val,ha] at hv
   ·simp [Sl.val,ha] at hv
    obtain⟨rfl,_⟩:=hv
    exact⟨cur,hg⟩
  have nbm:¬ l.blk bm:=λh=>by
   obtain⟨cs,h⟩:=hrow _ h
   rw [hmA.at_] at h
   cases h
  have nmap:∀ m',(∃ es clock,wA.heap[m']?=some (.map es clock))→¬ l.blk m':=λm' ⟨es,clock,h1⟩ h=>by
   obtain⟨cs,h⟩:=hrow _ h
   rw [h1] at h
   cases h
  refine St.blk (k16.blk hmA.at_ nbm) (by simp) λw17 u17=>?_
  have hsz:=hk.size;have hsz2:=k16.size;have hsz3:=u17.size
  have hbm:=hm.old bm (hm.foot _ (.inl rfl))
  obtain⟨g,hg1,hg2⟩:=g16
  have hblk':∀ b',l'.blk b'→Ft b'∨w.heap.size≤b':=by
   rintro b' ⟨a,ha,rfl⟩
   rw [hg1] at ha
   cases ha
   rcases hg2 with h | h
   ·exact .inl (hbl _ h)
   ·right;show w.heap.size≤g;omega
  have nbm':¬ l'.blk bm:=by
   rintro⟨a,ha,hab⟩
   rw [hg1] at ha
   cases ha
   simp at hab
   subst hab
   rcases hg2 with h | h
   ·exact nbm h
   ·omega
  have hkeep:Keeps Ft w w17:=((hk.no (M:=Ft)).then k16 λi _ h=>hbl i h).then u17.keeps λi _ e=>e ▸ hm.foot _ (.inl rfl)
  refine hK w17 (λb'=>Ft b'∨b'=m∨l'.blk b') hkeep ?_ ⟨l',vs++[⟨n0,n1,n2,n3,rule,m⟩],?_⟩
  ·rintro b' (h | rfl | h)
   ·exact .inl h
   ·exact .inr hge
   ·exact hblk' b' h
  ·have hkm:∀ {m':Nat} {S:Int→Prop},SetAt (V No wA) m' S→SetAt (V No w17) m' S:=λ{m' S} h=>by
    have h':=h
    obtain⟨es,clock,⟨_,h1⟩,_⟩:=h'
    refine MapAt.keep (MapAt.keep (M':=No) h k16 (nmap m' ⟨es,clock,h1⟩) id) u17.keeps (λe=>?_) id
    subst e
    rw [hmA.at_] at h1
    cases h1
   refine⟨u17.at_,?_,hm.pos.append (.cons ⟨hw,rfl⟩ .nil),?_,?_,?_,?_,?_,?_⟩
   ·rw [List.map_append]
    exact o16.keep u17.keeps λb' e h=>nbm' (e ▸ h)
   ·intro i v hv
    rw [List.getElem?_append] at hv
    split at hv
    ·exact hkm (hmA.sets i v hv)
    ·have:i=vs.length:=by
      have:=(kA hv).1
      simp at this;omega
     subst this
     simp at hv
     subst hv
     refine hkm ((MapAt.empty (P:=P) (kT:=T.int) (kt:=.int .i64) (vt:=.bool) (H:=V No wA) ⟨id,hmm⟩).congr λx y=>?_)
     simp only [false_iff]
     rintro⟨h,_⟩
     have:=hm.fin _ _ h
     omega
   ·intro i j v v' hv hv' he
    have lt:∀ {i:Nat} {v:PosV},vs[i]?=some v→v.m < w.heap.size:=λ{i v} h=>(hm.sets i v h).lt
    rw [List.getElem?_append] at hv hv'
    have last:∀ {i:Nat} {v:PosV},¬ i < vs.length→[(⟨n0,n1,n2,n3,rule,m⟩:PosV)][i - vs.length]?=some v→i=vs.length∧v.m=m:=λ{i v} hi h=>by
     have h1:=(kA h).1
     simp at h1
     have:i - vs.length=0:=by omega
     rw [this] at h
     simp at h
     subst h
     exact⟨by omega,rfl⟩
    split at hv <;> split at hv'
    ·exact hm.apart i j v v' hv hv' he
    ·rename_i h1 h2
     have:=lt hv;have:=last h2 hv';omega
    ·rename_i h1 h2
     have:=lt hv';have:=last h1 hv;omega
    ·rename_i h1 h2
     have:=last h1 hv;have:=last h2 hv';omega
   ·rintro b' (h | h | ⟨v,hv,h⟩)
    ·exact .inl (hm.foot _ (.inl h))
    ·exact .inr (.inr h)
    ·rcases List.mem_append.1 hv with hv | hv
     ·exact .inl (hm.foot _ (.inr (.inr ⟨v,hv,h⟩)))
     ·simp at hv;subst hv;exact .inr (.inl h.symm)
   ·rintro b' (h | rfl | ⟨a,ha,rfl⟩)
    ·have:=hm.old _ h;omega
    ·have:=lt_of_some hmm;omega
    ·rw [hg1] at ha
     cases ha
     have:=o16.ge (b:=g) ⟨_,hg1,rfl⟩
     show base≤g∧g < _
     omega
   ·intro p q h
    have:=hm.fin p q h
    simp;omega
   ·simp;omega
theorem okInt {k:Int} (h:Pos k):OkKey P T.int ((Ty.int .i64).enc k):=h.ok
theorem set1 {w:World} {x:Int} (hx:Pos x) {k:Nat→World→Prop} (hk:∀ m w',Keeps No w w'→w.heap.size≤m→SetAt (V No w') m (λy=>y=x)→k m w') :
  Al (.map #[] 0) w λm w1=>App0 P (Instr.mapUpdate T.nfa_set (.map (some m)) (.int .i64 x) (.bool true)) w1 λw2=>k m w2:=by
 refine Al.mk λm w1 n1=>?_
 refine App0.put (M:=No) (kt:=.int .i64) (vt:=.bool) (x:=x) (y:=true) setTy (MapAt.empty ⟨id,n1.at_⟩) (okInt hx) λw2 k2 z2 h2=>?_
 have e:=n1.eq
 refine hk m w2 ((n1.keeps.no (M:=No)).then k2 λi hi e=>by omega) (by omega) (h2.congr λa b=>?_)
 simp
def AddSpec (n:Nat):Prop:=∀ (x:Re),x.size≤n→∀ {w:World} {bm base:Nat} {fs:List ((Nat→Bool) × Int)} {F:Int→Int→Prop} {rl:Sl} {Ft:Nat→Prop} {p:Option Addr} {rule:Int} {K:(Option Nat × Option Nat × Bool)→World→Prop},
 Mach w bm base fs F rl Ft→Nd (V Ft w) p x→fs.length + x.cnt≤2000→base≤w.heap.size →
 (∀ (a b:Nat) (w':World) (Ft':Nat→Prop),Keeps Ft w w'→(∀ i,Ft' i→Ft i∨w.heap.size≤i)→Mach w' bm base (fs++x.poss.map λf=>(f,rule)) (λp q=>F p q∨x.fol fs.length p q) rl Ft' →
  SetAt (V Ft' w') a (x.first fs.length)→SetAt (V Ft' w') b (x.last fs.length)→K (some a,some b,x.emp) w')→nfa_Machine_add.C (some ⟨bm,0,none⟩) rule p w K
section
variable {w:World} {bm base:Nat} {fs:List ((Nat→Bool) × Int)} {F:Int→Int→Prop} {rl:Sl} {Ft:Nat→Prop} {p:Option Addr} {rule:Int} {K:(Option Nat × Option Nat × Bool)→World→Prop}
theorem add_end {w1:World} {Ft':Nat→Prop} {b1 a b:Nat} {x y:Option Nat} {e0 e:Bool} {fs':List ((Nat→Bool) × Int)} {F':Int→Int→Prop} {A B:Int→Prop} (h1:w1.heap[b1]?=some (kobj x y e0)) (hk:Keeps Ft w w1) (hF:∀ i,Ft' i→Ft i∨w.heap.size≤i) (hb:w.heap.size≤b1) (hn:¬ Ft' b1)
  (hm:Mach w1 bm base fs' F' rl Ft') (hA:SetAt (V Ft' w1) a A) (hB:SetAt (V Ft' w1) b B)
  (hK:∀ w',Keeps Ft w w'→Mach w' bm base fs' F' rl Ft'→SetAt (V Ft' w') a A→SetAt (V Ft' w') b B→K (some a,some b,e) w') :
  St ⟨b1,0,none⟩ (.map (some a)) w1 λw2=>St ⟨b1,1,none⟩ (.map (some b)) w2 λw3=>St ⟨b1,2,none⟩ (.bool e) w3 λw4=>Ld .map ⟨b1,0,none⟩ w4 λr0=>Ld .map ⟨b1,1,none⟩ w4 λr1=>Ld .bool ⟨b1,2,none⟩ w4 λr2=>K (r0,r1,r2) w4:=by
 refine St3 h1 λw2 u2=>Ld3 (k:=λa b c=>K (a,b,c) w2) u2.at_ ?_
 have hv:∀ {m:Nat} {S:Int→Prop},SetAt (V Ft' w1) m S→SetAt (V Ft' w2) m S:=λ{m S} h=>h.keep u2.keeps (λe=>by
  subst e
  obtain⟨es,clock,⟨_,h⟩,_⟩:=h
  rw [h1] at h
  cases h) h.out
 exact hK w2 (hk.then u2.keeps λi hi e=>by omega) (hm.keep u2.keeps λi e hf=>hn (e ▸ hf)) (hv hA) (hv hB)
theorem add_set {f:Nat→Bool} (hm:Mach w bm base fs F rl Ft) (hN:Nd (V Ft w) p (.set f)) (hfew:fs.length + 1≤2000) (hbase:base≤w.heap.size)
  (hK:∀ (a b:Nat) (w':World) (Ft':Nat→Prop),Keeps Ft w w'→(∀ i,Ft' i→Ft i∨w.heap.size≤i)→Mach w' bm base (fs++[(f,rule)]) F rl Ft' →
   SetAt (V Ft' w') a (λk=>k=fs.length)→SetAt (V Ft' w') b (λk=>k=fs.length)→K (some a,some b,false) w'):nfa_Machine_add.C (some ⟨bm,0,none⟩) rule p w K:=by
 refine nfa_Machine_add.ok _ _ _ _ _ ?_
 simp only [nfa_Machine_add.M,NilC_some]
 refine Al.mk λb1 w1 n1=>?_
 have e1:=n1.eq;have s1:=n1.size
 have hold:=hm.old
 refine regex_Parts_spec (M:=Ft) (hold.keeps n1.keeps) (hN.mono (V.keeps0 n1.keeps)) λl0 ps0 w2 k2 _ _=>?_
 refine regex_Kind_spec (M:=Ft) (hN.mono (V.keeps0 (n1.keeps.trans k2))) ?_
 show Ld _ _ _ _
 have k02:Keeps No w w2:=n1.keeps.trans k2
 obtain⟨l,vs,m2⟩:=hm.keep0 k02
 have hl:=m2.len
 refine Ld.sl (cell_of m2.at_ rfl) ?_
 dsimp only
 refine Join.cut (λ_ w4=>∃ Ft',Keeps Ft w w4∧(∀ i,Ft' i→Ft i∨w2.heap.size≤i)∧Mach w4 bm base (fs++[(f,rule)]) F rl Ft'∧w2.heap.size≤w4.heap.size∧w4.heap[b1]?=some (kobj none none false)) ?_ ?_
 ·rintro _ w4 ⟨Ft',k4,hF,m4,s4,h4⟩
  have pn:Pos (l.n:Int):=by unfold Pos;omega
  have e:(l.n:Int)=(fs.length:Int):=by omega
  refine set1 (k:=λm3 w6=>Al (.map #[] 0) w6 λm4 w7=>_) pn λm5 w5 k5 g5 h5=>?_
  refine set1 (k:=λm4 w8=>_) pn λm6 w6 k6 g6 h6=>?_
  have s2:=k2.size
  have hold4:=m4.old
  have nF5:¬ Ft' m5:=λh=>by have:=hold4 _ h;omega
  have nF6:¬ Ft' m6:=λh=>by have:=hold4 _ h;have:=k5.size;omega
  refine add_end (k5.trans k6 |>.blk0 h4) (k4.then0 (k5.trans k6)) (λi h=>(hF i h).imp id (by have:=k02.size;omega)) (by omega) ?_ (m4.keep0 (k5.trans k6)) ((h5.keep (M':=Ft') k6 (λh=>h.elim) nF5)) ((h6.keep (M':=Ft') (Keeps.refl (M:=No)) (λh=>h.elim) nF6)) λw7 k7 m7 a7 b7=>?_
  ·intro h
   rcases hF _ h with h | h
   ·have:=hold _ h;omega
   ·omega
  ·exact hK m5 m6 w7 Ft' k7 (λi h=>(hF i h).imp id (by have:=k02.size;omega)) m7 (a7.congr λk=>by rw [e]) (b7.congr λk=>by rw [e])
 ·intro j hj
  refine DrawN.mk λw3 hh k3=>?_
  simp only [true_and]
  have m3:=m2.keep k3 λ_ h=>h.elim
  have s3:w3.heap.size=w2.heap.size:=by rw [hh]
  have k03:Keeps No w w3:=k02.trans k3
  have hN3:=hN.mono (V.keeps0 (M:=Ft) k03)
  have s03:=k03.size
  have hb3:w3.heap[b1]?=some (kobj none none false):=k3.blk0 (k2.blk0 n1.at_)
  have nb:¬ Ft b1:=λh=>by have:=hold _ h;omega
  have tail:∀ {wA:World} {b m n0 n1 n2 n3:Nat},Keeps No w3 wA→wA.heap[b]?=some (.cells #[.int .u64 n0,.int .u64 n1,.int .u64 n2,.int .u64 n3,.int .i64 rule,.map (some m)] T.nfa_position (0,0))→wA.heap[m]?=some (.map #[] 0)→w3.heap.size≤m→Words f n0 n1 n2 n3 →
    App P (Builtin.append_ #[T.sl_nfa_position,T.sl_nfa_position] T.sl_nfa_position #[.slice l.a l.n l.c,.slice (some ⟨b,0,none⟩) 1 1]) (.one .sl) wA λx34 w16=>St ⟨bm,0,none⟩ (.slice x34.a x34.n x34.c) w16 λw17=>j () w17:=by
   intro wA b m n0 n1 n2 n3 hk hb hmm hge hw
   refine Mach.push m3 (by omega) hk hb hmm hge hfew hw λw' Ft' g1 g2 g3=>hj () w' ⟨Ft',(k03.no (M:=Ft)).trans g1,λi h=>(g2 i h).imp id (by omega),g3,?_,g1.blk hb3 nb⟩
   have:=g1.size;omega
  have ldl:∀ {wA:World} {k:Sl→Prop},Keeps No w3 wA→k l→Ld .sl ⟨bm,0,none⟩ wA k:=λ{wA k} hk h=>Ld.sl (cell_of (hk.blk0 m3.at_) rfl) h
  have byt:∀ {wA:World} {k:(Int × Int × Int × Int)→World→Prop},Keeps No w3 wA→(∀ (n0 n1 n2 n3:Nat) w',Words f n0 n1 n2 n3→Keeps No wA w'→k (n0,n1,n2,n3) w')→regex_Bytes.C p wA k:=λ{wA k} hk h=>regex_Bytes_spec (M:=Ft) (hN3.mono (V.keeps0 hk)) h
  refine⟨ldl .refl ⟨?_,?_⟩,byt .refl λc0 c1 c2 c3 w4 hw k4=>⟨ldl k4 ?_,?_⟩,?_⟩
  ·refine byt .refl λc0 c1 c2 c3 w4 hw k4=>Al.mk λm5 w5 n5=>Al.mk λb6 w6 n6=>?_
   exact tail ((k4.trans n5.keeps).trans n6.keeps) n6.at_ (n6.keeps.blk0 n5.at_) (by have:=n5.eq;have:=k4.size;omega) hw
  ·refine Al.mk λm5 w5 n5=>byt n5.keeps λc0 c1 c2 c3 w4 hw k4=>Al.mk λb6 w6 n6=>?_
   exact tail ((n5.keeps.trans k4).trans n6.keeps) n6.at_ (n6.keeps.blk0 (k4.blk0 n5.at_)) (by have:=n5.eq;omega) hw
  ·refine Al.mk λm5 w5 n5=>Al.mk λb6 w6 n6=>?_
   exact tail ((k4.trans n5.keeps).trans n6.keeps) n6.at_ (n6.keeps.blk0 n5.at_) (by have:=n5.eq;have:=k4.size;omega) hw
  ·refine Al.mk λm5 w5 n5=>⟨ldl (k4.trans n5.keeps) (Al.mk λb6 w6 n6=>?_),Al.mk λb6 w6 n6=>ldl ((k4.trans n5.keeps).trans n6.keeps) ?_⟩
   ·exact tail ((k4.trans n5.keeps).trans n6.keeps) n6.at_ (n6.keeps.blk0 n5.at_) (by have:=n5.eq;have:=k4.size;omega) hw
   ·exact tail ((k4.trans n5.keeps).trans n6.keeps) n6.at_ (n6.keeps.blk0 n5.at_) (by have:=n5.eq;have:=k4.size;omega) hw
  ·refine Al.mk λm5 w5 n5=>⟨ldl n5.keeps ?_,?_⟩
   ·refine byt n5.keeps λc0 c1 c2 c3 w4 hw k4=>Al.mk λb6 w6 n6=>?_
    exact tail ((n5.keeps.trans k4).trans n6.keeps) n6.at_ (n6.keeps.blk0 (k4.blk0 n5.at_)) (by have:=n5.eq;omega) hw
   ·refine byt n5.keeps λc0 c1 c2 c3 w4 hw k4=>⟨ldl (n5.keeps.trans k4) (Al.mk λb6 w6 n6=>?_),Al.mk λb6 w6 n6=>ldl ((n5.keeps.trans k4).trans n6.keeps) ?_⟩
    ·exact tail ((n5.keeps.trans k4).trans n6.keeps) n6.at_ (n6.keeps.blk0 (k4.blk0 n5.at_)) (by have:=n5.eq;omega) hw
    ·exact tail ((n5.keeps.trans k4).trans n6.keeps) n6.at_ (n6.keeps.blk0 (k4.blk0 n5.at_)) (by have:=n5.eq;omega) hw
theorem add_empty (hm:Mach w bm base fs F rl Ft) (hN:Nd (V Ft w) p .empty)
  (hK:∀ (a b:Nat) (w':World),Keeps Ft w w'→Mach w' bm base fs F rl Ft→SetAt (V Ft w') a (λ_=>False)→SetAt (V Ft w') b (λ_=>False)→K (some a,some b,true) w'):nfa_Machine_add.C (some ⟨bm,0,none⟩) rule p w K:=by
 refine nfa_Machine_add.ok _ _ _ _ _ ?_
 simp only [nfa_Machine_add.M,NilC_some]
 refine Al.mk λb1 w1 n1=>?_
 have e1:=n1.eq;have s1:=n1.size
 have hold:=hm.old
 refine regex_Parts_spec (M:=Ft) (hold.keeps n1.keeps) (hN.mono (V.keeps0 n1.keeps)) λl0 ps0 w2 k2 _ _=>?_
 refine regex_Kind_spec (M:=Ft) (hN.mono (V.keeps0 (n1.keeps.trans k2))) ?_
 refine Br.mk (λht=>absurd ht (by decide)) λ_=>Br.mk (λht=>absurd ht (by decide)) λ_=>Br.mk (λht=>absurd ht (by decide)) λ_=>Br.mk (λht=>absurd ht (by decide)) λ_=>?_
 have k02:Keeps No w w2:=n1.keeps.trans k2
 refine Al.mk λm3 w3 n3=>Al.mk λm4 w4 n4=>?_
 have s2:=k2.size;have e3:=n3.eq;have e4:=n4.eq;have s3:=n3.size
 have nf:∀ {b:Nat},w.heap.size≤b→¬ Ft b:=λ{b} h hf=>by have:=hold b hf;omega
 have k4:Keeps No w w4:=(k02.trans n3.keeps).trans n4.keeps
 refine add_end (Ft':=Ft) (A:=λ_=>False) (B:=λ_=>False) (n4.keeps.blk0 (n3.keeps.blk0 (k2.blk0 n1.at_))) k4.no (λi h=>.inl h) (by omega) (nf (by omega)) (hm.keep0 k4) (MapAt.congr (MapAt.empty ⟨nf (by omega),n4.keeps.blk0 n3.at_⟩) (by simp)) (MapAt.congr (MapAt.empty ⟨nf (by omega),n4.at_⟩) (by simp)) λw7 k7 m7 a7 b7=>?_
 exact hK m3 m4 w7 k7 m7 a7 b7
structure Ph (w3 wc:World) (bm base:Nat) (rl:Sl) (Ft G:Nat→Prop) (fs:List ((Nat→Bool) × Int)) (F:Int→Int→Prop):Prop where
 k:Keeps Ft w3 wc
 g:∀ i,G i→Ft i∨w3.heap.size≤i
 m:Mach wc bm base fs F rl G
theorem Ph.al {w3 wc:World} {G:Nat→Prop} (h:Ph w3 wc bm base rl Ft G fs F) {o:Obj} {k:Nat→World→Prop} (hk:∀ b wd,Ph w3 wd bm base rl Ft G fs F→Vle (V G wc) (V G wd)→V G wd b o→w3.heap.size≤b→wc.heap.size≤b→Keeps No wc wd→k b wd):Al o wc k:=by
 refine Al.mk λb wd n=>?_
 have:=h.k.size;have:=n.eq;have hold:=h.m.old
 exact hk b wd ⟨h.k.then0 n.keeps,h.g,h.m.keep0 n.keeps⟩ (V.keeps0 n.keeps) ⟨λhg=>by have:=hold b hg;omega,n.at_⟩ (by omega) (by omega) n.keeps
theorem Ph.vle {w3 wc:World} {G:Nat→Prop} (h:Ph w3 wc bm base rl Ft G fs F):Vle (V Ft w3) (V G wc):=V.move h.k (λ_ _ h=>h) λb hb hg=>(h.g b hg).resolve_right (by omega)
theorem Ph.add {n:Nat} (ih:AddSpec n) {w3 wc:World} {G:Nat→Prop} {x:Re} (h:Ph w3 wc bm base rl Ft G fs F) (hN:Nd (V Ft w3) p x) (hx:x.size≤n) (hfew:fs.length + x.cnt≤2000) (hbase:base≤w3.heap.size)
  (hK:∀ (a b:Nat) (wd:World) (G':Nat→Prop),Ph w3 wd bm base rl Ft G' (fs++x.poss.map λf=>(f,rule)) (λp q=>F p q∨x.fol fs.length p q)→Vle (V G wc) (V G' wd) →
   SetAt (V G' wd) a (x.first fs.length)→SetAt (V G' wd) b (x.last fs.length)→K (some a,some b,x.emp) wd):nfa_Machine_add.C (some ⟨bm,0,none⟩) rule p wc K:=by
 refine ih x hx h.m (hN.mono h.vle) hfew (Nat.le_trans hbase h.k.size) λa b w' Ft' k1 g1 m1 sa sb=>?_
 have:=h.k.size
 refine hK a b w' Ft' ⟨h.k.step k1 h.g,λi hi=>?_,m1⟩ (V.move k1 (λ_ _ h=>h) λb hb hg=>(g1 b hg).resolve_right (by omega)) sa sb
 rcases g1 i hi with h1 | h1
 ·exact h.g i h1
 ·exact .inr (by omega)
theorem Ph.start {w3:World} (h:Mach w3 bm base fs F rl Ft):Ph w3 w3 bm base rl Ft Ft fs F:=⟨.refl,λ_ h=>.inl h,h⟩
theorem IdxS.getS {t:Ty} {M:Nat→Prop} {S:World→Prop} {w:World} {l:Sl} {xs:List t.T} {i:Int} {K:t.T→Prop} (h:SlT t (V M w) l xs) (hS:∀ w',S w'→Vle (V M w) (V No w')) (h0:0≤i) (h1:i < xs.length)
  (hk:∀ x,xs[i.toNat]?=some x→K x):IdxS l i 1 λp=>LdS S t p K:=by
 obtain⟨e1,e2⟩:=h
 have hlt:i.toNat < xs.length:=by omega
 have hx:xs[i.toNat]?=some xs[i.toNat]:=kC hlt
 rcases e2 with rfl | ⟨b,off,cs,E,fr,e3,e4,e5⟩
 ·simp at hlt
 ·refine⟨_,e3,⟨h0,by omega⟩,xs[i.toNat],λw' hw'=>?_,hk _ hx⟩
  rw [add_eq,Nat.mul_one]
  exact cell_of (hS w' hw' _ _ e4).2 (e5 _ _ hx)
theorem parts2 {H:View} {ps:List (Option Addr)} {x y:Re} (h:All2 (Nd H) ps [x,y]):∃ p q,ps=[p,q]∧Nd H p x∧Nd H q y:=by
 cases h with
 | cons h1 h2=>cases h2 with
  | cons h3 h4=>cases h4;exact⟨_,_,rfl,h1,h3⟩
theorem parts1 {H:View} {ps:List (Option Addr)} {x:Re} (h:All2 (Nd H) ps [x]):∃ p,ps=[p]∧Nd H p x:=by
 cases h with
 | cons h1 h2=>cases h2;exact⟨_,rfl,h1⟩
theorem Ph.drew {w3 wc wd:World} {G:Nat→Prop} (h:Ph w3 wc bm base rl Ft G fs F) (k:Keeps No wc wd):Ph w3 wd bm base rl Ft G fs F:=⟨h.k.then0 k,h.g,h.m.keep0 k⟩
theorem tail_cat {w3 w6:World} {G6:Nat→Prop} {b1 a1 a2 c1 c2:Nat} {A1 A2 B1 B2:Int→Prop} {fs':List ((Nat→Bool) × Int)} {F':Int→Int→Prop} {ea eb:Bool} {S:World→Prop}
  (hw:Keeps No w w3) (hb1:w.heap.size≤b1∧b1 < w3.heap.size) (hold:Old Ft w) (d6:Ph w3 w6 bm base rl Ft G6 fs' F') (hS:∀ x,Keeps (λb=>Ft b∨b=b1) w3 x→S x) (h6:w6.heap[b1]?=some (kobj none none false))
  (hA1:SetAt (V G6 w6) a1 A1) (hA2:SetAt (V G6 w6) a2 A2) (hB1:SetAt (V G6 w6) c1 B1) (hB2:SetAt (V G6 w6) c2 B2)
  (iA2:∀ k,A2 k→0≤k∧k < fs'.length) (iB1:∀ k,B1 k→0≤k∧k < fs'.length)
  (hK:∀ (a b:Nat) (w':World) (Ft':Nat→Prop),Keeps Ft w w'→(∀ i,Ft' i→Ft i∨w.heap.size≤i)→Mach w' bm base fs' (λp q=>F' p q∨(A2 p∧B1 q)) rl Ft' →
   SetAt (V Ft' w') a (λk=>A1 k∨(ea=true∧B1 k))→SetAt (V Ft' w') b (λk=>B2 k∨(eb=true∧A2 k))→K (some a,some b,ea&&eb) w') :
  nfa_Machine_cat.C (some ⟨bm,0,none⟩) (some a1,some a2,ea) (some c1,some c2,eb) w6 λx59 w50=>(S w50∧St (⟨b1,0,none⟩) (.map x59.1) w50 λw51=>St (⟨b1,1,none⟩) (.map x59.2.1) w51 λw52=>St (⟨b1,2,none⟩) (.bool x59.2.2) w52 λw53=>(S w53∧Ld .map (⟨b1,0,none⟩) w53 λr0_0=>Ld .map (⟨b1,1,none⟩) w53 λr0_1=>Ld .bool (⟨b1,2,none⟩) w53 λr0_2=>K (r0_0,r0_1,r0_2) w53)):=by
 refine nfa_Machine_cat_spec d6.m hA1 hA2 hB1 hB2 iA2 iB1 λd1 d2 w7 k7 m7 s1 s2=>?_
 have nG:¬ G6 b1:=λh=>by
  rcases d6.g _ h with h | h
  ·have:=hold _ h;omega
  ·omega
 have h7:=k7.blk h6 nG
 have kk:Keeps Ft w3 w7:=d6.k.step k7 d6.g
 refine⟨hS _ (kk.mono λi _ h=>.inl h),St3 h7 λw8 u8=>⟨hS _ ?_,?_⟩⟩
 ·exact (kk.mono (M:=λb=>Ft b∨b=b1) λi _ h=>.inl h).then u8.keeps λi _ h=>.inr h
 ·refine Ld3 (k:=λa b c=>K (a,b,c) w8) u8.at_ ?_
  have hv:∀ {m:Nat} {S:Int→Prop},SetAt (V G6 w7) m S→SetAt (V G6 w8) m S:=λ{m S} h=>h.keep u8.keeps (λe=>by
   subst e
   obtain⟨es,clock,⟨_,h⟩,_⟩:=h
   rw [h7] at h
   cases h) h.out
  have hsz:=hw.size
  refine hK d1 d2 w8 G6 (((hw.no (M:=Ft)).trans kk).then u8.keeps λi hi e=>by omega) (λi hi=>(d6.g i hi).imp id (by omega)) (m7.keep u8.keeps λi e hf=>nG (e ▸ hf)) (hv s1) (hv s2)
theorem add_cat {n:Nat} (ih:AddSpec n) {x y:Re} (hx:(Re.cat x y).size≤n + 1) (hm:Mach w bm base fs F rl Ft) (hN:Nd (V Ft w) p (.cat x y)) (hfew:fs.length + (x.cnt + y.cnt)≤2000) (hbase:base≤w.heap.size)
  (hK:∀ (a b:Nat) (w':World) (Ft':Nat→Prop),Keeps Ft w w'→(∀ i,Ft' i→Ft i∨w.heap.size≤i)→Mach w' bm base (fs++(Re.cat x y).poss.map λf=>(f,rule)) (λp q=>F p q∨(Re.cat x y).fol fs.length p q) rl Ft' →
   SetAt (V Ft' w') a ((Re.cat x y).first fs.length)→SetAt (V Ft' w') b ((Re.cat x y).last fs.length)→K (some a,some b,(Re.cat x y).emp) w'):nfa_Machine_add.C (some ⟨bm,0,none⟩) rule p w K:=by
 simp only [Re.size] at hx
 refine nfa_Machine_add.ok _ _ _ _ _ ?_
 simp only [nfa_Machine_add.M,NilC_some]
 refine Al.mk λb1 w1 n1=>?_
 have e1:=n1.eq;have s1:=n1.size
 have hold:=hm.old
 have nb:¬ Ft b1:=λh=>by have:=hold _ h;omega
 have hN1:Nd (V (λb=>Ft b∨b=b1) w1) p (.cat x y):=hN.mono (V.move n1.keeps (λ_ _ h=>h.elim) λb hb h=>h.resolve_right (by omega))
 refine regex_Parts_spec (M:=λb=>Ft b∨b=b1) (λb hb=>by rcases hb with h | h;{ have:=hold b h;omega };{ omega }) hN1 λl0 ps0 w3 k3 hl0 ha0=>?_
 have k03:Keeps No w w3:=n1.keeps.trans k3
 refine regex_Kind_spec (M:=Ft) (hN.mono (V.keeps0 k03)) ?_
 refine Br.mk (λht=>absurd ht (by simp [Re.kind])) λ_=>Br.mk (λ_=>?_) λht=>absurd ht (by simp [Re.kind])
 obtain⟨p1,p2,rfl,hp1,hp2⟩:=parts2 ha0
 have s03:=k3.size
 have hb3:w3.heap[b1]?=some (kobj none none false):=k3.blk0 n1.at_
 refine⟨λx=>Keeps (λb=>Ft b∨b=b1) w3 x,Keeps.drew.no,?_⟩
 have d0:Ph w3 w3.drew bm base rl Ft Ft fs F:=(Ph.start (hm.keep0 k03)).drew .drew
 have hS:∀ w',Keeps (λb=>Ft b∨b=b1) w3 w'→Vle (V (λb=>Ft b∨b=b1) w3) (V No w'):=λw' hk=>V.move hk (λ_ _ h=>h) λ_ _ h=>h.elim
 refine IdxS.getS hl0 hS (by omega) (by simp) λq1 hq1=>IdxS.getS hl0 hS (by omega) (by simp) λq2 hq2=>?_
 simp at hq1 hq2
 subst hq1 hq2
 have sub:Vle (V (λb=>Ft b∨b=b1) w3) (V Ft w3):=V.sub λb _ h=>.inl h
 refine d0.add ih (hp1.mono sub) (by omega) (by omega) (by omega) λa1 a2 w5 G5 d5 v5 sa1 sa2=>⟨d5.k.mono λi _ h=>.inl h,?_⟩
 refine d5.add ih (hp2.mono sub) (by omega) (by simp [Re.poss_len];omega) (by omega) λc1 c2 w6 G6 d6 v6 sb1 sb2=>⟨d6.k.mono λi _ h=>.inl h,?_⟩
 have hlen:((fs++x.poss.map λf=>(f,rule)).length:Int)=fs.length + x.cnt:=by simp [Re.poss_len]
 rw [hlen] at sb1 sb2 d6
 have hlen2:(((fs++x.poss.map λf=>(f,rule))++y.poss.map λf=>(f,rule)).length:Int)=fs.length + x.cnt + y.cnt:=by simp [Re.poss_len];omega
 refine tail_cat k03 ⟨by omega,lt_of_some hb3⟩ hold d6 (λ_ h=>h) (d6.k.blk hb3 nb) (sa1.mono v6) (sa2.mono v6) sb1 sb2 (λk hk=>?_) (λk hk=>?_) λa b w' Ft' g1 g2 g3 g4 g5=>?_
 ·have:=Re.last_in hk;rw [hlen2];omega
 ·have:=Re.first_in hk;rw [hlen2];omega
 ·refine hK a b w' Ft' g1 g2 ?_ g4 g5
  have e:(fs++x.poss.map λf=>(f,rule))++(y.poss.map λf=>(f,rule))=fs++(Re.cat x y).poss.map λf=>(f,rule):=by simp [Re.poss]
  rw [e] at g3
  refine g3.congr λp q=>?_
  simp only [Re.fol]
  constructor
  ·rintro ((h | h) | h)
   ·rcases h with h | h
    ·exact .inl h
    ·exact .inr (.inl (.inl h))
   ·exact .inr (.inl (.inr h))
   ·exact .inr (.inr h)
  ·rintro (h | (h | h) | h)
   ·exact .inl (.inl (.inl h))
   ·exact .inl (.inl (.inr h))
   ·exact .inl (.inr h)
   ·exact .inr h
theorem add_star {n:Nat} (ih:AddSpec n) {x:Re} (hx:(Re.star x).size≤n + 1) (hm:Mach w bm base fs F rl Ft) (hN:Nd (V Ft w) p (.star x)) (hfew:fs.length + x.cnt≤2000) (hbase:base≤w.heap.size)
  (hK:∀ (a b:Nat) (w':World) (Ft':Nat→Prop),Keeps Ft w w'→(∀ i,Ft' i→Ft i∨w.heap.size≤i)→Mach w' bm base (fs++(Re.star x).poss.map λf=>(f,rule)) (λp q=>F p q∨(Re.star x).fol fs.length p q) rl Ft' →
   SetAt (V Ft' w') a ((Re.star x).first fs.length)→SetAt (V Ft' w') b ((Re.star x).last fs.length)→K (some a,some b,(Re.star x).emp) w'):nfa_Machine_add.C (some ⟨bm,0,none⟩) rule p w K:=by
 simp only [Re.size] at hx
 refine nfa_Machine_add.ok _ _ _ _ _ ?_
 simp only [nfa_Machine_add.M,NilC_some]
 refine Al.mk λb1 w1 n1=>?_
 have e1:=n1.eq;have s1:=n1.size
 have hold:=hm.old
 have nb:¬ Ft b1:=λh=>by have:=hold _ h;omega
 refine regex_Parts_spec (M:=Ft) (hold.keeps n1.keeps) (hN.mono (V.keeps0 n1.keeps)) λl0 ps0 w3 k3 hl0 ha0=>?_
 have k03:Keeps No w w3:=n1.keeps.trans k3
 refine regex_Kind_spec (M:=Ft) (hN.mono (V.keeps0 k03)) ?_
 refine Br.mk (λht=>absurd ht (by simp [Re.kind])) λ_=>Br.mk (λht=>absurd ht (by simp [Re.kind])) λ_=>Br.mk (λht=>absurd ht (by simp [Re.kind])) λ_=>Br.mk (λ_=>?_) λht=>absurd ht (by simp [Re.kind])
 obtain⟨p1,rfl,hp1⟩:=parts1 ha0
 have s03:=k3.size
 have hb3:w3.heap[b1]?=some (kobj none none false):=k3.blk0 n1.at_
 have d0:Ph w3 w3 bm base rl Ft Ft fs F:=Ph.start (hm.keep0 k03)
 refine IdxS.get hl0 (by omega) (by simp) λq1 hq1=>?_
 simp at hq1
 subst hq1
 refine d0.add ih hp1 (by omega) (by omega) (by omega) λa1 a2 w5 G5 d5 v5 sa1 sa2=>?_
 refine d5.al λb2 w6 d6 v6 hb6 g6 g6' k6=>?_
 refine St3 hb6.2 λw7 u7=>?_
 have nG:∀ {i:Nat},G5 i→i≠b2:=λ{i} hg e=>hb6.1 (e ▸ hg)
 have hne:∀ {m:Nat} {S:Int→Prop},SetAt (V G5 w6) m S→SetAt (V G5 w7) m S:=λ{m S} h=>h.keep u7.keeps (λe=>by
  subst e
  obtain⟨es,clock,⟨_,h⟩,_⟩:=h
  rw [hb6.2] at h
  cases h) h.out
 have m7:Mach w7 bm base (fs++x.poss.map λf=>(f,rule)) (λp q=>F p q∨x.fol fs.length p q) rl G5:=d6.m.keep u7.keeps λi e hg=>nG hg e
 have sa1':=hne (sa1.mono v6)
 have sa2':=hne (sa2.mono v6)
 have hlen:((fs++x.poss.map λf=>(f,rule)).length:Int)=fs.length + x.cnt:=by simp [Re.poss_len]
 refine Ld.map (cell_of u7.at_ rfl) (Ld.map (cell_of u7.at_ rfl) ?_)
 refine nfa_Machine_link_spec m7 sa2' sa1' (λk hk=>?_) (λk hk=>?_) λw8 k8 m8=>?_
 ·have:=Re.last_in hk;rw [hlen];omega
 ·have:=Re.first_in hk;rw [hlen];omega
 have h8:=k8.blk u7.at_ hb6.1
 refine Ld.map (cell_of h8 rfl) (Ld.map (cell_of h8 rfl) ?_)
 have k37:Keeps Ft w3 w7:=d6.k.then u7.keeps λi hi e=>by omega
 have k38:Keeps Ft w3 w8:=k37.step k8 d6.g
 have s8:=k38.size
 have sz3:=k03.size
 refine add_end (Ft':=G5) (k38.blk hb3 nb) ((k03.no (M:=Ft)).trans k38) (λi hi=>(d6.g i hi).imp id (by omega)) (by omega) (λh=>?_) m8 (sa1'.mono (V.keeps k8)) (sa2'.mono (V.keeps k8)) λw9 k9 m9 h1 h2=>?_
 ·rcases d6.g _ h with h | h
  ·exact nb h
  ·have:=lt_of_some hb3;omega
 ·refine hK a1 a2 w9 G5 k9 (λi hi=>(d6.g i hi).imp id (by omega)) (m9.congr λp q=>?_) h1 h2
  simp only [Re.fol,or_assoc]
end
section
variable {w:World} {bm base:Nat} {fs:List ((Nat→Bool) × Int)} {F:Int→Int→Prop} {rl:Sl} {Ft:Nat→Prop} {p:Option Addr} {rule:Int} {K:(Option Nat × Option Nat × Bool)→World→Prop}
theorem add_endS {w1:World} {Ft':Nat→Prop} {b1 a b:Nat} {x y:Option Nat} {e0 e:Bool} {fs':List ((Nat→Bool) × Int)} {F':Int→Int→Prop} {A B:Int→Prop} {S:World→Prop} (h1:w1.heap[b1]?=some (kobj x y e0)) (hk:Keeps Ft w w1) (hF:∀ i,Ft' i→Ft i∨w.heap.size≤i) (hb:w.heap.size≤b1) (hn:¬ Ft' b1)
  (hS:∀ w',Keeps (·=b1) w1 w'→S w')
  (hm:Mach w1 bm base fs' F' rl Ft') (hA:SetAt (V Ft' w1) a A) (hB:SetAt (V Ft' w1) b B)
  (hK:∀ w',Keeps Ft w w'→Mach w' bm base fs' F' rl Ft'→SetAt (V Ft' w') a A→SetAt (V Ft' w') b B→K (some a,some b,e) w') :
  St ⟨b1,0,none⟩ (.map (some a)) w1 λw2=>St ⟨b1,1,none⟩ (.map (some b)) w2 λw3=>St ⟨b1,2,none⟩ (.bool e) w3 λw4=>(S w4∧Ld .map ⟨b1,0,none⟩ w4 λr0=>Ld .map ⟨b1,1,none⟩ w4 λr1=>Ld .bool ⟨b1,2,none⟩ w4 λr2=>K (r0,r1,r2) w4):=by
 refine St3 h1 λw2 u2=>⟨hS _ u2.keeps,Ld3 (k:=λa b c=>K (a,b,c) w2) u2.at_ ?_⟩
 have hv:∀ {m:Nat} {S:Int→Prop},SetAt (V Ft' w1) m S→SetAt (V Ft' w2) m S:=λ{m S} h=>h.keep u2.keeps (λe=>by
  subst e
  obtain⟨es,clock,⟨_,h⟩,_⟩:=h
  rw [h1] at h
  cases h) h.out
 exact hK w2 (hk.then u2.keeps λi hi e=>by omega) (hm.keep u2.keeps λi e hf=>hn (e ▸ hf)) (hv hA) (hv hB)
structure OrSt (w3 w54:World) (bm base:Nat) (rl:Sl) (Ft:Nat→Prop) (fs':List ((Nat→Bool) × Int)) (F':Int→Int→Prop) (A1 A2 B1 B2:Int→Prop) (ea eb:Bool) (bA bB:Nat):Prop where
 st:∃ a1 a2 c1 c2 G,Ph w3 w54 bm base rl Ft G fs' F'∧w54.heap[bA]?=some (kobj (some a1) (some a2) ea)∧w54.heap[bB]?=some (kobj (some c1) (some c2) eb)∧SetAt (V G w54) a1 A1∧SetAt (V G w54) a2 A2∧SetAt (V G w54) c1 B1∧SetAt (V G w54) c2 B2
 gA:w3.heap.size≤bA
 gB:w3.heap.size≤bB
theorem or_fin {w3 wc:World} {G:Nat→Prop} {fs':List ((Nat→Bool) × Int)} {F':Int→Int→Prop} {a1 a2 c1 c2 bA bB:Nat} {ea eb:Bool} {A1 A2 B1 B2:Int→Prop} {j:Addr × Addr→World→Prop}
  (h:Ph w3 wc bm base rl Ft G fs' F') (hA1:SetAt (V G wc) a1 A1) (hA2:SetAt (V G wc) a2 A2) (hB1:SetAt (V G wc) c1 B1) (hB2:SetAt (V G wc) c2 B2) (hbA:V G wc bA (kobj none none false)) (hbB:V G wc bB (kobj none none false))
  (gA:w3.heap.size≤bA) (gB:w3.heap.size≤bB) (hne:bA≠bB)
  (hj:∀ w',Keeps Ft w3 w'→OrSt w3 w' bm base rl Ft fs' F' A1 A2 B1 B2 ea eb bA bB→j (⟨bA,0,none⟩,⟨bB,0,none⟩) w') :
  St ⟨bA,0,none⟩ (.map (some a1)) wc λw69=>St ⟨bA,1,none⟩ (.map (some a2)) w69 λw70=>St ⟨bA,2,none⟩ (.bool ea) w70 λw71=>(Keeps Ft w3 w71∧St ⟨bB,0,none⟩ (.map (some c1)) w71 λw72=>St ⟨bB,1,none⟩ (.map (some c2)) w72 λw73=>St ⟨bB,2,none⟩ (.bool eb) w73 λw74=>(Keeps Ft w3 w74∧j (⟨bA,0,none⟩,⟨bB,0,none⟩) w74)):=by
 refine St3 hbA.2 λw1 u1=>?_
 have k1:Keeps Ft w3 w1:=h.k.then u1.keeps λi hi e=>by omega
 refine⟨k1,St3 (u1.keeps.blk hbB.2 (Ne.symm hne)) λw2 u2=>?_⟩
 have k2:Keeps Ft w3 w2:=k1.then u2.keeps λi hi e=>by omega
 refine⟨k2,hj w2 k2 ⟨⟨a1,a2,c1,c2,G,⟨k2,h.g,(h.m.keep u1.keeps λi e hg=>hbA.1 (e ▸ hg)).keep u2.keeps λi e hg=>hbB.1 (e ▸ hg)⟩,u2.keeps.blk u1.at_ hne,u2.at_,?_⟩,gA,gB⟩⟩
 have hv:∀ {m:Nat} {S:Int→Prop},SetAt (V G wc) m S→SetAt (V G w2) m S:=λ{m S} h=>by
  have h0:=h
  obtain⟨es,clock,⟨_,h0⟩,_⟩:=h0
  refine MapAt.keep (MapAt.keep h u1.keeps (λe=>?_) h.out) u2.keeps (λe=>?_) h.out
  ·subst e;rw [hbA.2] at h0;cases h0
  ·subst e;rw [hbB.2] at h0;cases h0
 exact⟨hv hA1,hv hA2,hv hB1,hv hB2⟩
theorem or_rest {w0 w3 w54:World} {fs':List ((Nat→Bool) × Int)} {F':Int→Int→Prop} {A1 A2 B1 B2:Int→Prop} {ea eb:Bool} {bA bB b1:Nat} (h0:Keeps No w0 w3) (hold:Old Ft w0) (hb1:w3.heap[b1]?=some (kobj none none false)) (hge:w0.heap.size≤b1)
  (h:OrSt w3 w54 bm base rl Ft fs' F' A1 A2 B1 B2 ea eb bA bB) (pB1:∀ k,B1 k→Pos k) (pB2:∀ k,B2 k→Pos k)
  (hK:∀ (a b:Nat) (w':World) (Ft':Nat→Prop),Keeps Ft w0 w'→(∀ i,Ft' i→Ft i∨w0.heap.size≤i)→Mach w' bm base fs' F' rl Ft'→SetAt (V Ft' w') a (λk=>A1 k∨B1 k)→SetAt (V Ft' w') b (λk=>A2 k∨B2 k)→K (some a,some b,ea||eb) w') :
  Draw w54 λS22 w55=>LdS S22 .map ⟨bA,0,none⟩ λx75=>LdS S22 .map ⟨bB,0,none⟩ λx77=>LdS S22 .map (Addr.add ⟨bA,0,none⟩ 1) λx80=>LdS S22 .map (Addr.add ⟨bB,0,none⟩ 1) λx82=>LdS S22 .bool (Addr.add ⟨bA,0,none⟩ 2) λx85=>nfa_set_with.C x75 x77 w55 λx78 w56=>(S22 w56∧nfa_set_with.C x80 x82 w56 λx83 w57=>(S22 w57 ∧
   Br x85 (St (⟨b1,0,none⟩) (.map x78) w57 λw58=>St (⟨b1,1,none⟩) (.map x83) w58 λw59=>St (⟨b1,2,none⟩) (.bool true) w59 λw60=>(S22 w60∧Ld .map (⟨b1,0,none⟩) w60 λr0_0=>Ld .map (⟨b1,1,none⟩) w60 λr0_1=>Ld .bool (⟨b1,2,none⟩) w60 λr0_2=>K (r0_0,r0_1,r0_2) w60))
    (LdS S22 .bool (Addr.add ⟨bB,0,none⟩ 2) λx88=>St (⟨b1,0,none⟩) (.map x78) w57 λw61=>St (⟨b1,1,none⟩) (.map x83) w61 λw62=>St (⟨b1,2,none⟩) (.bool x88) w62 λw63=>(S22 w63∧Ld .map (⟨b1,0,none⟩) w63 λr0_0=>Ld .map (⟨b1,1,none⟩) w63 λr0_1=>Ld .bool (⟨b1,2,none⟩) w63 λr0_2=>K (r0_0,r0_1,r0_2) w63)))):=by
 obtain⟨⟨a1,a2,c1,c2,G,d,hA,hB,sA1,sA2,sB1,sB2⟩,gA,gB⟩:=h
 have hlt:=lt_of_some hb1
 have s03:=h0.size
 refine⟨λx=>Keeps (·=b1) w54 x,Keeps.drew.no,?_⟩
 have hcA:∀ w',Keeps (·=b1) w54 w'→w'.heap[bA]?=some (kobj (some a1) (some a2) ea):=λw' hk=>hk.blk hA (by omega)
 have hcB:∀ w',Keeps (·=b1) w54 w'→w'.heap[bB]?=some (kobj (some c1) (some c2) eb):=λw' hk=>hk.blk hB (by omega)
 refine LdS.of (v:=some a1) (λw' hw'=>cell_of (hcA w' hw') rfl) <| LdS.of (v:=some c1) (λw' hw'=>cell_of (hcB w' hw') rfl) <| LdS.of (v:=some a2) (λw' hw'=>cell_of (hcA w' hw') rfl) <| LdS.of (v:=some c2) (λw' hw'=>cell_of (hcB w' hw') rfl) <| LdS.of (v:=ea) (λw' hw'=>cell_of (hcA w' hw') rfl) ?_
 have mv:∀ {m:Nat} {S:Int→Prop},SetAt (V G w54) m S→SetAt (V G w54.drew) m S:=λh=>h.mono (V.keeps0 .drew)
 refine nfa_set_with_spec (a:=some a1) (b:=some c1) (M:=G) (mv sA1) (by simp) (mv sB1) pB1 λm1 w6 k6 g6 h6=>?_
 have k6':Keeps No w54 w6:=Keeps.drew.trans k6
 refine⟨k6'.no,?_⟩
 refine nfa_set_with_spec (a:=some a2) (b:=some c2) (M:=G) (sA2.mono (V.keeps0 k6')) (by simp) (sB2.mono (V.keeps0 k6')) pB2 λm2 w7 k7 g7 h7=>?_
 have k7':=k6'.trans k7
 refine⟨k7'.no,?_⟩
 have hold2:=d.m.old
 have s6:=k6'.size
 have hd:w54.drew.heap.size=w54.heap.size:=rfl
 have nG1:¬ G m1:=λh=>by have:=hold2 _ h;omega
 have nG2:¬ G m2:=λh=>by have:=hold2 _ h;omega
 have nFb:¬ Ft b1:=λh=>by have:=hold _ h;omega
 have nGb:¬ G b1:=λh=>by rcases d.g _ h with h | h;{ exact nFb h };{ omega }
 have x1:SetAt (V G w7) m1 (λk=>A1 k∨B1 k):=h6.keep k7 (λh=>h.elim) nG1
 have x2:SetAt (V G w7) m2 (λk=>A2 k∨B2 k):=h7.keep (Keeps.refl (M:=No)) (λh=>h.elim) nG2
 have hb7:w7.heap[b1]?=some (kobj none none false):=k7'.blk0 (d.k.blk hb1 nFb)
 have kk:Keeps Ft w0 w7:=((h0.no (M:=Ft)).trans d.k).then0 k7'
 have gg:∀ i,G i→Ft i∨w0.heap.size≤i:=λi hi=>(d.g i hi).imp id (by omega)
 refine Br.mk (λht=>?_) (λhf=>?_)
 ·refine add_endS hb7 kk gg hge nGb (λw' hk=>(k7'.no (M:=(·=b1))).trans hk) (d.m.keep0 k7') x1 x2 λw9 k9 m9 y1 y2=>?_
  have:=hK m1 m2 w9 G k9 gg m9 y1 y2
  rw [ht] at this
  exact this
 ·refine LdS.of (v:=eb) (λw' hw'=>cell_of (hcB w' hw') rfl) ?_
  refine add_endS hb7 kk gg hge nGb (λw' hk=>(k7'.no (M:=(·=b1))).trans hk) (d.m.keep0 k7') x1 x2 λw9 k9 m9 y1 y2=>?_
  have:=hK m1 m2 w9 G k9 gg m9 y1 y2
  rw [hf] at this
  exact this
theorem add_or {n:Nat} (ih:AddSpec n) {x y:Re} (hx:(Re.or x y).size≤n + 1) (hm:Mach w bm base fs F rl Ft) (hN:Nd (V Ft w) p (.or x y)) (hfew:fs.length + (x.cnt + y.cnt)≤2000) (hbase:base≤w.heap.size)
  (hK:∀ (a b:Nat) (w':World) (Ft':Nat→Prop),Keeps Ft w w'→(∀ i,Ft' i→Ft i∨w.heap.size≤i)→Mach w' bm base (fs++(Re.or x y).poss.map λf=>(f,rule)) (λp q=>F p q∨(Re.or x y).fol fs.length p q) rl Ft' →
   SetAt (V Ft' w') a ((Re.or x y).first fs.length)→SetAt (V Ft' w') b ((Re.or x y).last fs.length)→K (some a,some b,(Re.or x y).emp) w'):nfa_Machine_add.C (some ⟨bm,0,none⟩) rule p w K:=by
 simp only [Re.size] at hx
 refine nfa_Machine_add.ok _ _ _ _ _ ?_
 simp only [nfa_Machine_add.M,NilC_some]
 refine Al.mk λb1 w1 n1=>?_
 have e1:=n1.eq;have s1:=n1.size
 have hold:=hm.old
 refine regex_Parts_spec (M:=Ft) (hold.keeps n1.keeps) (hN.mono (V.keeps0 n1.keeps)) λl0 ps0 w3 k3 hl0 ha0=>?_
 have k03:Keeps No w w3:=n1.keeps.trans k3
 refine regex_Kind_spec (M:=Ft) (hN.mono (V.keeps0 k03)) ?_
 refine Br.mk (λht=>absurd ht (by simp [Re.kind])) λ_=>Br.mk (λht=>absurd ht (by simp [Re.kind])) λ_=>Br.mk (λ_=>?_) λht=>absurd ht (by simp [Re.kind])
 obtain⟨p1,p2,rfl,hp1,hp2⟩:=parts2 ha0
 have s03:=k3.size
 have hb3:w3.heap[b1]?=some (kobj none none false):=k3.blk0 n1.at_
 have hlen:((fs++x.poss.map λf=>(f,rule)).length:Int)=fs.length + x.cnt:=by simp [Re.poss_len]
 have pos:∀ k,(y.first (fs.length + x.cnt) k∨y.last (fs.length + x.cnt) k)→Pos k:=λk hk=>by
  have:(fs.length:Int) + x.cnt≤k∧k < fs.length + x.cnt + y.cnt:=by rcases hk with h | h;{ exact Re.first_in h };{ exact Re.last_in h }
  unfold Pos;omega
 refine Join.cut (λs w54=>∃ bA bB,s=(⟨bA,0,none⟩,⟨bB,0,none⟩)∧OrSt w3 w54 bm base rl Ft ((fs++x.poss.map λf=>(f,rule))++y.poss.map λf=>(f,rule)) (λp q=>(F p q∨x.fol fs.length p q)∨y.fol (fs.length + x.cnt) p q) (x.first fs.length) (x.last fs.length) (y.first (fs.length + x.cnt)) (y.last (fs.length + x.cnt)) x.emp y.emp bA bB) ?_ ?_
 ·rintro _ w54 ⟨bA,bB,rfl,h54⟩
  refine or_rest k03 hold hb3 (by omega) h54 (λk hk=>pos k (.inl hk)) (λk hk=>pos k (.inr hk)) λa b w' Ft' g1 g2 g3 g4 g5=>?_
  refine hK a b w' Ft' g1 g2 ?_ g4 g5
  have e:(fs++x.poss.map λf=>(f,rule))++(y.poss.map λf=>(f,rule))=fs++(Re.or x y).poss.map λf=>(f,rule):=by simp [Re.poss]
  rw [e] at g3
  refine g3.congr λp q=>?_
  simp only [Re.fol,or_assoc]
 ·intro j hj
  refine⟨λx=>Keeps Ft w3 x,Keeps.drew.no,?_⟩
  have d0:Ph w3 w3.drew bm base rl Ft Ft fs F:=(Ph.start (hm.keep0 k03)).drew .drew
  have hS:∀ w',Keeps Ft w3 w'→Vle (V Ft w3) (V No w'):=λw' hk=>V.move hk (λ_ _ h=>h) λ_ _ h=>h.elim
  refine IdxS.getS hl0 hS (by omega) (by simp) λq1 hq1=>IdxS.getS hl0 hS (by omega) (by simp) λq2 hq2=>?_
  simp at hq1 hq2
  subst hq1 hq2
  have A1:∀ {wc:World} {K:(Option Nat × Option Nat × Bool)→World→Prop},Ph w3 wc bm base rl Ft Ft fs F→(∀ (a b:Nat) (wd:World) (G':Nat→Prop),Ph w3 wd bm base rl Ft G' (fs++x.poss.map λf=>(f,rule)) (λp q=>F p q∨x.fol fs.length p q)→Vle (V Ft wc) (V G' wd) →
   SetAt (V G' wd) a (x.first fs.length)→SetAt (V G' wd) b (x.last fs.length)→Keeps Ft w3 wd∧K (some a,some b,x.emp) wd)→nfa_Machine_add.C (some ⟨bm,0,none⟩) rule p1 wc λr wd=>Keeps Ft w3 wd∧K r wd:=λd h=>d.add ih hp1 (by omega) (by omega) (by omega) h
  have A2:∀ {wc:World} {G:Nat→Prop} {K:(Option Nat × Option Nat × Bool)→World→Prop},Ph w3 wc bm base rl Ft G (fs++x.poss.map λf=>(f,rule)) (λp q=>F p q∨x.fol fs.length p q) →
   (∀ (a b:Nat) (wd:World) (G':Nat→Prop),Ph w3 wd bm base rl Ft G' ((fs++x.poss.map λf=>(f,rule))++y.poss.map λf=>(f,rule)) (λp q=>(F p q∨x.fol fs.length p q)∨y.fol (fs.length + x.cnt) p q)→Vle (V G wc) (V G' wd) →
   SetAt (V G' wd) a (y.first (fs.length + x.cnt))→SetAt (V G' wd) b (y.last (fs.length + x.cnt))→Keeps Ft w3 wd∧K (some a,some b,y.emp) wd)→nfa_Machine_add.C (some ⟨bm,0,none⟩) rule p2 wc λr wd=>Keeps Ft w3 wd∧K r wd:=λd h=>by
   refine d.add ih hp2 (by omega) (by simp [Re.poss_len];omega) (by omega) λa b wd G' d' v sa sb=>?_
   rw [hlen] at d' sa sb
   exact h a b wd G' d' v sa sb
  have FJ:∀ {bA bB:Nat} (w':World),Keeps Ft w3 w'→OrSt w3 w' bm base rl Ft ((fs++x.poss.map λf=>(f,rule))++y.poss.map λf=>(f,rule)) (λp q=>(F p q∨x.fol fs.length p q)∨y.fol (fs.length + x.cnt) p q) (x.first fs.length) (x.last fs.length) (y.first (fs.length + x.cnt)) (y.last (fs.length + x.cnt)) x.emp y.emp bA bB →
   j (⟨bA,0,none⟩,⟨bB,0,none⟩) w':=λw' _ h=>hj _ w' ⟨_,_,rfl,h⟩
  refine⟨?_,?_,?_⟩
  ·refine A1 d0 λm1 m1' w1 G1 d1 v1 sa1 sa1'=>⟨d1.k,⟨?_,?_,?_⟩⟩
   ·refine A2 d1 λm2 m2' w2 G2 d2 v2 sb2 sb2'=>⟨d2.k,⟨?_,?_⟩⟩
    ·refine d2.al λb3 w3 d3 v3 hp3 gp3 fp3 k3=>⟨d3.k,?_⟩
     refine d3.al λb4 w4 d4 v4 hq4 gq4 fq4 k4=>⟨d4.k,?_⟩
     exact or_fin d4 (sa1.mono (v2.trans (v3.trans v4))) (sa1'.mono (v2.trans (v3.trans v4))) (sb2.mono (v3.trans v4)) (sb2'.mono (v3.trans v4)) (v4 _ _ hp3) ((Vle.refl) _ _ hq4) gp3 gq4 (Nat.ne_of_lt (Nat.lt_of_lt_of_le (lt_of_some ((Vle.refl) _ _ hp3).2) fq4)) FJ
    ·refine d2.al λb5 w5 d5 v5 hq5 gq5 fq5 k5=>⟨d5.k,?_⟩
     refine d5.al λb6 w6 d6 v6 hp6 gp6 fp6 k6=>⟨d6.k,?_⟩
     exact or_fin d6 (sa1.mono (v2.trans (v5.trans v6))) (sa1'.mono (v2.trans (v5.trans v6))) (sb2.mono (v5.trans v6)) (sb2'.mono (v5.trans v6)) ((Vle.refl) _ _ hp6) (v6 _ _ hq5) gp6 gq5 (Nat.ne_of_gt (Nat.lt_of_lt_of_le (lt_of_some ((Vle.refl) _ _ hq5).2) fp6)) FJ
   ·refine d1.al λb7 w7 d7 v7 hp7 gp7 fp7 k7=>⟨d7.k,⟨?_,?_⟩⟩
    ·refine A2 d7 λm8 m8' w8 G8 d8 v8 sb8 sb8'=>⟨d8.k,?_⟩
     refine d8.al λb9 w9 d9 v9 hq9 gq9 fq9 k9=>⟨d9.k,?_⟩
     exact or_fin d9 (sa1.mono (v7.trans (v8.trans v9))) (sa1'.mono (v7.trans (v8.trans v9))) (sb8.mono v9) (sb8'.mono v9) ((v8.trans v9) _ _ hp7) ((Vle.refl) _ _ hq9) gp7 gq9 (Nat.ne_of_lt (Nat.lt_of_lt_of_le (lt_of_some (v8 _ _ hp7).2) fq9)) FJ
    ·refine d7.al λb10 w10 d10 v10 hq10 gq10 fq10 k10=>⟨d10.k,?_⟩
     refine A2 d10 λm11 m11' w11 G11 d11 v11 sb11 sb11'=>⟨d11.k,?_⟩
     exact or_fin d11 (sa1.mono (v7.trans (v10.trans v11))) (sa1'.mono (v7.trans (v10.trans v11))) (sb11.mono .refl) (sb11'.mono .refl) ((v10.trans v11) _ _ hp7) (v11 _ _ hq10) gp7 gq10 (Nat.ne_of_lt (Nat.lt_of_lt_of_le (lt_of_some ((Vle.refl) _ _ hp7).2) fq10)) FJ
   ·refine d1.al λb12 w12 d12 v12 hq12 gq12 fq12 k12=>⟨d12.k,⟨?_,?_⟩⟩
    ·refine A2 d12 λm13 m13' w13 G13 d13 v13 sb13 sb13'=>⟨d13.k,?_⟩
     refine d13.al λb14 w14 d14 v14 hp14 gp14 fp14 k14=>⟨d14.k,?_⟩
     exact or_fin d14 (sa1.mono (v12.trans (v13.trans v14))) (sa1'.mono (v12.trans (v13.trans v14))) (sb13.mono v14) (sb13'.mono v14) ((Vle.refl) _ _ hp14) ((v13.trans v14) _ _ hq12) gp14 gq12 (Nat.ne_of_gt (Nat.lt_of_lt_of_le (lt_of_some (v13 _ _ hq12).2) fp14)) FJ
    ·refine d12.al λb15 w15 d15 v15 hp15 gp15 fp15 k15=>⟨d15.k,?_⟩
     refine A2 d15 λm16 m16' w16 G16 d16 v16 sb16 sb16'=>⟨d16.k,?_⟩
     exact or_fin d16 (sa1.mono (v12.trans (v15.trans v16))) (sa1'.mono (v12.trans (v15.trans v16))) (sb16.mono .refl) (sb16'.mono .refl) (v16 _ _ hp15) ((v15.trans v16) _ _ hq12) gp15 gq12 (Nat.ne_of_gt (Nat.lt_of_lt_of_le (lt_of_some ((Vle.refl) _ _ hq12).2) fp15)) FJ
  ·refine d0.al λb17 w17 d17 v17 hp17 gp17 fp17 k17=>⟨d17.k,⟨?_,?_⟩⟩
   ·refine A1 d17 λm18 m18' w18 G18 d18 v18 sa18 sa18'=>⟨d18.k,⟨?_,?_⟩⟩
    ·refine A2 d18 λm19 m19' w19 G19 d19 v19 sb19 sb19'=>⟨d19.k,?_⟩
     refine d19.al λb20 w20 d20 v20 hq20 gq20 fq20 k20=>⟨d20.k,?_⟩
     exact or_fin d20 (sa18.mono (v19.trans v20)) (sa18'.mono (v19.trans v20)) (sb19.mono v20) (sb19'.mono v20) ((v18.trans (v19.trans v20)) _ _ hp17) ((Vle.refl) _ _ hq20) gp17 gq20 (Nat.ne_of_lt (Nat.lt_of_lt_of_le (lt_of_some ((v18.trans v19) _ _ hp17).2) fq20)) FJ
    ·refine d18.al λb21 w21 d21 v21 hq21 gq21 fq21 k21=>⟨d21.k,?_⟩
     refine A2 d21 λm22 m22' w22 G22 d22 v22 sb22 sb22'=>⟨d22.k,?_⟩
     exact or_fin d22 (sa18.mono (v21.trans v22)) (sa18'.mono (v21.trans v22)) (sb22.mono .refl) (sb22'.mono .refl) ((v18.trans (v21.trans v22)) _ _ hp17) (v22 _ _ hq21) gp17 gq21 (Nat.ne_of_lt (Nat.lt_of_lt_of_le (lt_of_some (v18 _ _ hp17).2) fq21)) FJ
   ·refine d17.al λb23 w23 d23 v23 hq23 gq23 fq23 k23=>⟨d23.k,?_⟩
    refine A1 d23 λm24 m24' w24 G24 d24 v24 sa24 sa24'=>⟨d24.k,?_⟩
    refine A2 d24 λm25 m25' w25 G25 d25 v25 sb25 sb25'=>⟨d25.k,?_⟩
    exact or_fin d25 (sa24.mono v25) (sa24'.mono v25) (sb25.mono .refl) (sb25'.mono .refl) ((v23.trans (v24.trans v25)) _ _ hp17) ((v24.trans v25) _ _ hq23) gp17 gq23 (Nat.ne_of_lt (Nat.lt_of_lt_of_le (lt_of_some ((Vle.refl) _ _ hp17).2) fq23)) FJ
  ·refine d0.al λb26 w26 d26 v26 hq26 gq26 fq26 k26=>⟨d26.k,⟨?_,?_⟩⟩
   ·refine A1 d26 λm27 m27' w27 G27 d27 v27 sa27 sa27'=>⟨d27.k,⟨?_,?_⟩⟩
    ·refine A2 d27 λm28 m28' w28 G28 d28 v28 sb28 sb28'=>⟨d28.k,?_⟩
     refine d28.al λb29 w29 d29 v29 hp29 gp29 fp29 k29=>⟨d29.k,?_⟩
     exact or_fin d29 (sa27.mono (v28.trans v29)) (sa27'.mono (v28.trans v29)) (sb28.mono v29) (sb28'.mono v29) ((Vle.refl) _ _ hp29) ((v27.trans (v28.trans v29)) _ _ hq26) gp29 gq26 (Nat.ne_of_gt (Nat.lt_of_lt_of_le (lt_of_some ((v27.trans v28) _ _ hq26).2) fp29)) FJ
    ·refine d27.al λb30 w30 d30 v30 hp30 gp30 fp30 k30=>⟨d30.k,?_⟩
     refine A2 d30 λm31 m31' w31 G31 d31 v31 sb31 sb31'=>⟨d31.k,?_⟩
     exact or_fin d31 (sa27.mono (v30.trans v31)) (sa27'.mono (v30.trans v31)) (sb31.mono .refl) (sb31'.mono .refl) (v31 _ _ hp30) ((v27.trans (v30.trans v31)) _ _ hq26) gp30 gq26 (Nat.ne_of_gt (Nat.lt_of_lt_of_le (lt_of_some (v27 _ _ hq26).2) fp30)) FJ
   ·refine d26.al λb32 w32 d32 v32 hp32 gp32 fp32 k32=>⟨d32.k,?_⟩
    refine A1 d32 λm33 m33' w33 G33 d33 v33 sa33 sa33'=>⟨d33.k,?_⟩
    refine A2 d33 λm34 m34' w34 G34 d34 v34 sb34 sb34'=>⟨d34.k,?_⟩
    exact or_fin d34 (sa33.mono v34) (sa33'.mono v34) (sb34.mono .refl) (sb34'.mono .refl) ((v33.trans v34) _ _ hp32) ((v32.trans (v33.trans v34)) _ _ hq26) gp32 gq26 (Nat.ne_of_gt (Nat.lt_of_lt_of_le (lt_of_some ((Vle.refl) _ _ hq26).2) fp32)) FJ
theorem nfa_Machine_add_spec:∀ n,AddSpec n:=by
 intro n
 induction n with
 | zero=>intro x hx;have:=size_pos x;omega
 | succ n ih =>
  intro x hx w bm base fs F rl Ft p rule K hm hN hfew hbase hK
  cases x with
  | set f=>exact add_set hm hN hfew hbase λa b w' Ft' g1 g2 g3 g4 g5=>hK a b w' Ft' g1 g2 (g3.congr λp q=>by simp [Re.fol]) g4 g5
  | empty=>exact add_empty hm hN λa b w' g1 g3 g4 g5=>hK a b w' Ft g1 (λi h=>.inl h) (by simpa [Re.poss,Re.fol] using g3) g4 g5
  | cat x y=>exact add_cat ih hx hm hN hfew hbase hK
  | or x y=>exact add_or ih hx hm hN hfew hbase hK
  | star x=>exact add_star ih hx hm hN hfew hbase hK
end
structure Kn where
 first:Int→Prop
 last:Int→Prop
 emp:Bool
structure KnV where
 a:Nat
 b:Nat
 e:Bool
def KnV.cells (v:KnV):List Value:=[.map (some v.a),.map (some v.b),.bool v.e]
def mFs:Int→List Re→List ((Nat→Bool) × Int)
 | _,[]=>[]
 | r,x::xs=>(x.poss.map λf=>(f,r))++mFs (r + 1) xs
def mFol:Int→List Re→Int→Int→Prop
 | _,[],_,_=>False
 | n,x::xs,p,q=>x.fol n p q∨mFol (n + x.cnt) xs p q
def mKs:Int→List Re→List Kn
 | _,[]=>[]
 | n,x::xs=>⟨x.first n,x.last n,x.emp⟩::mKs (n + x.cnt) xs
def mCnt (xs:List Re):Nat:=(xs.map Re.cnt).sum
theorem mFs_snoc (xs:List Re) (x:Re):∀ r,mFs r (xs++[x])=mFs r xs++x.poss.map λf=>(f,r + xs.length):=by
 induction xs with
 | nil=>intro r;simp [mFs]
 | cons y xs ih =>
  intro r
  simp only [List.cons_append,mFs,ih (r + 1),List.append_assoc,List.length_cons]
  congr 2
  refine List.map_congr_left λf _=>?_
  congr 1;omega
theorem mFol_snoc (xs:List Re) (x:Re) (p q:Int):∀ n,mFol n (xs++[x]) p q↔mFol n xs p q∨x.fol (n + mCnt xs) p q:=by
 induction xs with
 | nil=>intro n;simp [mFol,mCnt]
 | cons y xs ih =>
  intro n
  simp only [List.cons_append,mFol,ih,or_assoc]
  have:n + (y.cnt:Int) + (mCnt xs:Int)=n + mCnt (y::xs):=by simp [mCnt];omega
  rw [this]
theorem mKs_snoc (xs:List Re) (x:Re):∀ n,mKs n (xs++[x])=mKs n xs++[⟨x.first (n + mCnt xs),x.last (n + mCnt xs),x.emp⟩]:=by
 induction xs with
 | nil=>intro n;simp [mKs,mCnt]
 | cons y xs ih =>
  intro n
  simp only [List.cons_append,mKs,ih]
  have:n + (y.cnt:Int) + (mCnt xs:Int)=n + mCnt (y::xs):=by simp [mCnt];omega
  rw [this]
theorem mFs_len (xs:List Re):∀ r,(mFs r xs).length=mCnt xs:=by
 induction xs with
 | nil=>intro r;rfl
 | cons y xs ih=>intro r;simp [mFs,ih,mCnt,Re.poss_len]
theorem mKs_len (xs:List Re):∀ r,(mKs r xs).length=xs.length:=by
 induction xs with
 | nil=>intro r;rfl
 | cons y xs ih=>intro r;simp [mKs,ih]
structure MachV (H:View) (p:Option Addr) (fs:List ((Nat→Bool) × Int)) (F:Int→Int→Prop) (ks:List Kn):Prop where
 ex:∃ bm l rl vs kvs,p=some ⟨bm,0,none⟩∧H bm (.cells #[.slice l.a l.n l.c,.slice rl.a rl.n rl.c] T.nfa_Machine (0,0))∧SlC H l 6 (vs.map PosV.cells)∧All2 (λv x=>Words x.1 v.n0 v.n1 v.n2 v.n3∧v.rule=x.2) vs fs ∧
  (∀ (i:Nat) v,vs[i]?=some v→SetAt H v.m (F i))∧SlC H rl 3 (kvs.map KnV.cells)∧All2 (λv k=>SetAt H v.a k.first∧SetAt H v.b k.last∧v.e=k.emp) kvs ks
 fin:∀ p q,F p q→(0≤p∧p < fs.length)∧0≤q∧q < fs.length
 kin:∀ k∈ks,∀ p,(k.first p∨k.last p)→0≤p∧p < fs.length
 few:fs.length≤2000
 kew:ks.length≤1000000
theorem MachV.mono {H H':View} {p:Option Addr} {fs:List ((Nat→Bool) × Int)} {F:Int→Int→Prop} {ks:List Kn} (h:MachV H p fs F ks) (hv:Vle H H'):MachV H' p fs F ks:=by
 obtain⟨⟨bm,l,rl,vs,kvs,h1,h2,h3,h4,h5,h6,h7⟩,h8,h9,h10,h11⟩:=h
 exact⟨⟨bm,l,rl,vs,kvs,h1,hv _ _ h2,h3.mono hv,h4,λi v hi=>(h5 i v hi).mono hv,h6.mono hv,h7.mono λa b ⟨g1,g2,g3⟩=>⟨g1.mono hv,g2.mono hv,g3⟩⟩,h8,h9,h10,h11⟩
theorem equalIn_nil_ptr {Q:Program} {w:World} (d:Nat) {t e:TypeId} {x:Option Addr} (ht:Q.underlying t=some (.pointer e)):(Op.equalIn (d + 1) t (.pointer none) (.pointer x)).run Q w=.ok x.isNone w:=by
 cases x <;> simp [Op.equalIn,run_underlying ht]
theorem ptr_nil_eql {Q:Program} {w:World} {t:TypeId} {x:Option Addr} {o1 o2:Operand} {K:Bool→World→Prop} (ht:∃ e,Q.underlying t=some (.pointer e)) (hK:K x.isNone w) :
  App Q (do eqGuard .eql t o1 o2 (.pointer none) (.pointer x);binOp .eql t (.pointer none) (.pointer x)) (.one .bool) w K:=by
 obtain⟨e,ht⟩:=ht
 refine⟨x.isNone,w,?_,hK⟩
 have h1:(Op.equal t (.pointer none) (.pointer x)).run Q w=.ok x.isNone w:=equalIn_nil_ptr 9999 ht
 simp [eqGuard,binOp,h1,Result.andThen,RTy.enc,Ty.enc]
theorem pNodeTy:∃ e,P.underlying T.p_regex_Node=some (.pointer e):=⟨T.regex_Node,by kernel_rfl⟩
theorem slices_Index_nil {M:Nat→Prop} {w:World} {l:Sl} {ps:List (Option Addr)} {K:Int→World→Prop} (hl:SlT .ptr (V M w) l ps) (hlen:ps.length < 1000000000)
  (hK:∀ r,(0≤r↔none∈ps)→K r w):slices_Index.C l none w K:=by
 refine slices_Index.ok _ _ _ _ ?_
 simp only [slices_Index.M]
 have hn:=hl.1
 refine Loop.mk (λs w'=>w'=w∧0≤s∧s≤ps.length∧∀ i:Nat,i < s→ps[i]?≠some none) (λs=>(ps.length:Nat) - s.toNat) ⟨rfl,by omega,by omega,λi hi=>by omega⟩ ?_
 rintro s w1 ⟨rfl,h0,h1,h2⟩ R hR
 refine Br.mk (λht=>?_) (λhf=>?_)
 ·have ht:s < ps.length:=by simpa [hn] using ht
  refine IdxS.get (M:=M) hl h0 ht λq hq=>?_
  refine ptr_nil_eql pNodeTy ?_
  refine Br.mk (λhz=>?_) (λhz=>?_)
  ·refine hK s ⟨λ_=>?_,λ_=>h0⟩
   have:q=none:=by simpa using hz
   subst this
   exact kD hq
  ·rw [w64_eq (by omega)]
   refine hR _ _ ⟨rfl,by omega,by omega,λi hi=>?_⟩ (by omega)
   by_cases e:(i:Int)=s
   ·have:s.toNat=i:=by omega
    rw [this] at hq
    rw [hq]
    rintro⟨⟩
    simp at hz
   ·exact h2 i (by omega)
 ·have hf:(ps.length:Int)≤s:=by have:=kF hf;omega
  refine hK (-1) ⟨λh=>by omega,λh=>?_⟩
  obtain⟨i,hi⟩:=List.getElem?_of_mem h
  have:=(kA hi).1
  exact absurd hi (h2 i (by omega))
theorem slices_Contains_nil {M:Nat→Prop} {w:World} {l:Sl} {ps:List (Option Addr)} {K:Bool→World→Prop} (hl:SlT .ptr (V M w) l ps) (hlen:ps.length < 1000000000)
  (hK:∀ b,(b=true↔none∈ps)→K b w):slices_Contains.C l none w K:=by
 refine slices_Contains.ok _ _ _ _ ?_
 simp only [slices_Contains.M]
 exact slices_Index_nil hl hlen λr hr=>hK _ (by rw [decide_eq_true_iff];exact hr)
end Go.Fk
end
section
namespace Go.Fk
open Go
structure PS where
 at_:Nat
 bad:Bool
 long:Bool
 deep:Nat
def PS.fail (st:PS):PS:={ st with bad:=true }
def PS.adv (st:PS):PS:={ st with at_:=st.at_ + 1 }
def isB (s:List UInt8) (b:UInt8) (st:PS):Bool × PS:=if s[st.at_]?=some b then (true,st.adv) else (false,st)
def hexDigits:List UInt8:=[48,49,50,51,52,53,54,55,56,57,97,98,99,100,101,102]
def digitF (s:List UInt8) (st:PS):Nat × PS :=
 match s[st.at_]? with
 | none=>(0,st.fail)
 | some c=>if Lib.indexByte hexDigits c < 0 then (0,st.fail) else ((Lib.indexByte hexDigits c).toNat,st.adv)
def escapedF (s special:List UInt8) (st:PS):Nat × PS :=
 match s[st.at_]? with
 | none=>(0,st.fail)
 | some c =>
  if c=110 then (10,st.adv) else if c=116 then (9,st.adv) else if c=115 then (32,st.adv)
  else if c=120 then
   let h:=digitF s st.adv
   if h.2.bad then (0,h.2) else
   let l:=digitF s h.2
   ((16 * h.1 + l.1) % 256,l.2)
  else if Lib.indexByte special c < 0 then (0,st.fail) else (c.toNat,st.adv)
def letterF (s special:List UInt8) (st:PS):Nat × PS :=
 match s[st.at_]? with
 | none=>(0,st.fail)
 | some c =>
  if c=92 then escapedF s special st.adv
  else if c≤32∨127≤c∨0≤Lib.indexByte special c then (0,st.fail) else (c.toNat,st.adv)
def specialIn:List UInt8:=[93,94,45,92]
def specialOut:List UInt8:=[124,42,43,63,40,41,91,93,46,92]
def spanF (s:List UInt8) (f:Nat→Bool) (st:PS):(Nat→Bool) × PS :=
 let lo:=letterF s specialIn st
 let r:Nat × PS :=
  if lo.2.bad then (lo.1,lo.2) else
  let d:=isB s 45 lo.2
  if d.1 then
   let hi:=letterF s specialIn d.2
   if !hi.2.bad&&hi.1 < lo.1 then (hi.1,{ hi.2 with at_:=d.2.at_,bad:=true }) else hi
  else (lo.1,d.2)
 (if r.2.bad then f else λi=>f i||(decide (lo.1≤i)&&decide (i≤r.1)),r.2)
def classLoop (s:List UInt8):Nat→(Nat→Bool)→PS→(Nat→Bool) × PS
 | 0,f,st=>(f,st)
 | n + 1,f,st =>
  if st.bad then (f,st) else
  let d:=isB s 93 st
  if d.1 then (f,d.2) else
  let r:=spanF s f d.2
  classLoop s n r.1 r.2
def classF (s:List UInt8) (st:PS):Re × PS :=
 let no:=isB s 94 st
 let r:=spanF s (λ_=>false) no.2
 let q:=classLoop s (s.length + 1) r.1 r.2
 (.set (if no.1 then λi=>!q.1 i else q.1),q.2)
def atomF (s:List UInt8) (orF:PS→Re × PS) (st:PS):Re × PS :=
 let a:=isB s 40 st
 if a.1 then
  let st1:PS:={ a.2 with deep:=a.2.deep + 1 }
  if 50 < st1.deep then (.empty,{ st1 with long:=true,bad:=true }) else
  let n:=orF st1
  if n.2.bad then (n.1,{ n.2 with deep:=n.2.deep - 1 }) else
  let c:=isB s 41 n.2
  if c.1 then (n.1,{ c.2 with deep:=c.2.deep - 1 }) else (.empty,c.2.fail)
 else
  let d:=isB s 46 a.2
  if d.1 then (.set λi=>!(i==10),d.2) else
  let b:=isB s 91 d.2
  if b.1 then classF s b.2 else
  let l:=letterF s specialOut b.2
  (.set λi=>i==l.1,l.2)
def factorLoop (s:List UInt8):Nat→Re→PS→Re × PS
 | 0,n,st=>(n,st)
 | k + 1,n,st =>
  if st.bad then (n,st) else
  let a:=isB s 42 st
  let go (x:Re) (st:PS):Re × PS:=if 400 < x.size then (.empty,{ st with long:=true,bad:=true }) else factorLoop s k x st
  if a.1 then go (.star n) a.2 else
  let b:=isB s 43 a.2
  if b.1 then go (.cat n (.star n)) b.2 else
  let c:=isB s 63 b.2
  if c.1 then go (.or n .empty) c.2 else (n,c.2)
def factorF (s:List UInt8) (orF:PS→Re × PS) (st:PS):Re × PS :=
 let a:=atomF s orF st
 factorLoop s (s.length + 1) a.1 a.2
def catLoop (s:List UInt8) (orF:PS→Re × PS):Nat→List Re→PS→List Re × PS
 | 0,l,st=>(l,st)
 | k + 1,l,st =>
  if st.bad then (l,st) else
  match s[st.at_]? with
  | none=>(l,st)
  | some c=>if c=124∨c=41 then (l,st) else
   let f:=factorF s orF st
   catLoop s orF k (l++[f.1]) f.2
def catF (s:List UInt8) (orF:PS→Re × PS) (st:PS):Re × PS :=
 let l:=catLoop s orF (s.length + 1) [] st
 (twoOf .cat .empty l.1,l.2)
def orLoop (s:List UInt8) (orF:PS→Re × PS):Nat→List Re→PS→List Re × PS
 | 0,l,st=>(l,st)
 | k + 1,l,st =>
  if st.bad then (l,st) else
  let a:=isB s 124 st
  if a.1 then
   let c:=catF s orF a.2
   orLoop s orF k (l++[c.1]) c.2
  else (l,a.2)
def noBytes:Re:=.set λ_=>false
def orF (s:List UInt8):Nat→PS→Re × PS
 | 0,st=>(.empty,st)
 | n + 1,st =>
  let c:=catF s (orF s n) st
  let l:=orLoop s (orF s n) (s.length + 1) [c.1] c.2
  (twoOf .or noBytes l.1,l.2)
def parseF (s:List UInt8):Re × Nat × Nat :=
 let r:=orF s 51 ⟨0,false,false,0⟩
 if r.2.long then (.empty,0,3) else
 if r.2.bad||r.2.at_ < s.length then (.empty,r.2.at_,4) else
 if 400 < r.1.size then (.empty,0,3) else (r.1,0,0)
end Go.Fk
end
end
