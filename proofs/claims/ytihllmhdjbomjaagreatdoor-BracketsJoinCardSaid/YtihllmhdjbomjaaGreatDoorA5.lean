/-
  A part of the proof: what the functions of the program come to, read off the model: no premise of its own, no axiom. Blank space is spared. By an AI agent.
-/
import Derived.Test.YtihllmhdjbomjaaGreatDoorA4
import Derived.Test.YtihllmhdjbomjaaGreatDoorA1
import Derived.DeepKeys3
set_option linter.all false
set_option maxRecDepth 100000
noncomputable section
section
namespace Go.Fk
open Go
theorem nodup_le {α:Type} [DecidableEq α]:∀ (l m:List α),l.Nodup→(∀ x∈l,x∈m)→l.length≤m.length
 | [],m,_,_=>by simp
 | a::l,m,hn,h=>by
  rw [List.nodup_cons] at hn
  have ha:=h a (by simp)
  have:=nodup_le l (m.erase a) hn.2 λx hx=>by
   have hne:x≠a:=λe=>hn.1 (e ▸ hx)
   exact (List.mem_erase_of_ne hne).2 (h x (by simp [hx]))
  rw [List.length_erase_of_mem ha] at this
  have:0 < m.length:=List.length_pos_of_mem ha
  simp;omega
def allR:Nat→List (List Int)
 | 0=>[[]]
 | n + 1=>allR n++(allR n).map (·++[(n:Int)])
theorem allR_len (n:Nat):(allR n).length=2 ^ n:=by
 induction n with
 | zero=>rfl
 | succ n ih=>simp [allR,ih,Nat.pow_succ];omega
theorem allR_mem (n:Nat):∀ xs:List Int,xs.Pairwise (· < ·)→(∀ q∈xs,0≤q∧q < n)→xs∈allR n:=by
 induction n with
 | zero =>
  intro xs _ h
  cases xs with
  | nil=>simp [allR]
  | cons a l=>have:=h a (by simp);omega
 | succ n ih =>
  intro xs hp h
  simp only [allR,List.mem_append,List.mem_map]
  rcases List.eq_nil_or_concat xs with rfl | ⟨ys,z,rfl⟩
  ·exact .inl (ih [] .nil (by simp))
  ·rw [List.concat_eq_append] at hp h ⊢
   rw [List.pairwise_append] at hp
   have hz:=h z (by simp)
   by_cases e:z=n
   ·subst e
    refine .inr ⟨ys,ih ys hp.1 λq hq=>?_,rfl⟩
    have h1:=h q (by simp [hq])
    have h2:=hp.2.2 q hq (n:Int) (by simp)
    omega
   ·refine .inl (ih _ (List.pairwise_append.2 hp) λq hq=>?_)
    have h1:=h q hq
    rcases List.mem_append.1 hq with hq | hq
    ·have h2:=hp.2.2 q hq z (by simp);omega
    ·simp at hq;subst hq;omega
theorem Sts.few {fs:List ((Nat→Bool) × Int)} {ks:List Kn} {svs:List DSt} (h:Sts fs ks svs):svs.length≤2 ^ fs.length:=by
 have hn:(svs.map DSt.xs).Nodup:=by
  rw [List.Nodup,List.pairwise_iff_getElem]
  intro i j hi hj hij he
  simp at hi hj
  have:=h.inj i j svs[i] svs[j] (kC hi) (kC hj) (by simpa using he)
  omega
 have:=nodup_le (svs.map DSt.xs) (allR fs.length) hn λx hx=>by
  obtain⟨sv,hs,rfl⟩:=List.mem_map.1 hx
  exact allR_mem _ _ (h.rise sv hs).1 (h.rise sv hs).2
 rw [allR_len,List.length_map] at this
 exact this
def NowS (fs:List ((Nat→Bool) × Int)) (F:Int→Int→Prop) (ks:List Kn) (s:List UInt8) (t:Nat) (q:Int):Prop:=∃ r:Nat,r < ks.length∧nowP fs F (knAt ks r) s t q
section
variable {fs:List ((Nat→Bool) × Int)} {F:Int→Int→Prop} {ks:List Kn} {svs:List DSt} {cl:Nat→Int} {nc:Int} {s:List UInt8}
theorem step_zero {c:UInt8} (hc:s[0]?=some c) {q:Int}:stepS fs F ks [] c.toNat q↔NowS fs F ks s 1 q:=by
 unfold stepS NowS nextSet
 constructor
 ·rintro⟨⟨_,r,hr,hf⟩ | ⟨p,hp,_⟩,hh⟩
  ·exact⟨r,hr,(nowP_succ hc).2 ⟨.inl ⟨rfl,hf⟩,hh⟩⟩
  ·simp at hp
 ·rintro⟨r,hr,hn⟩
  obtain⟨hx,hh⟩:=(nowP_succ hc).1 hn
  rcases hx with⟨_,hf⟩ | ⟨p,hp,_⟩
  ·exact⟨.inl ⟨rfl,r,hr,hf⟩,hh⟩
  ·exact (nowP_zero hp).elim
theorem step_succ {t:Nat} {c:UInt8} (hc:s[t + 1]?=some c) {xs:List Int} (hne:xs≠[]) (hx:∀ q,q∈xs↔NowS fs F ks s (t + 1) q) {q:Int}:stepS fs F ks xs c.toNat q↔NowS fs F ks s (t + 2) q:=by
 unfold stepS nextSet
 constructor
 ·rintro⟨⟨h0,_⟩ | ⟨p,hp,hf⟩,hh⟩
  ·exact absurd h0 hne
  ·obtain⟨r,hr,hn⟩:=(hx p).1 hp
   exact⟨r,hr,(nowP_succ hc).2 ⟨nextP_succ.2 ⟨p,hn,hf⟩,hh⟩⟩
 ·rintro⟨r,hr,hn⟩
  obtain⟨h1,hh⟩:=(nowP_succ hc).1 hn
  obtain⟨p,hp,hf⟩:=nextP_succ.1 h1
  exact⟨.inr ⟨p,(hx p).2 ⟨r,hr,hp⟩,hf⟩,hh⟩
def StateOf (fs:List ((Nat→Bool) × Int)) (F:Int→Int→Prop) (ks:List Kn) (svs:List DSt) (s:List UInt8) (t:Nat) (st:Int × Bool):Prop :=
 (t=0∧st=(0,true))∨(0 < t∧((∃ (i:Nat) (sv:DSt),st=((i:Int),true)∧0 < i∧svs[i]?=some sv∧∀ q,q∈sv.xs↔NowS fs F ks s t q)∨(st=(0,false)∧∀ q,¬ NowS fs F ks s t q)))
theorem runFrom_snoc (l:List UInt8) (c:UInt8) (st:Int × Bool):runFrom svs (l++[c]) st=if (runFrom svs l st).2=true then nextOf svs (runFrom svs l st).1 c.toNat else runFrom svs l st:=by
 unfold runFrom
 rw [List.foldl_append]
 rfl
theorem now_dead {t:Nat} (h:∀ q,¬ NowS fs F ks s (t + 1) q):∀ q,¬ NowS fs F ks s (t + 2) q:=by
 rintro q ⟨r,hr,p,hp,hpth⟩
 generalize hj:t + 2=j at hpth
 cases hpth with
 | one=>omega
 | snoc t' f hc hh =>
  rename_i j' q0 c
  have:j'=t + 1:=by omega
  subst this
  exact h _ ⟨r,hr,p,hp,t'⟩
theorem run_state (h:DfaOK fs F ks svs cl nc):∀ t,t≤s.length→StateOf fs F ks svs s t (runFrom svs (s.take t) (0,true)):=by
 intro t
 induction t with
 | zero=>intro _;exact .inl ⟨rfl,by simp [runFrom]⟩
 | succ t ih =>
  intro ht
  have hst:=ih (by omega)
  have hc:s[t]?=some s[t]:=kC (by omega)
  generalize s[t]=c at hc
  have htk:s.take (t + 1)=s.take t++[c]:=by rw [List.take_add_one,hc];rfl
  rw [htk,runFrom_snoc]
  have hc256:c.toNat < 256:=by have:=c.toNat_lt;omega
  have step:∀ (i:Nat) (sv:DSt),svs[i]?=some sv→(∀ q,stepS fs F ks sv.xs c.toNat q↔NowS fs F ks s (t + 1) q)→StateOf fs F ks svs s (t + 1) (nextOf svs i c.toNat):=by
   intro i sv hi hq
   have hat:stAt svs (i:Int)=some sv:=stAt_in (by omega) (by simpa using hi)
   right
   refine⟨by omega,?_⟩
   rcases h.good (kD hi) hc256 with⟨h1,h2⟩ | ⟨k,sv',hk,hk2,hk3,hk4⟩
   ·right
    exact⟨by simp [nextOf,hat,h1],λq hn=>h2 q ((hq q).2 hn)⟩
   ·left
    refine⟨k,sv',?_,hk,hk3,λq=>by rw [hk4,hq]⟩
    have:¬ (k:Int)=-1:=by omega
    simp [nextOf,hat,this,hk2]
  rcases hst with⟨rfl,e⟩ | ⟨h0,⟨i,sv,e,hi0,hi,hq⟩ | ⟨e,hq⟩⟩
  ·rw [e,if_pos rfl]
   obtain⟨sv,g1,g2⟩:=h.sts.zero
   exact step 0 sv g1 λq=>by rw [g2];exact step_zero hc
  ·rw [e,if_pos rfl]
   obtain⟨t',rfl⟩:∃ k,t=k + 1:=⟨t - 1,by omega⟩
   exact step i sv hi λq=>step_succ hc (h.sts.ne i sv hi hi0) hq
  ·rw [e]
   obtain⟨t',rfl⟩:∃ k,t=k + 1:=⟨t - 1,by omega⟩
   exact .inr ⟨by omega,.inr ⟨rfl,now_dead hq⟩⟩
end
def LeastI (M:Nat→Prop) (n:Nat) (a:Int):Prop:=(a=-1∧∀ i,i < n→¬ M i)∨∃ i:Nat,i < n∧a=i∧M i∧∀ j,j < n→M j→i≤j
def Means (ys:List Re) (s:List UInt8) (t:Nat) (i:Nat):Prop:=∃ y,ys[i]?=some y∧y.m s 0 t
section
variable {ys:List Re} {svs:List DSt} {cl:Nat→Int} {nc:Int} {s:List UInt8}
theorem now_rule {t:Nat} {r:Nat} {q:Int} (h:nowP (mFs 0 ys) (mFol 0 ys) (knAt (mKs 0 ys) r) s t q):ruleAt (mFs 0 ys) q=r:=by
 obtain⟨p,hp,t⟩:=h
 have h0:=ruleAt_first (.inl hp)
 induction t with
 | one=>exact h0
 | snoc _ f _ _ ih=>rw [ruleAt_fol f];exact ih
theorem acc_least {t:Nat} (ht:0 < t) {xs:List Int} {a:Int} (hx:∀ q,q∈xs↔NowS (mFs 0 ys) (mFol 0 ys) (mKs 0 ys) s t q) (ha:AccOf (mFs 0 ys) (mKs 0 ys) xs a):LeastI (Means ys s t) ys.length a:=by
 have hlen:(mKs 0 ys).length=ys.length:=mKs_len ys 0
 have fwd:∀ i,i < ys.length→Means ys s t i→∃ q∈xs,lastAt (mFs 0 ys) (mKs 0 ys) q∧ruleAt (mFs 0 ys) q=i:=by
  rintro i hi ⟨y,hy,hm⟩
  rcases (okP_iff hy s t).2 hm with⟨h0,_⟩ | ⟨q,hn,hl⟩
  ·omega
  ·have hr:=now_rule hn
   exact⟨q,(hx q).2 ⟨i,by omega,hn⟩,by unfold lastAt;rw [hr];exact hl,hr⟩
 have back:∀ q∈xs,lastAt (mFs 0 ys) (mKs 0 ys) q→∃ i,i < ys.length∧ruleAt (mFs 0 ys) q=(i:Int)∧Means ys s t i:=by
  intro q hq hl
  obtain⟨r,hr,hn⟩:=(hx q).1 hq
  have hrl:=now_rule hn
  have hy:ys[r]?=some ys[r]:=kC (by omega)
  refine⟨r,by omega,hrl,ys[r],hy,(okP_iff hy s t).1 (.inr ⟨q,hn,?_⟩)⟩
  unfold lastAt at hl
  rw [hrl] at hl;exact hl
 rcases ha with⟨rfl,h1⟩ | ⟨⟨h0,p,hp,h1,rfl⟩,h2⟩
 ·refine .inl ⟨rfl,λi hi hm=>?_⟩
  obtain⟨q,hq,hl,_⟩:=fwd i hi hm
  exact h1 q hq hl
 ·obtain⟨i,hi,he,hm⟩:=back p hp h1
  refine .inr ⟨i,hi,he,hm,λj hj hmj=>?_⟩
  obtain⟨q,hq,hl,hr⟩:=fwd j hj hmj
  have:=h2 q hq hl
  omega
theorem run_law (h:DfaOK (mFs 0 ys) (mFol 0 ys) (mKs 0 ys) svs cl nc) (hs:0 < s.length) :
  ((runFrom svs s (0,true)).2=false→(runFrom svs s (0,true)).1=0∧LeastI (Means ys s s.length) ys.length (-1))∧((runFrom svs s (0,true)).2=true→LeastI (Means ys s s.length) ys.length (accOf svs (runFrom svs s (0,true)).1)):=by
 have:=run_state (s:=s) h s.length (Nat.le_refl _)
 rw [List.take_length] at this
 rcases this with⟨h0,_⟩ | ⟨_,⟨i,sv,e,hi0,hi,hq⟩ | ⟨e,hq⟩⟩
 ·omega
 ·rw [e]
  refine⟨λh=>by simp at h,λ_=>?_⟩
  have hat:stAt svs (i:Int)=some sv:=stAt_in (by omega) (by simpa using hi)
  have:accOf svs (i:Int)=sv.acc:=by simp [accOf,hat]
  show LeastI _ _ (accOf svs (i:Int))
  rw [this]
  exact acc_least hs hq (h.sts.acc sv (kD hi))
 ·rw [e]
  refine⟨λ_=>⟨rfl,acc_least (xs:=[]) hs (λq=>by simp [hq q]) (.inl ⟨rfl,by simp⟩)⟩,λh=>by simp at h⟩
theorem acc_zero (h:DfaOK (mFs 0 ys) (mFol 0 ys) (mKs 0 ys) svs cl nc):accOf svs 0=-1:=by
 obtain⟨sv,g1,g2⟩:=h.sts.zero
 have hat:stAt svs 0=some sv:=stAt_in (by omega) (by simpa using g1)
 have ha:=h.sts.acc sv (kD g1)
 rw [g2] at ha
 have:accOf svs 0=sv.acc:=by simp [accOf,hat]
 rw [this]
 rcases ha with⟨h,_⟩ | ⟨⟨_,p,hp,_⟩,_⟩
 ·exact h
 ·simp at hp
end
theorem u8_small {c:Nat} (h:c < 256):IntKind.wrap .u8 (c:Int)=(c:Int):=IntWalk.u8_in _ (by omega)
def least_Least_Longest.M (l_0:Option Addr) (s_1:ByteArray) (K:(Int × Int × Int)→World→Prop) (w:World):Prop :=
 Loop (λ(s1:Int × Int × Int × Int) w1 again2=>Br (decide (s1.2.2.2 < (s_1.size:Int))) (IdxStr s_1 s1.2.2.2 λx23=>least_Least_Next.C l_0 s1.2.2.1 (x23.toNat:Int) w1 λx24 w2=>Br (!x24.2) (K (s1.1,s1.2.1,(w64 (s1.2.2.2 + (1:Int)))) w2) (least_Least_Accept.C l_0 x24.1 w2 λx36 w3=>Br (x36 != (-1:Int)) (least_Least_Accept.C l_0 x24.1 w3 λx40 w4=>again2 (x40,(w64 (s1.2.2.2 + (1:Int))),x24.1,(w64 (s1.2.2.2 + (1:Int)))) w4) (again2 (s1.1,s1.2.1,x24.1,(w64 (s1.2.2.2 + (1:Int)))) w3))) (K (s1.1,s1.2.1,(s_1.size:Int)) w1)) ((-1),0,0,0) w
theorem least_Least_Longest.ok (l_0 s_1 K w) (h:least_Least_Longest.M l_0 s_1 K w):least_Least_Longest.C l_0 s_1 w K :=
 okS [(24,.tup [.one (.int .i64),.one .bool]),(36,.one (.int .i64)),(40,.one (.int .i64))] (.n .z (.n .z (.n (.n .z (.l [(7,.one (.int .i64)),(8,.one (.int .i64)),(9,.one (.int .i64)),(15,.one (.int .i64))] [0,1,14] .z)) .z))) [.pointer l_0,.string s_1] (.tup [.one (.int .i64),.one (.int .i64),.one (.int .i64)]) rfl rfl h
def least_Least_Run.M (l_0:Option Addr) (s_1:ByteArray) (K:(Int × Bool)→World→Prop) (w:World):Prop :=
 Loop (λ(s1:Int × Bool × Int) w1 again2=>Join (λ(s3:Bool) w2=>Br s3 (IdxStr s_1 s1.2.2 λx25=>least_Least_Next.C l_0 s1.1 (x25.toNat:Int) w2 λx26 w3=>again2 (x26.1,x26.2,(w64 (s1.2.2 + (1:Int)))) w3) (K (s1.1,s1.2.1) w2)) λj4=>Br (decide (s1.2.2 < (s_1.size:Int))) (j4 s1.2.1 w1) (j4 false w1)) (0,(!l_0.isNone),0) w
theorem least_Least_Run.ok (l_0 s_1 K w) (h:least_Least_Run.M l_0 s_1 K w):least_Least_Run.C l_0 s_1 w K :=
 okS [(26,.tup [.one (.int .i64),.one .bool])] (.n .z (.n .z (.n (.n .z (.l [(6,.one (.int .i64)),(7,.one .bool),(8,.one (.int .i64))] [0,1] (.n (.j [(17,.one .bool)] [0,1,6,7,8] .z .z) .z))) .z))) [.pointer l_0,.string s_1] (.tup [.one (.int .i64),.one .bool]) rfl rfl h
def least_New.M (d_0:Option Addr) (K:(Option Addr × Int)→World→Prop) (w:World):Prop :=
 Br (d_0.isNone) (K (none,1) w) (least_live.C d_0 w λx22 w1=>least_kinds.C d_0 x22 w1 λx25 w2=>dfa_Dfa_States.C d_0 w2 λx27 w3=>App P (Instr.makeSlice T.sl_int (.int .i64 x27) (.int .i64 x27)) (.one .sl) w3 λx28 w4=>Al (.cells #[.slice none 0 0,.slice x28.a x28.n x28.c] T.least_Least (0,0)) w4 λb1 w5=>Al (.map #[] 0) w5 λm2 w6=>IdxS x25 0 1 λp33=>Ld (.int .i64) p33 w6 λx34=>App0 P (Instr.mapUpdate T.map_int_int (.map (some m2)) (.int .i64 x34) (.int .i64 0)) w6 λw7=>Al (.cells #[.int .i64 0] T.int (0,0)) w7 λb3 w8=>Loop (λ(s4:Sl × Int) w9 again5=>Br (decide (s4.2 < (s4.1.n:Int))) (IdxS s4.1 s4.2 1 λp46=>Ld (.int .i64) p46 w9 λx47=>dfa_Dfa_Accept.C d_0 x47 w9 λx48 w10=>App P (Instr.build T.least_state #[(1,.int .i64 x48)]) .big w10 λx49 w11=>Al (.cells (Array.replicate 257 (.int .i64 0:Value)) T.least_state (0,0)) w11 λb6 w12=>StA P T.least_state (⟨b6,0,none⟩) x49 w12 λw13=>Loop (λ(s7:Sl × Int) w14 again8=>Br (decide (s7.2 < (256:Int))) (IdxA 256 (⟨b6,0,none⟩) s7.2 1 λp55=>St p55 (.int .i64 (-1)) w14 λw15=>IdxS s7.1 s4.2 1 λp60=>Ld (.int .i64) p60 w15 λx61=>dfa_Dfa_Next.C d_0 x61 (IntKind.wrap .u8 (s7.2)) w15 λx64 w16=>Join (λ(s9:Bool) w17=>Br s9 (again8 (s7.1,(w64 (s7.2 + (1:Int)))) w17) (IdxS x25 x64.1 1 λp80=>Ld (.int .i64) p80 w17 λx81=>App P (Instr.lookup T.map_int_int (.map (some m2)) (.int .i64 x81) true) (.tup [.one (.int .i64),.one .bool]) w17 λx82 w18=>Join (λ(s10:Sl × Int) w19=>IdxA 256 (⟨b6,0,none⟩) s7.2 1 λp102=>St p102 (.int .i64 s10.2) w19 λw20=>again8 (s10.1,(w64 (s7.2 + (1:Int)))) w20) λj11=>Br (!x82.2) (IdxS x25 x64.1 1 λp92=>Ld (.int .i64) p92 w18 λx93=>App0 P (Instr.mapUpdate T.map_int_int (.map (some m2)) (.int .i64 x93) (.int .i64 (s7.1.n:Int))) w18 λw21=>Al (.cells #[.int .i64 x64.1] T.int (0,0)) w21 λb12 w22=>App P (Builtin.append_ #[T.sl_int,T.sl_int] T.sl_int #[.slice s7.1.a s7.1.n s7.1.c,.slice (some ⟨b12,0,none⟩) 1 1]) (.one .sl) w22 λx98 w23=>j11 (x98,(s7.1.n:Int)) w23) (j11 (s7.1,x82.1) w18))) λj13=>Br (!x64.2) (j13 true w16) (IdxS x22 x64.1 1 λp72=>Ld .bool p72 w16 λx73=>j13 (!x73) w16)) (DrawN w14 λS14 w24=>(Ld .sl (⟨b1,0,none⟩) w24 λx108=>(S14 w24∧LdA 257 (⟨b6,0,none⟩) w24 λx109=>(S14 w24∧App P (Instr.buildSlice T.sl_least_state 1 #[(0,.agg x109)]) (.one .sl) w24 λx110 w25=>(S14 w25∧App P (Builtin.append_ #[T.sl_least_state,T.sl_least_state] T.sl_least_state #[.slice x108.a x108.n x108.c,.slice x110.a x110.n x110.c]) (.one .sl) w25 λx111 w26=>(S14 w26∧St (⟨b1,0,none⟩) (.slice x111.a x111.n x111.c) w26 λw27=>(S14 w27∧again5 (s7.1,(w64 (s4.2 + (1:Int)))) w27))))))∧(LdA 257 (⟨b6,0,none⟩) w24 λx109=>(S14 w24∧(Ld .sl (⟨b1,0,none⟩) w24 λx108=>(S14 w24∧App P (Instr.buildSlice T.sl_least_state 1 #[(0,.agg x109)]) (.one .sl) w24 λx110 w28=>(S14 w28∧App P (Builtin.append_ #[T.sl_least_state,T.sl_least_state] T.sl_least_state #[.slice x108.a x108.n x108.c,.slice x110.a x110.n x110.c]) (.one .sl) w28 λx111 w29=>(S14 w29∧St (⟨b1,0,none⟩) (.slice x111.a x111.n x111.c) w29 λw30=>(S14 w30∧again5 (s7.1,(w64 (s4.2 + (1:Int)))) w30)))))∧(App P (Instr.buildSlice T.sl_least_state 1 #[(0,.agg x109)]) (.one .sl) w24 λx110 w31=>(S14 w31∧Ld .sl (⟨b1,0,none⟩) w31 λx108=>(S14 w31∧App P (Builtin.append_ #[T.sl_least_state,T.sl_least_state] T.sl_least_state #[.slice x108.a x108.n x108.c,.slice x110.a x110.n x110.c]) (.one .sl) w31 λx111 w32=>(S14 w32∧St (⟨b1,0,none⟩) (.slice x111.a x111.n x111.c) w32 λw33=>(S14 w33∧again5 (s7.1,(w64 (s4.2 + (1:Int)))) w33))))))))) (s4.1,0) w13) (Ld .sl (⟨b1,1,none⟩) w9 λx117=>Loop (λ(s15:Int) w34 again16=>Br (decide (s15 < (x117.n:Int))) (Ld .sl (⟨b1,1,none⟩) w34 λx125=>IdxS x125 s15 1 λp127=>St p127 (.int .i64 (-1)) w34 λw35=>IdxS x25 s15 1 λp132=>Ld (.int .i64) p132 w35 λx133=>App P (Instr.lookup T.map_int_int (.map (some m2)) (.int .i64 x133) true) (.tup [.one (.int .i64),.one .bool]) w35 λx134 w36=>Join (λ(s17:Bool) w37=>Br s17 (Ld .sl (⟨b1,1,none⟩) w37 λx151=>IdxS x151 s15 1 λp154=>St p154 (.int .i64 x134.1) w37 λw38=>again16 (w64 (s15 + (1:Int))) w38) (again16 (w64 (s15 + (1:Int))) w37)) λj18=>Br x134.2 (IdxS x22 s15 1 λp141=>Ld .bool p141 w36 λx142=>Br x142 (j18 true w36) (j18 (s15==(0:Int)) w36)) (j18 false w36)) (K ((some (⟨b1,0,none⟩)),0) w34)) 0 w9)) (⟨(some ⟨b3,0,none⟩),1,1⟩,0) w8)
theorem least_New.ok (d_0 K w) (h:least_New.M d_0 K w):least_New.C d_0 w K :=
 okS [(22,.one .sl),(25,.one .sl),(27,.one (.int .i64)),(28,.one .sl),(34,.one (.int .i64)),(47,.one (.int .i64)),(48,.one (.int .i64)),(49,.big),(61,.one (.int .i64)),(64,.tup [.one (.int .i64),.one .bool]),(73,.one .bool),(81,.one (.int .i64)),(82,.tup [.one (.int .i64),.one .bool]),(93,.one (.int .i64)),(108,.one .sl),(109,.big),(110,.one .sl),(117,.one .sl),(125,.one .sl),(133,.one (.int .i64)),(134,.tup [.one (.int .i64),.one .bool]),(142,.one .bool),(151,.one .sl)] (.n .z (.n .z (.n .z (.n .z (.n .z (.n .z (.n .z (.n (.n .z (.l [(8,.one .sl),(9,.one (.int .i64))] [0,4,5,6,7] (.n .z (.n (.n .z (.n (.n .z (.l [(8,.one .sl),(50,.one (.int .i64))] [0,4,5,6,7,9,10] (.n .z (.n .z (.n (.n .z (.n .z (.n .z (.n (.j [(75,.one .bool)] [0,4,5,6,7,8,9,10,11,12,50] .z .z) (.n .z (.j [(8,.one .sl),(14,.one (.int .i64))] [0,4,5,6,7,9,10,11,50] .z .z)))))) .z))))) .d)) .z)))) (.n (.n .z (.l [(119,.one (.int .i64))] [4,5,6,7,118] (.n .z (.n .z (.n (.n .z (.n .z (.n .z (.j [(147,.one .bool)] [4,5,6,7,16,17,118,119] .z .z)))) .z))))) .z))))))))) [.pointer d_0] (.tup [.one .ptr,.one (.int .i64)]) rfl rfl h
def least_Least_Next.M (l_0:Option Addr) (n_1:Int) (b_2:Int) (K:(Int × Bool)→World→Prop) (w:World):Prop :=
 Join (λ(s1:Bool) w1=>Br s1 (K (0,false) w1) (NilC l_0 λa26=>Ld .sl a26 w1 λx28=>IdxS x28 n_1 257 λp31=>IdxA 256 p31 b_2 1 λp33=>Ld (.int .i64) p33 w1 λx34=>K (x34,true) w1)) λj2=>least_Least_has.C l_0 n_1 w λx10 w2=>Br (!x10) (j2 true w2) (NilC l_0 λa14=>Ld .sl a14 w2 λx16=>IdxS x16 n_1 257 λp19=>IdxA 256 p19 b_2 1 λp21=>Ld (.int .i64) p21 w2 λx22=>j2 (x22==(-1:Int)) w2)
theorem least_Least_Next.ok (l_0 n_1 b_2 K w) (h:least_Least_Next.M l_0 n_1 b_2 K w):least_Least_Next.C l_0 n_1 b_2 w K :=
 okS [(10,.one .bool),(16,.one .sl),(22,.one (.int .i64)),(28,.one .sl),(34,.one (.int .i64))] (.n .z (.n (.j [(24,.one .bool)] [0,1,2] .z .z) .z)) [.pointer l_0,.int .i64 n_1,.int .u8 b_2] (.tup [.one (.int .i64),.one .bool]) rfl rfl h
def least_Least_Accept.M (l_0:Option Addr) (n_1:Int) (K:Int→World→Prop) (w:World):Prop :=
 least_Least_has.C l_0 n_1 w λx7 w1=>Br (!x7) (K (-1) w1) (NilC l_0 λa10=>Ld .sl a10 w1 λx12=>IdxS x12 n_1 257 λp14=>Ld (.int .i64) (p14.add 256) w1 λx16=>K x16 w1)
theorem least_Least_Accept.ok (l_0 n_1 K w) (h:least_Least_Accept.M l_0 n_1 K w):least_Least_Accept.C l_0 n_1 w K :=
 okS [(7,.one .bool),(12,.one .sl),(16,.one (.int .i64))] .z [.pointer l_0,.int .i64 n_1] (.one (.int .i64)) rfl rfl h
def least_live.M (d_0:Option Addr) (K:Sl→World→Prop) (w:World):Prop :=
 dfa_Dfa_States.C d_0 w λx11 w1=>App P (Instr.makeSlice T.sl_bool (.int .i64 x11) (.int .i64 x11)) (.one .sl) w1 λx12 w2=>Loop (λ(s1:Int) w3 again2=>Br (decide (s1 < (x12.n:Int))) (dfa_Dfa_Accept.C d_0 s1 w3 λx22 w4=>IdxS x12 s1 1 λp24=>St p24 (.bool (x22 != (-1:Int))) w4 λw5=>again2 (w64 (s1 + (1:Int))) w5) (Loop (λ(s3:Bool) w6 again4=>Br s3 (Loop (λ(s5:Bool × Int) w7 again6=>Br (decide (s5.2 < (x12.n:Int))) (Loop (λ(s7:Bool × Int) w8 again8=>Join (λ(s9:Bool) w9=>Br s9 (dfa_Dfa_Next.C d_0 s5.2 (IntKind.wrap .u8 (s7.2)) w9 λx48 w10=>Join (λ(s10:Bool) w11=>Br s10 (IdxS x12 s5.2 1 λp60=>St p60 (.bool true) w11 λw12=>again8 (true,(w64 (s7.2 + (1:Int)))) w12) (again8 (s7.1,(w64 (s7.2 + (1:Int)))) w11)) λj11=>Br x48.2 (IdxS x12 x48.1 1 λp55=>Ld .bool p55 w10 λx56=>j11 x56 w10) (j11 false w10)) (again6 (s7.1,(w64 (s5.2 + (1:Int)))) w9)) λj12=>Br (decide (s7.2 < (256:Int))) (IdxS x12 s5.2 1 λp37=>Ld .bool p37 w8 λx38=>j12 (!x38) w8) (j12 false w8)) (s5.1,0) w7) (again4 s5.1 w7)) (false,0) w6) (K x12 w6)) true w3)) 0 w2
theorem least_live.ok (d_0 K w) (h:least_live.M d_0 K w):least_live.C d_0 w K :=
 okS [(11,.one (.int .i64)),(12,.one .sl),(22,.one (.int .i64)),(38,.one .bool),(48,.tup [.one (.int .i64),.one .bool]),(56,.one .bool)] (.n .z (.n .z (.n (.n .z (.l [(15,.one (.int .i64))] [0,3,14] .z)) (.n (.n .z (.l [(5,.one .bool)] [0,3] (.n .z (.n .z (.n .z (.l [(5,.one .bool),(29,.one (.int .i64))] [0,3,28] (.n .z (.n .z (.n (.n .z (.n .z (.l [(5,.one .bool),(7,.one (.int .i64))] [0,3,6,28,29] (.n (.j [(40,.one .bool)] [0,3,5,6,7,28,29] .z .z) (.n (.n .z (.j [(57,.one .bool)] [0,3,5,6,7,28,29] .z .z)) .z))))) .z))))))))) .z)))) [.pointer d_0] (.one .sl) rfl rfl h
def least_kinds.M (d_0:Option Addr) (lives_1:Sl) (K:Sl→World→Prop) (w:World):Prop :=
 dfa_Dfa_States.C d_0 w λx11 w1=>App P (Instr.makeSlice T.sl_int (.int .i64 x11) (.int .i64 x11)) (.one .sl) w1 λx12 w2=>Al (.cells #[.pointer d_0,.slice lives_1.a lives_1.n lives_1.c,.slice x12.a x12.n x12.c,.int .i64 0] T.least_rounds (0,0)) w2 λb1 w3=>Al (.map #[] 0) w3 λm2 w4=>Ld .sl (⟨b1,2,none⟩) w4 λx19=>Loop (λ(s3:Int) w5 again4=>Br (decide (s3 < (x19.n:Int))) (Join (λ(s5:Unit) w6=>Ld .sl (⟨b1,2,none⟩) w6 λx42=>IdxS x42 s3 1 λp44=>Ld (.int .i64) p44 w6 λx45=>App0 P (Instr.mapUpdate T.map_int_bool (.map (some m2)) (.int .i64 x45) (.bool true)) w6 λw7=>again4 (w64 (s3 + (1:Int))) w7) λj6=>IdxS lives_1 s3 1 λp26=>Ld .bool p26 w5 λx27=>Br x27 (Draw w5 λS7 w8=>LdS S7 .sl (⟨b1,2,none⟩) λx31=>dfa_Dfa_Accept.C d_0 s3 w8 λx35 w9=>(S7 w9∧IdxS x31 s3 1 λp37=>St p37 (.int .i64 (w64 (x35 + (2:Int)))) w9 λw10=>(S7 w10∧j6 () w10))) (j6 () w5)) (App P (Builtin.len_ #[T.map_int_bool] T.int #[.map (some m2)]) (.one (.int .i64)) w5 λx49 w11=>St (⟨b1,3,none⟩) (.int .i64 x49) w11 λw12=>Loop (λ(s8:Unit) w13 again9=>least_rounds_again.C (some (⟨b1,0,none⟩)) w13 λx53 w14=>Br x53 (again9 () w14) (Ld .sl (⟨b1,2,none⟩) w14 λx57=>K x57 w14)) () w12)) 0 w4
theorem least_kinds.ok (d_0 lives_1 K w) (h:least_kinds.M d_0 lives_1 K w):least_kinds.C d_0 lives_1 w K :=
 okS [(11,.one (.int .i64)),(12,.one .sl),(19,.one .sl),(27,.one .bool),(31,.one .sl),(35,.one (.int .i64)),(42,.one .sl),(45,.one (.int .i64)),(53,.one .bool),(57,.one .sl)] (.n .z (.n .z (.n .z (.n (.n .z (.l [(21,.one (.int .i64))] [0,1,5,6,20] (.n .z (.n .z (.n (.n .z (.j [] [0,1,5,6,7,20,21] .z .z)) .z))))) (.n .z (.n (.l [] [5] .z) .z)))))) [.pointer d_0,.slice lives_1.a lives_1.n lives_1.c] (.one .sl) rfl rfl h
def least_Least_has.M (l_0:Option Addr) (n_1:Int) (K:Bool→World→Prop) (w:World):Prop :=
 Br (decide ((0:Int)≤n_1)) (least_Least_States.C l_0 w λx10 w1=>K (decide (n_1 < x10)) w1) (K false w)
theorem least_Least_has.ok (l_0 n_1 K w) (h:least_Least_has.M l_0 n_1 K w):least_Least_has.C l_0 n_1 w K :=
 okS [(10,.one (.int .i64))] .z [.pointer l_0,.int .i64 n_1] (.one .bool) rfl rfl h
def least_rounds_again.M (r_0:Option Addr) (K:Bool→World→Prop) (w:World):Prop :=
 Al (.map #[] 0) w λm1 w1=>NilC r_0 λa12=>Ld .sl (a12.add 2) w1 λx14=>App P (Instr.makeSlice T.sl_int (.int .i64 (x14.n:Int)) (.int .i64 (x14.n:Int))) (.one .sl) w1 λx16 w2=>Loop (λ(s2:Int) w3 again3=>Br (decide (s2 < (x16.n:Int))) (least_rounds_row.C r_0 s2 w3 λx24 w4=>Al (.cells (Array.replicate 257 (.int .i64 0:Value)) T.least_row (0,0)) w4 λb4 w5=>StA P T.least_row (⟨b4,0,none⟩) x24 w5 λw6=>LdA 257 (⟨b4,0,none⟩) w6 λx27=>App P (Instr.lookup T.map_least_row_int (.map (some m1)) (.agg x27) true) (.tup [.one (.int .i64),.one .bool]) w6 λx28 w7=>Join (λ(s5:Int) w8=>IdxS x16 s2 1 λp41=>St p41 (.int .i64 s5) w8 λw9=>again3 (w64 (s2 + (1:Int))) w9) λj6=>Br (!x28.2) (App P (Builtin.len_ #[T.map_least_row_int] T.int #[.map (some m1)]) (.one (.int .i64)) w7 λx34 w10=>LdA 257 (⟨b4,0,none⟩) w10 λx36=>App0 P (Instr.mapUpdate T.map_least_row_int (.map (some m1)) (.agg x36) (.int .i64 x34)) w10 λw11=>j6 x34 w11) (j6 x28.1 w7)) (Draw w3 λS7 w12=>AppS P S7 (Builtin.len_ #[T.map_least_row_int] T.int #[.map (some m1)]) (.one (.int .i64)) λx44=>NilC r_0 λa46=>LdS S7 (.int .i64) (a46.add 3) λx48=>App P (Builtin.len_ #[T.map_least_row_int] T.int #[.map (some m1)]) (.one (.int .i64)) w12 λx54 w13=>NilC r_0 λa55=>St (a55.add 2) (.slice x16.a x16.n x16.c) w13 λw14=>NilC r_0 λa57=>St (a57.add 3) (.int .i64 x54) w14 λw15=>K (decide (x48 < x44)) w15)) 0 w2
theorem least_rounds_again.ok (r_0 K w) (h:least_rounds_again.M r_0 K w):least_rounds_again.C r_0 w K :=
 okS [(14,.one .sl),(16,.one .sl),(24,.big),(27,.big),(28,.tup [.one (.int .i64),.one .bool]),(36,.big),(48,.one (.int .i64))] (.n .z (.n .z (.n .z (.n (.n .z (.l [(19,.one (.int .i64))] [0,3,4,18] (.n .z (.n .z (.n (.n .z (.n .z (.n .z (.j [(7,.one (.int .i64))] [0,3,4,5,18,19] .z .z)))) .z))))) .z)))) [.pointer r_0] (.one .bool) rfl rfl h
def least_Least_States.M (l_0:Option Addr) (K:Int→World→Prop) (w:World):Prop :=
 Br (l_0.isNone) (K 0 w) (NilC l_0 λa6=>Ld .sl a6 w λx8=>K (x8.n:Int) w)
theorem least_Least_States.ok (l_0 K w) (h:least_Least_States.M l_0 K w):least_Least_States.C l_0 w K :=
 okS [(8,.one .sl)] .z [.pointer l_0] (.one (.int .i64)) rfl rfl h
def least_rounds_row.M (r_0:Option Addr) (n_1:Int) (K:Array Value→World→Prop) (w:World):Prop :=
 Al (.cells (Array.replicate 257 (.int .i64 0:Value)) T.least_row (0,0)) w λb1 w1=>NilC r_0 λa10=>Ld .sl (a10.add 2) w1 λx12=>IdxS x12 n_1 1 λp14=>Ld (.int .i64) p14 w1 λx15=>App P (Instr.build T.least_row #[(1,.int .i64 x15)]) .big w1 λx16 w2=>Al (.cells (Array.replicate 257 (.int .i64 0:Value)) T.least_row (0,0)) w2 λb2 w3=>StA P T.least_row (⟨b2,0,none⟩) x16 w3 λw4=>Loop (λ(s3:Int) w5 again4=>Br (decide (s3 < (256:Int))) (IdxA 256 (⟨b2,0,none⟩) s3 1 λp22=>St p22 (.int .i64 (-1)) w5 λw6=>NilC r_0 λa25=>Ld .ptr a25 w6 λx27=>dfa_Dfa_Next.C x27 n_1 (IntKind.wrap .u8 (s3)) w6 λx31 w7=>Join (λ(s5:Bool) w8=>Br s5 (NilC r_0 λa46=>Ld .sl (a46.add 2) w8 λx48=>IdxS x48 x31.1 1 λp50=>Ld (.int .i64) p50 w8 λx51=>IdxA 256 (⟨b2,0,none⟩) s3 1 λp53=>St p53 (.int .i64 x51) w8 λw9=>again4 (w64 (s3 + (1:Int))) w9) (again4 (w64 (s3 + (1:Int))) w8)) λj6=>Br x31.2 (NilC r_0 λa37=>Ld .sl (a37.add 1) w7 λx39=>IdxS x39 x31.1 1 λp41=>Ld .bool p41 w7 λx42=>j6 x42 w7) (j6 false w7)) (LdA 257 (⟨b2,0,none⟩) w5 λx55=>StA P T.least_row (⟨b1,0,none⟩) x55 w5 λw10=>LdA 257 (⟨b1,0,none⟩) w10 λr0=>K r0 w10)) 0 w4
theorem least_rounds_row.ok (r_0 n_1 K w) (h:least_rounds_row.M r_0 n_1 K w):least_rounds_row.C r_0 n_1 w K :=
 okS [(4,.big),(12,.one .sl),(15,.one (.int .i64)),(16,.big),(27,.one .ptr),(31,.tup [.one (.int .i64),.one .bool]),(39,.one .sl),(42,.one .bool),(48,.one .sl),(51,.one (.int .i64)),(55,.big)] (.n .z (.n .z (.n (.n .z (.l [(17,.one (.int .i64))] [0,1,4,5] (.n .z (.n .z (.n (.n .z (.n .z (.n .z (.j [(43,.one .bool)] [0,1,4,5,6,7,17] .z .z)))) .z))))) .z))) [.pointer r_0,.int .i64 n_1] (.big) rfl rfl h
end Go.Fk
end
section
namespace Go.Fk
open Go Go.MapKept
def rowG {α:Type} (N:Nat) (f:Nat→α):List α:=(List.range N).map f
section
variable {α:Type} {N:Nat} {f g:Nat→α}
theorem rowG_len:(rowG N f).length=N:=by simp [rowG]
theorem rowG_get {i:Nat} (h:i < N):(rowG N f)[i]?=some (f i):=by simp [rowG,h]
theorem rowG_congr (h:∀ i,i < N→f i=g i):rowG N f=rowG N g:=List.map_congr_left λi hi=>h i (by simpa using hi)
theorem rowG_set {i:Nat} {v:α}:(rowG N f).set i v=rowG N λj=>if j=i then v else f j:=by
 refine List.ext_getElem? λj=>?_
 rw [List.getElem?_set]
 by_cases hj:j < N
 ·rw [rowG_get hj,rowG_get hj,rowG_len]
  by_cases e:i=j
  ·subst e;simp [hj]
  ·simp [e,Ne.symm e]
 ·have e1:∀ h:Nat→α,(rowG N h)[j]?=none:=λh=>List.getElem?_eq_none (by rw [rowG_len];omega)
  rw [e1,e1,rowG_len]
  by_cases e:i=j
  ·subst e;simp [hj]
  ·simp [e]
theorem rowG_rep {v:α}:List.replicate N v=rowG N λ_=>v:=by simp [rowG,List.map_const']
end
theorem IdxS.getG {t:Ty} {M:Nat→Prop} {w:World} {l:Sl} {N:Nat} {f:Nat→t.T} {i:Nat} {K:t.T→Prop} (h:SlT t (V M w) l (rowG N f)) (hi:i < N) (hk:K (f i)):IdxS l (i:Int) 1 λp=>Ld t p w K:=by
 refine IdxS.get h (by omega) (by rw [rowG_len];omega) λx hx=>?_
 rw [Int.toNat_natCast,rowG_get hi] at hx
 cases hx;exact hk
theorem IdxS.putG {t:Ty} {E:TypeId} {N:Nat} {f:Nat→t.T} {w:World} {b:Nat} {c i:Nat} {v:t.T} {k:World→Prop} (h:w.heap[b]?=some (rowObj t E (rowG N f))) (hi:i < N)
  (hk:∀ w',Upd b (rowObj t E (rowG N λj=>if j=i then v else f j)) w w'→k w'):IdxS ⟨some ⟨b,0,none⟩,N,c⟩ (i:Int) 1 λp=>St p (t.enc v) w k:=by
 refine IdxS.put (t:=t) (v:=v) h (by omega) (by omega) rowG_len.symm λw' u=>hk w' ?_
 rw [Int.toNat_natCast,rowG_set] at u
 exact u
structure Aut (svs:List DSt):Prop where
 pos:0 < svs.length
 few:svs.length≤2000
 rng:∀ sv∈svs,∀ c,c < 256→sv.nx c=-1∨0≤sv.nx c∧sv.nx c < svs.length
 acc:∀ sv∈svs,-1≤sv.acc∧sv.acc≤100000
def nxt (svs:List DSt) (n b:Nat):Option Nat:=match svs[n]? with
 | some sv=>if sv.nx b=-1 then none else some (sv.nx b).toNat
 | none=>none
def ac (svs:List DSt) (n:Nat):Int:=accOf svs n
variable {svs:List DSt} {cl:Nat→Int} {nc:Int}
theorem Aut.nxt_lt (A:Aut svs) {n b k:Nat} (hb:b < 256) (h:nxt svs n b=some k):k < svs.length∧n < svs.length:=by
 unfold nxt at h
 cases hs:svs[n]? with
 | none=>rw [hs] at h;cases h
 | some sv =>
  rw [hs] at h
  dsimp only at h
  have hr:=A.rng sv (kD hs) b hb
  have hl:=(kA hs).1
  by_cases e:sv.nx b=-1
  ·rw [if_pos e] at h;cases h
  ·rw [if_neg e] at h;cases h;omega
theorem Aut.next (A:Aut svs) {n b:Nat} (hb:b < 256):nextOf svs (n:Nat) b=match nxt svs n b with
  | some k=>((k:Int),true)
  | none=>(0,false):=by
 unfold nxt
 cases hs:svs[n]? with
 | none=>simp [nextOf,stAt,hs]
 | some sv =>
  have hr:=A.rng sv (kD hs) b hb
  rw [nextOf,stAt_in (by omega) (by simpa using hs)]
  dsimp only
  by_cases e:sv.nx b=-1
  ·rw [if_pos e,if_pos e]
  ·rw [if_neg e,if_neg e]
   have:(((sv.nx b).toNat:Nat):Int)=sv.nx b:=by omega
   simp only [this]
theorem Aut.ac_rng (A:Aut svs) (n:Nat):-1≤ac svs n∧ac svs n≤100000:=by
 unfold ac accOf
 cases hs:svs[n]? with
 | none=>simp [stAt,hs]
 | some sv =>
  rw [stAt_in (by omega) (by simpa using hs)]
  exact A.acc sv (kD hs)
inductive Alive (svs:List DSt):Nat→Prop
 | acc {n:Nat}:n < svs.length→ac svs n≠-1→Alive svs n
 | step {n b k:Nat}:b < 256→nxt svs n b=some k→Alive svs k→Alive svs n
set_option maxRecDepth 20000 in
theorem live_spec {w:World} {d:Option Addr} {M:Nat→Prop} (hd:DfaO (V No w) d svs cl nc) (A:Aut svs) {K:Sl→World→Prop}
  (hK:∀ l w' lv,Keeps No w w'→SlT .bool (V No w') l (rowG svs.length lv)→(∀ n,n < svs.length→(lv n=true↔Alive svs n))→K l w'):least_live.C d w K:=by
 have hfew:=A.few
 refine least_live.ok _ _ _ ?_
 simp only [least_live.M]
 refine dfa_States_spec hd ?_
 refine App.make1 (t:=.bool) (z:=false) elBool rfl (by omega) (by omega) λbl w1 n1=>?_
 have e1:=n1.eq;have z1:=n1.size
 have o1:=n1.at_
 rw [rowG_rep] at o1
 have hdd:∀ {w'},Keeps (·=bl) w1 w'→DfaO (V No w') d svs cl nc:=λ{w'} k=>(hd.mono (V.move (n1.keeps.then k λb hb h=>by omega) (λ_ _ h=>h.elim) (M':=No) λ_ _ h=>h.elim))
 refine Loop.mk (λs w'=>Keeps (·=bl) w1 w'∧∃ i:Nat,i≤svs.length∧s=(i:Int)∧w'.heap[bl]?=some (rowObj .bool tBool (rowG svs.length λj=>if j < i then ac svs j != -1 else false))) (λs=>svs.length - s.toNat) ⟨.refl,0,by omega,rfl,by simpa using o1⟩ ?_
 rintro s w2 ⟨k2,i,hi,rfl,o2⟩ R hR
 refine Br.mk (λht=>?_) (λhf=>?_)
 ·have ht:i < svs.length:=by have h9:(_:Int) < (svs.length:Int):=kG ht;omega
  refine dfa_Accept_spec (hdd k2) ?_
  refine IdxS.putG (t:=.bool) (v:=ac svs i != -1) o2 ht λw3 u3=>?_
  have e4:w64 ((i:Int) + 1)=((i + 1:Nat):Int):=by rw [w64_eq (by omega)];omega
  rw [e4]
  refine hR _ _ ⟨k2.trans u3.keeps,i + 1,by omega,rfl,?_⟩ (by omega)
  rw [u3.at_]
  congr 2
  refine rowG_congr λj hj=>?_
  by_cases e:j=i
  ·subst e;simp
  ·have:(j < i + 1)↔j < i:=by omega
   simp [e,this]
 ·have hf:i=svs.length:=by have h9:¬ (_:Int) < (svs.length:Int):=kF hf;omega
  subst hf
  have o3:w2.heap[bl]?=some (rowObj .bool tBool (rowG svs.length λj=>if j < svs.length then ac svs j != -1 else false)):=o2
  let Inv:(Nat→Bool)→Prop:=λf=>(∀ j,f j=true→Alive svs j)∧(∀ j,j < svs.length→ac svs j≠-1→f j=true)
  let Clo:(Nat→Bool)→Nat→Nat→Prop:=λf n b=>∀ j c k,c < 256→(j < n∨j=n∧c < b)→nxt svs j c=some k→f k=true→f j=true
  let Ob:World→(Nat→Bool)→Prop:=λw' f=>Keeps (·=bl) w1 w'∧w'.heap[bl]?=some (rowObj .bool tBool (rowG svs.length f))
  refine Loop.mkn (λm s w'=>∃ f,Ob w' f∧Inv f∧(s=false→Clo f svs.length 0)∧m=svs.length - cntB f svs.length + (if s then 1 else 0)) _ ⟨_,⟨k2,o3⟩,⟨λj hj=>?_,λj hj ha=>?_⟩,(λh=>by cases h),rfl⟩ ?_
  ·by_cases e:j < svs.length
   ·simp [e] at hj;exact .acc e hj
   ·simp [e] at hj
  ·simp [hj,ha]
  rintro m s w3 ⟨f,⟨k3,o3⟩,hInv,hclo,rfl⟩ R3 hR3
  refine Br.mk (λhs=>?_) (λhs=>?_)
  ·subst hs
   have hcf:=cntB_le f svs.length
   let St3:Bool→(Nat→Bool)→Prop:=λmore f'=>(∀ j,f j=true→f' j=true)∧Inv f'∧(more=true→cntB f svs.length < cntB f' svs.length)∧(more=false→f'=f)
   refine Loop.mk (λ(t:Bool × Int) w'=>∃ (n:Nat) (f':Nat→Bool),n≤svs.length∧t.2=(n:Int)∧Ob w' f'∧St3 t.1 f'∧(t.1=false→Clo f' n 0)) (λt=>svs.length - t.2.toNat) ⟨0,f,by omega,rfl,⟨k3,o3⟩,⟨λ_ h=>h,hInv,(λh=>by cases h),λ_=>rfl⟩,λ_ j c k _ h=>by omega⟩ ?_
   rintro⟨more,nn⟩ w4 ⟨n,f4,hn,hnn,⟨k4,o4⟩,hst4,hclo4⟩ R4 hR4
   dsimp only at hnn hst4 hclo4 ⊢
   subst hnn
   refine Br.mk (λht=>?_) (λhf=>?_)
   ·have ht:n < svs.length:=by have h9:(_:Int) < (svs.length:Int):=kG ht;omega
    have e4:w64 ((n:Int) + 1)=((n + 1:Nat):Int):=by rw [w64_eq (by omega)];omega
    refine Loop.mk (λ(t:Bool × Int) w'=>∃ (b:Nat) (f':Nat→Bool),b≤256∧t.2=(b:Int)∧Ob w' f'∧St3 t.1 f'∧(t.1=false→Clo f' n b)) (λt=>256 - t.2.toNat) ⟨0,f4,by omega,rfl,⟨k4,o4⟩,hst4,hclo4⟩ ?_
    rintro⟨more5,bb⟩ w5 ⟨b,f5,hb,hbb,⟨k5,o5⟩,hst5,hclo5⟩ R5 hR5
    dsimp only at hbb hst5 hclo5 ⊢
    subst hbb
    have hrow5:SlT .bool (V No w5) ⟨some ⟨bl,0,none⟩,svs.length,svs.length⟩ (rowG svs.length f5):=Row.sl o5 (λh=>h.elim) rowG_len.symm
    refine Join.cut (λ(s9:Bool) w'=>w'=w5∧(s9=true→b < 256∧f5 n=false)∧(s9=false→¬ b < 256∨f5 n=true)) ?_ ?_
    ·rintro s9 w6 ⟨rfl,g1,g2⟩
     refine Br.mk (λh9=>?_) (λh9=>?_)
     ·obtain⟨hb6,hfn⟩:=g1 h9
      have e5:w64 ((b:Int) + 1)=((b + 1:Nat):Int):=by rw [w64_eq (by omega)];omega
      rw [u8_small hb6]
      refine dfa_Next_spec (hdd k5) hb6 ?_
      rw [A.next hb6]
      have skip:(∀ k,nxt svs n b=some k→f5 k=false)→R5 (more5,((b + 1:Nat):Int)) w6:=λhno=>by
       refine hR5 _ _ ⟨b + 1,f5,by omega,rfl,⟨k5,o5⟩,hst5,λhm j c k hc h hx hk=>?_⟩ (by dsimp only;omega)
       by_cases e:j=n∧c=b
       ·obtain⟨rfl,rfl⟩:=e
        rw [hno k hx] at hk;cases hk
       ·exact hclo5 hm j c k hc (by omega) hx hk
      cases hx:nxt svs n b with
      | none =>
       dsimp only
       simp only [Join,Br_false]
       rw [e5]
       exact skip λk hk=>by rw [hx] at hk;cases hk
      | some k =>
       dsimp only
       have hkl:=(A.nxt_lt hb6 hx).1
       simp only [Join,Br_true]
       refine IdxS.getG (t:=.bool) hrow5 hkl ?_
       refine (Br.mk (λhk=>?_) (λhk=>?_))
       ·refine IdxS.putG (t:=.bool) (v:=true) o5 ht λw7 u7=>?_
        rw [e5]
        refine hR5 _ _ ⟨b + 1,λj=>if j=n then true else f5 j,by omega,rfl,⟨k5.trans u7.keeps,u7.at_⟩,⟨λj h=>?_,⟨λj h=>?_,λj hj ha=>?_⟩,λ_=>?_,(λh=>by cases h)⟩,(λh=>by cases h)⟩ (by dsimp only;omega)
        ·have:=hst5.1 j h
         dsimp only;split <;> simp_all
        ·dsimp only at h
         by_cases e:j=n
         ·subst e;exact .step hb6 hx (hst5.2.1.1 k hk)
         ·rw [if_neg e] at h;exact hst5.2.1.1 j h
        ·dsimp only
         split
         ·rfl
         ·exact hst5.2.1.2 j hj ha
        ·have h1:cntB f svs.length≤cntB f5 svs.length:=cntB_mono hst5.1 _
         have h2:cntB f5 svs.length < cntB (λj=>if j=n then true else f5 j) svs.length:=cntB_lt (λi hi=>by split <;> simp_all) ht hfn (by simp)
         omega
       ·rw [e5]
        exact skip λk' hk'=>by rw [hx] at hk';cases hk';exact hk
     ·rw [e4]
      refine hR4 _ _ ⟨n + 1,f5,by omega,rfl,⟨k5,o5⟩,hst5,λhm j c k hc h hx hk=>?_⟩ (by dsimp only;omega)
      by_cases e:j=n
      ·subst e
       rcases g2 h9 with h | h
       ·exact hclo5 hm j c k hc (by omega) hx hk
       ·exact h
      ·exact hclo5 hm j c k hc (by omega) hx hk
    ·intro j hj
     refine Br.mk (λhlt=>?_) (λhlt=>?_)
     ·have hlt:b < 256:=by have:=kG hlt;omega
      refine IdxS.getG (t:=.bool) hrow5 ht ?_
      exact hj _ _ ⟨rfl,λh=>⟨hlt,by simpa using h⟩,λh=>.inr (by simpa using h)⟩
     ·have hlt:=kF hlt
      exact hj _ _ ⟨rfl,(λh=>by cases h),λ_=>.inl (by omega)⟩
   ·have hf:n=svs.length:=by have h9:¬ (_:Int) < (svs.length:Int):=kF hf;omega
    subst hf
    have hc4:=cntB_le f4 svs.length
    refine hR3 _ _ _ ?_ ⟨f4,⟨k4,o4⟩,hst4.2.1,hclo4,rfl⟩
    cases more with
    | true=>have:=hst4.2.2.1 rfl;simp;omega
    | false=>rw [hst4.2.2.2 rfl];simp
  ·subst hs
   have hc:=hclo rfl
   refine hK _ w3 f (n1.keeps.then k3 λb hb h=>by omega) (Row.sl o3 (λh=>h.elim) rowG_len.symm) λn hn=>⟨λh=>hInv.1 n h,λh=>?_⟩
   clear hn
   induction h with
   | acc hn ha=>exact hInv.2 _ hn ha
   | step hb hx _ ih=>exact hc _ _ _ hb (.inl (A.nxt_lt hb hx).2) hx ih
end Go.Fk
end
section
namespace Go.Fk
open Go Go.MapKept Go.Maps
def rCells (f:Nat→Int) (own:Int):List Value:=row256 f++[.int .i64 own]
theorem rCells_len {f:Nat→Int} {own:Int}:(rCells f own).length=257:=by simp [rCells,row256_len]
theorem rCells_get {f:Nat→Int} {own:Int} {i:Nat} (h:i < 256):(rCells f own)[i]?=some (.int .i64 (f i)):=by
 rw [rCells,List.getElem?_append_left (by rw [row256_len];exact h),row256_get h]
theorem rCells_own {f:Nat→Int} {own:Int}:(rCells f own)[256]?=some (.int .i64 own):=by
 rw [rCells,List.getElem?_append_right (by rw [row256_len];omega),row256_len];rfl
set_option maxRecDepth 20000 in
theorem rCells_set {f:Nat→Int} {own v:Int} {i:Nat} (h:i < 256):(rCells f own).toArray.setIfInBounds i (.int .i64 v)=(rCells (λj=>if j=i then v else f j) own).toArray:=by
 rw [List.setIfInBounds_toArray]
 congr 1
 rw [rCells,List.set_append_left _ _ (by rw [row256_len];exact h),row256_set h]
 rfl
theorem rCells_one {f:Nat→Int} {own:Int}:∀ u∈rCells f own,u.oneCell'=true:=by
 intro u hu
 simp only [rCells,row256,List.mem_append,List.mem_map,List.mem_range,List.mem_cons,List.not_mem_nil,or_false] at hu
 rcases hu with⟨i,_,rfl⟩ | rfl <;> rfl
theorem rCells_zero:(Array.replicate 257 (.int .i64 0:Value))=(rCells (λ_=>0) 0).toArray:=by kernel_rfl
theorem rCells_congr {f g:Nat→Int} {a:Int} (h:∀ i,i < 256→f i=g i):rCells f a=rCells g a:=by
 unfold rCells row256
 congr 1
 exact List.map_congr_left λi hi=>by rw [h i (by simpa using hi)]
theorem rCells_inj {f g:Nat→Int} {a b:Int} (h:rCells f a=rCells g b):(∀ i,i < 256→f i=g i)∧a=b:=by
 constructor
 ·intro i hi
  have:=congrArg (λl=>l[i]?) h
  simp only [rCells_get hi,Option.some.injEq,Value.int.injEq,true_and] at this
  exact this
 ·have:=congrArg (λl=>l[256]?) h
  simp only [rCells_own,Option.some.injEq,Value.int.injEq,true_and] at this
  exact this
def rowKey (f:Nat→Int) (own:Int):Value:=.agg (rCells f own).toArray
theorem rowKey_inj {f g:Nat→Int} {a b:Int} (h:rowKey f a=rowKey g b):(∀ i,i < 256→f i=g i)∧a=b:=by
 refine rCells_inj ?_
 have:=Value.agg.inj h
 exact congrArg Array.toList this
theorem rowKey_congr {f g:Nat→Int} {a:Int} (h:∀ i,i < 256→f i=g i):rowKey f a=rowKey g a:=by rw [rowKey,rowKey,rCells_congr h]
set_option maxRecDepth 20000 in
theorem rowWide:(match P.underlying T.least_row with | some (.array _ _) | some (.struct _)=>true | _=>false)=true:=by kernel_rfl
set_option maxRecDepth 20000 in
theorem rowIntTy:MapTy P T.map_least_row_int T.least_row T.int .raw (.int .i64):=⟨by kernel_rfl,Keyed.of_law (deep_law (m:=3) (by omega) (by kernel_rfl) (by kernel_rfl) rowWide)⟩
def rowFs:Array Field:=match P.underlying T.least_row with
 | some (.struct fs)=>fs
 | _=>#[]
def fA:Field:=rowFs[0]!
def fB:Field:=rowFs[1]!
theorem rowU:P.underlying T.least_row=some (.struct rowFs):=by kernel_rfl
theorem rowL2:rowFs.toList=[fA,fB]:=by kernel_rfl
theorem fA_off:fA.offset=0:=by kernel_rfl
theorem fB_off:fB.offset=256:=by kernel_rfl
theorem fB_ty:fB.type=T.int:=by kernel_rfl
theorem fA_ty:P.underlying fA.type=some (.array 256 T.int):=by kernel_rfl
theorem fA_cells:P.cellsOf fA.type=256:=by kernel_rfl
theorem int_cells:P.cellsOf T.int=1:=by kernel_rfl
theorem row_cells:P.cellsOf T.least_row=257:=by kernel_rfl
theorem row_names:rowFs.all (·.name != "_")=true:=by kernel_rfl
theorem row_kt:P.keyType T.least_row=true:=by kernel_rfl
theorem int_u:P.underlying T.int=some (.int .i64):=by kernel_rfl
theorem size_types:4≤P.types.size:=kG (by kernel_rfl)
theorem mapM_some {α β:Type} {f:α→Option β}:∀ {l:List α},(∀ x∈l,∃ y,f x=some y)→∃ ys,l.mapM f=some ys
 | [],_=>⟨[],by simp⟩
 | a::l,h=>by
  obtain⟨y,hy⟩:=h a (by simp)
  obtain⟨ys,hys⟩:=mapM_some (l:=l) λx hx=>h x (by simp [hx])
  exact⟨y::ys,by simp [List.mapM_cons,hy,hys]⟩
theorem mapM_two {α β:Type} {g:α→Option β} {a b:α} {x y:β} (h1:g a=some x) (h2:g b=some y):[a,b].mapM g=some [x,y]:=by simp [List.mapM_cons,h1,h2]
theorem lits_int {d:Nat} {n:Int} (h:-9223372036854775808≤n∧n≤9223372036854775807):P.keyLits (d + 1) T.int [.int .i64 n]=some [.int .i64 n]:=by
 have hu:P.underlying T.int=some (.int .i64):=by kernel_rfl
 have hw:(Lit.int .i64 n).wf=true:=by
  have hm:IntKind.i64.min=-9223372036854775808:=by decide
  simp only [Lit.wf,decide_eq_true_eq,Bool.and_eq_true,hm]
  exact h
 simp [Program.keyLits,hu,hw]
theorem lits_arr {d:Nat} {f:Nat→Int} (h:∀ i,i < 256→-9223372036854775808≤f i∧f i≤9223372036854775807):∃ l,P.keyLits (d + 2) fA.type (row256 f)=some l:=by
 obtain⟨ys,hys⟩:=mapM_some (f:=λi=>P.keyLits (d + 1) T.int (((row256 f).drop (i * 1)).take 1)) (l:=List.range 256) λi hi=>by
  have hi:i < 256:=by simpa using hi
  refine⟨[.int .i64 (f i)],?_⟩
  have e:((row256 f).drop (i * 1)).take 1=[.int .i64 (f i)]:=by
   have hg:=row256_get (f:=f) hi
   obtain⟨hl,he⟩:=kA hg
   rw [Nat.mul_one,List.drop_eq_getElem_cons hl,he];rfl
  rw [e];exact lits_int (h i hi)
 refine⟨ys.flatten,?_⟩
 unfold Program.keyLits
 rw [fA_ty]
 dsimp only
 rw [int_cells,fA_cells,if_pos (row256_len f),hys];rfl
theorem rowOk {f:Nat→Int} {own:Int} (h:∀ i,i < 256→-9223372036854775808≤f i∧f i≤9223372036854775807) (ho:-9223372036854775808≤own∧own≤9223372036854775807):OkKey P T.least_row (Ty.raw.enc (rowKey f own)):=by
 obtain⟨D,hD⟩:∃ D,P.types.size=D + 2:=⟨P.types.size - 2,by have:=size_types;omega⟩
 obtain⟨la,hla⟩:=lits_arr (d:=D) h
 have e1:((rCells f own).drop fA.offset).take (P.cellsOf fA.type)=row256 f:=by
  rw [fA_off,fA_cells,rCells,List.drop_zero,List.take_append_of_le_length (by rw [row256_len];exact Nat.le_refl _),List.take_of_length_le (by rw [row256_len];exact Nat.le_refl _)]
 have e2:((rCells f own).drop fB.offset).take (P.cellsOf fB.type)=[.int .i64 own]:=by
  rw [fB_off,fB_ty,int_cells,rCells,List.drop_append,row256_len,List.drop_of_length_le (by rw [row256_len];exact Nat.le_refl _)];rfl
 have hl:P.keyLits (D + 2 + 1) T.least_row (rCells f own)=some [la,[.int .i64 own]].flatten:=by
  unfold Program.keyLits
  rw [rowU]
  dsimp only
  rw [row_cells,if_pos ⟨rCells_len,row_names⟩,rowL2,mapM_two (x:=la) (y:=[.int .i64 own]) (by rw [e1];exact hla) (by rw [e2,fB_ty];exact lits_int ho)]
  rfl
 refine Option.isSome_iff_exists.1 ?_
 show (keyOf P T.least_row (.agg (rCells f own).toArray)).isSome=true
 rw [keyOf,rowU]
 dsimp only
 have hf:(Value.agg (rCells f own).toArray).formed P T.least_row=true:=by
  rw [Value.formed,rowU]
  dsimp only
  rw [row_cells,List.size_toArray,rCells_len];rfl
 rw [row_kt,hf,hD]
 simp only [Bool.and_self,if_true]
 show (Option.map _ (P.keyLits (D + 2 + 1) T.least_row (rCells f own))).isSome=true
 rw [hl]
 rfl
def rObj (d:Option Addr) (ll kk:Sl) (n:Int):Obj:=.cells #[.pointer d,.slice ll.a ll.n ll.c,.slice kk.a kk.n kk.c,.int .i64 n] T.least_rounds (0,0)
variable {svs:List DSt} {cl:Nat→Int} {nc:Int}
def kNext (svs:List DSt) (lv:Nat→Bool) (kd:Nat→Int) (n b:Nat):Int:=match nxt svs n b with
 | some k=>if lv k=true then kd k else -1
 | none=>-1
theorem buildRow (k:Int):P.built T.least_row [(1,.int .i64 k)]=some (rCells (λ_=>0) k).toArray:=by kernel_rfl
theorem sizeRow:(P.info? T.least_row).map (·.size)=some 257:=by kernel_rfl
structure Rn (H:View) (br:Nat) (d:Option Addr) (ll kk:Sl) (nn:Int) (svs:List DSt) (cl:Nat→Int) (nc:Int) (lv:Nat→Bool) (kd:Nat→Int):Prop where
 obj:H br (rObj d ll kk nn)
 dfa:DfaO H d svs cl nc
 lives:SlT .bool H ll (rowG svs.length lv)
 kinds:SlT (.int .i64) H kk (rowG svs.length kd)
theorem Rn.mono {H H':View} {br:Nat} {d:Option Addr} {ll kk:Sl} {nn:Int} {lv:Nat→Bool} {kd:Nat→Int} (h:Rn H br d ll kk nn svs cl nc lv kd) (hv:Vle H H'):Rn H' br d ll kk nn svs cl nc lv kd :=
 ⟨hv _ _ h.obj,h.dfa.mono hv,h.lives.mono hv,h.kinds.mono hv⟩
set_option maxRecDepth 20000 in
theorem row_spec {w:World} {br:Nat} {d:Option Addr} {ll kk:Sl} {nn:Int} {lv:Nat→Bool} {kd:Nat→Int} {n:Nat} (h:Rn (V No w) br d ll kk nn svs cl nc lv kd) (A:Aut svs) (hn:n < svs.length) {K:Array Value→World→Prop}
  (hK:∀ w',Keeps No w w'→K (rCells (kNext svs lv kd n) (kd n)).toArray w'):least_rounds_row.C (some ⟨br,0,none⟩) n w K:=by
 refine least_rounds_row.ok _ _ _ _ ?_
 simp only [least_rounds_row.M,NilC_some,add_eq,rCells_zero,Nat.zero_add]
 refine Al.mk λb1 w1 n1=>?_
 have h1:=h.mono (V.keeps0 n1.keeps)
 refine Ld.slv (cell_of h1.obj.2 rfl) ?_
 refine IdxS.getG (t:=.int .i64) h1.kinds hn ?_
 refine App.buildG (buildRow _) (Al.mk λb2 w2 n2=>StA.gen sizeRow n2.at_ (by rw [List.size_toArray,rCells_len]) (by rw [List.size_toArray,rCells_len]) (λu hu=>rCells_one u (by simpa using hu)) λw3 u3=>?_)
 have e1:=n1.eq;have z1:=n1.size;have e2:=n2.eq;have z2:=n2.size
 have k3:Keeps No w1 w3:=u3.keeps0 n2.keeps (by omega)
 refine Loop.mk (λs w'=>Keeps No w1 w'∧∃ (b:Nat) (g:Nat→Int),b≤256∧s=(b:Int)∧w'.heap[b2]?=some (.cells (rCells g (kd n)).toArray T.least_row (0,0))∧∀ j,j < b→g j=kNext svs lv kd n j) (λs=>256 - s.toNat) ⟨k3,0,_,by omega,rfl,u3.at_,λj hj=>by omega⟩ ?_
 rintro s w4 ⟨k4,b,g,hb,rfl,o4,hg⟩ R hR
 refine Br.mk (λht=>?_) (λhf=>?_)
 ·have ht:b < 256:=by have:=kG ht;omega
  have e4:w64 ((b:Int) + 1)=((b + 1:Nat):Int):=by rw [w64_eq (by omega)];omega
  rw [e4]
  have wr:∀ {w':World} {g:Nat→Int} {v:Int} {k:World→Prop},w'.heap[b2]?=some (.cells (rCells g (kd n)).toArray T.least_row (0,0))→(∀ w'',Upd b2 (.cells (rCells (λj=>if j=b then v else g j) (kd n)).toArray T.least_row (0,0)) w' w''→k w'')→IdxA 256 ⟨b2,0,none⟩ (b:Int) 1 λp=>St p (.int .i64 v) w' k:=by
   intro w' g v k hw hk
   refine⟨⟨by omega,by omega⟩,?_⟩
   rw [add_eq,Nat.mul_one,Int.toNat_natCast,Nat.zero_add]
   refine St.blk hw (by rw [List.size_toArray,rCells_len];omega) λw'' u=>hk w'' ?_
   rw [rCells_set ht] at u
   exact u
  refine wr o4 λw5 u5=>?_
  have k5:Keeps No w1 w5:=k4.then u5.keeps λi hi h=>by omega
  have h5:=h1.mono (V.keeps0 k5)
  refine Ld.ptr (cell_of h5.obj.2 rfl) ?_
  rw [u8_small ht]
  refine dfa_Next_spec h5.dfa ht ?_
  rw [A.next ht]
  have none':kNext svs lv kd n b=-1→R ((b + 1:Nat):Int) w5:=λhx=>by
   refine hR _ _ ⟨k5,b + 1,_,by omega,rfl,u5.at_,λj hj=>?_⟩ (by omega)
   by_cases e:j=b
   ·subst e;simp [hx]
   ·rw [if_neg e];exact hg j (by omega)
  cases hx:nxt svs n b with
  | none =>
   simp only [Join,Br_false]
   exact none' (by simp [kNext,hx])
  | some k =>
   have hk:=(A.nxt_lt ht hx).1
   simp only [Join,Br_true]
   refine Ld.slv (cell_of h5.obj.2 rfl) ?_
   refine IdxS.getG (t:=.bool) h5.lives hk ?_
   refine Br.mk (λhl=>?_) (λhl=>none' ?_)
   ·refine Ld.slv (cell_of h5.obj.2 rfl) ?_
    refine IdxS.getG (t:=.int .i64) h5.kinds hk ?_
    refine wr u5.at_ λw6 u6=>?_
    refine hR _ _ ⟨k5.then u6.keeps λi hi h=>by omega,b + 1,_,by omega,rfl,u6.at_,λj hj=>?_⟩ (by omega)
    by_cases e:j=b
    ·subst e;simp [kNext,hx,hl]
    ·rw [if_neg e,if_neg e];exact hg j (by omega)
   ·simp [kNext,hx,hl]
 ·have hf:b=256:=by have:=kF hf;omega
  subst hf
  refine LdA.gen (c:=rCells g (kd n)) rCells_len (λj u hu=>cell_of o4 (by simpa using hu)) ?_
  refine StA.gen sizeRow ((k4.blk0 n1.at_)) (by rw [List.size_toArray,rCells_len]) (by rw [List.size_toArray,rCells_len]) (λu hu=>rCells_one u (by simpa using hu)) λw5 u5=>?_
  refine LdA.gen (c:=rCells g (kd n)) rCells_len (λj u hu=>cell_of u5.at_ (by simpa using hu)) ?_
  have:rCells (kNext svs lv kd n) (kd n)=rCells g (kd n):=rCells_congr λj hj=>(hg j hj).symm
  have hK':=hK w5 (((n1.keeps.trans k4).then u5.keeps λi hi h=>by omega))
  rw [this] at hK'
  exact hK'
end Go.Fk
end
section
namespace Go.Fk
open Go Go.MapKept Go.Maps
structure Cnt (N:Nat) (f:Nat→Int) (reps:List Nat):Prop where
 lt:∀ r∈reps,r < N
 ne:reps.Pairwise λa b=>f a≠f b
 all:∀ i,i < N→∃ r∈reps,f r=f i
theorem Cnt.le {N:Nat} {f:Nat→Int} {reps:List Nat} (h:Cnt N f reps):reps.length≤N:=by
 have:=nodup_le reps (List.range N) (h.ne.imp λhne e=>hne (by rw [e])) λx hx=>by simpa using h.lt x hx
 simpa using this
theorem Cnt.same {N:Nat} {f g:Nat→Int} {rf rg:List Nat} (hf:Cnt N f rf) (hg:Cnt N g rg) (href:∀ i j,i < N→j < N→g i=g j→f i=f j) (hle:rg.length≤rf.length) {i j:Nat} (hi:i < N) (hj:j < N) (e:f i=f j):g i=g j:=by
 refine Classical.byContradiction λhne=>?_
 obtain⟨a,ha,ea⟩:=hg.all i hi
 obtain⟨b,hb,eb⟩:=hg.all j hj
 have hab:b≠a:=λh=>hne (by rw [← ea,← eb,h])
 have hfa:f a=f i:=href _ _ (hg.lt a ha) hi ea
 have hfb:f b=f j:=href _ _ (hg.lt b hb) hj eb
 have hnd:(rf.map f).Nodup:=by
  unfold List.Nodup
  rw [List.pairwise_map]
  exact hf.ne
 have:=nodup_le (rf.map f) ((rg.erase a).map f) hnd λx hx=>by
  obtain⟨r,hr,rfl⟩:=List.mem_map.1 hx
  obtain⟨c,hc,ec⟩:=hg.all r (hf.lt r hr)
  have hfc:f c=f r:=href _ _ (hg.lt c hc) (hf.lt r hr) ec
  by_cases h:c=a
  ·subst h
   refine List.mem_map.2 ⟨b,?_,?_⟩
   ·exact (List.mem_erase_of_ne hab).2 hb
   ·rw [hfb,← e,← hfa,hfc]
  ·exact List.mem_map.2 ⟨c,(List.mem_erase_of_ne h).2 hc,hfc⟩
 simp only [List.length_map] at this
 rw [List.length_erase_of_mem ha] at this
 have:=List.length_pos_of_mem ha
 omega
variable {svs:List DSt} {cl:Nat→Int} {nc:Int}
def RowEq (svs:List DSt) (lv:Nat→Bool) (kd:Nat→Int) (i j:Nat):Prop:=(∀ b,b < 256→kNext svs lv kd i b=kNext svs lv kd j b)∧kd i=kd j
theorem kNext_rng {lv:Nat→Bool} {kd:Nat→Int} (A:Aut svs) (hk:∀ i,i < svs.length→0≤kd i∧kd i≤200000) {n b:Nat} (hb:b < 256):-1≤kNext svs lv kd n b∧kNext svs lv kd n b≤200000:=by
 unfold kNext
 cases hx:nxt svs n b with
 | none=>simp
 | some k =>
  have:=hk k (A.nxt_lt hb hx).1
  dsimp only
  split <;> omega
theorem elIntM:Elem P T.sl_int T.int ((Ty.int .i64).enc 0) 1 8:=elInt
set_option maxRecDepth 20000 in
theorem again_spec {w:World} {br:Nat} {d:Option Addr} {ll kk:Sl} {nn:Int} {lv:Nat→Bool} {kd:Nat→Int} (hobj:w.heap[br]?=some (rObj d ll kk nn)) (hd:DfaO (V (·=br) w) d svs cl nc) (hl:SlT .bool (V (·=br) w) ll (rowG svs.length lv))
  (hk:SlT (.int .i64) (V (·=br) w) kk (rowG svs.length kd)) (A:Aut svs) (hkr:∀ i,i < svs.length→0≤kd i∧kd i≤200000) {K:Bool→World→Prop}
  (hK:∀ kk' nk reps w',Keeps (·=br) w w'→w'.heap[br]?=some (rObj d ll kk' (reps.length:Nat))→SlT (.int .i64) (V (·=br) w') kk' (rowG svs.length nk)→(∀ i,i < svs.length→0≤nk i∧nk i < svs.length) →
   (∀ i j,i < svs.length→j < svs.length→(nk i=nk j↔RowEq svs lv kd i j))→Cnt svs.length nk reps→K (decide (nn < (reps.length:Nat))) w'):least_rounds_again.C (some ⟨br,0,none⟩) w K:=by
 have hfew:=A.few
 have hN:=hk.1
 rw [rowG_len] at hN
 refine least_rounds_again.ok _ _ _ ?_
 simp only [least_rounds_again.M,NilC_some,add_eq,rCells_zero,Nat.zero_add]
 refine Al.mk λm1 w1 n1=>?_
 have e1:=n1.eq;have z1:=n1.size
 have hbl:=lt_of_some hobj
 have hne:br≠m1:=by omega
 refine Ld.slv (cell_of (n1.keeps.blk0 hobj) rfl) ?_
 rw [hN]
 refine App.make1 (t:=.int .i64) (z:=0) elIntM rfl (by omega) (by omega) λbn w2 n2=>?_
 have e2:=n2.eq;have z2:=n2.size
 have o2:=n2.at_
 rw [rowG_rep] at o2
 have hne2:bn≠m1:=by omega
 have hne3:bn≠br:=by omega
 have k02:Keeps No w w2:=n1.keeps.trans n2.keeps
 have hm2:w2.heap[m1]?=some (.map #[] 0):=n2.keeps.blk0 n1.at_
 let Ft:Nat→Prop:=λb=>b=m1∨b=bn
 have hmv:∀ {w'},Keeps Ft w2 w'→Vle (V (·=br) w) (V (·=br) w'):=λ{w'} k=>V.move (k02.then k λb hb h=>by rcases h with h | h <;> omega) (λ_ _ h=>h.elim) (λ_ _ h=>h)
 have hRn:∀ {w'},Keeps Ft w2 w'→Rn (V No w') br d ll kk nn svs cl nc lv kd:=λ{w'} k =>
  ⟨⟨id,k.blk (k02.blk0 hobj) (by rintro (h | h) <;> omega)⟩,(hd.mono (hmv k)).mono (V.sub λ_ _ h=>h.elim),(hl.mono (hmv k)).mono (V.sub λ_ _ h=>h.elim),(hk.mono (hmv k)).mono (V.sub λ_ _ h=>h.elim)⟩
 refine Loop.mk (λs w'=>Keeps Ft w2 w'∧∃ (i:Nat) (nk:Nat→Int) (reps:List Nat),i≤svs.length∧s=(i:Int)∧w'.heap[bn]?=some (rowObj (.int .i64) T.int (rowG svs.length nk)) ∧
   MapAt P T.least_row .raw (.int .i64) (V No w') m1 (λk v=>∃ j,j < i∧k=rowKey (kNext svs lv kd j) (kd j)∧v=nk j)∧MapSz w' m1 reps.length∧reps.length≤i ∧
   (∀ j,j < i→0≤nk j∧nk j < (reps.length:Nat))∧(∀ a b,a < i→b < i→(nk a=nk b↔RowEq svs lv kd a b))∧Cnt i nk reps) (λs=>svs.length - s.toNat)
  ⟨.refl,0,λ_=>0,[],by omega,rfl,o2,?_,.empty hm2,by simp,λj hj=>by omega,λa b ha=>by omega,⟨by simp,.nil,λj hj=>by omega⟩⟩ ?_
 ·exact (MapAt.empty (kt:=.raw) (vt:=.int .i64) ⟨id,hm2⟩).congr λx y=>by simp
 rintro s w3 ⟨k3,i,nk,reps,hi,rfl,o3,hm3,hsz3,hri,hrg,hiff,hcnt⟩ R hR
 refine Br.mk (λht=>?_) (λhf=>?_)
 ·have ht:i < svs.length:=by have h9:(_:Int) < (svs.length:Int):=kG ht;omega
  have e4:w64 ((i:Int) + 1)=((i + 1:Nat):Int):=by rw [w64_eq (by omega)];omega
  refine row_spec (hRn k3) A ht λw4 k4=>?_
  refine Al.mk λb4 w5 n5=>StA.gen sizeRow n5.at_ (by rw [List.size_toArray,rCells_len]) (by rw [List.size_toArray,rCells_len]) (λu hu=>rCells_one u (by simpa using hu)) λw6 u6=>?_
  have e5:=n5.eq
  have k46:Keeps No w4 w6:=u6.keeps0 n5.keeps (by omega)
  have k36:Keeps No w3 w6:=k4.trans k46
  refine LdA.gen (c:=rCells (kNext svs lv kd i) (kd i)) rCells_len (λj u hu=>cell_of u6.at_ (by simpa using hu)) ?_
  have hm6:=MapAt.mono hm3 (V.keeps0 k36)
  have hsz6:=hsz3.keep k36 id
  have o6:=k36.blk0 o3
  have k26:Keeps Ft w2 w6:=k3.then0 k36
  have hkey:OkKey P T.least_row (Ty.raw.enc (rowKey (kNext svs lv kd i) (kd i))):=rowOk (λb hb=>by have:=kNext_rng (lv:=lv) A hkr (n:=i) hb;omega) (by have:=hkr i ht;omega)
  have keyEq:∀ j,rowKey (kNext svs lv kd i) (kd i)=rowKey (kNext svs lv kd j) (kd j)↔RowEq svs lv kd i j:=λj=>⟨λh=>rowKey_inj h,λh=>by rw [h.2];exact rowKey_congr h.1⟩
  refine App.look2 (kt:=.raw) (vt:=.int .i64) (x:=rowKey (kNext svs lv kd i) (kd i)) (z:=0) rowIntTy (run_zeroInt w6) (mo:=some m1) hm6 hkey (λy hy=>?_) (λhno=>?_)
  ·obtain⟨j0,hj0,hkk,rfl⟩:=hy
   have hre:=(keyEq j0).1 hkk
   simp only [Join,Bool.not_true,Br_false]
   refine IdxS.putG (t:=.int .i64) (v:=nk j0) o6 ht λw7 u7=>?_
   rw [e4]
   have hold:∀ j,j < i→(λj=>if j=i then nk j0 else nk j) j=nk j:=λj hj=>by
    have:j≠i:=by omega
    simp [this]
   have hold':∀ j,j < i→(if j=i then nk j0 else nk j)=nk j:=hold
   have ei:∀ a,a < i + 1→∃ a',a' < i∧(if a=i then nk j0 else nk a)=nk a'∧(∀ c,RowEq svs lv kd a c↔RowEq svs lv kd a' c):=λa ha=>by
    by_cases e:a=i
    ·subst e
     refine⟨j0,hj0,by simp,λc=>⟨λh=>⟨λb hb=>(hre.1 b hb).symm.trans (h.1 b hb),hre.2.symm.trans h.2⟩,λh=>⟨λb hb=>(hre.1 b hb).trans (h.1 b hb),hre.2.trans h.2⟩⟩⟩
    ·exact⟨a,by omega,by simp [e],λ_=>Iff.rfl⟩
   have sym:∀ a c,RowEq svs lv kd a c↔RowEq svs lv kd c a:=λa c=>⟨λh=>⟨λb hb=>(h.1 b hb).symm,h.2.symm⟩,λh=>⟨λb hb=>(h.1 b hb).symm,h.2.symm⟩⟩
   refine hR _ _ ⟨k26.then u7.keeps λb hb h=>.inr h,i + 1,λj=>if j=i then nk j0 else nk j,reps,by omega,rfl,u7.at_,?_,hsz6.keep u7.keeps (by omega),by omega,λj hj=>?_,λa b ha hb=>?_,⟨λr hr=>by have:=hcnt.lt r hr;omega,?_,λj hj=>?_⟩⟩ (by omega)
   ·refine MapAt.congr (MapAt.keep hm6 u7.keeps (by omega) id) λk v=>?_
    constructor
    ·rintro⟨j,hj,rfl,rfl⟩;exact⟨j,by omega,rfl,(hold j hj).symm⟩
    ·rintro⟨j,hj,rfl,rfl⟩
     by_cases e:j=i
     ·subst e;exact⟨j0,hj0,hkk,by simp⟩
     ·exact⟨j,by omega,rfl,hold j (by omega)⟩
   ·obtain⟨a',h1,h2,_⟩:=ei j hj
    show 0≤(if j=i then nk j0 else nk j)∧(if j=i then nk j0 else nk j) < _
    rw [h2];exact hrg a' h1
   ·obtain⟨a',h1,h2,h3⟩:=ei a ha
    obtain⟨b',h4,h5,h6⟩:=ei b hb
    show (if a=i then nk j0 else nk a)=(if b=i then nk j0 else nk b)↔_
    rw [h2,h5,h3,sym a' b,h6,sym b' a']
    exact hiff a' b' h1 h4
   ·refine hcnt.ne.imp_of_mem λ{a b} ha hb h=>?_
    rw [hold' a (hcnt.lt a ha),hold' b (hcnt.lt b hb)];exact h
   ·obtain⟨a',h1,h2,_⟩:=ei j hj
    obtain⟨r,hr,er⟩:=hcnt.all a' h1
    refine⟨r,hr,?_⟩
    rw [hold' r (hcnt.lt r hr)]
    show nk r=(if j=i then nk j0 else nk j)
    rw [h2,er]
  ·have hnew:∀ j,j < i→¬ RowEq svs lv kd i j:=λj hj h=>hno (nk j) ⟨j,hj,(keyEq j).2 h,rfl⟩
   simp only [Join,Bool.not_false,Br_true]
   refine App.len rowIntTy.ty hsz6 ?_
   refine LdA.gen (c:=rCells (kNext svs lv kd i) (kd i)) rCells_len (λj u hu=>cell_of u6.at_ (by simpa using hu)) ?_
   refine App0.putNew (kt:=.raw) (vt:=.int .i64) (x:=rowKey (kNext svs lv kd i) (kd i)) (y:=((reps.length:Nat):Int)) rowIntTy hm6 hsz6 hkey (λy hy=>hno y hy) λw7 k7 z7 hm7 hsz7=>?_
   refine IdxS.putG (t:=.int .i64) (v:=((reps.length:Nat):Int)) (k7.blk o6 hne2) ht λw8 u8=>?_
   rw [e4]
   have hold:∀ j,j < i→(λj=>if j=i then ((reps.length:Nat):Int) else nk j) j=nk j:=λj hj=>by
    have:j≠i:=by omega
    simp [this]
   have hold':∀ j,j < i→(if j=i then ((reps.length:Nat):Int) else nk j)=nk j:=hold
   have sym:∀ a c,RowEq svs lv kd a c↔RowEq svs lv kd c a:=λa c=>⟨λh=>⟨λb hb=>(h.1 b hb).symm,h.2.symm⟩,λh=>⟨λb hb=>(h.1 b hb).symm,h.2.symm⟩⟩
   refine hR _ _ ⟨(k26.then k7 λb hb h=>.inl h).then u8.keeps λb hb h=>.inr h,i + 1,λj=>if j=i then ((reps.length:Nat):Int) else nk j,reps++[i],by omega,rfl,u8.at_,?_,by rw [List.length_append];exact hsz7.keep u8.keeps (by omega),by simp;omega,λj hj=>?_,λa b ha hb=>?_,⟨λr hr=>?_,?_,λj hj=>?_⟩⟩ (by omega)
   ·refine MapAt.congr (MapAt.keep hm7 u8.keeps (by omega) id) λk v=>?_
    constructor
    ·rintro (⟨rfl,rfl⟩ | ⟨_,j,hj,rfl,rfl⟩)
     ·exact⟨i,by omega,rfl,by simp⟩
     ·exact⟨j,by omega,rfl,(hold j hj).symm⟩
    ·rintro⟨j,hj,rfl,rfl⟩
     by_cases e:j=i
     ·subst e;exact .inl ⟨rfl,by simp⟩
     ·exact .inr ⟨λe2=>hnew j (by omega) ((keyEq j).1 e2.symm),j,by omega,rfl,hold j (by omega)⟩
   ·by_cases e:j=i
    ·subst e;simp;omega
    ·have:=hrg j (by omega)
     simp only [e,if_false,List.length_append,List.length_cons,List.length_nil];omega
   ·by_cases ea:a=i <;> by_cases eb:b=i
    ·subst ea eb;simp [RowEq]
    ·subst ea
     have:=hrg b (by omega)
     simp only [if_true,eb,if_false]
     exact⟨λh=>by omega,λh=>absurd h (hnew b (by omega))⟩
    ·subst eb
     have:=hrg a (by omega)
     simp only [if_true,ea,if_false]
     exact⟨λh=>by omega,λh=>absurd ((sym _ _).1 h) (hnew a (by omega))⟩
    ·simp only [ea,eb,if_false]
     exact hiff a b (by omega) (by omega)
   ·rcases List.mem_append.1 hr with h | h
    ·have:=hcnt.lt r h;omega
    ·simp at h;omega
   ·refine List.pairwise_append.2 ⟨hcnt.ne.imp_of_mem λ{a b} ha hb h=>?_,by simp,λa ha b hb=>?_⟩
    ·rw [hold' a (hcnt.lt a ha),hold' b (hcnt.lt b hb)];exact h
    ·simp only [List.mem_singleton] at hb
     subst hb
     have h1:=hcnt.lt a ha
     have h2:=hrg a h1
     rw [hold' a h1]
     simp;omega
   ·by_cases e:j=i
    ·subst e;exact⟨j,by simp,rfl⟩
    ·obtain⟨r,hr,er⟩:=hcnt.all j (by omega)
     refine⟨r,by simp [hr],?_⟩
     rw [hold' r (hcnt.lt r hr),hold' j (by omega)];exact er
 ·have hf:i=svs.length:=by have h9:¬ (_:Int) < (svs.length:Int):=kF hf;omega
  subst hf
  refine Draw.mk λw4 hh4 k4=>?_
  have hsz4:MapSz w4 m1 reps.length:=hsz3.keep k4 id
  refine AppS.len rowIntTy.ty (λw h=>by rw [h];exact hsz4) ?_
  have ob4:w4.heap[br]?=some (rObj d ll kk nn):=k4.blk0 (k3.blk (k02.blk0 hobj) (by rintro (h | h) <;> omega))
  refine LdS.int (cell_of ob4 rfl) ?_
  refine App.len rowIntTy.ty hsz4 ?_
  refine St.blk ob4 (by show 2 < 4;omega) λw5 u5=>?_
  refine St.blk u5.at_ (by show 3 < 4;omega) λw6 u6=>?_
  have k46:Keeps (·=br) w4 w6:=u5.keeps.trans u6.keeps
  have o4:=k4.blk0 o3
  refine hK ⟨some ⟨bn,0,none⟩,svs.length,svs.length⟩ nk reps w6 ?_ u6.at_ (Row.sl (M:=(·=br)) (k46.blk o4 hne3) hne3 rowG_len.symm) (λi hi=>⟨(hrg i hi).1,Int.lt_of_lt_of_le (hrg i hi).2 (Int.ofNat_le.2 hri)⟩) hiff hcnt
  exact ((k02.then (k3.then0 k4) λb hb h=>by rcases h with h | h <;> omega).mono λb _ h=>h.elim).trans k46
end Go.Fk
end
section
namespace Go.Fk
open Go Go.MapKept Go.Maps
open Go.ChangeMaps (setBlock)
section
variable {P:Program} {T kT vT:TypeId} {kt vt:Ty} {m:Nat} {R:kt.T→vt.T→Prop}
theorem App0.putOld (hT:MapTy P T kT vT kt vt) {w:World} {x:kt.T} {y:vt.T} {K:World→Prop} {M:Nat→Prop} {n:Nat} (h:MapAt P kT kt vt (V M w) m R) (hsz:MapSz w m n) (hk:OkKey P kT (kt.enc x)) {y0:vt.T} (hold:R x y0)
  (hK:∀ w',Keeps (·=m) w w'→w'.heap.size=w.heap.size→MapAt P kT kt vt (V M w') m (λa b=>(a=x∧b=y)∨(a≠x∧R a b))→MapSz w' m n→K w') :
  App0 P (Instr.mapUpdate T (.map (some m)) (kt.enc x) (vt.enc y)) w K:=by
 obtain⟨es,clock,⟨hM,hb⟩,hs,h3,h4⟩:=h
 obtain⟨es',clock',hb',hn⟩:=hsz
 rw [hb] at hb'
 cases hb'
 obtain⟨lx,hlx⟩:=hk
 rcases hT.keyed.find w hlx es.toList (λe he=>(h3 e he).1) with⟨h1,h2⟩ | ⟨j,e0,h1,h2,h5⟩
 ·obtain⟨e,he,hke,_⟩:=h4 x y0 hold
  exact absurd hke (h2 e he)
 ·have hj:es[j]?=some e0:=by simpa using h2
  have hlist:(es.modify j (λe'=>{ e' with key:=kt.enc x,val:=vt.enc y })).toList=es.toList.set j { e0 with key:=kt.enc x,val:=vt.enc y }:=by rw [Array.toList_modify,Go.ChangeMaps.modify_eq_set _ _ _ _ h2]
  have hu:=keepsSetBlock hb (.map (es.modify j (λe'=>{ e' with key:=kt.enc x,val:=vt.enc y })) clock)
  refine⟨setBlock w m (.map (es.modify j (λe'=>{ e' with key:=kt.enc x,val:=vt.enc y })) clock),?_,hK _ hu.keeps hu.size ?_ ⟨_,_,hu.at_,by simp [hn]⟩⟩
  ·simp [Instr.mapUpdate,run_underlying hT.ty,MapKept.run_getObj_map hb,hT.keyed.check w false hlx,h1,hj,h5,hT.keyed.stays w hlx,MapKept.run_setObj_map _ hb,Result.andThen,setBlock]
  ·have he0:e0∈es.toList:=kD h2
   have hset:∀ e,e∈es.toList.set j { e0 with key:=kt.enc x,val:=vt.enc y }↔e={ e0 with key:=kt.enc x,val:=vt.enc y }∨(e∈es.toList∧e.key≠kt.enc x):=by
    intro e
    have hjl:j < es.toList.length:=(kA h2).1
    constructor
    ·intro he
     obtain⟨i,hi⟩:=List.getElem?_of_mem he
     rw [List.getElem?_set] at hi
     split at hi
     ·simp at hi;exact .inl hi.symm
     ·rename_i hne
      refine .inr ⟨kD hi,λe1=>?_⟩
      have:=key_once hs (kD hi) he0 (e1.trans h5.symm)
      subst this
      have hb2:=hs.2.1
      rw [List.Nodup,List.pairwise_map,List.pairwise_iff_getElem] at hb2
      rw [List.getElem?_eq_some_iff] at hi h2
      obtain⟨hi1,hi2⟩:=hi
      obtain⟨hj1,hj2⟩:=h2
      rcases Nat.lt_trichotomy i j with h | h | h
      ·exact hb2 i j hi1 hj1 h (by rw [hi2,hj2])
      ·exact hne h.symm
      ·exact hb2 j i hj1 hi1 h (by rw [hi2,hj2])
    ·rintro (rfl | ⟨he,hk⟩)
     ·exact List.mem_set hjl _
     ·obtain⟨i,hi⟩:=List.getElem?_of_mem he
      refine kD (i:=i) ?_
      rw [List.getElem?_set,if_neg,hi]
      rintro rfl
      rw [h2] at hi
      cases hi
      exact hk h5
   refine⟨_,_,⟨hM,hu.at_⟩,stamped_modify hs _ _ (λ_ _=>rfl) (λe' _ he'=>by rw [hj] at he';cases he';exact h5.symm),?_,?_⟩
   ·intro e he
    rw [hlist,hset] at he
    rcases he with rfl | ⟨he,hk⟩
    ·exact⟨⟨lx,hlx⟩,x,y,rfl,rfl,.inl ⟨rfl,rfl⟩⟩
    ·obtain⟨h6,x',y',h7,h8,h9⟩:=h3 e he
     exact⟨h6,x',y',h7,h8,.inr ⟨λe1=>hk (by rw [h7,e1]),h9⟩⟩
   ·rw [hlist]
    rintro a b (⟨rfl,rfl⟩ | ⟨ha,hr⟩)
    ·exact⟨_,(hset _).2 (.inl rfl),rfl,rfl⟩
    ·obtain⟨e,he,h6,h7⟩:=h4 a b hr
     exact⟨e,(hset _).2 (.inr ⟨he,λe1=>ha (Ty.enc_inj (h6.symm.trans e1))⟩),h6,h7⟩
end
theorem boolSetTy:MapTy P T.map_int_bool T.int T.bool (.int .i64) .bool:=⟨by kernel_rfl,int_keyed int_u⟩
theorem intIntTy:MapTy P T.map_int_int T.int T.int (.int .i64) (.int .i64):=⟨by kernel_rfl,int_keyed int_u⟩
theorem intKey {n:Int} (h:-9223372036854775808≤n∧n≤9223372036854775807):OkKey P T.int ((Ty.int .i64).enc n):=by
 have hm:IntKind.i64.min=-9223372036854775808:=by decide
 exact⟨_,keyOf_int_mk int_u (by simp only [Lit.wf,decide_eq_true_eq,Bool.and_eq_true,hm];exact h)⟩
variable {svs:List DSt} {cl:Nat→Int} {nc:Int}
def kd0 (svs:List DSt) (lv:Nat→Bool) (n:Nat):Int:=if lv n=true then ac svs n + 2 else 0
structure Bis (svs:List DSt) (lv:Nat→Bool) (E:Nat→Nat→Prop):Prop where
 kd:∀ i j,E i j→kd0 svs lv i=kd0 svs lv j
 next:∀ i j b,E i j→b < 256→match nxt svs i b,nxt svs j b with
  | some a,some c=>(lv a=lv c)∧(lv a=true→E a c)
  | some a,none=>lv a=false
  | none,some c=>lv c=false
  | none,none=>True
structure Kinds (svs:List DSt) (lv:Nat→Bool) (kd:Nat→Int):Prop where
 rng:∀ i,i < svs.length→0≤kd i∧kd i≤200000
 zero:∀ i j,i < svs.length→j < svs.length→kd i=kd j→kd0 svs lv i=kd0 svs lv j
 eqv:∀ E,Bis svs lv E→∀ i j,i < svs.length→j < svs.length→E i j→kd i=kd j
theorem Kinds.step {lv:Nat→Bool} {kd nk:Nat→Int} (A:Aut svs) (h:Kinds svs lv kd) (hr:∀ i,i < svs.length→0≤nk i∧nk i < svs.length) (hiff:∀ i j,i < svs.length→j < svs.length→(nk i=nk j↔RowEq svs lv kd i j)):Kinds svs lv nk where
 rng i hi:=by have:=hr i hi;have:=A.few;omega
 zero i j hi hj e:=h.zero i j hi hj ((hiff i j hi hj).1 e).2
 eqv E hE i j hi hj e:=by
  refine (hiff i j hi hj).2 ⟨λb hb=>?_,h.eqv E hE i j hi hj e⟩
  have hn:=hE.next i j b e hb
  unfold kNext
  cases h1:nxt svs i b with
  | none =>
   cases h2:nxt svs j b with
   | none=>rfl
   | some c=>rw [h1,h2] at hn;dsimp only at hn ⊢;rw [hn];simp
  | some a =>
   cases h2:nxt svs j b with
   | none=>rw [h1,h2] at hn;dsimp only at hn ⊢;rw [hn];simp
   | some c =>
    rw [h1,h2] at hn
    dsimp only at hn ⊢
    obtain⟨g1,g2⟩:=hn
    rw [← g1]
    by_cases hl:lv a=true
    ·rw [if_pos hl,if_pos hl]
     exact h.eqv E hE a c (A.nxt_lt hb h1).1 (A.nxt_lt hb h2).1 (g2 hl)
    ·rw [if_neg hl,if_neg hl]
set_option maxRecDepth 20000 in
theorem kinds_spec {w:World} {d:Option Addr} {ll:Sl} {lv:Nat→Bool} (hd:DfaO (V No w) d svs cl nc) (hl:SlT .bool (V No w) ll (rowG svs.length lv)) (A:Aut svs) {K:Sl→World→Prop}
  (hK:∀ kk kd w',Keeps No w w'→SlT (.int .i64) (V No w') kk (rowG svs.length kd)→Kinds svs lv kd→(∀ i j,i < svs.length→j < svs.length→kd i=kd j→∀ b,b < 256→kNext svs lv kd i b=kNext svs lv kd j b)→K kk w'):least_kinds.C d ll w K:=by
 have hfew:=A.few
 refine least_kinds.ok _ _ _ _ ?_
 simp only [least_kinds.M]
 refine dfa_States_spec hd ?_
 refine App.make1 (t:=.int .i64) (z:=0) elIntM rfl (by omega) (by omega) λbk w1 n1=>Al.mk λb1 w2 n2=>Al.mk λm2 w3 n3=>?_
 have e1:=n1.eq;have z1:=n1.size;have e2:=n2.eq;have z2:=n2.size;have e3:=n3.eq;have z3:=n3.size
 have o1:=n1.at_
 rw [rowG_rep] at o1
 have ob3:w3.heap[b1]?=some (rObj d ll ⟨some ⟨bk,0,none⟩,svs.length,svs.length⟩ 0):=n3.keeps.blk0 n2.at_
 have k03:Keeps No w w3:=(n1.keeps.trans n2.keeps).trans n3.keeps
 have g1:w.heap.size≤bk:=by omega
 have g2:w.heap.size≤b1:=by omega
 have g3:w.heap.size≤m2:=by omega
 have hmv:∀ {w'},Keeps No w w'→Vle (V No w) (V (·=b1) w'):=λ{w'} k=>V.move k (λ_ _ h=>h.elim) (λb hb h=>by omega)
 have hmv0:∀ {w'},Keeps No w w'→Vle (V No w) (V No w'):=λ{w'} k=>V.keeps0 k
 refine Ld.slv (l:=⟨some ⟨bk,0,none⟩,svs.length,svs.length⟩) (cell_of ob3 rfl) ?_
 refine Loop.mk (λs w'=>Keeps No w w'∧∃ (i:Nat) (reps:List Nat),i≤svs.length∧s=(i:Int)∧w'.heap[bk]?=some (rowObj (.int .i64) T.int (rowG svs.length λj=>if j < i then kd0 svs lv j else 0)) ∧
   w'.heap[b1]?=some (rObj d ll ⟨some ⟨bk,0,none⟩,svs.length,svs.length⟩ 0)∧MapAt P T.int (.int .i64) .bool (V No w') m2 (λk v=>∃ j,j < i∧k=kd0 svs lv j∧v=true)∧MapSz w' m2 reps.length∧Cnt i (kd0 svs lv) reps) (λs=>svs.length - s.toNat)
  ⟨k03,0,[],by omega,rfl,by simpa using n3.keeps.blk0 (n2.keeps.blk0 o1),ob3,?_,.empty n3.at_,⟨by simp,.nil,λj hj=>by omega⟩⟩ ?_
 ·exact (MapAt.empty (kt:=.int .i64) (vt:=.bool) ⟨id,n3.at_⟩).congr λx y=>by simp
 rintro s w4 ⟨k4,i,reps,hi,rfl,ok4,ob4,hm4,hsz4,hcnt⟩ R hR
 refine Br.mk (λht=>?_) (λhf=>?_)
 ·have ht:i < svs.length:=by have h9:(_:Int) < (svs.length:Int):=kG ht;omega
  have e4:w64 ((i:Int) + 1)=((i + 1:Nat):Int):=by rw [w64_eq (by omega)];omega
  have hacr:=A.ac_rng i
  refine Join.cut (λ(_:Unit) w'=>Keeps No w w'∧w'.heap[bk]?=some (rowObj (.int .i64) T.int (rowG svs.length λj=>if j < i + 1 then kd0 svs lv j else 0)) ∧
   w'.heap[b1]?=some (rObj d ll ⟨some ⟨bk,0,none⟩,svs.length,svs.length⟩ 0)∧MapAt P T.int (.int .i64) .bool (V No w') m2 (λk v=>∃ j,j < i∧k=kd0 svs lv j∧v=true)∧MapSz w' m2 reps.length) ?_ ?_
  ·rintro _ w5 ⟨k5,ok5,ob5,hm5,hsz5⟩
   refine Ld.slv (l:=⟨some ⟨bk,0,none⟩,svs.length,svs.length⟩) (cell_of ob5 rfl) ?_
   refine IdxS.getG (t:=.int .i64) (Row.sl (M:=No) ok5 (λh=>h.elim) rowG_len.symm) ht ?_
   rw [if_pos (by omega),e4]
   have hkey:OkKey P T.int ((Ty.int .i64).enc (kd0 svs lv i)):=intKey (by unfold kd0;split <;> omega)
   by_cases hex:∃ j,j < i∧kd0 svs lv j=kd0 svs lv i
   ·obtain⟨j0,hj0,ej0⟩:=hex
    refine App0.putOld (kt:=.int .i64) (vt:=.bool) (x:=kd0 svs lv i) (y:=true) (y0:=true) boolSetTy hm5 hsz5 hkey ⟨j0,hj0,ej0.symm,rfl⟩ λw6 k6 z6 hm6 hsz6=>?_
    refine hR _ _ ⟨k5.then k6 λb hb h=>by omega,i + 1,reps,by omega,rfl,k6.blk ok5 (by omega),k6.blk ob5 (by omega),hm6.congr λk v=>?_,hsz6,⟨λr hr=>by have:=hcnt.lt r hr;omega,hcnt.ne,λj hj=>?_⟩⟩ (by omega)
    ·constructor
     ·rintro (⟨rfl,rfl⟩ | ⟨_,j,hj,rfl,rfl⟩)
      ·exact⟨i,by omega,rfl,rfl⟩
      ·exact⟨j,by omega,rfl,rfl⟩
     ·rintro⟨j,hj,rfl,rfl⟩
      by_cases e:kd0 svs lv j=kd0 svs lv i
      ·exact .inl ⟨e,rfl⟩
      ·refine .inr ⟨e,j,?_,rfl,rfl⟩
       by_cases e2:j=i
       ·subst e2;exact absurd rfl e
       ·omega
    ·by_cases e:j=i
     ·subst e
      obtain⟨r,hr,er⟩:=hcnt.all j0 hj0
      exact⟨r,hr,er.trans ej0⟩
     ·exact hcnt.all j (by omega)
   ·refine App0.putNew (kt:=.int .i64) (vt:=.bool) (x:=kd0 svs lv i) (y:=true) boolSetTy hm5 hsz5 hkey (λy hy=>?_) λw6 k6 z6 hm6 hsz6=>?_
    ·obtain⟨j,hj,e,_⟩:=hy
     exact hex ⟨j,hj,e.symm⟩
    refine hR _ _ ⟨k5.then k6 λb hb h=>by omega,i + 1,reps++[i],by omega,rfl,k6.blk ok5 (by omega),k6.blk ob5 (by omega),hm6.congr λk v=>?_,by rw [List.length_append];exact hsz6,⟨λr hr=>?_,?_,λj hj=>?_⟩⟩ (by omega)
    ·constructor
     ·rintro (⟨rfl,rfl⟩ | ⟨_,j,hj,rfl,rfl⟩)
      ·exact⟨i,by omega,rfl,rfl⟩
      ·exact⟨j,by omega,rfl,rfl⟩
     ·rintro⟨j,hj,rfl,rfl⟩
      by_cases e:kd0 svs lv j=kd0 svs lv i
      ·exact .inl ⟨e,rfl⟩
      ·refine .inr ⟨e,j,?_,rfl,rfl⟩
       by_cases e2:j=i
       ·subst e2;exact absurd rfl e
       ·omega
    ·rcases List.mem_append.1 hr with h | h
     ·have:=hcnt.lt r h;omega
     ·simp at h;omega
    ·refine List.pairwise_append.2 ⟨hcnt.ne,by simp,λa ha b hb=>?_⟩
     simp only [List.mem_singleton] at hb
     subst hb
     exact λe=>hex ⟨a,hcnt.lt a ha,e⟩
    ·by_cases e:j=i
     ·subst e;exact⟨j,by simp,rfl⟩
     ·obtain⟨r,hr,er⟩:=hcnt.all j (by omega)
      exact⟨r,by simp [hr],er⟩
  ·intro j6 hj6
   refine IdxS.getG (t:=.bool) (hl.mono (hmv0 k4)) ht ?_
   refine Br.mk (λhlv=>?_) (λhlv=>?_)
   ·refine⟨λx=>x.heap[b1]?=some (rObj d ll ⟨some ⟨bk,0,none⟩,svs.length,svs.length⟩ 0),ob4,⟨⟨some ⟨bk,0,none⟩,svs.length,svs.length⟩,λx hx=>cell_of hx rfl,?_⟩⟩
    have kd5:Keeps No w4 w4.drew:=Keeps.drew
    refine dfa_Accept_spec (hd.mono (hmv0 (k4.then0 kd5))) ⟨ob4,?_⟩
    refine IdxS.putG (t:=.int .i64) (v:=w64 (accOf svs i + 2)) (kd5.blk0 ok4) ht λw5 u5=>?_
    have ob5:=u5.keeps.blk (kd5.blk0 ob4) (by omega)
    refine⟨ob5,hj6 () w5 ⟨(k4.then0 kd5).then u5.keeps λb hb h=>by omega,?_,ob5,MapAt.keep (MapAt.mono hm4 (V.keeps0 kd5)) u5.keeps (by omega) id,(hsz4.keep kd5 id).keep u5.keeps (by omega)⟩⟩
    rw [u5.at_]
    congr 2
    refine rowG_congr λj hj=>?_
    by_cases e:j=i
    ·subst e
     rw [if_pos rfl,if_pos (by omega),kd0,if_pos hlv]
     exact w64_eq (by show -9223372036854775808≤ac svs j + 2∧ac svs j + 2≤9223372036854775807;omega)
    ·have:(j < i + 1)↔j < i:=by omega
     simp [e,this]
   ·refine hj6 () w4 ⟨k4,?_,ob4,hm4,hsz4⟩
    rw [ok4]
    congr 2
    refine rowG_congr λj hj=>?_
    by_cases e:j=i
    ·subst e;simp [kd0,hlv]
    ·have:(j < i + 1)↔j < i:=by omega
     simp [this]
 ·have hf:i=svs.length:=by have h9:¬ (_:Int) < (svs.length:Int):=kF hf;omega
  subst hf
  refine App.len boolSetTy.ty hsz4 ?_
  refine St.blk ob4 (by show 3 < 4;omega) λw5 u5=>?_
  have ok5:=u5.keeps.blk ok4 (by omega)
  have hk0:Kinds svs lv (kd0 svs lv):=⟨λi hi=>by have:=A.ac_rng i;unfold kd0;split <;> omega,λi j _ _ h=>h,λE hE i j _ _ h=>hE.kd i j h⟩
  refine Loop.mkn (λm (_:Unit) w'=>Keeps No w w'∧∃ (kk:Sl) (kd:Nat→Int) (reps:List Nat),w'.heap[b1]?=some (rObj d ll kk (reps.length:Nat))∧SlT (.int .i64) (V (·=b1) w') kk (rowG svs.length kd)∧Kinds svs lv kd∧Cnt svs.length kd reps∧m=svs.length - reps.length) _
   ⟨k4.then u5.keeps λb hb h=>by omega,⟨some ⟨bk,0,none⟩,svs.length,svs.length⟩,kd0 svs lv,reps,u5.at_,?_,hk0,hcnt,rfl⟩ ?_
  ·refine Row.sl (M:=(·=b1)) (E:=T.int) (b:=bk) (n:=svs.length) (c:=svs.length) ?_ (by omega) rowG_len.symm
   rw [ok5]
   congr 2
   exact rowG_congr λj hj=>by rw [if_pos hj]
  rintro m _ w6 ⟨k6,kk,kd,reps6,ob6,hkk6,hkin,hcnt6,rfl⟩ R6 hR6
  refine again_spec ob6 (hd.mono (hmv k6)) (hl.mono (hmv k6)) hkk6 A hkin.rng λkk' nk reps' w7 k7 ob7 hkk7 hnr hiff hcnt7=>?_
  have k07:Keeps No w w7:=k6.then k7 λb hb h=>by omega
  have hkin7:=hkin.step A hnr hiff
  have hl7:=hcnt7.le
  refine Br.mk (λhm=>?_) (λhm=>?_)
  ·have hm:=kG hm
   exact hR6 _ _ _ (by omega) ⟨k07,kk',nk,reps',ob7,hkk7,hkin7,hcnt7,rfl⟩
  ·have hm:=kF hm
   refine Ld.slv (l:=kk') (cell_of ob7 rfl) ?_
   refine hK kk' nk w7 k07 (hkk7.mono (V.sub λ_ _ h=>h.elim)) hkin7 λi j hi hj e b hb=>?_
   have h1:=(hiff i j hi hj).1 e
   have h2:=h1.1 b hb
   have hsame:∀ a c,a < svs.length→c < svs.length→kd a=kd c→nk a=nk c:=λa c ha hc h=>hcnt6.same hcnt7 (λx y hx hy h=>((hiff x y hx hy).1 h).2) (by omega) ha hc h
   unfold kNext at h2 ⊢
   cases x1:nxt svs i b with
   | none =>
    cases x2:nxt svs j b with
    | none=>rfl
    | some c =>
     rw [x1,x2] at h2
     dsimp only at h2 ⊢
     have:=hkin.rng c (A.nxt_lt hb x2).1
     by_cases hl:lv c=true
     ·rw [if_pos hl] at h2;omega
     ·rw [if_neg hl]
   | some a =>
    have ra:=hkin.rng a (A.nxt_lt hb x1).1
    cases x2:nxt svs j b with
    | none =>
     rw [x1,x2] at h2
     dsimp only at h2 ⊢
     by_cases hl:lv a=true
     ·rw [if_pos hl] at h2;omega
     ·rw [if_neg hl]
    | some c =>
     rw [x1,x2] at h2
     dsimp only at h2 ⊢
     have rc:=hkin.rng c (A.nxt_lt hb x2).1
     by_cases hla:lv a=true <;> by_cases hlc:lv c=true
     ·rw [if_pos hla,if_pos hlc] at h2 ⊢
      exact hsame a c (A.nxt_lt hb x1).1 (A.nxt_lt hb x2).1 h2
     ·rw [if_pos hla,if_neg hlc] at h2;omega
     ·rw [if_neg hla,if_pos hlc] at h2;omega
     ·rw [if_neg hla,if_neg hlc]
end Go.Fk
end
section
namespace Go.Fk
open Go Go.MapKept Go.Maps
structure LSt where
 nx:Nat→Int
 acc:Int
def LSt.cells (m:LSt):List Value:=rCells m.nx m.acc
theorem LSt.lens {ms:List LSt}:∀ c∈ms.map LSt.cells,c.length=257:=λc hc=>by obtain⟨m,_,rfl⟩:=List.mem_map.1 hc;exact rCells_len
def LeastV (H:View) (p:Option Addr) (N:Nat) (ms:List LSt) (of_:Nat→Int):Prop :=
 ∃ b l o,p=some ⟨b,0,none⟩∧H b (.cells #[.slice l.a l.n l.c,.slice o.a o.n o.c] T.least_Least (0,0))∧SlC H l 257 (ms.map LSt.cells)∧SlT (.int .i64) H o (rowG N of_)
theorem LeastV.mono {H H':View} {p:Option Addr} {N:Nat} {ms:List LSt} {of_:Nat→Int} (h:LeastV H p N ms of_) (hv:Vle H H'):LeastV H' p N ms of_:=by
 obtain⟨b,l,o,h1,h2,h3,h4⟩:=h
 exact⟨b,l,o,h1,hv _ _ h2,h3.mono hv,h4.mono hv⟩
theorem elLs:Elem P T.sl_least_state T.least_state (.agg (rCells (λ_=>0) 0).toArray) 257 2056:=⟨by kernel_rfl,by kernel_rfl,by simp [Value.cells,rCells_len],by decide⟩
theorem buildLs (k:Int):P.built T.least_state [(1,.int .i64 k)]=some (rCells (λ_=>0) k).toArray:=by kernel_rfl
theorem sizeLs:(P.info? T.least_state).map (·.size)=some 257:=by kernel_rfl
variable {svs:List DSt} {cl:Nat→Int} {nc:Int}
def GoodL (svs:List DSt) (lv:Nat→Bool) (kd:Nat→Int) (fs:List Nat) (n b:Nat) (v:Int):Prop :=
 (v=-1∧∀ k,nxt svs n b=some k→lv k=false)∨∃ (k x m:Nat),nxt svs n b=some k∧lv k=true∧v=x∧fs[x]?=some m∧kd m=kd k
structure FsOK (svs:List DSt) (lv:Nat→Bool) (kd:Nat→Int) (fs:List Nat):Prop where
 lt:∀ n∈fs,n < svs.length
 ne:fs.Pairwise λa b=>kd a≠kd b
 zero:fs[0]?=some 0
 live:∀ (x:Nat) n,fs[x]?=some n→0 < x→lv n=true
theorem FsOK.le {lv:Nat→Bool} {kd:Nat→Int} {fs:List Nat} (h:FsOK svs lv kd fs):fs.length≤svs.length:=by
 have:=nodup_le fs (List.range svs.length) (h.ne.imp λhne e=>hne (by rw [e])) λx hx=>by simpa using h.lt x hx
 simpa using this
theorem GoodL.mono {lv:Nat→Bool} {kd:Nat→Int} {fs l:List Nat} {n b:Nat} {v:Int} (h:GoodL svs lv kd fs n b v):GoodL svs lv kd (fs++l) n b v:=by
 rcases h with h | ⟨k,x,m,h1,h2,h3,h4,h5⟩
 ·exact .inl h
 ·exact .inr ⟨k,x,m,h1,h2,h3,by rw [List.getElem?_append_left (kA h4).1];exact h4,h5⟩
structure MsOK (svs:List DSt) (lv:Nat→Bool) (kd:Nat→Int) (fs:List Nat) (ms:List LSt):Prop where
 each:∀ (j:Nat) m,ms[j]?=some m→∃ n,fs[j]?=some n∧m.acc=ac svs n∧∀ b,b < 256→GoodL svs lv kd fs n b (m.nx b)
 top:goTop (ms.flatMap λm=>rowL m.nx) 0=some ((fs.length:Int) - 1)
def KeyL (kd:Nat→Int) (fs:List Nat) (k v:Int):Prop:=∃ (x n:Nat),fs[x]?=some n∧k=kd n∧v=x
def OfOK (lv:Nat→Bool) (kd:Nat→Int) (fs:List Nat) (n:Nat) (v:Int):Prop :=
 (∃ (x m:Nat),fs[x]?=some m∧kd m=kd n∧(lv n=true∨n=0)∧v=x)∨(v=-1∧¬ ((lv n=true∨n=0)∧∃ (x m:Nat),fs[x]?=some m∧kd m=kd n))
structure LeastOK (svs:List DSt) (lv:Nat→Bool) (kd:Nat→Int) (fs:List Nat) (ms:List LSt) (of_:Nat→Int):Prop where
 alive:∀ n,n < svs.length→(lv n=true↔Alive svs n)
 kinds:Kinds svs lv kd
 stable:∀ i j,i < svs.length→j < svs.length→kd i=kd j→∀ b,b < 256→kNext svs lv kd i b=kNext svs lv kd j b
 fsok:FsOK svs lv kd fs
 msok:MsOK svs lv kd fs ms
 len:ms.length=fs.length
 ofok:∀ n,n < svs.length→OfOK lv kd fs n (of_ n)
abbrev lObj (l o:Sl):Obj:=.cells #[.slice l.a l.n l.c,.slice o.a o.n o.c] T.least_Least (0,0)
set_option maxRecDepth 20000 in
theorem least_New_fresh {w:World} {d:Option Addr} (hd:DfaO (V No w) d svs cl nc) (hs:d.isNone=false) (A:Aut svs) {K:(Option Addr × Int)→World→Prop}
  (hK:∀ p lv kd fs ms of_ w',Keeps No w w'→LeastV (V (Lt w.heap.size) w') p svs.length ms of_→LeastOK svs lv kd fs ms of_→K (p,0) w'):least_New.C d w K:=by
 have hfew:=A.few
 have hpos:=A.pos
 refine least_New.ok _ _ _ ?_
 simp only [least_New.M]
 rw [hs,Br_false]
 refine live_spec (M:=No) hd A λll wl lv kl hll hlv=>?_
 refine kinds_spec (hd.mono (V.keeps0 kl)) hll A λkk kd wk kk0 hkk hkin hstab=>?_
 have kwk:Keeps No w wk:=kl.trans kk0
 have hdk:=hd.mono (V.keeps0 (M:=No) kwk)
 have hllk:=hll.mono (V.keeps0 (M:=No) kk0)
 refine dfa_States_spec hdk ?_
 refine App.make1 (t:=.int .i64) (z:=0) elIntM rfl (by omega) (by omega) λbo w4 n4=>Al.mk λb1 w5 n5=>Al.mk λm2 w6 n6=>?_
 have e4:=n4.eq;have z4:=n4.size;have e5:=n5.eq;have z5:=n5.size;have e6:=n6.eq;have z6:=n6.size
 have k46:Keeps No wk w6:=(n4.keeps.trans n5.keeps).trans n6.keeps
 refine IdxS.getG (t:=.int .i64) (i:=0) (hkk.mono (V.keeps0 k46)) hpos ?_
 have hkz:=hkin.rng 0 hpos
 have hempty:MapAt P T.int (.int .i64) (.int .i64) (V No w6) m2 (λ_ _=>False):=MapAt.empty ⟨id,n6.at_⟩
 refine App0.put (kt:=.int .i64) (vt:=.int .i64) (x:=kd 0) (y:=0) intIntTy hempty (intKey (by omega)) λw7 k7 z7 hm7=>?_
 refine Al.mk λb3 w8 n8=>?_
 have e8:=n8.eq;have z8:=n8.size
 have o8:w8.heap[bo]?=some (rowObj (.int .i64) T.int (rowG svs.length λ_=>0)):=by
  rw [← rowG_rep];exact n8.keeps.blk0 (k7.blk (n6.keeps.blk0 (n5.keeps.blk0 n4.at_)) (by omega))
 have ob8:w8.heap[b1]?=some (lObj ⟨none,0,0⟩ ⟨some ⟨bo,0,none⟩,svs.length,svs.length⟩):=n8.keeps.blk0 (k7.blk (n6.keeps.blk0 n5.at_) (by omega))
 have k08:Keeps No wk w8:=(k46.then k7 λb hb h=>by omega).trans n8.keeps
 have hmL:281474976710656≤maxLen:=by decide
 let oS:Sl:=⟨some ⟨bo,0,none⟩,svs.length,svs.length⟩
 let Hd:World→Sl→List Nat→Sl→List LSt→Prop:=λw' fr fs ml ms =>
  Keeps No wk w'∧w'.heap[b1]?=some (lObj ml oS)∧w'.heap[bo]?=some (rowObj (.int .i64) T.int (rowG svs.length λ_=>0)) ∧
  MapAt P T.int (.int .i64) (.int .i64) (V No w') m2 (KeyL kd fs)∧Own w' b3 T.int 1 fr ((fs.map λ(n:Nat)=>(n:Int)).map (Ty.int .i64).enc)∧Own w' w8.heap.size T.least_state 257 ml (ms.map LSt.cells).flatten ∧
  (∀ b,fr.blk b→¬ ml.blk b)∧FsOK svs lv kd fs∧w8.heap.size≤w'.heap.size
 have frLen:∀ {w':World} {fr:Sl} {fs:List Nat},Own w' b3 T.int 1 fr ((fs.map λ(n:Nat)=>(n:Int)).map (Ty.int .i64).enc)→fr.n=fs.length:=λh=>by
  have:=h.len;simpa using this.symm
 have hfs0:FsOK svs lv kd [0]:=⟨λn hn=>by simp at hn;omega,by simp,rfl,λx n hx h0=>by
  cases x with
  | zero=>omega
  | succ x=>simp at hx⟩
 refine Loop.mk (λ(s:Sl × Int) w'=>∃ (i:Nat) (fs:List Nat) (ml:Sl) (ms:List LSt),Hd w' s.1 fs ml ms∧s.2=(i:Int)∧ms.length=i∧i≤fs.length∧MsOK svs lv kd fs ms) (λs=>svs.length - s.2.toNat)
  ⟨0,[0],⟨none,0,0⟩,[],⟨k08,ob8,o8,?_,?_,Own.nil _ _ _ _,λb _ h=>?_,hfs0,Nat.le_refl _⟩,rfl,rfl,by simp,⟨λj m hj=>by simp at hj,by simp [goTop]⟩⟩ ?_
 ·refine MapAt.congr (MapAt.mono hm7 (V.keeps0 n8.keeps)) λk v=>?_
  constructor
  ·rintro (⟨rfl,rfl⟩ | ⟨_,h⟩)
   ·exact⟨0,0,rfl,rfl,rfl⟩
   ·exact h.elim
  ·rintro⟨x,n,hx,rfl,rfl⟩
   cases x with
   | zero=>simp at hx;subst hx;exact .inl ⟨rfl,rfl⟩
   | succ x=>simp at hx
 ·exact⟨by simp,.inr ⟨b3,1,_,rfl,Nat.le_refl _,n8.at_,Nat.le_refl _,by omega,by simp,by simp [Ty.enc]⟩⟩
 ·obtain⟨a,ha,_⟩:=h;cases ha
 rintro⟨fr,ii⟩ w9 ⟨i,fs,ml,ms,⟨k9,ob9,o9,hm9,of9,om9,dj9,hfs9,z9⟩,hii,hmsl,hil,hms⟩ R hR
 dsimp only at hii ob9 of9 dj9 ⊢
 subst hii
 have hfrn:=frLen of9
 have hle9:=hfs9.le
 refine Br.mk (λht=>?_) (λhf=>?_)
 ·have ht:i < fs.length:=by have:=kG ht;omega
  have hn:fs[i]?=some fs[i]:=kC ht
  generalize hgn:fs[i]=n at hn
  have hnN:=hfs9.lt n (kD hn)
  have getN:∀ {w':World} {fr':Sl} {fs':List Nat} {k:Int→Prop},Own w' b3 T.int 1 fr' ((fs'.map λ(n:Nat)=>(n:Int)).map (Ty.int .i64).enc)→fs'[i]?=some n→k n→IdxS fr' (i:Int) 1 λp=>Ld (.int .i64) p w' k:=by
   intro w' fr' fs' k ho hx hk
   refine IdxS.get (t:=.int .i64) (ho.reads (M:=No) λ_ _ h=>h) (by omega) (by rw [List.length_map];exact Int.ofNat_lt.2 (kA hx).1) λx hx'=>?_
   rw [Int.toNat_natCast,List.getElem?_map,hx] at hx'
   cases hx'
   exact hk
  refine getN of9 hn ?_
  refine dfa_Accept_spec (hdk.mono (V.keeps0 k9)) ?_
  refine App.buildG (buildLs _) (Al.mk λb6 w12 n12=>?_)
  rw [rCells_zero] at n12
  refine StA.gen sizeLs n12.at_ (by rw [List.size_toArray,rCells_len]) (by rw [List.size_toArray,rCells_len]) (λu hu=>rCells_one u (by simpa using hu)) λw13 u13=>?_
  have e12:=n12.eq
  have k13:Keeps No w9 w13:=u13.keeps0 n12.keeps (by omega)
  have z13:=k13.size
  have hb6:w9.heap.size≤b6:=by omega
  have lt9:∀ b,fr.blk b→b < w9.heap.size:=λb hb=>(of9.ge hb).2
  have ltm9:∀ b,ml.blk b→b < w9.heap.size:=λb hb=>(om9.ge hb).2
  refine Loop.mk (λ(s:Sl × Int) w'=>∃ (b:Nat) (fs':List Nat) (g:Nat→Int),Hd w' s.1 fs' ml ms∧s.2=(b:Int)∧b≤256∧(∃ l,fs'=fs++l)∧w'.heap[b6]?=some (.cells (rCells g (ac svs n)).toArray T.least_state (0,0)) ∧
    (∀ j,j < b→GoodL svs lv kd fs' n j (g j))∧goTop ((ms.flatMap λm=>rowL m.nx)++(List.range b).map g) 0=some ((fs'.length:Int) - 1)∧¬ s.1.blk b6∧b6 < w'.heap.size) (λs=>256 - s.2.toNat)
   ⟨0,fs,λ_=>0,⟨k9.trans k13,k13.blk0 ob9,k13.blk0 o9,MapAt.mono hm9 (V.keeps0 k13),of9.keep0 k13,om9.keep0 k13,dj9,hfs9,by omega⟩,rfl,by omega,⟨[],by simp⟩,u13.at_,λj hj=>by omega,by simpa using hms.top,λh=>by have:=lt9 _ h;omega,lt_of_some u13.at_⟩ ?_
  rintro⟨fr',bb⟩ w14 ⟨b,fs',g,⟨k14,ob14,o14,hm14,of14,om14,dj14,hfs14,z14⟩,hbb,hb,hext,o6,hg,htop,hn6,hl6⟩ R2 hR2
  dsimp only at hbb ob14 of14 dj14 hn6 ⊢
  subst hbb
  obtain⟨lx,rfl⟩:=hext
  have hfrn':=frLen of14
  have hle14:=hfs14.le
  have hn':(fs++lx)[i]?=some n:=by rw [List.getElem?_append_left ht];exact hn
  have hmblk:∀ c,ml.blk c→w8.heap.size≤c:=λc hc=>(om14.ge hc).1
  have hfblk:∀ c,fr'.blk c→b3≤c:=λc hc=>(of14.ge hc).1
  refine Br.mk (λht2=>?_) (λhf2=>?_)
  ·have ht2:b < 256:=by have:=kG ht2;omega
   have e4':w64 ((b:Int) + 1)=((b + 1:Nat):Int):=by rw [w64_eq (by omega)];omega
   rw [e4']
   have wr:∀ {w':World} {g:Nat→Int} {v:Int} {k:World→Prop},w'.heap[b6]?=some (.cells (rCells g (ac svs n)).toArray T.least_state (0,0))→(∀ w'',Upd b6 (.cells (rCells (λj=>if j=b then v else g j) (ac svs n)).toArray T.least_state (0,0)) w' w''→k w'')→IdxA 256 ⟨b6,0,none⟩ (b:Int) 1 λp=>St p (.int .i64 v) w' k:=by
    intro w' g v k hw hk
    refine⟨⟨by omega,by omega⟩,?_⟩
    rw [add_eq,Nat.mul_one,Int.toNat_natCast,Nat.zero_add]
    refine St.blk hw (by rw [List.size_toArray,rCells_len];omega) λw'' u=>hk w'' ?_
    rw [rCells_set ht2] at u
    exact u
   have keepHd:∀ {w' w'':World} {fr'':Sl} {fs'':List Nat},Hd w' fr'' fs'' ml ms→Keeps (·=b6) w' w''→¬ fr''.blk b6→Hd w'' fr'' fs'' ml ms:=by
    rintro w' w'' fr'' fs'' ⟨h1,h2,h3,h4,h5,h6,h7,h8,h9⟩ k hnb
    refine⟨h1.then k λc hc h=>by have:=k9.size;omega,k.blk h2 (by have:=z9;omega),k.blk h3 (by omega),MapAt.keep h4 k (by omega) id,h5.keep k λc hc h=>by subst hc;exact hnb h,h6.keep k λc hc h=>by subst hc;have:=ltm9 _ h;omega,h7,h8,by have:=k.size;omega⟩
   refine wr o6 λw15 u15=>?_
   have hd15:Hd w15 fr' (fs++lx) ml ms:=keepHd ⟨k14,ob14,o14,hm14,of14,om14,dj14,hfs14,z14⟩ u15.keeps hn6
   obtain⟨k15,ob15,o15,hm15,of15,om15,dj15,hfs15,z15⟩:=hd15
   refine getN of15 hn' ?_
   rw [u8_small ht2]
   refine dfa_Next_spec (hdk.mono (V.keeps0 k15)) ht2 ?_
   rw [A.next ht2]
   have goStep:∀ (g':Nat→Int),(∀ j,j < b→g' j=g j)→goTop ((ms.flatMap λm=>rowL m.nx)++(List.range (b + 1)).map g') 0=goTop [g' b] (((fs++lx).length:Int) - 1):=λg' hg'=>by
    rw [List.range_succ,List.map_append,← List.append_assoc,goTop_append,List.map_congr_left λj hj=>hg' j (by simpa using hj),htop]
    rfl
   have skip:(∀ k,nxt svs n b=some k→lv k=false)→R2 (fr',((b + 1:Nat):Int)) w15:=λhno=>by
    refine hR2 _ _ ⟨b + 1,fs++lx,_,⟨k15,ob15,o15,hm15,of15,om15,dj15,hfs15,z15⟩,rfl,by omega,⟨lx,rfl⟩,u15.at_,λj hj=>?_,?_,hn6,by rw [u15.size];exact hl6⟩ (by dsimp only;omega)
    ·by_cases e:j=b
     ·subst e;exact .inl ⟨by simp,hno⟩
     ·show GoodL _ _ _ _ _ _ (if j=b then _ else g j)
      rw [if_neg e];exact hg j (by omega)
    ·rw [goStep _ λj hj=>if_neg (by omega)]
     simp [goTop]
   cases hx:nxt svs n b with
   | none =>
    simp only [Join,Bool.not_false,Br_true]
    exact skip λk hk=>by rw [hx] at hk;cases hk
   | some k =>
    have hkl:=(A.nxt_lt ht2 hx).1
    simp only [Join,Bool.not_true,Br_false]
    refine IdxS.getG (t:=.bool) (hllk.mono (V.keeps0 k15)) hkl ?_
    refine Br.mk (λhlk=>skip λk' hk'=>?_) (λhlk=>?_)
    ·rw [hx] at hk';cases hk';simpa using hlk
    have hlk:lv k=true:=by simpa using hlk
    refine IdxS.getG (t:=.int .i64) (hkk.mono (V.keeps0 k15)) hkl ?_
    have hkr:=hkin.rng k hkl
    refine App.look2 (kt:=.int .i64) (vt:=.int .i64) (x:=kd k) (z:=0) intIntTy (run_zeroInt w15) (mo:=some m2) hm15 (intKey (by omega)) (λy hy=>?_) (λhno=>?_)
    ·obtain⟨x,m,hxm,hkm,rfl⟩:=hy
     have hxl:=(kA hxm).1
     simp only [Bool.not_true,Br_false]
     refine wr u15.at_ λw16 u16=>?_
     have hd16:Hd w16 fr' (fs++lx) ml ms:=keepHd ⟨k15,ob15,o15,hm15,of15,om15,dj15,hfs15,z15⟩ u16.keeps hn6
     refine hR2 _ _ ⟨b + 1,fs++lx,_,hd16,rfl,by omega,⟨lx,rfl⟩,u16.at_,λj hj=>?_,?_,hn6,by rw [u16.size,u15.size];exact hl6⟩ (by dsimp only;omega)
     ·by_cases e:j=b
      ·subst e;exact .inr ⟨k,x,m,hx,hlk,by simp,hxm,hkm.symm⟩
      ·show GoodL _ _ _ _ _ _ (if j=b then _ else (if j=b then _ else g j))
       rw [if_neg e,if_neg e];exact hg j (by omega)
     ·rw [goStep _ λj hj=>by rw [if_neg (by omega),if_neg (by omega)]]
      simp only [goTop,if_true]
      rw [if_neg (by omega),if_neg (by omega),if_neg (by omega)]
    ·simp only [Bool.not_false,Br_true]
     refine IdxS.getG (t:=.int .i64) (hkk.mono (V.keeps0 k15)) hkl ?_
     refine App0.put (kt:=.int .i64) (vt:=.int .i64) (x:=kd k) (y:=(fr'.n:Int)) intIntTy hm15 (intKey (by omega)) λw16 k16 z16 hm16=>?_
     have of16:=of15.keep k16 λc hc h=>by subst hc;have:=hfblk _ h;omega
     have om16:=om15.keep k16 λc hc h=>by subst hc;have:=hmblk _ h;omega
     have hle15:=hfs15.le
     have hz15:=u15.size
     have hb316:b3≤w16.heap.size:=by omega
     refine append1 (t:=.int .i64) (x:=(k:Int)) elIntM of16 rfl (by omega) (by omega) hb316 λfr2 w17 of17 n17 k17 g17=>?_
     have of17':Own w17 b3 T.int 1 fr2 (((fs++(lx++[k])).map λ(n:Nat)=>(n:Int)).map (Ty.int .i64).enc):=by
      have:((fs++(lx++[k])).map λ(n:Nat)=>(n:Int))=((fs++lx).map λ(n:Nat)=>(n:Int))++[(k:Int)]:=by simp
      rw [this];exact of17
     obtain⟨gb,hgb,hgb2⟩:=g17
     have hfr2:∀ c,fr2.blk c→fr'.blk c∨w16.heap.size≤c:=λc hc=>by
      obtain⟨a,ha,rfl⟩:=hc
      rw [hgb] at ha;cases ha
      exact hgb2
     have nb6:¬ fr2.blk b6:=λh=>(hfr2 _ h).elim hn6 λh'=>by omega
     have hfs17:FsOK svs lv kd (fs++(lx++[k])):=by
      rw [← List.append_assoc]
      refine⟨λq hq=>?_,?_,?_,λx q hq h0=>?_⟩
      ·rcases List.mem_append.1 hq with h | h
       ·exact hfs15.lt q h
       ·simp at h;omega
      ·refine List.pairwise_append.2 ⟨hfs15.ne,by simp,λa ha c hc e=>?_⟩
       simp only [List.mem_singleton] at hc
       subst hc
       obtain⟨x,hx'⟩:=List.getElem?_of_mem ha
       exact hno _ ⟨x,a,hx',e.symm,rfl⟩
      ·have:=hfs15.zero
       rw [List.getElem?_append_left (kA this).1];exact this
      ·by_cases hxl:x < (fs++lx).length
       ·rw [List.getElem?_append_left hxl] at hq;exact hfs15.live x q hq h0
       ·rw [List.getElem?_append_right (by omega)] at hq
        have:q=k:=by
         have h1:=kD hq
         simpa using h1
        rw [this];exact hlk
     have hd17:Hd w17 fr2 (fs++(lx++[k])) ml ms:=by
      refine⟨(k15.then k16 λc hc h=>by omega).then k17 λc hc h=>by have:=hfblk c h;omega,k17.blk (k16.blk ob15 (by omega)) (λh=>by have:=hfblk _ h;omega),k17.blk (k16.blk o15 (by omega)) (λh=>by have:=hfblk _ h;omega),?_,of17',om16.keep k17 λc hc h=>dj15 c hc h,λc hc hm=>?_,hfs17,by have:=k17.size;omega⟩
      ·refine MapAt.congr (MapAt.keep hm16 k17 (λh=>by have:=hfblk _ h;omega) id) λkk' v=>?_
       constructor
       ·rintro (⟨rfl,rfl⟩ | ⟨hne,x,m,hxm,rfl,rfl⟩)
        ·refine⟨(fs++lx).length,k,by rw [← List.append_assoc];simp,rfl,by rw [hfrn']⟩
        ·refine⟨x,m,?_,rfl,rfl⟩
         rw [← List.append_assoc,List.getElem?_append_left (kA hxm).1];exact hxm
       ·rintro⟨x,m,hxm,rfl,rfl⟩
        rw [← List.append_assoc] at hxm
        by_cases hxl:x < (fs++lx).length
        ·rw [List.getElem?_append_left hxl] at hxm
         exact .inr ⟨λe=>hno _ ⟨x,m,hxm,e.symm,rfl⟩,x,m,hxm,rfl,rfl⟩
        ·rw [List.getElem?_append_right (by omega)] at hxm
         have h1:m=k:=by have h1:=kD hxm;simpa using h1
         have h2:=(kA hxm).1
         simp only [List.length_cons,List.length_nil] at h2
         have h3:x=(fs++lx).length:=by omega
         exact .inl ⟨by rw [h1],by rw [hfrn',h3]⟩
      ·exact (hfr2 c hc).elim (λh=>dj15 c h hm) λh=>by have:=(om15.ge hm).2;omega
     have o6':w17.heap[b6]?=_:=k17.blk (k16.blk u15.at_ (by omega)) hn6
     refine wr o6' λw18 u18=>?_
     have hd18:=keepHd hd17 u18.keeps nb6
     refine hR2 _ _ ⟨b + 1,fs++(lx++[k]),_,hd18,rfl,by omega,⟨_,rfl⟩,u18.at_,λj hj=>?_,?_,nb6,lt_of_some u18.at_⟩ (by dsimp only;omega)
     ·by_cases e:j=b
      ·subst e
       refine .inr ⟨k,(fs++lx).length,k,hx,hlk,?_,by rw [← List.append_assoc];simp,rfl⟩
       simp [hfrn']
      ·show GoodL _ _ _ _ _ _ (if j=b then _ else (if j=b then _ else g j))
       rw [if_neg e,if_neg e,← List.append_assoc];exact (hg j (by omega)).mono
     ·rw [goStep _ λj hj=>by rw [if_neg (by omega),if_neg (by omega)]]
      simp only [goTop,if_true]
      rw [hfrn',if_neg (by omega),if_neg (by omega),if_pos (by omega)]
      simp
      omega
  ·have hf2:b=256:=by have:=kF hf2;omega
   subst hf2
   refine DrawN.mk λw24 h24 k24=>?_
   have hmln:ml.n=ms.length:=by
    have:=om14.len
    rw [flatten_len LSt.lens,List.length_map] at this
    omega
   have ob24:=k24.blk0 ob14
   have o624:=k24.blk0 o6
   have z24:=k24.size
   have tail:∀ {w':World} {bn:Nat},Keeps No w24 w'→w'.heap[bn]?=some (.cells (rCells g (ac svs n)).toArray T.least_state (0,0)) →
     App P (Builtin.append_ #[T.sl_least_state,T.sl_least_state] T.sl_least_state #[.slice ml.a ml.n ml.c,.slice (some ⟨bn,0,none⟩) 1 1]) (.one .sl) w' λx111 w26=>(True∧St ⟨b1,0,none⟩ (.slice x111.a x111.n x111.c) w26 λw27=>(True∧R (fr',w64 ((i:Int) + 1)) w27)):=by
    intro w' bn k' hbn
    have z':=k'.size
    refine appendC (c:=rCells g (ac svs n)) (xs:=ms.map LSt.cells) elLs ((om14.keep0 k24).keep0 k') rCells_len hbn rCells_one (by omega) (by omega) (by omega) λml2 w26 om26 n26 k26 g26=>⟨trivial,?_⟩
    obtain⟨gb,hgb,hgb2⟩:=g26
    have hml2:∀ c,ml2.blk c→ml.blk c∨w'.heap.size≤c:=λc hc=>by
     obtain⟨a,ha,rfl⟩:=hc
     rw [hgb] at ha;cases ha
     exact hgb2
    have ob26:=k26.blk (k'.blk0 ob24) (λh=>by have:=hmblk _ h;omega)
    refine St.blk ob26 (by show 0 < 2;omega) λw27 u27=>⟨trivial,?_⟩
    have e4':w64 ((i:Int) + 1)=((i + 1:Nat):Int):=by rw [w64_eq (by omega)];omega
    rw [e4']
    have om26':Own w26 w8.heap.size T.least_state 257 ml2 ((ms++[(⟨g,ac svs n⟩:LSt)]).map LSt.cells).flatten:=by rw [List.map_append];exact om26
    refine hR _ _ ⟨i + 1,fs++lx,ml2,ms++[(⟨g,ac svs n⟩:LSt)],⟨?_,u27.at_,?_,?_,?_,om26'.keep u27.keeps λc hc h=>?_,λc hc h=>?_,hfs14,?_⟩,rfl,by simp [hmsl],by simp;omega,⟨λj m hj=>?_,?_⟩⟩ (by dsimp only;omega)
    ·exact (((k14.then0 k24).then0 k').then k26 λc hc h=>by have:=hmblk c h;omega).then u27.keeps λc hc h=>by omega
    ·exact u27.keeps.blk (k26.blk (k'.blk0 (k24.blk0 o14)) λh=>by have:=hmblk _ h;omega) (by omega)
    ·exact MapAt.keep (MapAt.keep (MapAt.mono hm14 (V.keeps0 (k24.trans k'))) k26 (λh=>by have:=hmblk _ h;omega) (M':=No) id) u27.keeps (by omega) id
    ·exact (((of14.keep0 k24).keep0 k').keep k26 λc hc h=>dj14 c h hc).keep u27.keeps λc hc h=>by subst hc;have:=hfblk _ h;omega
    ·subst hc
     rcases hml2 _ h with h | h
     ·have:=hmblk _ h;omega
     ·omega
    ·rcases hml2 _ h with h | h
     ·exact dj14 c hc h
     ·have:=(of14.ge hc).2;omega
    ·have:=k26.size;have:=u27.keeps.size;omega
    ·by_cases hjl:j < ms.length
     ·rw [List.getElem?_append_left hjl] at hj
      obtain⟨q,h1,h2,h3⟩:=hms.each j m hj
      exact⟨q,by rw [List.getElem?_append_left (kA h1).1];exact h1,h2,λb' hb'=>(h3 b' hb').mono⟩
     ·have hlen:=(kA hj).1
      simp only [List.length_append,List.length_cons,List.length_nil] at hlen
      have hji:j=i:=by omega
      subst hji
      rw [List.getElem?_append_right (by omega)] at hj
      have hm:m=(⟨g,ac svs n⟩:LSt):=by have h1:=kD hj;simpa using h1
      subst hm
      exact⟨n,hn',rfl,hg⟩
    ·rw [List.flatMap_append]
     simp only [List.flatMap_cons,List.flatMap_nil,List.append_nil]
     exact htop
   refine⟨Ld.slv (l:=ml) (cell_of ob24 rfl) ⟨trivial,LdA.gen (c:=rCells g (ac svs n)) rCells_len (λj u hu=>cell_of o624 (by simpa using hu)) ⟨trivial,App.slice1G elLs (by simp [rCells_len]) (by omega) (by omega) λbn w25 n25=>⟨trivial,tail n25.keeps n25.at_⟩⟩⟩,
    LdA.gen (c:=rCells g (ac svs n)) rCells_len (λj u hu=>cell_of o624 (by simpa using hu)) ⟨trivial,Ld.slv (l:=ml) (cell_of ob24 rfl) ⟨trivial,App.slice1G elLs (by simp [rCells_len]) (by omega) (by omega) λbn w25 n25=>⟨trivial,tail n25.keeps n25.at_⟩⟩,
     App.slice1G elLs (by simp [rCells_len]) (by omega) (by omega) λbn w25 n25=>⟨trivial,Ld.slv (l:=ml) (cell_of (n25.keeps.blk0 ob24) rfl) ⟨trivial,tail n25.keeps n25.at_⟩⟩⟩⟩
 ·have hf:i=fs.length:=by have:=kF hf;omega
  refine Ld.slv (l:=oS) (cell_of ob9 rfl) ?_
  have hmblk:∀ c,ml.blk c→w8.heap.size≤c:=λc hc=>(om9.ge hc).1
  refine Loop.mk (λ(s:Int) w'=>Keeps (·=bo) w9 w'∧∃ (q:Nat) (of_:Nat→Int),q≤svs.length∧s=(q:Int)∧w'.heap[bo]?=some (rowObj (.int .i64) T.int (rowG svs.length of_))∧∀ n,n < q→OfOK lv kd fs n (of_ n)) (λs=>svs.length - s.toNat)
   ⟨.refl,0,_,by omega,rfl,o9,λn hn=>by omega⟩ ?_
  rintro s w10 ⟨k10,q,of_,hq,rfl,o10,hof⟩ R3 hR3
  have ob10:=k10.blk ob9 (by omega)
  have kw10:Keeps No wk w10:=k9.then k10 λc hc h=>by omega
  refine Br.mk (λht=>?_) (λhf3=>?_)
  ·have ht:q < svs.length:=by have h9:(_:Int) < (svs.length:Int):=kG ht;omega
   have e4':w64 ((q:Int) + 1)=((q + 1:Nat):Int):=by rw [w64_eq (by omega)];omega
   rw [e4']
   refine Ld.slv (l:=oS) (cell_of ob10 rfl) ?_
   refine IdxS.putG (t:=.int .i64) (v:=(-1:Int)) o10 ht λw11 u11=>?_
   have kw11:Keeps No wk w11:=kw10.then u11.keeps λc hc h=>by omega
   have k911:Keeps (·=bo) w9 w11:=k10.trans u11.keeps
   have ob11:=u11.keeps.blk ob10 (by omega)
   refine IdxS.getG (t:=.int .i64) (hkk.mono (V.keeps0 kw11)) ht ?_
   have hkr:=hkin.rng q ht
   have hm11:MapAt P T.int (.int .i64) (.int .i64) (V No w11) m2 (KeyL kd fs):=MapAt.keep hm9 k911 (by omega) id
   have keepOf:∀ {v:Int} {w':World} {f:Nat→Int},Keeps (·=bo) w9 w'→w'.heap[bo]?=some (rowObj (.int .i64) T.int (rowG svs.length f))→(∀ n,n < q→f n=of_ n)→OfOK lv kd fs q (f q)→R3 ((q + 1:Nat):Int) w':=λ{v w' f} k h hold hnew=>by
    refine hR3 _ _ ⟨k,q + 1,f,by omega,rfl,h,λn hn=>?_⟩ (by omega)
    by_cases e:n=q
    ·subst e;exact hnew
    ·rw [hold n (by omega)];exact hof n (by omega)
   refine App.look2 (kt:=.int .i64) (vt:=.int .i64) (x:=kd q) (z:=0) intIntTy (run_zeroInt w11) (mo:=some m2) hm11 (intKey (by omega)) (λy hy=>?_) (λhno=>?_)
   ·obtain⟨x,m,hxm,hkm,rfl⟩:=hy
    refine Join.cut (λ(s17:Bool) w'=>w'=w11∧(s17=true↔lv q=true∨q=0)) ?_ ?_
    ·rintro s17 w' ⟨rfl,h17⟩
     refine Br.mk (λh=>?_) (λh=>?_)
     ·refine Ld.slv (l:=oS) (cell_of ob11 rfl) ?_
      refine IdxS.putG (t:=.int .i64) (v:=(x:Int)) u11.at_ ht λw12 u12=>?_
      refine keepOf (v:=0) (k911.trans u12.keeps) u12.at_ (λn hn=>by rw [if_neg (by omega),if_neg (by omega)]) (.inl ⟨x,m,hxm,hkm.symm,h17.1 h,by simp⟩)
     ·refine keepOf (v:=0) k911 u11.at_ (λn hn=>if_neg (by omega)) (.inr ⟨by simp,λhh=>?_⟩)
      rw [h17.2 hh.1] at h;cases h
    ·intro j hj
     simp only [Br_true]
     refine IdxS.getG (t:=.bool) (hllk.mono (V.keeps0 kw11)) ht ?_
     refine Br.mk (λh=>hj _ _ ⟨rfl,by simp [h]⟩) (λh=>hj _ _ ⟨rfl,?_⟩)
     simp [h]
   ·simp only [Join,Br_false]
    refine keepOf (v:=0) k911 u11.at_ (λn hn=>if_neg (by omega)) (.inr ⟨by simp,λhh=>?_⟩)
    obtain⟨_,x,m,hxm,hkm⟩:=hh
    exact hno _ ⟨x,m,hxm,hkm.symm,rfl⟩
  ·have hf3:q=svs.length:=by have h9:¬ (_:Int) < (svs.length:Int):=kF hf3;omega
   subst hf3
   refine hK _ lv kd fs ms of_ w10 (kwk.trans kw10) ⟨b1,ml,oS,rfl,⟨λh=>by have h:b1 < w.heap.size:=h;have:=kwk.size;omega,ob10⟩,(om9.keep k10 λc hc h=>by subst hc;have:=hmblk _ h;omega).readsC (by omega) LSt.lens λc hc h=>by have h:c < w.heap.size:=h;have:=(om9.ge hc).1;have:=kwk.size;omega,Row.sl o10 (λh=>by have h:bo < w.heap.size:=h;have:=kwk.size;omega) rowG_len.symm⟩ ⟨hlv,hkin,hstab,hfs9,hms,by omega,hof⟩
end Go.Fk
end
section
namespace Go.Fk
open Go Go.MapKept
def LeastO (H:View) (p:Option Addr) (N:Nat) (ms:List LSt) (of_:Nat→Int):Prop:=(p=none∧ms=[]∧N=0)∨LeastV H p N ms of_
def mAt (ms:List LSt) (n:Int):Option LSt:=if 0≤n then ms[n.toNat]? else none
def mNext (ms:List LSt) (n:Int) (b:Nat):Int × Bool:=match mAt ms n with
 | some m=>if m.nx b=-1 then (0,false) else (m.nx b,true)
 | none=>(0,false)
def mAcc (ms:List LSt) (n:Int):Int:=((mAt ms n).map LSt.acc).getD (-1)
def mRun (ms:List LSt) (s:List UInt8):Int × Bool→Int × Bool
 | st=>s.foldl (λ(st:Int × Bool) c=>if st.2=true then mNext ms st.1 c.toNat else st) st
def mLong (ms:List LSt):List UInt8→Int × Int × Int × Nat→Int × Int × Int
 | [],st=>(st.1,st.2.1,st.2.2.2)
 | c::l,st=>if (mNext ms st.2.2.1 c.toNat).2=true then
   (if mAcc ms (mNext ms st.2.2.1 c.toNat).1=-1 then mLong ms l (st.1,st.2.1,(mNext ms st.2.2.1 c.toNat).1,st.2.2.2 + 1)
    else mLong ms l (mAcc ms (mNext ms st.2.2.1 c.toNat).1,((st.2.2.2 + 1:Nat):Int),(mNext ms st.2.2.1 c.toNat).1,st.2.2.2 + 1))
  else (st.1,st.2.1,((st.2.2.2 + 1:Nat):Int))
section
variable {w:World} {p:Option Addr} {N:Nat} {ms:List LSt} {of_:Nat→Int}
theorem mAt_in {n:Int} {m:LSt} (h0:0≤n) (h:ms[n.toNat]?=some m):mAt ms n=some m:=by simp [mAt,h0,h]
theorem mAt_out {n:Int} (h:¬ (0≤n∧n < ms.length)):mAt ms n=none:=by
 unfold mAt
 split
 ·exact List.getElem?_eq_none (by omega)
 ·rfl
theorem least_States_spec (h:LeastO (V No w) p N ms of_) {K:Int→World→Prop} (hK:K ms.length w):least_Least_States.C p w K:=by
 refine least_Least_States.ok _ _ _ ?_
 simp only [least_Least_States.M]
 rcases h with⟨rfl,rfl,_⟩ | ⟨b,l,o,rfl,h2,h3,h4⟩
 ·exact hK
 ·show Ld _ _ _ _
  refine Ld.slv (l:=l) (cell_of h2.2 rfl) ?_
  have:=h3.1
  simp only [List.length_map] at this
  rw [this];exact hK
theorem least_has_spec (h:LeastO (V No w) p N ms of_) {n:Int} {K:Bool→World→Prop} (hK:K (decide (0≤n∧n < ms.length)) w):least_Least_has.C p n w K:=by
 refine least_Least_has.ok _ _ _ _ ?_
 simp only [least_Least_has.M]
 refine Br.mk (λh0=>least_States_spec h ?_) (λh0=>?_)
 ·have h0:=kG h0
  have:decide (n < (ms.length:Int))=decide (0≤n∧n < ms.length):=by rw [decide_eq_decide];omega
  rw [this];exact hK
 ·have h0:=kF h0
  rwa [decide_eq_false (by omega)] at hK
theorem least_Next_spec (h:LeastO (V No w) p N ms of_) {n:Int} {b:Nat} (hb:b < 256) {K:(Int × Bool)→World→Prop} (hK:K (mNext ms n b) w):least_Least_Next.C p n b w K:=by
 refine least_Least_Next.ok _ _ _ _ _ ?_
 simp only [least_Least_Next.M]
 have cellN:∀ {l:Sl} {m:LSt} {k:Int→Prop},SlC (V No w) l 257 (ms.map LSt.cells)→0≤n→n < ms.length→ms[n.toNat]?=some m→k (m.nx b)→IdxS l n 257 λp19=>IdxA 256 p19 b 1 λp21=>Ld (.int .i64) p21 w k:=by
  intro l m k h3 h0 h1 hm hk
  refine IdxS.recd h3 h0 (by simpa using h1) λg off cs hcs hcell=>?_
  simp only [List.getElem?_map,hm,Option.map_some,Option.some.injEq] at hcs
  subst hcs
  refine⟨⟨by omega,by omega⟩,?_⟩
  rw [add_eq,Nat.mul_one,Int.toNat_natCast]
  exact Ld.int (hcell b _ (rCells_get hb)) hk
 refine Join.cut (λs w'=>w'=w∧(s=true→mNext ms n b=(0,false))∧(s=false→∃ m,0≤n∧n < ms.length∧ms[n.toNat]?=some m∧m.nx b≠-1)) ?_ ?_
 ·rintro s w' ⟨rfl,g1,g2⟩
  refine Br.mk (λht=>?_) (λhf=>?_)
  ·rw [g1 ht] at hK;exact hK
  ·obtain⟨m,h0,h1,hm,hne⟩:=g2 hf
   rcases h with⟨_,rfl,_⟩ | ⟨bl,l,o,rfl,h2,h3,h4⟩
   ·simp at h1;omega
   ·simp only [NilC_some]
    refine Ld.slv (l:=l) (cell_of h2.2 rfl) ?_
    refine cellN h3 h0 h1 hm ?_
    have:mNext ms n b=(m.nx b,true):=by simp [mNext,mAt_in h0 hm,hne]
    rw [this] at hK;exact hK
 ·intro j hj
  refine least_has_spec h ?_
  refine Br.mk (λhn=>?_) (λhn=>?_)
  ·have hn:¬ (0≤n∧n < ms.length):=kF ((Bool.not_eq_true' _).mp hn)
   exact hj _ _ ⟨rfl,λ_=>by simp [mNext,mAt_out hn],λe=>by cases e⟩
  ·have hn:0≤n∧n < ms.length:=by simpa using hn
   have hm:ms[n.toNat]?=some ms[n.toNat]:=kC (by omega)
   generalize ms[n.toNat]=m at hm
   rcases h with⟨_,rfl,_⟩ | ⟨bl,l,o,rfl,h2,h3,h4⟩
   ·simp at hn;omega
   ·simp only [NilC_some]
    refine Ld.slv (l:=l) (cell_of h2.2 rfl) ?_
    refine cellN h3 hn.1 hn.2 hm ?_
    refine hj _ _ ⟨rfl,λe=>?_,λe=>⟨m,hn.1,hn.2,hm,by simpa using e⟩⟩
    have:m.nx b=-1:=by simpa using e
    simp [mNext,mAt_in hn.1 hm,this]
theorem least_Accept_spec (h:LeastO (V No w) p N ms of_) {n:Int} {K:Int→World→Prop} (hK:K (mAcc ms n) w):least_Least_Accept.C p n w K:=by
 refine least_Least_Accept.ok _ _ _ _ ?_
 simp only [least_Least_Accept.M]
 refine least_has_spec h ?_
 refine Br.mk (λhn=>?_) (λhn=>?_)
 ·have hn:¬ (0≤n∧n < ms.length):=kF ((Bool.not_eq_true' _).mp hn)
  have:mAcc ms n=-1:=by simp [mAcc,mAt_out hn]
  rw [this] at hK;exact hK
 ·have hn:0≤n∧n < ms.length:=by simpa using hn
  have hm:ms[n.toNat]?=some ms[n.toNat]:=kC (by omega)
  generalize ms[n.toNat]=m at hm
  rcases h with⟨_,rfl,_⟩ | ⟨bl,l,o,rfl,h2,h3,h4⟩
  ·simp at hn;omega
  ·simp only [NilC_some]
   refine Ld.slv (l:=l) (cell_of h2.2 rfl) ?_
   refine IdxS.recd h3 hn.1 (by simpa using hn.2) λg off cs hcs hcell=>?_
   simp only [List.getElem?_map,hm,Option.map_some,Option.some.injEq] at hcs
   subst hcs
   rw [add_eq]
   refine Ld.int (hcell 256 _ rCells_own) ?_
   have:mAcc ms n=m.acc:=by simp [mAcc,mAt_in hn.1 hm]
   rw [this] at hK;exact hK
theorem least_Run_spec (h:LeastO (V No w) p N ms of_) {s:ByteArray} (hs:s.size≤1000000) {K:(Int × Bool)→World→Prop} (hK:K (mRun ms (bs s) (0,!p.isNone)) w):least_Least_Run.C p s w K:=by
 have hsz:=size_bs s
 refine least_Least_Run.ok _ _ _ _ ?_
 simp only [least_Least_Run.M]
 refine Loop.mk (λt w'=>w'=w∧∃ j:Nat,j≤s.size∧t.2.2=(j:Int)∧mRun ms ((bs s).drop j) (t.1,t.2.1)=mRun ms (bs s) (0,!p.isNone)) (λt=>s.size - t.2.2.toNat) ⟨rfl,0,by omega,rfl,by simp⟩ ?_
 rintro⟨n,ok,jj⟩ w' ⟨rfl,j,hj,hjj,hrun⟩ R hR
 dsimp only at hjj hrun ⊢
 subst hjj
 refine Join.cut (λ(b:Bool) w''=>w''=w'∧(b=true→j < s.size∧ok=true)∧(b=false→¬ (j < s.size∧ok=true))) ?_ ?_
 ·rintro b w'' ⟨rfl,g1,g2⟩
  refine Br.mk (λhb=>?_) (λhb=>?_)
  ·obtain⟨h1,rfl⟩:=g1 hb
   refine IdxStr.get (by omega) (by omega) λc hc=>?_
   simp only [Int.toNat_natCast] at hc
   refine least_Next_spec h (by have:=c.toNat_lt;omega) ?_
   rw [w64_eq (by omega)]
   refine hR _ _ ⟨rfl,j + 1,by omega,by simp,?_⟩ (by dsimp only;omega)
   rw [← hrun]
   have hd:(bs s).drop j=c::(bs s).drop (j + 1):=by
    obtain⟨hl,he⟩:=kA hc
    rw [List.drop_eq_getElem_cons hl,he]
   rw [hd]
   simp [mRun]
  ·have hno:=g2 hb
   have:mRun ms ((bs s).drop j) (n,ok)=(n,ok):=by
    by_cases h1:j < s.size
    ·have hok:ok=false:=by cases ok with | false=>rfl | true=>exact absurd ⟨h1,rfl⟩ hno
     subst hok
     have:∀ l:List UInt8,mRun ms l (n,false)=(n,false):=by
      intro l
      induction l with
      | nil=>rfl
      | cons c l ih=>simpa [mRun] using ih
     exact this _
    ·rw [List.drop_of_length_le (by omega)];rfl
   rw [← hrun,this] at hK
   exact hK
 ·intro jk hjk
  refine Br.mk (λhlt=>?_) (λhlt=>?_)
  ·have hlt:j < s.size:=by have:=kG hlt;omega
   exact hjk _ _ ⟨rfl,λe=>⟨hlt,e⟩,λe h=>by rw [h.2] at e;cases e⟩
  ·have hlt:¬ j < s.size:=by have:=kF hlt;omega
   exact hjk _ _ ⟨rfl,(λe=>by cases e),λ_ h=>hlt h.1⟩
theorem least_Longest_spec (h:LeastO (V No w) p N ms of_) {s:ByteArray} (hs:s.size≤1000000) {K:(Int × Int × Int)→World→Prop} (hK:K (mLong ms (bs s) (-1,0,0,0)) w):least_Least_Longest.C p s w K:=by
 have hsz:=size_bs s
 refine least_Least_Longest.ok _ _ _ _ ?_
 simp only [least_Least_Longest.M]
 refine Loop.mk (λt w'=>w'=w∧∃ j:Nat,j≤s.size∧t.2.2.2=(j:Int)∧mLong ms ((bs s).drop j) (t.1,t.2.1,t.2.2.1,j)=mLong ms (bs s) (-1,0,0,0)) (λt=>s.size - t.2.2.2.toNat) ⟨rfl,0,by omega,rfl,by simp⟩ ?_
 rintro⟨r,z,n,jj⟩ w' ⟨rfl,j,hj,hjj,hrun⟩ R hR
 dsimp only at hjj hrun ⊢
 subst hjj
 refine Br.mk (λhlt=>?_) (λhlt=>?_)
 ·have hlt:j < s.size:=by have:=kG hlt;omega
  have e4:w64 ((j:Int) + 1)=((j + 1:Nat):Int):=by rw [w64_eq (by omega)];omega
  rw [e4]
  refine IdxStr.get (by omega) (by omega) λc hc=>?_
  simp only [Int.toNat_natCast] at hc
  have hd:(bs s).drop j=c::(bs s).drop (j + 1):=by
   obtain⟨hl,he⟩:=kA hc
   rw [List.drop_eq_getElem_cons hl,he]
  rw [hd,mLong] at hrun
  dsimp only at hrun
  refine least_Next_spec h (by have:=c.toNat_lt;omega) ?_
  refine Br.mk (λhx=>?_) (λhx=>?_)
  ·have hx:(mNext ms n c.toNat).2=false:=by simpa using hx
   rw [hx] at hrun
   simp only [Bool.false_eq_true,if_false] at hrun
   rw [← hrun] at hK
   exact hK
  ·have hx:(mNext ms n c.toNat).2=true:=by simpa using hx
   rw [if_pos hx] at hrun
   refine least_Accept_spec h ?_
   refine Br.mk (λha=>least_Accept_spec h ?_) (λha=>?_)
   ·have ha:mAcc ms (mNext ms n c.toNat).1≠-1:=by simpa using ha
    rw [if_neg ha] at hrun
    exact hR _ _ ⟨rfl,j + 1,by omega,rfl,hrun⟩ (by dsimp only;omega)
   ·have ha:mAcc ms (mNext ms n c.toNat).1=-1:=by simpa using ha
    rw [if_pos ha] at hrun
    exact hR _ _ ⟨rfl,j + 1,by omega,rfl,hrun⟩ (by dsimp only;omega)
 ·have hlt:j=s.size:=by have:=kF hlt;omega
  rw [List.drop_of_length_le (by omega),mLong] at hrun
  dsimp only at hrun
  rw [← hrun,hlt] at hK
  exact hK
end
end Go.Fk
end
section
namespace Go.Fk
open Go
section
variable {ys:List Re} {svs:List DSt} {cl:Nat→Int} {nc:Int}
theorem Aut.of (h:DfaOK (mFs 0 ys) (mFol 0 ys) (mKs 0 ys) svs cl nc) (hy:ys.length≤100000):Aut svs where
 pos:=by
  obtain⟨sv,g,_⟩:=h.sts.zero
  exact (kA g).1
 few:=h.few
 rng sv hs c hc:=by
  rcases h.good hs hc with⟨h1,_⟩ | ⟨i,sv',h0,h1,h2,_⟩
  ·exact .inl h1
  ·have:=(kA h2).1
   right;omega
 acc sv hs:=by
  have hlen:(mKs 0 ys).length=ys.length:=mKs_len ys 0
  rcases h.sts.acc sv hs with⟨h1,_⟩ | ⟨⟨h0,p,hp,h1,h2⟩,_⟩
  ·omega
  ·refine⟨by omega,?_⟩
   refine Classical.byContradiction λhn=>?_
   unfold lastAt at h1
   rw [knAt_out (by omega)] at h1
   exact h1
theorem runFrom_cons {c:UInt8} {l:List UInt8} {a:Int}:runFrom svs (c::l) (a,true)=runFrom svs l (nextOf svs a c.toNat):=by simp [runFrom]
theorem runFrom_false {n:Int}:∀ l:List UInt8,runFrom svs l (n,false)=(n,false)
 | []=>rfl
 | c::l=>by have:=runFrom_false (n:=n) l;simpa [runFrom] using this
theorem mRun_cons {ms:List LSt} {c:UInt8} {l:List UInt8} {a:Int}:mRun ms (c::l) (a,true)=mRun ms l (mNext ms a c.toNat):=by simp [mRun]
theorem mRun_false {ms:List LSt} {n:Int}:∀ l:List UInt8,mRun ms l (n,false)=(n,false)
 | []=>rfl
 | c::l=>by have:=mRun_false (ms:=ms) (n:=n) l;simpa [mRun] using this
theorem runFrom_append (l m:List UInt8) (st:Int × Bool):runFrom svs (l++m) st=runFrom svs m (runFrom svs l st):=by simp [runFrom,List.foldl_append]
theorem mRun_append {ms:List LSt} (l m:List UInt8) (st:Int × Bool):mRun ms (l++m) st=mRun ms m (mRun ms l st):=by simp [mRun,List.foldl_append]
theorem ac_in {n:Nat} (h:ac svs n≠-1):n < svs.length:=by
 refine Classical.byContradiction λhn=>h ?_
 unfold ac accOf
 rw [stAt_out (by omega)];rfl
theorem dead_run (A:Aut svs):∀ (l:List UInt8) (i:Nat),¬ Alive svs i→(runFrom svs l ((i:Int),true)).2=true→accOf svs (runFrom svs l ((i:Int),true)).1=-1
 | [],i,h,_=>by
  refine Classical.byContradiction λhn=>h ?_
  have hn:ac svs i≠-1:=hn
  exact .acc (ac_in hn) hn
 | c::l,i,h,h2=>by
  rw [runFrom_cons] at h2 ⊢
  have hc:c.toNat < 256:=by have:=c.toNat_lt;omega
  rw [A.next hc] at h2 ⊢
  cases hx:nxt svs i c.toNat with
  | none=>rw [hx] at h2;dsimp only at h2;rw [runFrom_false] at h2;cases h2
  | some k =>
   rw [hx] at h2
   dsimp only at h2 ⊢
   exact dead_run A l k (λhk=>h (.step hc hx hk)) h2
theorem alive_run (A:Aut svs) {i:Nat} (h:Alive svs i):∃ (l:List UInt8) (k:Nat),runFrom svs l ((i:Int),true)=((k:Int),true)∧ac svs k≠-1:=by
 induction h with
 | acc hn ha=>exact⟨[],_,rfl,ha⟩
 | step hb hx _ ih =>
  obtain⟨l,k',h1,h2⟩:=ih
  rename_i n b k hk
  have hb':(UInt8.ofNat b).toNat=b:=by simp [UInt8.toNat_ofNat'];omega
  refine⟨UInt8.ofNat b::l,k',?_,h2⟩
  rw [runFrom_cons,hb',A.next hb,hx]
  exact h1
variable {lv:Nat→Bool} {kd:Nat→Int} {fs:List Nat} {ms:List LSt} {of_:Nat→Int}
def Rel (svs:List DSt) (kd:Nat→Int) (fs:List Nat) (x:Int) (i:Nat):Prop:=∃ (xn m:Nat),x=xn∧fs[xn]?=some m∧kd m=kd i∧i < svs.length
theorem LeastOK.rel0 (L:LeastOK svs lv kd fs ms of_) (A:Aut svs):Rel svs kd fs 0 0:=⟨0,0,rfl,L.fsok.zero,rfl,A.pos⟩
theorem LeastOK.at_ (L:LeastOK svs lv kd fs ms of_) {x m:Nat} (h:fs[x]?=some m):∃ s,ms[x]?=some s∧mAt ms (x:Int)=some s∧s.acc=ac svs m∧∀ b,b < 256→GoodL svs lv kd fs m b (s.nx b):=by
 have hx:=(kA h).1
 have hxm:x < ms.length:=by rw [L.len];exact hx
 have hs:ms[x]?=some ms[x]:=kC hxm
 obtain⟨n,h1,h2,h3⟩:=L.msok.each x _ hs
 rw [h] at h1
 cases h1
 exact⟨_,hs,mAt_in (by omega) (by simpa using hs),h2,h3⟩
theorem LeastOK.next (L:LeastOK svs lv kd fs ms of_) (A:Aut svs) {x:Int} {i b:Nat} (h:Rel svs kd fs x i) (hb:b < 256) :
  (∃ (k:Nat) (y:Int),nxt svs i b=some k∧lv k=true∧mNext ms x b=(y,true)∧Rel svs kd fs y k)∨(mNext ms x b=(0,false)∧∀ k,nxt svs i b=some k→lv k=false):=by
 obtain⟨xn,m,rfl,hx,hk,hi⟩:=h
 obtain⟨s,h1,h2,_,h4⟩:=L.at_ hx
 have hm:=L.fsok.lt m (kD hx)
 have hst:=L.stable m i hm hi hk b hb
 rcases h4 b hb with⟨g1,g2⟩ | ⟨k0,y,m',g1,g2,g3,g4,g5⟩
 ·right
  refine⟨by simp [mNext,h2,g1],λk hk'=>?_⟩
  have e1:kNext svs lv kd m b=-1:=by
   unfold kNext
   cases hn:nxt svs m b with
   | none=>rfl
   | some k1=>simp [g2 k1 hn]
  rw [e1] at hst
  have:=(L.kinds.rng k (A.nxt_lt hb hk').1).1
  unfold kNext at hst
  rw [hk'] at hst
  dsimp only at hst
  by_cases hl:lv k=true
  ·rw [if_pos hl] at hst;omega
  ·simpa using hl
 ·left
  have e1:kNext svs lv kd m b=kd k0:=by unfold kNext;rw [g1];simp [g2]
  rw [e1] at hst
  have hr:=(L.kinds.rng k0 (A.nxt_lt hb g1).1).1
  unfold kNext at hst
  cases hn:nxt svs i b with
  | none=>rw [hn] at hst;dsimp only at hst;omega
  | some k =>
   rw [hn] at hst
   dsimp only at hst
   by_cases hl:lv k=true
   ·rw [if_pos hl] at hst
    refine⟨k,y,rfl,hl,?_,y,m',rfl,g4,g5.trans hst,(A.nxt_lt hb hn).1⟩
    have:¬ (y:Int)=-1:=by omega
    simp [mNext,h2,g3,this]
   ·rw [if_neg hl] at hst;omega
theorem LeastOK.ac_live (L:LeastOK svs lv kd fs ms of_) {i:Nat} (h:lv i=false):ac svs i=-1:=by
 refine Classical.byContradiction λhn=>?_
 have:=(L.alive i (ac_in hn)).2 (.acc (ac_in hn) hn)
 rw [h] at this;cases this
theorem LeastOK.kd_eq (L:LeastOK svs lv kd fs ms of_) (A:Aut svs) {i j:Nat} (hi:i < svs.length) (hj:j < svs.length) (h:kd i=kd j):lv i=lv j∧ac svs i=ac svs j:=by
 have h0:=L.kinds.zero i j hi hj h
 have h1:=A.ac_rng i;have h2:=A.ac_rng j
 unfold kd0 at h0
 cases ha:lv i <;> cases hb:lv j
 ·exact⟨rfl,by rw [L.ac_live ha,L.ac_live hb]⟩
 ·rw [ha,hb] at h0;simp at h0;omega
 ·rw [ha,hb] at h0;simp at h0;omega
 ·rw [ha,hb] at h0;simp at h0;exact⟨rfl,by omega⟩
theorem LeastOK.acc (L:LeastOK svs lv kd fs ms of_) (A:Aut svs) {x:Int} {i:Nat} (h:Rel svs kd fs x i):mAcc ms x=ac svs i:=by
 obtain⟨xn,m,rfl,hx,hk,hi⟩:=h
 obtain⟨s,h1,h2,h3,_⟩:=L.at_ hx
 have:mAcc ms (xn:Int)=s.acc:=by simp [mAcc,h2]
 rw [this,h3]
 exact (L.kd_eq A (L.fsok.lt m (kD hx)) hi hk).2
theorem LeastOK.dead (L:LeastOK svs lv kd fs ms of_) {k:Nat} (hk:k < svs.length) (h:lv k=false):¬ Alive svs k:=λha=>by
 have:=(L.alive k hk).2 ha
 rw [h] at this;cases this
theorem LeastOK.run (L:LeastOK svs lv kd fs ms of_) (A:Aut svs):∀ (l:List UInt8) {x:Int} {i:Nat},Rel svs kd fs x i →
  (∃ (y:Int) (k:Nat),mRun ms l (x,true)=(y,true)∧runFrom svs l ((i:Int),true)=((k:Int),true)∧Rel svs kd fs y k) ∨
  ((mRun ms l (x,true)).2=false∧((runFrom svs l ((i:Int),true)).2=true→accOf svs (runFrom svs l ((i:Int),true)).1=-1))
 | [],x,i,h=>.inl ⟨x,i,rfl,rfl,h⟩
 | c::l,x,i,h=>by
  have hc:c.toNat < 256:=by have:=c.toNat_lt;omega
  rw [mRun_cons,runFrom_cons,A.next hc]
  rcases L.next A h hc with⟨k,y,h1,h2,h3,h4⟩ | ⟨h1,h2⟩
  ·rw [h1,h3]
   exact L.run A l h4
  ·right
   rw [h1,mRun_false]
   refine⟨rfl,λhr=>?_⟩
   cases hx:nxt svs i c.toNat with
   | none=>rw [hx] at hr;dsimp only at hr;rw [runFrom_false] at hr;cases hr
   | some k =>
    rw [hx] at hr
    dsimp only at hr ⊢
    exact dead_run A l k (L.dead (A.nxt_lt hc hx).1 (h2 k hx)) hr
end
section
variable {ms:List LSt} {s:List UInt8}
def qAt (ms:List LSt) (s:List UInt8) (t:Nat):Int × Bool:=mRun ms (s.take t) (0,true)
def BestAt (ms:List LSt) (s:List UInt8) (j:Nat) (r z:Int):Prop :=
 (r=-1∧z=0∧∀ t,0 < t→t≤j→mAcc ms (qAt ms s t).1=-1)∨∃ t:Nat,0 < t∧t≤j∧z=t∧r=mAcc ms (qAt ms s t).1∧r≠-1∧∀ t',t < t'→t'≤j→mAcc ms (qAt ms s t').1=-1
theorem qAt_succ {j:Nat} {c:UInt8} {n:Int} (hc:s[j]?=some c) (hq:qAt ms s j=(n,true)):qAt ms s (j + 1)=mNext ms n c.toNat:=by
 unfold qAt at hq ⊢
 rw [List.take_add_one,hc,mRun_append,hq]
 simp [mRun]
theorem mLong_law:∀ (l:List UInt8) (j:Nat) (r z n:Int),s.drop j=l→j≤s.length→qAt ms s j=(n,true)→(∀ t,t≤j→(qAt ms s t).2=true)→BestAt ms s j r z →
  ∃ (F:Nat) (r' z':Int),F≤s.length∧(∀ t,t≤F→(qAt ms s t).2=true)∧(F < s.length→(qAt ms s (F + 1)).2=false)∧BestAt ms s F r' z'∧mLong ms l (r,z,n,j)=(r',z',((min (F + 1) s.length:Nat):Int))
 | [],j,r,z,n,hl,hj,hq,hall,hb=>by
  have:s.length≤j:=by
   have:=congrArg List.length hl
   simp at this
   omega
  have hjs:j=s.length:=by omega
  refine⟨j,r,z,hj,hall,λh=>by omega,hb,?_⟩
  rw [mLong]
  have:min (j + 1) s.length=j:=by omega
  rw [this]
 | c::l,j,r,z,n,hl,hj,hq,hall,hb=>by
  have hlt:j < s.length:=by
   refine Nat.lt_of_not_le λh=>?_
   rw [List.drop_of_length_le h] at hl;cases hl
  have hd:=List.drop_eq_getElem_cons hlt
  rw [hl] at hd
  have hc:s[j]?=some c:=by rw [kC hlt];exact congrArg some (List.cons.inj hd).1.symm
  have hl':s.drop (j + 1)=l:=(List.cons.inj hd).2.symm
  have hq':=qAt_succ hc hq
  rw [mLong]
  dsimp only
  by_cases hx:(mNext ms n c.toNat).2=true
  ·rw [if_pos hx]
   have hqn:qAt ms s (j + 1)=((mNext ms n c.toNat).1,true):=by rw [hq',← hx]
   have hall':∀ t,t≤j + 1→(qAt ms s t).2=true:=λt ht=>by
    by_cases e:t=j + 1
    ·subst e;rw [hq'];exact hx
    ·exact hall t (by omega)
   by_cases ha:mAcc ms (mNext ms n c.toNat).1=-1
   ·rw [if_pos ha]
    refine mLong_law l (j + 1) r z _ hl' (by omega) hqn hall' ?_
    have hz:mAcc ms (qAt ms s (j + 1)).1=-1:=by rw [hq'];exact ha
    rcases hb with⟨h1,h2,h3⟩ | ⟨t,h1,h2,h3,h4,h5,h6⟩
    ·refine .inl ⟨h1,h2,λt h4 h5=>?_⟩
     by_cases e:t=j + 1
     ·subst e;exact hz
     ·exact h3 t h4 (by omega)
    ·refine .inr ⟨t,h1,by omega,h3,h4,h5,λt' h7 h8=>?_⟩
     by_cases e:t'=j + 1
     ·subst e;exact hz
     ·exact h6 t' h7 (by omega)
   ·rw [if_neg ha]
    refine mLong_law l (j + 1) _ _ _ hl' (by omega) hqn hall' (.inr ⟨j + 1,by omega,by omega,rfl,by rw [hq'],ha,λt' h1 h2=>by omega⟩)
  ·have hx':(mNext ms n c.toNat).2=false:=by simpa using hx
   rw [if_neg hx]
   refine⟨j,r,z,by omega,hall,λ_=>by rw [hq'];exact hx',hb,?_⟩
   have:min (j + 1) s.length=j + 1:=by omega
   rw [this]
end
section
variable {ys:List Re} {svs:List DSt} {cl:Nat→Int} {nc:Int} {lv:Nat→Bool} {kd:Nat→Int} {fs:List Nat} {ms:List LSt} {of_:Nat→Int} {s:List UInt8}
theorem LeastOK.means (L:LeastOK svs lv kd fs ms of_) (A:Aut svs) (h:DfaOK (mFs 0 ys) (mFol 0 ys) (mKs 0 ys) svs cl nc) {t:Nat} (h0:0 < t) (ht:t≤s.length) :
  ((qAt ms s t).2=true→LeastI (Means ys s t) ys.length (mAcc ms (qAt ms s t).1))∧((qAt ms s t).2=false→LeastI (Means ys s t) ys.length (-1)):=by
 have hst:=run_state (s:=s) h t ht
 have hlaw:((runFrom svs (s.take t) (0,true)).2=false→LeastI (Means ys s t) ys.length (-1))∧((runFrom svs (s.take t) (0,true)).2=true→LeastI (Means ys s t) ys.length (accOf svs (runFrom svs (s.take t) (0,true)).1)):=by
  rcases hst with⟨e0,_⟩ | ⟨_,⟨i,sv,e,hi0,hi,hq⟩ | ⟨e,hq⟩⟩
  ·omega
  ·rw [e]
   refine⟨λh=>by simp at h,λ_=>?_⟩
   have hat:stAt svs (i:Int)=some sv:=stAt_in (by omega) (by simpa using hi)
   have:accOf svs (i:Int)=sv.acc:=by simp [accOf,hat]
   show LeastI _ _ (accOf svs (i:Int))
   rw [this]
   exact acc_least h0 hq (h.sts.acc sv (kD hi))
  ·rw [e]
   exact⟨λ_=>acc_least (xs:=[]) h0 (λq=>by simp [hq q]) (.inl ⟨rfl,by simp⟩),λh=>by simp at h⟩
 unfold qAt
 rcases L.run A (s.take t) (L.rel0 A) with⟨y,k,h1,h2,h3⟩ | ⟨h1,h2⟩
 ·have h2':runFrom svs (s.take t) (0,true)=((k:Int),true):=h2
  rw [h1]
  refine⟨λ_=>?_,λh=>by cases h⟩
  have:=hlaw.2 (by rw [h2'])
  rw [h2'] at this
  show LeastI _ _ (mAcc ms y)
  rw [L.acc A h3];exact this
 ·have h2':(runFrom svs (s.take t) (0,true)).2=true→accOf svs (runFrom svs (s.take t) (0,true)).1=-1:=h2
  refine⟨(λh=>by rw [h1] at h;cases h),λ_=>?_⟩
  cases hr:(runFrom svs (s.take t) (0,true)).2 with
  | false=>exact hlaw.1 hr
  | true=>have:=hlaw.2 hr;rw [h2' hr] at this;exact this
theorem qAt_dead {F:Nat} (hF:(qAt ms s (F + 1)).2=false):∀ t,F + 1≤t→(qAt ms s t).2=false:=by
 intro t ht
 unfold qAt at hF ⊢
 have:s.take t=s.take (F + 1)++(s.drop (F + 1)).take (t - (F + 1)):=by
  rw [← List.take_add]
  congr 1
  omega
 rw [this,mRun_append]
 have h1:mRun ms (s.take (F + 1)) (0,true)=((mRun ms (s.take (F + 1)) (0,true)).1,false):=by rw [← hF]
 rw [h1,mRun_false]
def LawBest (M:Nat→Nat→Prop) (n N:Nat) (r z:Int):Prop :=
 (r=-1∧z=0∧∀ i t,i < n→0 < t→t≤N→¬ M t i)∨∃ (t i:Nat),0 < t∧t≤N∧i < n∧z=t∧r=i∧M t i∧(∀ j,j < i→¬ M t j)∧∀ j t',j < n→t < t'→t'≤N→¬ M t' j
theorem LawBest.one {M:Nat→Nat→Prop} {n N:Nat} {r z r' z':Int} (h:LawBest M n N r z) (h':LawBest M n N r' z'):r=r'∧z=z':=by
 rcases h with⟨rfl,rfl,h1⟩ | ⟨t,i,a1,a2,a3,rfl,rfl,a4,a5,a6⟩ <;> rcases h' with⟨rfl,rfl,g1⟩ | ⟨t',i',b1,b2,b3,rfl,rfl,b4,b5,b6⟩
 ·exact⟨rfl,rfl⟩
 ·exact absurd b4 (h1 i' t' b3 b1 b2)
 ·exact absurd a4 (g1 i t a3 a1 a2)
 ·have:t=t':=by
   rcases Nat.lt_trichotomy t t' with g | g | g
   ·exact absurd b4 (a6 i' t' b3 g b2)
   ·exact g
   ·exact absurd a4 (b6 i t a3 g a2)
  subst this
  have:i=i':=by
   rcases Nat.lt_trichotomy i i' with g | g | g
   ·exact absurd a4 (b5 i g)
   ·exact g
   ·exact absurd b4 (a5 i' g)
  subst this
  exact⟨rfl,rfl⟩
theorem LeastOK.best (L:LeastOK svs lv kd fs ms of_) (A:Aut svs) (h:DfaOK (mFs 0 ys) (mFol 0 ys) (mKs 0 ys) svs cl nc) {F:Nat} {r z:Int} (hF:F≤s.length) (hall:∀ t,t≤F→(qAt ms s t).2=true) (hno:F < s.length→(qAt ms s (F + 1)).2=false)
  (hb:BestAt ms s F r z):LawBest (Means ys s) ys.length s.length r z:=by
 have dead:∀ t,F < t→t≤s.length→∀ i,i < ys.length→¬ Means ys s t i:=λt h1 h2 i hi hm=>by
  rcases (L.means A h (by omega) h2).2 (qAt_dead (hno (by omega)) t (by omega)) with⟨_,g⟩ | ⟨i',_,e,_⟩
  ·exact g i hi hm
  ·omega
 have none':∀ t,0 < t→t≤F→mAcc ms (qAt ms s t).1=-1→∀ i,i < ys.length→¬ Means ys s t i:=λt h0 h1 ha i hi hm=>by
  have:=(L.means A h h0 (by omega)).1 (hall t h1)
  rw [ha] at this
  rcases this with⟨_,g⟩ | ⟨i',_,e,_⟩
  ·exact g i hi hm
  ·omega
 rcases hb with⟨h1,h2,h3⟩ | ⟨t,h1,h2,h3,h4,h5,h6⟩
 ·refine .inl ⟨h1,h2,λi t hi h0 ht=>?_⟩
  by_cases e:t≤F
  ·exact none' t h0 e (h3 t h0 e) i hi
  ·exact dead t (by omega) ht i hi
 ·have hl:=(L.means A h h1 (by omega)).1 (hall t h2)
  rw [← h4] at hl
  rcases hl with⟨e,_⟩ | ⟨i,hi,e,hm,hmin⟩
  ·exact absurd e h5
  ·refine .inr ⟨t,i,h1,by omega,hi,h3,e,hm,λj hj hmj=>by have:=hmin j (by omega) hmj;omega,λj t' hj ht ht'=>?_⟩
   by_cases e':t'≤F
   ·exact none' t' (by omega) e' (h6 t' ht e') j hj
   ·exact dead t' (by omega) ht' j hj
end
theorem Re.m_shift (x:Re):∀ {s s':List UInt8} {i j d:Nat},x.m s i j→(∀ k,i≤k→k < j→s'[k + d]?=s[k]?)→x.m s' (i + d) (j + d):=by
 induction x with
 | set f=>rintro s s' i j d ⟨rfl,c,hc,hf⟩ h;exact⟨by omega,c,by rw [h i (Nat.le_refl _) (by omega)];exact hc,hf⟩
 | empty=>rintro s s' i j d rfl _;rfl
 | cat a b iha ihb =>
  rintro s s' i j d ⟨k,h1,h2⟩ h
  have g1:=(Re.m_le h1).1
  have g2:=(Re.m_le h2).1
  exact⟨k + d,iha h1 λq _ _=>h q (by omega) (by omega),ihb h2 λq _ _=>h q (by omega) (by omega)⟩
 | or a b iha ihb =>
  rintro s s' i j d (h1 | h1) h
  ·exact .inl (iha h1 h)
  ·exact .inr (ihb h1 h)
 | star a ih =>
  intro s s' i j d h1
  change Clo (a.m s) i j at h1
  induction h1 with
  | refl=>intro _;exact .refl
  | snoc hh r ih2 =>
   intro h
   have g:=(Re.m_le r).1
   have g0:=(Re.m_le (x:=.star a) hh).1
   exact .snoc (ih2 λq _ _=>h q (by omega) (by omega)) (ih r λq _ _=>h q (by omega) (by omega))
theorem Re.m_self {s:List UInt8} (x:Re):∀ {i:Nat},x.m s i i↔x.emp=true:=by
 induction x with
 | set f=>intro i;simp [Re.m,Re.emp]
 | empty=>intro i;simp [Re.m,Re.emp]
 | cat a b iha ihb =>
  intro i
  simp only [Re.m,Re.emp,Bool.and_eq_true]
  constructor
  ·rintro⟨k,h1,h2⟩
   have g1:=(Re.m_le h1).1
   have g2:=(Re.m_le h2).1
   have:k=i:=by omega
   subst this
   exact⟨iha.1 h1,ihb.1 h2⟩
  ·rintro⟨h1,h2⟩;exact⟨i,iha.2 h1,ihb.2 h2⟩
 | or a b iha ihb=>intro i;simp [Re.m,Re.emp,iha,ihb]
 | star a ih=>intro i;simp only [Re.emp,iff_true];exact Clo.refl
def Re.sub (x:Re):Prop:=∃ s:List UInt8,s≠[]∧x.m s 0 s.length
theorem Pth.pre {F:Int→Int→Prop} {H:Int→Nat→Bool} {s s':List UInt8} {i j:Nat} {p q:Int} (t:Pth F H s i p j q):(∀ k,k < j→s'[k]?=s[k]?)→Pth F H s' i p j q:=by
 induction t with
 | one hc hh=>intro h;exact .one (by rw [h _ (by omega)];exact hc) hh
 | snoc _ f hc hh ih=>intro h;exact .snoc (ih λk hk=>h k (by omega)) f (by rw [h _ (by omega)];exact hc) hh
theorem NowS.pre {fs:List ((Nat→Bool) × Int)} {F:Int→Int→Prop} {ks:List Kn} {s s':List UInt8} {t:Nat} {q:Int} (h:NowS fs F ks s t q) (e:∀ k,k < t→s'[k]?=s[k]?):NowS fs F ks s' t q:=by
 obtain⟨r,hr,p,hp,t⟩:=h
 exact⟨r,hr,p,hp,t.pre e⟩
section
variable {fs:List ((Nat→Bool) × Int)} {F:Int→Int→Prop} {ks:List Kn} {svs:List DSt} {n:Nat}
theorem reach (hs:Sts fs ks svs) (hd:Done fs F ks n 0 svs):∀ v:Nat,0 < v→v < svs.length→∃ s:List UInt8,s≠[]∧∀ sv,svs[v]?=some sv→∀ q,q∈sv.xs↔NowS fs F ks s s.length q:=by
 intro v
 induction v using Nat.strongRecOn with
 | _ v ih =>
 intro h0 hv
 obtain⟨j,b,hj,hjb,hx⟩:=hd.met v h0 hv
 rcases hjb with⟨hjn,hb⟩ | ⟨_,hb⟩
 case inr=>omega
 have hsj:svs[j]?=some svs[j]:=kC (by omega)
 have hnx:svs[j].nx b=v:=by simpa [nxAt,hsj] using hx
 have hb':(UInt8.ofNat b).toNat=b:=by simp [UInt8.toNat_ofNat'];omega
 rcases hd.rows j _ hjn hsj b hb with⟨h1,_⟩ | ⟨i,sv,hi0,hi,hsv,hq⟩
 ·omega
 have:i=v:=by omega
 subst this
 by_cases hj0:j=0
 ·subst hj0
  obtain⟨sv0,g1,g2⟩:=hs.zero
  rw [hsj] at g1;cases g1
  refine⟨[UInt8.ofNat b],by simp,λsv' hsv' q=>?_⟩
  rw [hsv] at hsv';cases hsv'
  rw [hq,g2]
  have:=step_zero (fs:=fs) (F:=F) (ks:=ks) (s:=[UInt8.ofNat b]) (c:=UInt8.ofNat b) rfl (q:=q)
  rw [hb'] at this
  exact this
 ·obtain⟨s0,hs0,hq0⟩:=ih j hj (by omega) (by omega)
  refine⟨s0++[UInt8.ofNat b],by simp,λsv' hsv' q=>?_⟩
  rw [hsv] at hsv';cases hsv'
  obtain⟨t,ht⟩:∃ t,s0.length=t + 1:=⟨s0.length - 1,by have:=List.length_pos_iff.2 hs0;omega⟩
  have:=step_succ (fs:=fs) (F:=F) (ks:=ks) (s:=s0++[UInt8.ofNat b]) (t:=t) (c:=UInt8.ofNat b) (by rw [List.getElem?_append_right (by omega)];simp [ht]) (hs.ne j _ hsj (by omega)) (λq=>by
   rw [hq0 _ hsj q,ht]
   constructor
   ·intro h;exact h.pre λk hk=>by rw [List.getElem?_append_left (by omega)]
   ·intro h;exact h.pre λk hk=>by rw [List.getElem?_append_left (by omega)]) (q:=q)
  rw [hb'] at this
  rw [hq,this]
  simp [ht]
end
theorem Re.first_shift (y:Re):∀ {n d p:Int},y.first (n + d) (p + d)↔y.first n p:=by
 induction y with
 | set f=>intro n d p;simp only [Re.first];omega
 | empty=>intro n d p;exact Iff.rfl
 | cat a b iha ihb=>intro n d p;simp only [Re.first];rw [iha,show n + d + (a.cnt:Int)=n + a.cnt + d from by omega,ihb]
 | or a b iha ihb=>intro n d p;simp only [Re.first];rw [iha,show n + d + (a.cnt:Int)=n + a.cnt + d from by omega,ihb]
 | star a ih=>intro n d p;exact ih
theorem Re.last_shift (y:Re):∀ {n d p:Int},y.last (n + d) (p + d)↔y.last n p:=by
 induction y with
 | set f=>intro n d p;simp only [Re.last];omega
 | empty=>intro n d p;exact Iff.rfl
 | cat a b iha ihb=>intro n d p;simp only [Re.last];rw [iha,show n + d + (a.cnt:Int)=n + a.cnt + d from by omega,ihb]
 | or a b iha ihb=>intro n d p;simp only [Re.last];rw [iha,show n + d + (a.cnt:Int)=n + a.cnt + d from by omega,ihb]
 | star a ih=>intro n d p;exact ih
theorem Re.fol_shift (y:Re):∀ {n d p q:Int},y.fol (n + d) (p + d) (q + d)↔y.fol n p q:=by
 induction y with
 | set f=>intro n d p q;exact Iff.rfl
 | empty=>intro n d p q;exact Iff.rfl
 | cat a b iha ihb=>intro n d p q;simp only [Re.fol];rw [iha,show n + d + (a.cnt:Int)=n + a.cnt + d from by omega,ihb,a.last_shift,b.first_shift]
 | or a b iha ihb=>intro n d p q;simp only [Re.fol];rw [iha,show n + d + (a.cnt:Int)=n + a.cnt + d from by omega,ihb]
 | star a ih=>intro n d p q;simp only [Re.fol];rw [ih,a.last_shift,a.first_shift]
theorem Pth.map {F F':Int→Int→Prop} {H H':Int→Nat→Bool} {s:List UInt8} {Q:Int→Prop} {g:Int→Int} (hF:∀ p q,Q p→F p q→F' (g p) (g q)∧Q q) (hH:∀ p c,Q p→c < 256→H p c=true→H' (g p) c=true)
  {i j:Nat} {p q:Int} (t:Pth F H s i p j q) (hp:Q p):Q q∧Pth F' H' s i (g p) j (g q):=by
 induction t with
 | one hc hh=>exact⟨hp,.one hc (hH _ _ hp (UInt8.toNat_lt _) hh)⟩
 | snoc _ f hc hh ih =>
  obtain⟨h1,h2⟩:=ih
  obtain⟨h3,h4⟩:=hF _ _ h1 f
  exact⟨h4,.snoc h2 h3 hc (hH _ _ h4 (UInt8.toNat_lt _) hh)⟩
theorem mach_at (ys:List Re):∀ (n r:Int) (i:Nat) (y:Re),ys[i]?=some y→(mKs n ys)[i]?=some ⟨y.first (n + mCnt (ys.take i)),y.last (n + mCnt (ys.take i)),y.emp⟩∧(∀ (k:Nat) f,y.poss[k]?=some f→(mFs r ys)[mCnt (ys.take i) + k]?=some (f,r + i)) ∧
  ∀ p q,n + mCnt (ys.take i)≤p→p < n + mCnt (ys.take i) + y.cnt→(mFol n ys p q↔y.fol (n + mCnt (ys.take i)) p q):=by
 induction ys with
 | nil=>intro n r i y h;simp at h
 | cons x xs ih =>
  intro n r i y h
  cases i with
  | zero =>
   simp at h;subst h
   have e0:(n:Int) + (mCnt (List.take 0 (x::xs)):Int)=n:=by simp [mCnt]
   rw [e0]
   refine⟨rfl,λk f hk=>?_,λp q h1 h2=>?_⟩
   ·have hlt:k < x.poss.length:=(kA hk).1
    simp only [mFs,mCnt,List.take_zero,List.map_nil,List.sum_nil,Nat.zero_add]
    rw [List.getElem?_append_left (by simpa using hlt)]
    simp [hk]
   ·simp only [mFol]
    constructor
    ·rintro (h | h)
     ·exact h
     ·have:=(fol_rule xs _ 0 _ _ h).1;omega
    ·exact .inl
  | succ i =>
   simp at h
   obtain⟨h2,h3,h4⟩:=ih (n + x.cnt) (r + 1) i y h
   have ec:mCnt (List.take (i + 1) (x::xs))=x.cnt + mCnt (xs.take i):=by simp [mCnt]
   have ee:n + (mCnt (List.take (i + 1) (x::xs)):Int)=n + x.cnt + mCnt (xs.take i):=by rw [ec];omega
   rw [ee]
   refine⟨by simpa [mKs] using h2,λk f hk=>?_,λp q g1 g2=>?_⟩
   ·simp only [mFs]
    have:=h3 k f hk
    rw [poss_skip (by omega),ec]
    have e:x.cnt + mCnt (xs.take i) + k - x.cnt=mCnt (xs.take i) + k:=by omega
    rw [e,this]
    simp;omega
   ·simp only [mFol]
    rw [← h4 p q g1 g2]
    constructor
    ·rintro (h | h)
     ·have:=Re.fol_in h;omega
     ·exact h
    ·exact .inr
def posHas (y:Re) (k:Int) (c:Nat):Bool:=((y.poss[k.toNat]?).map λf=>f c).getD false
def nowY (y:Re) (s:List UInt8) (t:Nat) (q:Int):Prop:=∃ p,y.first 0 p∧Pth (y.fol 0) (posHas y) s 0 p t q
theorem now_at {ys:List Re} {i:Nat} {y:Re} (h:ys[i]?=some y) {s:List UInt8} {t:Nat} {q:Int} (h0:0≤q) (h1:q < y.cnt):NowS (mFs 0 ys) (mFol 0 ys) (mKs 0 ys) s t (q + mCnt (ys.take i))↔nowY y s t q:=by
 obtain⟨g2,g3,g4⟩:=mach_at ys 0 0 i y h
 simp only [Int.zero_add] at g2 g3 g4
 generalize hoff:mCnt (ys.take i)=off at g2 g3 g4 ⊢
 have hk:knAt (mKs 0 ys) i=⟨y.first off,y.last off,y.emp⟩:=knAt_in (by omega) (by simpa using g2)
 have hlen:i < (mKs 0 ys).length:=by rw [mKs_len];exact (kA h).1
 have hpos:∀ k:Int,0≤k→k < y.cnt→∃ f,y.poss[k.toNat]?=some f∧(mFs 0 ys)[off + k.toNat]?=some (f,(i:Int)):=λk hk0 hk1=>by
  have hl:k.toNat < y.poss.length:=by rw [Re.poss_len];omega
  exact⟨_,kC hl,g3 _ _ (kC hl)⟩
 have hhas:∀ (k:Int) c,0≤k→k < y.cnt→hasAt (mFs 0 ys) (k + off) c=posHas y k c:=λk c hk0 hk1=>by
  obtain⟨f,f1,f2⟩:=hpos k hk0 hk1
  have e:(k + (off:Int)).toNat=off + k.toNat:=by omega
  rw [hasAt_in (by omega) (by rw [e];exact f2)]
  simp [posHas,f1]
 constructor
 ·rintro⟨r,hr,hn⟩
  have hrule:=now_rule hn
  obtain⟨f,f1,f2⟩:=hpos q h0 h1
  have e:(q + (off:Int)).toNat=off + q.toNat:=by omega
  have:(i:Int)=r:=by
   rw [← hrule]
   unfold ruleAt
   rw [if_pos (by omega),e,f2]
   rfl
  have hir:r=i:=by omega
  subst hir
  obtain⟨p,hp,tp⟩:=hn
  rw [hk] at hp
  have hin:=Re.first_in hp
  have:=tp.map (F':=y.fol 0) (H':=posHas y) (Q:=λp=>(off:Int)≤p∧p < off + y.cnt) (g:=λp=>p - off) (λa b ha hf=>by
    have:=(g4 a b ha.1 ha.2).1 hf
    refine⟨?_,(Re.fol_in this).2⟩
    have e:=y.fol_shift (n:=0) (d:=off) (p:=a - off) (q:=b - off)
    rw [Int.zero_add,Int.sub_add_cancel,Int.sub_add_cancel] at e
    exact e.1 this) (λa c ha hc hh=>by
    have e:=hhas (a - off) c (by omega) (by omega)
    rw [Int.sub_add_cancel] at e
    rw [← e];exact hh) hin
  refine⟨p - off,?_,?_⟩
  ·have e:=y.first_shift (n:=0) (d:=off) (p:=p - off)
   rw [Int.zero_add,Int.sub_add_cancel] at e
   exact e.1 hp
  ·have h2:=this.2
   have e:q + (off:Int) - off=q:=by omega
   rw [e] at h2;exact h2
 ·rintro⟨p,hp,tp⟩
  have hin:=Re.first_in hp
  have:=tp.map (F':=mFol 0 ys) (H':=hasAt (mFs 0 ys)) (Q:=λp=>(0:Int)≤p∧p < y.cnt) (g:=λp=>p + off) (λa b ha hf=>by
    have hb:=(Re.fol_in hf).2
    refine⟨(g4 _ _ (by omega) (by omega)).2 ?_,by omega⟩
    have e:=y.fol_shift (n:=0) (d:=off) (p:=a) (q:=b)
    rw [Int.zero_add] at e
    exact e.2 hf) (λa c ha hc hh=>by rw [hhas a c ha.1 ha.2];exact hh) (by omega)
  refine⟨i,hlen,p + off,?_,this.2⟩
  rw [hk]
  have e:=y.first_shift (n:=0) (d:=off) (p:=p)
  rw [Int.zero_add] at e
  exact e.2 hp
theorem now_one {y:Re} {s:List UInt8} {t:Nat} {q:Int} (h0:0≤q) (h1:q < y.cnt):NowS (mFs 0 [y]) (mFol 0 [y]) (mKs 0 [y]) s t q↔nowY y s t q:=by
 have:=now_at (ys:=[y]) (i:=0) rfl (s:=s) (t:=t) h0 h1
 simpa [mCnt] using this
theorem mFs_one_len {y:Re}:(mFs 0 [y]).length=y.cnt:=by simp [mFs,Re.poss_len]
theorem TooMany.up {ys:List Re} {i:Nat} {y:Re} (h:ys[i]?=some y) {svs':List DSt} {cl:Nat→Int} {nc:Int} (hok:DfaOK (mFs 0 ys) (mFol 0 ys) (mKs 0 ys) svs' cl nc) (hm:TooMany (mFs 0 [y]) (mFol 0 [y]) (mKs 0 [y])):False:=by
 obtain⟨svs,n,hs,hd,hlen⟩:=hm
 have key:∀ v,∃ i':Nat,0 < v→v < svs.length→(0 < i'∧i' < svs'.length∧∃ s:List UInt8,(∀ sv,svs[v]?=some sv→∀ q,q∈sv.xs↔NowS (mFs 0 [y]) (mFol 0 [y]) (mKs 0 [y]) s s.length q)∧∃ sv',svs'[i']?=some sv'∧∀ q,q∈sv'.xs↔NowS (mFs 0 ys) (mFol 0 ys) (mKs 0 ys) s s.length q):=by
  intro v
  by_cases hv:0 < v∧v < svs.length
  ·obtain⟨s,hne,hq⟩:=reach hs hd v hv.1 hv.2
   have hsv:svs[v]?=some svs[v]:=kC hv.2
   have hl:=List.length_pos_iff.2 hne
   have hst:=run_state (s:=s) hok s.length (Nat.le_refl _)
   rcases hst with⟨e,_⟩ | ⟨_,⟨i',sv',e,hi0,hi,hq'⟩ | ⟨e,hq'⟩⟩
   ·omega
   ·exact⟨i',λ_ _=>⟨hi0,(kA hi).1,s,hq,sv',hi,hq'⟩⟩
   ·exfalso
    have hx:=hs.ne v _ hsv hv.1
    obtain⟨q,hqm⟩:=List.exists_mem_of_ne_nil _ hx
    have hr:=(hs.rise _ (kD hsv)).2 q hqm
    rw [mFs_one_len] at hr
    exact hq' _ ((now_at h hr.1 hr.2).2 ((now_one hr.1 hr.2).1 ((hq _ hsv q).1 hqm)))
  ·exact⟨0,λh1 h2=>absurd ⟨h1,h2⟩ hv⟩
 let g:Nat→Nat:=λv=>Classical.choose (key v)
 have hg:∀ v,0 < v→v < svs.length→_:=λv=>Classical.choose_spec (key v)
 have hinj:∀ v v',0 < v→v < svs.length→0 < v'→v' < svs.length→g v=g v'→v=v':=by
  intro v v' h1 h2 h3 h4 he
  obtain⟨_,_,s,a1,sv,b1,c1⟩:=hg v h1 h2
  obtain⟨_,_,s',a2,sv',b2,c2⟩:=hg v' h3 h4
  have he:Classical.choose (key v)=Classical.choose (key v'):=he
  rw [he,b2] at b1
  cases b1
  have hv:svs[v]?=some svs[v]:=kC h2
  have hv':svs[v']?=some svs[v']:=kC h4
  refine hs.inj v v' _ _ hv hv' ?_
  have r1:=hs.rise _ (kD hv)
  have r2:=hs.rise _ (kD hv')
  rw [mFs_one_len] at r1 r2
  refine sorted_unique r1.1 r2.1 λq=>?_
  constructor
  ·intro hq
   have hr:=r1.2 q hq
   rw [a2 _ hv',now_one hr.1 hr.2,← now_at h hr.1 hr.2,← c2,c1,now_at h hr.1 hr.2,← now_one hr.1 hr.2,← a1 _ hv]
   exact hq
  ·intro hq
   have hr:=r2.2 q hq
   rw [a1 _ hv,now_one hr.1 hr.2,← now_at h hr.1 hr.2,← c1,c2,now_at h hr.1 hr.2,← now_one hr.1 hr.2,← a2 _ hv']
   exact hq
 have hfew:=hok.few
 have hle:=nodup_le ((List.range' 1 (svs.length - 1)).map g) (List.range' 1 (svs'.length - 1)) (by
  rw [List.Nodup,List.pairwise_map]
  refine (List.nodup_range' (step:=1)).imp_of_mem λ{a b} ha hb hne he=>hne ?_
  simp at ha hb
  exact hinj a b (by omega) (by omega) (by omega) (by omega) he) (λx hx=>by
  obtain⟨v,hv,rfl⟩:=List.mem_map.1 hx
  simp at hv
  obtain⟨a,b,_⟩:=hg v (by omega) (by omega)
  show Classical.choose (key v)∈_
  simp
  omega)
 simp at hle
 omega
theorem accepts_iff {y:Re} {svs:List DSt} {cl:Nat→Int} {nc:Int} (hok:DfaOK (mFs 0 [y]) (mFol 0 [y]) (mKs 0 [y]) svs cl nc):(∃ v:Nat,v < svs.length∧accOf svs v≠-1)↔y.sub:=by
 constructor
 ·rintro⟨v,hv,ha⟩
  have h0:0 < v:=Nat.pos_of_ne_zero λe=>by subst e;exact ha (acc_zero hok)
  obtain⟨s,hne,hq⟩:=reach hok.sts hok.done v h0 hv
  have hl:=List.length_pos_iff.2 hne
  refine⟨s,hne,?_⟩
  have hsv:svs[v]?=some svs[v]:=kC hv
  have hst:=run_state (s:=s) hok s.length (Nat.le_refl _)
  rw [List.take_length] at hst
  rcases hst with⟨e,_⟩ | ⟨_,⟨i',sv',e,hi0,hi,hq'⟩ | ⟨e,hq'⟩⟩
  ·omega
  ·have hiv:i'=v:=by
    refine hok.sts.inj i' v _ _ hi hsv (sorted_unique (hok.sts.rise _ (kD hi)).1 (hok.sts.rise _ (kD hsv)).1 λq=>?_)
    rw [hq',hq _ hsv]
   subst hiv
   have hl2:=(run_law hok hl).2 (by rw [e])
   rw [e] at hl2
   rcases hl2 with⟨h1,_⟩ | ⟨i,hi',_,⟨y',hy',hm⟩,_⟩
   ·exact absurd h1 ha
   ·have:i=0:=by simp at hi';omega
    subst this
    cases hy'
    exact hm
  ·exfalso
   have hx:=hok.sts.ne v _ hsv h0
   obtain⟨q,hqm⟩:=List.exists_mem_of_ne_nil _ hx
   exact hq' q ((hq _ hsv q).1 hqm)
 ·rintro⟨s,hne,hm⟩
  have hl:=List.length_pos_iff.2 hne
  have hM:Means [y] s s.length 0:=⟨y,rfl,hm⟩
  have hlaw:=run_law hok hl
  have hacc:accOf svs (runFrom svs s (0,true)).1≠-1:=by
   cases hr:(runFrom svs s (0,true)).2 with
   | false =>
    rcases (hlaw.1 hr).2 with⟨_,g⟩ | ⟨i,_,e,_⟩
    ·exact absurd hM (g 0 (by simp))
    ·omega
   | true =>
    rcases hlaw.2 hr with⟨_,g⟩ | ⟨i,_,e,_⟩
    ·exact absurd hM (g 0 (by simp))
    ·omega
  generalize (runFrom svs s (0,true)).1=z at hacc
  by_cases hz:0≤z∧z < svs.length
  ·refine⟨z.toNat,by omega,?_⟩
   have:((z.toNat:Nat):Int)=z:=by omega
   rw [this];exact hacc
  ·exfalso
   apply hacc
   simp [accOf,stAt_out hz]
structure Tok where
 c:Int
 f:Int
 t:Int
 l:Int
 deriving DecidableEq
structure TokAt (ms:List LSt) (s:List UInt8) (F:Nat) (r z:Int):Prop where
 le:F≤s.length
 all:∀ t,t≤F→(qAt ms s t).2=true
 no:F < s.length→(qAt ms s (F + 1)).2=false
 best:BestAt ms s F r z
def tokF (ms:List LSt) (s:List UInt8) (i:Nat):Tok :=
 let m:=mLong ms (s.drop i) (-1,0,0,0)
 ⟨m.1,i,i + (if m.1=-1 then 1 else m.2.1),i + (if (mRun ms ((s.drop i).take m.2.2.toNat) (0,true)).2=true∧i + m.2.2=s.length then m.2.2 + 1 else m.2.2)⟩
theorem tok_law {ms:List LSt} {s:List UInt8} {i:Nat} (hi:i≤s.length):∃ (F:Nat) (r z:Int),TokAt ms (s.drop i) F r z∧tokF ms s i=⟨r,i,i + (if r=-1 then 1 else z),i + F + 1⟩∧mLong ms (s.drop i) (-1,0,0,0)=(r,z,((min (F + 1) (s.drop i).length:Nat):Int)):=by
 have hq0:∀ t,t≤0→(qAt ms (s.drop i) t).2=true:=λt ht=>by
  have h0:t=0:=by omega
  rw [h0];rfl
 obtain⟨F,r,z,hF,hall,hno,hbest,hml⟩:=mLong_law (ms:=ms) (s:=s.drop i) (s.drop i) 0 (-1) 0 0 rfl (by omega) rfl hq0 (.inl ⟨rfl,rfl,λt h1 h2=>by omega⟩)
 refine⟨F,r,z,⟨hF,hall,hno,hbest⟩,?_,hml⟩
 unfold tokF
 simp only [hml,Int.toNat_natCast]
 have hl:(s.drop i).length=s.length - i:=by simp
 congr 1
 by_cases hFl:F < (s.drop i).length
 ·have hm:min (F + 1) (s.drop i).length=F + 1:=by omega
  rw [hm]
  have hd:(mRun ms ((s.drop i).take (F + 1)) (0,true)).2=false:=hno hFl
  rw [hd,if_neg (by simp)]
  omega
 ·have hm:min (F + 1) (s.drop i).length=F:=by omega
  rw [hm]
  have hd:(mRun ms ((s.drop i).take F) (0,true)).2=true:=hall F (Nat.le_refl _)
  rw [hd,if_pos ⟨rfl,by omega⟩]
  omega
theorem BestAt.le {ms:List LSt} {s:List UInt8} {F:Nat} {r z:Int} (h:BestAt ms s F r z):(r=-1∧z=0)∨(r≠-1∧0 < z∧z≤F):=by
 rcases h with⟨h1,h2,_⟩ | ⟨t,h1,h2,rfl,_,h5,_⟩
 ·exact .inl ⟨h1,h2⟩
 ·exact .inr ⟨h5,by omega,by omega⟩
theorem Draw.kp {w:World} {F:(World→Prop)→World→Prop} (h:∀ w',w'.heap=w.heap→Keeps No w w'→F (λx=>Keeps No w' x) w'):Draw w F :=
 ⟨λx=>Keeps No w.drew x,Keeps.refl,h _ rfl Keeps.drew⟩
theorem LdK.int {w:World} {κ:IntKind} {a:Addr} {k:Int→Prop} {i:Int} (h:w.cell? a=some (.int κ i)) (hk:k i):LdS (λx=>Keeps No w x) (.int κ) a k:=⟨i,λ_ e=>cell_keep h e,hk⟩
theorem LdK.str {w:World} {a:Addr} {k:ByteArray→Prop} {i:ByteArray} (h:w.cell? a=some (.string i)) (hk:k i):LdS (λx=>Keeps No w x) .str a k:=⟨i,λ_ e=>cell_keep h e,hk⟩
theorem LdK.ptr {w:World} {a:Addr} {k:Option Addr→Prop} {i:Option Addr} (h:w.cell? a=some (.pointer i)) (hk:k i):LdS (λx=>Keeps No w x) .ptr a k:=⟨i,λ_ e=>cell_keep h e,hk⟩
theorem LdK.map {w:World} {a:Addr} {k:Option Nat→Prop} {i:Option Nat} (h:w.cell? a=some (.map i)) (hk:k i):LdS (λx=>Keeps No w x) .map a k:=⟨i,λ_ e=>cell_keep h e,hk⟩
theorem AlSt4 {E:TypeId} {x0 x1 x2 x3 v0 v1 v2 v3:Value} {w:World} {k:Nat→World→Prop} (h:∀ b w',New b (.cells #[v0,v1,v2,v3] E (0,0)) w w'→k b w') :
  Al (.cells #[x0,x1,x2,x3] E (0,0)) w λb w1=>St ⟨b,0,none⟩ v0 w1 λw2=>St ⟨b,1,none⟩ v1 w2 λw3=>St ⟨b,2,none⟩ v2 w3 λw4=>St ⟨b,3,none⟩ v3 w4 λw5=>k b w5 :=
 Al.mk λb w1 n1=>St4 n1.at_ λw2 u=>h b w2 ⟨n1.eq,u.at_,u.keeps0 n1.keeps (by have:=n1.eq;omega),by rw [u.size,n1.size]⟩
theorem AlSt3 {E:TypeId} {x0 x1 x2 v0 v1 v2:Value} {w:World} {k:Nat→World→Prop} (h:∀ b w',New b (.cells #[v0,v1,v2] E (0,0)) w w'→k b w') :
  Al (.cells #[x0,x1,x2] E (0,0)) w λb w1=>St ⟨b,0,none⟩ v0 w1 λw2=>St ⟨b,1,none⟩ v1 w2 λw3=>St ⟨b,2,none⟩ v2 w3 λw4=>k b w4 :=
 Al.mk λb w1 n1=>St3 n1.at_ λw2 u=>h b w2 ⟨n1.eq,u.at_,u.keeps0 n1.keeps (by have:=n1.eq;omega),by rw [u.size,n1.size]⟩
theorem AlSt2 {E:TypeId} {x0 x1 v0 v1:Value} {w:World} {k:Nat→World→Prop} (h:∀ b w',New b (.cells #[v0,v1] E (0,0)) w w'→k b w') :
  Al (.cells #[x0,x1] E (0,0)) w λb w1=>St ⟨b,0,none⟩ v0 w1 λw2=>St ⟨b,1,none⟩ v1 w2 λw3=>k b w3 :=
 Al.mk λb w1 n1=>St.blk n1.at_ (by simp) λw2 u2=>St.blk u2.at_ (by simp) λw3 u3=>h b w3 ⟨n1.eq,(u2.trans u3).at_,(u2.trans u3).keeps0 n1.keeps (by have:=n1.eq;omega),by rw [(u2.trans u3).size,n1.size]⟩
theorem Ld4i {E:TypeId} {fr:Nat × Nat} {b:Nat} {x0 x1 x2 x3:Int} {w:World} {k:Int→Int→Int→Int→Prop} (hb:w.heap[b]?=some (.cells #[.int .i64 x0,.int .i64 x1,.int .i64 x2,.int .i64 x3] E fr)) (h:k x0 x1 x2 x3) :
  Ld (.int .i64) ⟨b,0,none⟩ w λr0=>Ld (.int .i64) ⟨b,1,none⟩ w λr1=>Ld (.int .i64) ⟨b,2,none⟩ w λr2=>Ld (.int .i64) ⟨b,3,none⟩ w λr3=>k r0 r1 r2 r3 :=
 Ld.int (cell_of hb rfl) (Ld.int (cell_of hb rfl) (Ld.int (cell_of hb rfl) (Ld.int (cell_of hb rfl) h)))
theorem append_own2 {P:Program} {T T' E size bytes base:Nat} {z:Value} {w:World} {l:Sl} {xs:List Value} {ad:Addr} {m c:Nat} {news:List Value} {k:Sl→World→Prop} (hE:Elem P T E z size bytes)
  (hown:Own w base E size l xs) (hl:news.length=m * size) (hnews:∀ j u,news[j]?=some u→w.cell? (ad.add j)=some u) (h1:∀ u∈news,u.oneCell'=true)
  (hbytes:(l.n + m) * bytes≤140737488355328) (h63:l.n + m≤9223372036854775807) (hbase:base≤w.heap.size)
  (hk:∀ l' w',Own w' base E size l' (xs++news)→l'.n=l.n + m→Keeps l.blk w w'→((l'.a=none∧l.a=none∧m=0)∨∃ g,l'.a=some ⟨g,0,none⟩∧(l.blk g∨w.heap.size≤g))→k l' w') :
  App P (Builtin.append_ #[T,T] T' #[.slice l.a l.n l.c,.slice (some ad) m c]) (.one .sl) w k:=by
 obtain⟨i,hi,hzz⟩:=kE hE.inf
 simp only [Prod.mk.injEq] at hzz
 obtain⟨hz,hs,hb⟩:=hzz
 obtain⟨v',w',hr,h2,h3,h4,h5⟩:=run_append_own_at (P:=P) w base T T' E i z size bytes hE.sl hi hz hs hb hE.cells hE.pos l.val l.n xs hown ad m c news hl
  hnews h1 h63 hbytes hbase
 obtain⟨a',n',c',rfl,rfl⟩:∃ a' n' c',v'=.slice a' n' c'∧n'=l.n + m:=by
  rcases h2.2 with⟨rfl,h⟩ | ⟨g,cap,cur,rfl,_⟩
  ·exact⟨none,0,0,rfl,h.symm⟩
  ·exact⟨_,_,_,rfl,rfl⟩
 refine⟨⟨a',l.n + m,c'⟩,w',hr,hk _ _ h2 rfl ((Keeps.of_grown h3).mono λb _ hb=>?_) ?_⟩
 ·rw [ownBlock_val] at hb
  cases ha:l.a with
  | none=>simp [ha] at hb
  | some a=>simp [ha] at hb;exact⟨a,ha,hb⟩
 ·rcases h2.2 with⟨hv,hn⟩ | ⟨g,cap,cur,hv,hge,hg,_⟩
  ·simp only [Value.slice.injEq] at hv
   obtain⟨rfl,h6,h7⟩:=hv
   have hln:l.n=0:=by omega
   have hm:m=0:=by omega
   subst hm
   refine .inl ⟨rfl,?_,rfl⟩
   have:=(h4.1 (by simp [hln,h7])).1
   simpa [Sl.val] using congrArg (λv=>match v with | .slice a _ _=>a | _=>none) this
  ·simp only [Value.slice.injEq] at hv
   obtain⟨rfl,-,-⟩:=hv
   refine .inr ⟨g,rfl,?_⟩
   rw [ownBlock_val] at h5
   simp only [Value.ownBlock] at h5
   rcases h5 with h5 | h5
   ·left
    cases ha:l.a with
    | none=>simp [ha] at h5
    | some a=>simp [ha] at h5;exact⟨a,ha,h5.symm⟩
   ·right;simp at h5;omega
theorem clone_rec {T T' E sz bytes:Nat} {z:Value} (hE:Elem P T E z sz bytes) {M:Nat→Prop} {w:World} {l:Sl} {xs:List (List Value)} {K:Sl→World→Prop} (hl:SlC (V M w) l sz xs) (hxs:∀ c∈xs,c.length=sz) (h1:∀ c∈xs,∀ u∈c,u.oneCell'=true)
  (hb:xs.length * bytes≤140737488355328) (hlen:xs.length≤9223372036854775807) (hK:∀ l' w',Keeps No w w'→Own w' w.heap.size E sz l' xs.flatten→K l' w') :
  Br (l.a.isNone) (K ⟨none,0,0⟩ w) (Al (.cells #[] E (0,0)) w λb1 w1=>App P (Builtin.append_ #[T,T] T' #[.slice (some ⟨b1,0,none⟩) 0 0,.slice l.a l.n l.c]) (.one .sl) w1 λx w2=>K x w2):=by
 obtain⟨la,ln,lc⟩:=l
 have hn:ln=xs.length:=hl.1
 cases la with
 | none =>
  have hx:xs=[]:=by
   rcases hl.2 with h | ⟨b,off,cs,E,fr,h1,_⟩
   ·exact h
   ·cases h1
  subst hx
  exact hK _ w .refl (Own.nil w _ _ _)
 | some a =>
  dsimp only
  rw [Option.isNone_some,Br_false]
  refine Al.mk λb1 w1 n1=>?_
  have e1:=n1.eq;have z1:=n1.size
  have ho:Own w1 w.heap.size E sz ⟨some ⟨b1,0,none⟩,0,0⟩ []:=⟨by simp,.inr ⟨b1,0,#[],rfl,by omega,n1.at_,Nat.le_refl _,Nat.zero_le _,by simp,by simp⟩⟩
  have hfl:=flatten_len hxs
  refine append_own2 (news:=xs.flatten) (l:=⟨some ⟨b1,0,none⟩,0,0⟩) hE ho (by rw [hfl,hn]) (λj u hu=>?_) (λu hu=>?_) (by simp only [Nat.zero_add];rw [hn];exact hb) (by simp only [Nat.zero_add];omega) (by omega) λl' w' h2 h3 h4 h5=>?_
  ·rcases hl.2 with rfl | ⟨b,off,cs,E',fr,h6,h7,h8⟩
   ·simp at hu
   ·cases h6
    have hsz:=hE.pos
    have hj:j < xs.length * sz:=by rw [← hfl];exact (kA hu).1
    have hq:j / sz < xs.length:=by rw [Nat.div_lt_iff_lt_mul hsz];exact hj
    have hc:xs[j / sz]?=some xs[j / sz]:=kC hq
    have hcl:=hxs _ (kD hc)
    have hr:j % sz < (xs[j / sz]).length:=by rw [hcl];exact Nat.mod_lt _ hsz
    have hcu:(xs[j / sz])[j % sz]?=some (xs[j / sz])[j % sz]:=kC hr
    have hfg:=flatten_get hxs hc hcu
    have hdm:j / sz * sz + j % sz=j:=by rw [Nat.mul_comm];exact Nat.div_add_mod j sz
    rw [hdm,hu] at hfg
    cases hfg
    have:=h8 _ _ hc _ _ hcu
    rw [Nat.add_assoc,hdm] at this
    rw [add_eq]
    exact cell_keep (cell_of h7.2 this) n1.keeps
  ·obtain⟨c,hc,hu⟩:=List.mem_flatten.1 hu
   exact h1 c hc u hu
  ·exact hK l' w' ((n1.keeps.no (M:=No)).then h4 λi hi hbk=>by obtain⟨a,ha,rfl⟩:=hbk;cases ha;dsimp only at hi;omega) (by simpa using h2)
theorem bs_cut {s:ByteArray} {i j:Nat}:bs (s.extract i j)=((bs s).drop i).take (j - i):=by
 simp [bs,List.drop_take]
theorem bs_from {s:ByteArray} {i:Nat}:bs (s.extract i s.size)=(bs s).drop i:=by
 rw [bs_cut,List.take_of_length_le]
 simp
theorem App.suffix {w:World} {s:ByteArray} {i:Nat} {K:ByteArray→World→Prop} (h:i≤s.size) (hK:K (s.extract i s.size) w):App P (Instr.sliceAt T.string (.string s) (some (.int .i64 (i:Int))) none none) (.one .str) w K:=by
 refine⟨s.extract i s.size,w,?_,hK⟩
 rw [run_sliceAt_string w _ _ _ _ _ strTy,run_slice_string_l w _ _ strTy .i64 _ (by omega) (by omega)]
 rfl
theorem App.mid {w:World} {s:ByteArray} {i j:Nat} {K:ByteArray→World→Prop} (h:i≤j) (h2:j≤s.size) (hK:K (s.extract i j) w):App P (Instr.sliceAt T.string (.string s) (some (.int .i64 (i:Int))) (some (.int .i64 (j:Int))) none) (.one .str) w K:=by
 refine⟨s.extract i j,w,?_,hK⟩
 rw [run_sliceAt_string w _ _ _ _ _ strTy,run_slice_string w _ _ .i64 .i64 _ _ strTy (by omega) (by omega) (by omega)]
 rfl
structure Cls where
 n:ByteArray
 rx:ByteArray
 lay:Bool
def Cls.cells (c:Cls):List Value:=[.string c.n,.string c.rx,.bool c.lay]
theorem Cls.lens {xs:List Cls}:∀ c∈xs.map Cls.cells,c.length=3:=λc hc=>by obtain⟨m,_,rfl⟩:=List.mem_map.1 hc;rfl
theorem Cls.ones {xs:List Cls}:∀ c∈xs.map Cls.cells,∀ u∈c,u.oneCell'=true:=λc hc u hu=>by
 obtain⟨m,_,rfl⟩:=List.mem_map.1 hc
 simp only [Cls.cells,List.mem_cons,List.not_mem_nil,or_false] at hu
 rcases hu with rfl | rfl | rfl <;> rfl
theorem elCls:Elem P T.sl_scan_Class T.scan_Class (.agg #[.string ⟨#[]⟩,.string ⟨#[]⟩,.bool false]) 3 40:=⟨by kernel_rfl,by kernel_rfl,rfl,by decide⟩
abbrev SlCls (H:View) (l:Sl) (cs:List Cls):Prop:=SlC H l 3 (cs.map Cls.cells)
structure ClsC (w:World) (p:Addr) (c:Cls):Prop where
 n:w.cell? p=some (.string c.n)
 rx:w.cell? (p.add 1)=some (.string c.rx)
 lay:w.cell? (p.add 2)=some (.bool c.lay)
theorem IdxS.cls {M:Nat→Prop} {w:World} {l:Sl} {xs:List Cls} {i:Int} {K:Addr→Prop} (h:SlCls (V M w) l xs) (h0:0≤i) (h1:i < xs.length)
  (hk:∀ x p,xs[i.toNat]?=some x→ClsC w p x→K p):IdxS l i 3 K:=by
 refine IdxS.recd (M:=M) h h0 (by simpa using h1) λg off c hc hcell=>?_
 rw [List.getElem?_map] at hc
 obtain⟨x,hx,rfl⟩:=kE hc
 refine hk x _ hx ⟨?_,?_,?_⟩
 ·exact hcell 0 _ rfl
 ·rw [add_eq];exact hcell 1 _ rfl
 ·rw [add_eq];exact hcell 2 _ rfl
def NameR (cs:List Cls) (k:ByteArray) (v:Int):Prop:=∃ (i:Nat) (c:Cls),cs[i]?=some c∧c.n=k∧v=i
abbrev scObj (lp:Option Addr) (l:Sl) (mm:Nat):Obj:=.cells #[.pointer lp,.slice l.a l.n l.c,.map (some mm)] T.scan_Scanner (0,0)
def ScanV (H:View) (s:Option Addr) (cs:List Cls) (N:Nat) (ms:List LSt) (of_:Nat→Int):Prop :=
 ∃ b lp l mm,s=some ⟨b,0,none⟩∧H b (scObj lp l mm)∧LeastV H lp N ms of_∧SlCls H l cs∧MapAt P T.string .str (.int .i64) H mm (NameR cs)
theorem ScanV.mono {H H':View} {s:Option Addr} {cs:List Cls} {N:Nat} {ms:List LSt} {of_:Nat→Int} (h:ScanV H s cs N ms of_) (hv:Vle H H'):ScanV H' s cs N ms of_:=by
 obtain⟨b,lp,l,mm,h1,h2,h3,h4,h5⟩:=h
 exact⟨b,lp,l,mm,h1,hv _ _ h2,h3.mono hv,h4.mono hv,h5.mono hv⟩
section
variable {w:World} {s:Option Addr} {cs:List Cls} {N:Nat} {ms:List LSt} {of_:Nat→Int}
theorem ScanV.some_ {H:View} (h:ScanV H s cs N ms of_):s.isNone=false:=by
 obtain⟨b,lp,l,mm,rfl,_⟩:=h
 rfl
theorem LeastV.sm {H:View} {p:Option Addr} (h:LeastV H p N ms of_):p.isNone=false:=by
 obtain⟨b,l,o,rfl,_⟩:=h
 rfl
theorem scan_next_spec (h:ScanV (V No w) s cs N ms of_) {text:ByteArray} {i:Nat} (hi:i≤text.size) (hs:text.size≤1000000) {K:(Int × Int × Int × Int)→World→Prop}
  (hK:∀ w',Keeps No w w'→K ((tokF ms (bs text) i).c,(tokF ms (bs text) i).f,(tokF ms (bs text) i).t,(tokF ms (bs text) i).l) w'):scan_Scanner_next.C s text i w K:=by
 obtain⟨b,lp,l,mm,rfl,h2,h3,h4,h5⟩:=h
 have hsz:=size_bs text
 refine scan_Scanner_next.ok _ _ _ _ _ ?_
 simp only [scan_Scanner_next.M]
 refine Al.mk λb1 w1 n1=>Draw.kp λw2 e2 k2=>?_
 simp only [NilC_some]
 have k02:Keeps No w w2:=n1.keeps.trans k2
 have hb1:=n1.eq
 have hb2:w2.heap[b1]?=_:=k2.blk0 n1.at_
 refine LdK.ptr (cell_of (k02.blk0 h2.2) rfl) (App.suffix hi ⟨.refl,?_⟩)
 obtain⟨F,r,z,ht,htok,hml⟩:=tok_law (ms:=ms) (s:=bs text) (i:=i) (by omega)
 have hl:((bs text).drop i).length=text.size - i:=by simp
 have hF:=ht.le
 have hle:=ht.best.le
 have hsx:(text.extract i text.size).size≤1000000:=by
  have:=size_bs (text.extract i text.size)
  rw [bs_from] at this;omega
 refine least_Longest_spec (.inr (h3.mono (V.keeps0 k02))) hsx ⟨.refl,?_⟩
 rw [bs_from,hml]
 dsimp only
 refine Join.cut (λlk w'=>Keeps No w2 w'∧lk=i + F + 1) ?_ ?_
 ·rintro lk w3 ⟨k3,rfl⟩
  refine Join.cut (λsz w'=>w'=w3∧sz=if r=-1 then 1 else z) ?_ ?_
  ·rintro sz w' ⟨rfl,rfl⟩
   refine St4 (k3.blk0 hb2) λw4 u=>Ld4i u.at_ ?_
   have hg:=hK w4 (u.keeps0 (k02.trans k3) (by omega))
   rw [htok] at hg
   dsimp only at hg
   rw [w64_eq (by split <;> omega)]
   exact hg
  ·intro j hj
   refine Br.mk (λe=>?_) (λe=>?_)
   ·have e:r=-1:=by simpa using e
    exact hj _ _ ⟨rfl,by rw [if_pos e]⟩
   ·have e:¬ r=-1:=by simpa using e
    exact hj _ _ ⟨rfl,by rw [if_neg e]⟩
 ·intro j hj
  refine Draw.kp λw4 e4 k4=>?_
  have em:w64 ((i:Int) + ((min (F + 1) ((bs text).drop i).length:Nat):Int))=((i + min (F + 1) ((bs text).drop i).length:Nat):Int):=by rw [w64_eq (by omega)];omega
  rw [em]
  refine LdK.ptr (cell_of ((k02.trans k4).blk0 h2.2) rfl) (App.mid (by omega) (by omega) ⟨.refl,?_⟩)
  refine least_Run_spec (.inr (h3.mono (V.keeps0 (k02.trans k4)))) ?_ ⟨.refl,?_⟩
  ·have:=size_bs (text.extract i (i + min (F + 1) ((bs text).drop i).length))
   rw [bs_cut,List.length_take] at this
   rw [this]
   omega
  rw [h3.sm,Bool.not_false,bs_cut,Nat.add_sub_cancel_left]
  show Join _ λj9=>Br (qAt ms ((bs text).drop i) (min (F + 1) ((bs text).drop i).length)).2 _ _
  refine Join.cut (λb' w'=>w'=w4∧(b'=true↔¬ F < ((bs text).drop i).length)) ?_ ?_
  ·rintro b' w' ⟨rfl,hb'⟩
   refine Br.mk (λe=>hj _ _ ⟨k4,?_⟩) (λe=>hj _ _ ⟨k4,?_⟩)
   ·have:=hb'.1 e
    rw [w64_eq (by omega)];omega
   ·have:F < ((bs text).drop i).length:=Nat.lt_of_not_le λh=>by rw [hb'.2 (by omega)] at e;cases e
    omega
  ·intro j9 hj9
   by_cases hlt:F < ((bs text).drop i).length
   ·have hm:min (F + 1) ((bs text).drop i).length=F + 1:=by omega
    rw [hm,ht.no hlt]
    exact hj9 _ _ ⟨rfl,⟨λh=>by simp at h,λh=>absurd hlt h⟩⟩
   ·have hm:min (F + 1) ((bs text).drop i).length=F:=by omega
    rw [hm,ht.all F (Nat.le_refl _)]
    refine hj9 _ _ ⟨rfl,?_⟩
    simp only [beq_iff_eq,hlt,not_false_eq_true,iff_true]
    omega
end
theorem Clone_cls {M:Nat→Prop} {w:World} {l:Sl} {xs:List Cls} {K:Sl→World→Prop} (hl:SlCls (V M w) l xs) (hlen:xs.length≤100000000) (hK:∀ l' w',Keeps No w w'→Own w' w.heap.size T.scan_Class 3 l' (xs.map Cls.cells).flatten→K l' w'):slices_Clone_scan_Class.C l w K:=by
 refine slices_Clone_scan_Class.ok _ _ _ ?_
 simp only [slices_Clone_scan_Class.M]
 exact clone_rec elCls hl Cls.lens Cls.ones (by simp;omega) (by simp;omega) hK
end Go.Fk
end
section
namespace Go.Fk
open Go Go.MapKept
theorem strEq_bs {a b:ByteArray}:(a.toList==b.toList)=true↔bs a=bs b:=by rw [beq_iff_eq,ByteArray.toList_eq,ByteArray.toList_eq]
theorem regex_Nullable_spec (x:Re):∀ {M:Nat→Prop} {w:World} {p:Option Addr} {K:Bool→World→Prop} (h:Nd (V M w) p x) (hk:∀ w',Keeps No w w'→K x.emp w'),regex_Nullable.C p w K:=by
 induction x with
 | set f =>
  intro M w p K h hk
  refine regex_Nullable.ok _ _ _ ?_
  simp only [regex_Nullable.M]
  refine regex_Kind_spec h ?_
  exact hk w .refl
 | empty =>
  intro M w p K h hk
  refine regex_Nullable.ok _ _ _ ?_
  simp only [regex_Nullable.M]
  refine regex_Kind_spec h ?_
  exact hk w .refl
 | star a ih =>
  intro M w p K h hk
  refine regex_Nullable.ok _ _ _ ?_
  simp only [regex_Nullable.M]
  refine regex_Kind_spec h ?_
  exact hk w .refl
 | cat a b iha ihb =>
  intro M w p K h hk
  refine regex_Nullable.ok _ _ _ ?_
  simp only [regex_Nullable.M]
  refine regex_Kind_spec h ?_
  obtain⟨b0,n0,n1,n2,n3,l,ps,rfl,hb,hl,ha⟩:=h.out
  cases ha;rename_i p ps1 ha ha1
  cases ha1;rename_i q ps2 hb' ha2
  cases ha2
  simp only [Re.kind,Join,show ((2:Int)==1)=false from rfl,show ((2:Int)==4)=false from rfl,show ((2:Int)==2)=true from rfl,show ((3:Int)==2)=false from rfl,show ((3:Int)==3)=true from rfl,Br_true,Br_false,NilC_some,add_eq]
  refine Ld.slv (l:=l) (cell_of hb.2 rfl) (IdxS.get hl (by omega) (by simp) λy hy=>?_)
  have hy:p=y:=by simpa using hy
  subst hy
  refine iha ha λw1 k1=>Br.mk (λe=>?_) (λe=>?_)
  ·refine Ld.slv (l:=l) (cell_of (k1.blk0 hb.2) rfl) (IdxS.get (hl.mono (V.keeps0 k1)) (by omega) (by simp) λy hy=>?_)
   have hy:q=y:=by simpa using hy
   subst hy
   refine ihb (hb'.mono (V.keeps0 k1)) λw2 k2=>?_
   have:=hk w2 (k1.trans k2)
   simp only [Re.emp,e,Bool.true_and] at this
   exact this
  ·have:=hk w1 k1
   simp only [Re.emp,e,Bool.false_and] at this
   exact this
 | or a b iha ihb =>
  intro M w p K h hk
  refine regex_Nullable.ok _ _ _ ?_
  simp only [regex_Nullable.M]
  refine regex_Kind_spec h ?_
  obtain⟨b0,n0,n1,n2,n3,l,ps,rfl,hb,hl,ha⟩:=h.out
  cases ha;rename_i p ps1 ha ha1
  cases ha1;rename_i q ps2 hb' ha2
  cases ha2
  simp only [Re.kind,Join,show ((3:Int)==1)=false from rfl,show ((3:Int)==4)=false from rfl,show ((2:Int)==2)=true from rfl,show ((3:Int)==2)=false from rfl,show ((3:Int)==3)=true from rfl,Br_true,Br_false,NilC_some,add_eq]
  refine Ld.slv (l:=l) (cell_of hb.2 rfl) (IdxS.get hl (by omega) (by simp) λy hy=>?_)
  have hy:p=y:=by simpa using hy
  subst hy
  refine iha ha λw1 k1=>Br.mk (λe=>?_) (λe=>?_)
  ·have:=hk w1 k1
   simp only [Re.emp,e,Bool.true_or] at this
   exact this
  ·refine Ld.slv (l:=l) (cell_of (k1.blk0 hb.2) rfl) (IdxS.get (hl.mono (V.keeps0 k1)) (by omega) (by simp) λy hy=>?_)
   have hy:q=y:=by simpa using hy
   subst hy
   refine ihb (hb'.mono (V.keeps0 k1)) λw2 k2=>?_
   have:=hk w2 (k1.trans k2)
   simp only [Re.emp,e,Bool.false_or] at this
   exact this
def ChOK (i:Nat) (c:UInt8):Prop:=(97≤c.toNat∧c.toNat≤122)∨(0 < i∧48≤c.toNat∧c.toNat≤57)
def NameOK (s:List UInt8):Prop:=1≤s.length∧s.length≤20∧∀ i c,s[i]?=some c→ChOK i c
theorem scan_named_spec {w:World} {s:ByteArray} (hs:s.size≤maxLen) {K:Bool→World→Prop} (hK:∀ b,(b=true↔NameOK (bs s))→K b w):scan_named.C s w K:=by
 have hsz:=size_bs s
 have hmx:maxLen=9223372036854775807:=rfl
 refine scan_named.ok _ _ _ ?_
 simp only [scan_named.M]
 refine Loop.mk (λt w'=>w'=w∧∃ k:Nat,t=k∧k≤s.size∧∀ i c,i < k→(bs s)[i]?=some c→ChOK i c) (λt=>s.size - t.toNat) ⟨rfl,0,rfl,by omega,λi c h=>by omega⟩ ?_
 rintro t w' ⟨rfl,k,rfl,hk,hp⟩ R hR
 refine Br.mk (λe=>?_) (λe=>?_)
 ·have e:k < s.size:=by have:=kG e;omega
  refine IdxStr.get (by omega) (by omega) λc hc=>?_
  simp only [Int.toNat_natCast] at hc
  refine Join.cut (λb w2=>w2=w'∧(b=true↔¬ ChOK k c)) ?_ ?_
  ·rintro b w2 ⟨rfl,hb⟩
   refine Br.mk (λe2=>hK _ ⟨λh=>(by cases h),λh=>absurd (h.2.2 k c hc) (hb.1 e2)⟩) (λe2=>?_)
   have hch:ChOK k c:=Classical.byContradiction λhn=>by rw [hb.2 hn] at e2;cases e2
   rw [w64_eq (by omega)]
   refine hR _ _ ⟨rfl,k + 1,by omega,by omega,λi c' hi hc'=>?_⟩ (by omega)
   by_cases hik:i=k
   ·subst hik;rw [hc] at hc';cases hc';exact hch
   ·exact hp i c' (by omega) hc'
  ·intro j hj
   refine Br.mk (λe1=>Br.mk (λe2=>?_) (λe2=>Br.mk (λe3=>Br.mk (λe4=>?_) (λe4=>?_)) (λe3=>?_))) (λe1=>Br.mk (λe3=>Br.mk (λe4=>?_) (λe4=>?_)) (λe3=>?_))
   all_goals
    refine hj _ _ ⟨rfl,?_⟩
    unfold ChOK
    simp only [decide_eq_true_eq,decide_eq_false_iff_not,Bool.not_eq_true',Bool.false_eq_true,false_iff,true_iff,Classical.not_not] at *
    omega
 ·have e:k=s.size:=by have:=kF e;omega
  subst e
  have hall:∀ i c,(bs s)[i]?=some c→ChOK i c:=λi c h=>hp i c (by have:=(kA h).1;omega) h
  have hne:(s.toList==(⟨#[]⟩:ByteArray).toList)=true↔(bs s).length=0:=by
   rw [strEq_bs]
   exact⟨λh=>by rw [h];rfl,λh=>List.eq_nil_of_length_eq_zero h⟩
  refine Br.mk (λe2=>hK _ ?_) (λe2=>hK _ ?_)
  ·have:¬ (bs s).length=0:=λh=>by rw [hne.2 h] at e2;cases e2
   simp only [decide_eq_true_eq]
   exact⟨λh=>⟨by omega,by omega,hall⟩,λh=>by have:=h.2.1;omega⟩
  ·have:(bs s).length=0:=hne.1 (by simpa using e2)
   exact⟨λh=>(by cases h),λh=>by have:=h.1;omega⟩
def Over (ys:List Re):Prop:=2000 < mCnt ys∨TooMany (mFs 0 ys) (mFol 0 ys) (mKs 0 ys)
def MeansP (y:Re):Prop:=y.emp=false∧(y.sub∨Over [y])
theorem scan_means_spec {w:World} {p:Option Addr} {y:Re} (hN:Nd (V No w) p y) (hsz:y.size < 1000000) {K:Bool→World→Prop} (hK:∀ b w',Keeps No w w'→(b=true↔MeansP y)→K b w'):scan_means.C p w K:=by
 refine scan_means.ok _ _ _ ?_
 simp only [scan_means.M]
 refine regex_Nullable_spec y hN λw1 k1=>Br.mk (λe=>hK _ w1 k1 ⟨λh=>(by cases h),λh=>by rw [h.1] at e;cases e⟩) (λhe=>?_)
 refine Al.mk λb1 w2 n2=>?_
 have k02:=k1.trans n2.keeps
 refine nfa_New_spec (M:=No) (λ_ h=>h.elim) (row1 ⟨id,n2.at_⟩) (.cons (hN.mono (V.keeps0 k02)) .nil) (by simp) (by simp) (λx hx=>by simp at hx;subst hx;omega) λm e w3 k3 g1 g2=>?_
 have k03:=k02.trans k3
 by_cases hc:mCnt [y]≤2000
 ·obtain⟨rfl,hm⟩:=g1 hc
  have hmn:m≠none:=by
   obtain⟨bm,_,_,_,_,rfl,_⟩:=hm.ex
   simp
  show Br ((0:Int) != 0) _ _
  rw [bne_self_eq_false,Br_false]
  refine dfa_New_spec (.inr hm) hmn (by rw [mKs_len];simp) (λd svs cl nc w4 k4 hd hok=>?_) (λw4 k4 hg=>?_)
  ·show Br ((0:Int) != 0) _ _
   rw [bne_self_eq_false,Br_false]
   have hdo:DfaO (V No w4) d svs cl nc:=.inr hd
   have k04:=k03.trans k4
   have hfew:=hok.few
   refine dfa_States_spec hdo ?_
   refine Loop.mk (λt w'=>w'=w4∧∃ k:Nat,t=k∧k≤svs.length∧∀ v:Nat,v < k→accOf svs v=-1) (λt=>svs.length - t.toNat) ⟨rfl,0,rfl,by omega,λv h=>by omega⟩ ?_
   rintro t w' ⟨rfl,k,rfl,hk,hp⟩ R hR
   refine Br.mk (λe=>?_) (λe=>?_)
   ·have e:k < svs.length:=by have:=kG e;omega
    refine dfa_Accept_spec hdo (Br.mk (λe2=>?_) (λe2=>?_))
    ·have e2:accOf svs k≠-1:=by simpa using e2
     exact hK _ w' k04 ⟨λ_=>⟨he,.inl ((accepts_iff hok).1 ⟨k,e,e2⟩)⟩,λ_=>rfl⟩
    ·have e2:accOf svs k=-1:=by simpa using e2
     rw [w64_eq (by omega)]
     refine hR _ _ ⟨rfl,k + 1,by omega,by omega,λv hv=>?_⟩ (by omega)
     by_cases hvk:v=k
     ·subst hvk;exact e2
     ·exact hp v (by omega)
   ·have e:k=svs.length:=by have:=kF e;omega
    subst e
    refine hK _ w' k04 ⟨λh=>(by cases h),λh=>?_⟩
    rcases h.2 with h | h | h
    ·obtain⟨v,hv,ha⟩:=(accepts_iff hok).2 h
     exact absurd (hp v hv) ha
    ·omega
    ·exact (TooMany.up (i:=0) (ys:=[y]) rfl hok h).elim
  ·show Br ((3:Int) != 0) _ _
   exact hK _ w4 (k03.trans k4) ⟨λ_=>⟨he,.inr (.inr hg)⟩,λ_=>rfl⟩
 ·obtain⟨rfl,rfl⟩:=g2 (by omega)
  show Br ((3:Int) != 0) _ _
  exact hK _ w3 k03 ⟨λ_=>⟨he,.inr (.inl (by omega))⟩,λ_=>rfl⟩
theorem Draw.kpm {w:World} (M:Nat→Prop) {F:(World→Prop)→World→Prop} (h:∀ w',w'.heap=w.heap→Keeps No w w'→F (λx=>Keeps M w' x) w'):Draw w F :=
 ⟨λx=>Keeps M w.drew x,Keeps.refl,h _ rfl Keeps.drew⟩
def reOf (c:Cls):Re:=(parseF (bs c.rx)).1
def ysOf (cs:List Cls):List Re:=cs.map reOf
def ClsOK (cs:List Cls) (i:Nat):Prop:=∃ c,cs[i]?=some c∧NameOK (bs c.n)∧(∀ (j:Nat) c',j < i→cs[j]?=some c'→c'.n≠c.n)∧(parseF (bs c.rx)).2.2=0∧MeansP (reOf c)
def BadAt (cs:List Cls) (i:Nat) (e:Int):Prop:=∃ c,cs[i]?=some c∧((e=9∧(¬ NameOK (bs c.n)∨∃ (j:Nat) (c':Cls),j < i∧cs[j]?=some c'∧c'.n=c.n))∨((parseF (bs c.rx)).2.2≠0∧e=(parseF (bs c.rx)).2.2)∨(e=11∧(parseF (bs c.rx)).2.2=0∧¬ MeansP (reOf c)))
structure Sound (cs:List Cls) (ms:List LSt):Prop where
 ne:cs≠[]
 cls:∀ i,i < cs.length→ClsOK cs i
 auto:∃ svs cl nc lv kd fs of_,DfaOK (mFs 0 (ysOf cs)) (mFol 0 (ysOf cs)) (mKs 0 (ysOf cs)) svs cl nc∧Aut svs∧LeastOK svs lv kd fs ms of_
def ScanW (H:View) (s:Option Addr) (cs:List Cls) (ms:List LSt):Prop:=∃ N of_,ScanV H s cs N ms of_
theorem scan_class_spec {w:World} {M:Nat→Prop} {b mm:Nat} {lp:Option Addr} {l:Sl} {R:ByteArray→Int→Prop} (hb:w.heap[b]?=some (scObj lp l mm)) (hm:MapAt P T.string .str (.int .i64) (V M w) mm R) {i:Int} (hi:i < 40) {c:Cls} (hc:c.n.size≤maxLen) (hrx:Small c.rx) {K:(Option Addr × Int)→World→Prop}
  (k9:∀ w',Keeps No w w'→(¬ NameOK (bs c.n)∨∃ v,R c.n v)→K (none,9) w')
  (kp:∀ w',Keeps No w w'→NameOK (bs c.n)→(∀ v,¬ R c.n v)→(parseF (bs c.rx)).2.2≠0→K (none,((parseF (bs c.rx)).2.2:Int)) w')
  (k11:∀ w',Keeps No w w'→NameOK (bs c.n)→(∀ v,¬ R c.n v)→(parseF (bs c.rx)).2.2=0→¬ MeansP (reOf c)→K (none,11) w')
  (k0:∀ p w',Keeps No w w'→NameOK (bs c.n)→(∀ v,¬ R c.n v)→(parseF (bs c.rx)).2.2=0→MeansP (reOf c)→Nd (V (Lt w.heap.size) w') p (reOf c)→K (p,0) w'):scan_Scanner_class.C (some ⟨b,0,none⟩) i (c.n,c.rx,c.lay) w K:=by
 refine scan_Scanner_class.ok _ _ _ _ _ ?_
 simp only [scan_Scanner_class.M]
 refine Al.mk λb1 w1 n1=>Draw.kp λw2 e2 k2=>?_
 have k02:Keeps No w w2:=n1.keeps.trans k2
 have z1:=n1.size;have z2:=k2.size
 simp only [NilC_some,add_eq]
 refine LdK.map (cell_of (k02.blk0 hb) rfl) (LdK.str (cell_of (k2.blk0 n1.at_) rfl) ?_)
 have hm2:MapO P T.string .str (.int .i64) (V M w2) (some mm) R:=MapAt.mono hm (V.keeps0 k02)
 have fin:∀ (bt:Bool),(bt=true↔∃ v,R c.n v)→∀ z:Int,(Keeps No w2 w2∧Br (decide ((40:Int)≤i)) (K (none,3) w2) (Join (λ(s3:Bool) w4=>Br s3 (K (none,9) w4) (Ld .str (⟨b1,1,none⟩) w4 λx36=>regex_Parse.C x36 w4 λx37 w5=>Br (x37.2.2 != (0:Int)) (K (none,x37.2.2) w5) (scan_means.C x37.1 w5 λx45 w6=>Br (!x45) (K (none,11) w6) (K (x37.1,0) w6)))) λj4=>Ld .str (⟨b1,0,none⟩) w2 λx28=>scan_named.C x28 w2 λx29 w7=>Br (!x29) (j4 true w7) (j4 (z,bt).2 w7))):=by
  intro bt hbt z
  refine⟨.refl,Br.mk (λe=>by have:=kG e;omega) λ_=>?_⟩
  refine Join.cut (λs3 w4=>w4=w2∧(s3=true↔(¬ NameOK (bs c.n)∨∃ v,R c.n v))) ?_ ?_
  ·rintro s3 w4 ⟨rfl,hs3⟩
   refine Br.mk (λe=>k9 _ k02 (hs3.1 e)) (λe=>?_)
   have hno:¬ (¬ NameOK (bs c.n)∨∃ v,R c.n v):=λh=>by rw [hs3.2 h] at e;cases e
   have hnm:NameOK (bs c.n):=Classical.byContradiction λh=>hno (.inl h)
   have hnr:∀ v,¬ R c.n v:=λv h=>hno (.inr ⟨v,h⟩)
   refine Ld.str (cell_of (k2.blk0 n1.at_) rfl) (regex_Parse_spec hrx λp w5 k5 hN hnil=>?_)
   have k05:=k02.trans k5
   by_cases h0:(parseF (bs c.rx)).2.2=0
   ·have hN:=hN h0
    rw [h0]
    show Br ((0:Int) != 0) _ _
    rw [bne_self_eq_false,Br_false]
    refine scan_means_spec (hN.mono (V.sub λ_ _ h=>h.elim)) (by have:=parse_small h0;unfold reOf at *;omega) λx w6 k6 hx=>?_
    refine Br.mk (λe=>?_) (λe=>?_)
    ·exact k11 w6 (k05.trans k6) hnm hnr h0 λh=>by have h:x=true:=hx.2 h;subst h;cases e
    ·have hxt:x=true:=by simpa using e
     exact k0 p w6 (k05.trans k6) hnm hnr h0 (hx.1 hxt) (hN.mono ((V.keeps0 k6).trans (V.sub λb _ h=>by have:b < w.heap.size:=h;show b < _;omega)))
   ·have:((((parseF (bs c.rx)).2.2:Nat):Int) != 0)=true:=by simp;omega
    rw [this,Br_true]
    have hp:=hnil h0
    exact kp w5 k05 hnm hnr h0
  ·intro j hj
   refine Ld.str (cell_of (k2.blk0 n1.at_) rfl) (scan_named_spec hc λbn hbn=>?_)
   refine Br.mk (λe=>hj _ _ ⟨rfl,?_⟩) (λe=>hj _ _ ⟨rfl,?_⟩)
   ·have e:bn=false:=by simpa using e
    exact⟨λ_=>.inl λh=>(by rw [hbn.2 h] at e;cases e),λ_=>rfl⟩
   ·have e:bn=true:=by simpa using e
    have hnm:=hbn.1 e
    dsimp only
    rw [hbt]
    exact⟨.inr,λh=>h.resolve_left λh=>h hnm⟩
 refine App.look2 (kt:=.str) (vt:=.int .i64) (x:=c.n) (z:=(0:Int)) strIntTy (run_zeroInt w2) hm2 (strKey hc) (λv hv=>fin true ⟨λ_=>⟨v,hv⟩,λ_=>rfl⟩ v) (λhno=>fin false ⟨λh=>(by cases h),λ⟨v,hv⟩=>absurd hv (hno v)⟩ 0)
theorem NameR.snoc {cs:List Cls} {i:Nat} {c:Cls} (hc:cs[i]?=some c) (hno:∀ v,¬ NameR (cs.take i) c.n v) (a:ByteArray) (v:Int):((a=c.n∧v=(i:Int))∨(a≠c.n∧NameR (cs.take i) a v))↔NameR (cs.take (i + 1)) a v:=by
 have hl:i < cs.length:=(kA hc).1
 have htk:cs.take (i + 1)=cs.take i++[c]:=by rw [List.take_add_one,hc];rfl
 have hlt:(cs.take i).length=i:=by simp;omega
 constructor
 ·rintro (⟨rfl,rfl⟩ | ⟨_,j,c',h1,h2,h3⟩)
  ·exact⟨i,c,by rw [htk,List.getElem?_append_right (by omega)];simp [hlt],rfl,rfl⟩
  ·exact⟨j,c',by rw [htk,List.getElem?_append_left (kA h1).1];exact h1,h2,h3⟩
 ·rintro⟨j,c',h1,h2,h3⟩
  rw [htk] at h1
  by_cases hj:j < i
  ·rw [List.getElem?_append_left (by omega)] at h1
   refine .inr ⟨λe=>?_,j,c',h1,h2,h3⟩
   subst e
   exact hno v ⟨j,c',h1,h2,h3⟩
  ·rw [List.getElem?_append_right (by omega)] at h1
   have:j - (cs.take i).length=0:=by
    have:=(kA h1).1
    simp at this ⊢;omega
   rw [this] at h1
   simp at h1
   subst h1
   exact .inl ⟨h2.symm,by omega⟩
theorem NameR.look {cs:List Cls} {i:Nat} {n:ByteArray}:(∃ v,NameR (cs.take i) n v)↔∃ (j:Nat) (c':Cls),j < i∧cs[j]?=some c'∧c'.n=n:=by
 constructor
 ·rintro⟨v,j,c',h1,h2,h3⟩
  rw [List.getElem?_take] at h1
  split at h1
  ·exact⟨j,c',by assumption,h1,h2⟩
  ·cases h1
 ·rintro⟨j,c',h1,h2,h3⟩
  exact⟨j,j,c',by rw [List.getElem?_take,if_pos h1];exact h2,h3,rfl⟩
theorem scan_New_fresh {M:Nat→Prop} {w:World} {l:Sl} {cs:List Cls} (hl:SlCls (V M w) l cs) (hlen:cs.length≤40) (hsm:∀ c∈cs,Small c.rx∧c.n.size≤maxLen) {K:(Option Addr × Int × Int)→World→Prop}
  (hnil:cs=[]→K (none,0,12) w)
  (hbad:∀ (i:Nat) e w',Keeps No w w'→i < cs.length→(∀ j,j < i→ClsOK cs j)→BadAt cs i e→K (none,i,e) w')
  (hbig:∀ w',Keeps No w w'→cs≠[]→(∀ j,j < cs.length→ClsOK cs j)→Over (ysOf cs)→K (none,0,3) w')
  (hok:∀ s ms w',Keeps No w w'→ScanW (V (Lt w.heap.size) w') s cs ms→Sound cs ms→K (s,cs.length,0) w'):scan_New.C l w K:=by
 have hn:=hl.1
 simp only [List.length_map] at hn
 refine scan_New.ok _ _ _ ?_
 simp only [scan_New.M]
 refine Br.mk (λe=>hnil (List.eq_nil_of_length_eq_zero (by have h0:(l.n:Int)=0:=(by simpa using e);omega))) (λe=>?_)
 have hne:cs≠[]:=by
  rintro rfl
  rw [hn] at e;cases e
 refine Clone_cls hl (by omega) λl1 w1 k1 ho1=>?_
 refine Al.mk λm1 w2 n2=>Al.mk λb2 w3 n3=>?_
 have e2:=n2.eq;have z2:=n2.size;have e3:=n3.eq;have z3:=n3.size;have z1:=k1.size
 have k03:Keeps No w w3:=(k1.trans n2.keeps).trans n3.keeps
 have hl1:∀ c,l1.blk c→w.heap.size≤c∧c≠m1∧c≠b2:=λc hc=>by have:=ho1.ge hc;omega
 refine Loop.mk (λt w'=>Keeps No w w'∧∃ (i:Nat) (ps:List (Option Addr)),t.2=(i:Int)∧i≤cs.length∧ps.length=i∧w'.heap[b2]?=some (scObj none l1 m1)∧Own w' w.heap.size T.scan_Class 3 l1 (cs.map Cls.cells).flatten ∧
   MapAt P T.string .str (.int .i64) (V No w') m1 (NameR (cs.take i))∧Own w' w.heap.size T.p_regex_Node 1 t.1 (ps.map (Ty.enc .ptr))∧(¬ t.1.blk b2∧¬ t.1.blk m1∧∀ c,t.1.blk c→¬ l1.blk c) ∧
   All2 (Nd (V (λc=>t.1.blk c∨c=b2∨c=m1) w')) ps (ysOf (cs.take i))∧∀ j,j < i→ClsOK cs j)
  (λt=>cs.length - t.2.toNat) ⟨k03,0,[],rfl,by omega,rfl,n3.at_,(ho1.keep0 n2.keeps).keep0 n3.keeps,?_,by simpa using Own.nil _ _ _ _,⟨λ⟨a,h,_⟩=>(by cases h),λ⟨a,h,_⟩=>(by cases h),λc ⟨a,h,_⟩=>(by cases h)⟩,.nil,λj hj=>by omega⟩ ?_
 ·exact (MapAt.empty (kt:=.str) (vt:=.int .i64) ⟨id,n3.keeps.blk0 n2.at_⟩).congr λk v=>⟨λh=>h.elim,λ⟨i,c,h,_⟩=>by simp at h⟩
 rintro⟨a,ti⟩ w4 ⟨k4,i,ps,hti,hi,hpl,hb2,ho4,hmap,ha,⟨f1,f2,f3⟩,hN,hcl⟩ R hR
 dsimp only at hti ha f1 f2 f3 hN ⊢
 subst hti
 have han:a.n=ps.length:=by have:=ha.len;simp at this;omega
 have hb2lt:=lt_of_some hb2
 have hm1lt:=hmap.lt
 refine Br.mk (λe=>?_) (λe=>?_)
 ·have hlt:i < cs.length:=by have:=kG e;omega
  have hci:cs[i]?=some cs[i]:=kC hlt
  generalize cs[i]=c at hci
  have hcm:=hsm c (kD hci)
  refine IdxS.cls (hl.mono (V.keeps0 k4)) (by omega) (by omega) λc' q hc' hq=>?_
  simp only [Int.toNat_natCast] at hc'
  rw [hci] at hc';cases hc'
  refine Ld.str hq.n (Ld.str hq.rx (Ld.bool hq.lay ?_))
  refine AlSt3 λb5 w5 n5=>?_
  have e5:=n5.eq;have z5:=n5.size
  refine Ld.str (cell_of n5.at_ rfl) (Ld.str (cell_of n5.at_ rfl) (Ld.bool (cell_of n5.at_ rfl) ?_))
  refine scan_class_spec (M:=No) (n5.keeps.blk0 hb2) (hmap.mono (V.keeps0 n5.keeps)) (by omega) hcm.2 hcm.1 ?_ ?_ ?_ ?_
  ·intro w6 k6 h6
   show Br ((9:Int) != 0) _ _
   exact hbad i 9 w6 ((k4.trans n5.keeps).trans k6) hlt hcl ⟨c,hci,.inl ⟨rfl,h6.imp id NameR.look.1⟩⟩
  ·intro w6 k6 h6 h7 h8
   have:((((parseF (bs c.rx)).2.2:Nat):Int) != 0)=true:=by simp;omega
   dsimp only
   rw [this,Br_true]
   exact hbad i _ w6 ((k4.trans n5.keeps).trans k6) hlt hcl ⟨c,hci,.inr (.inl ⟨h8,rfl⟩)⟩
  ·intro w6 k6 h6 h7 h8 h9
   show Br ((11:Int) != 0) _ _
   exact hbad i 11 w6 ((k4.trans n5.keeps).trans k6) hlt hcl ⟨c,hci,.inr (.inr ⟨rfl,h8,h9⟩)⟩
  ·intro p w6 k6 h6 h7 h8 h9 hNp
   dsimp only
   rw [bne_self_eq_false,Br_false]
   have hcok:ClsOK cs i:=⟨c,hci,h6,λj c' hj hc' he=>h7 _ (NameR.look.2 ⟨j,c',hj,hc',he⟩).choose_spec,h8,h9⟩
   refine Draw.kpm (·=m1) λw7 e7 k7=>?_
   have k47:Keeps No w4 w7:=(n5.keeps.trans k6).trans k7
   have k07:=k4.trans k47
   have z7:=k47.size;have z6:=k6.size
   refine LdS.of (t:=.map) (v:=some m1) (λw' hw'=>cell_of (hw'.blk (k47.blk0 hb2) (by omega)) rfl) (LdS.of (t:=.str) (v:=c.n) (λw' hw'=>cell_of (hw'.blk ((k6.trans k7).blk0 n5.at_) (by omega)) rfl) ?_)
   refine App0.put (M:=No) (kt:=.str) (vt:=.int .i64) (x:=c.n) (y:=(i:Int)) strIntTy (hmap.mono (V.keeps0 k47)) (strKey hcm.2) λw8 k8 z8 hm8=>⟨k8,?_⟩
   have ha8:Own w8 w.heap.size T.p_regex_Node 1 a (ps.map (Ty.enc .ptr)):=(ha.keep0 k47).keep k8 λb hb=>by subst hb;exact f2
   refine append1 (t:=.ptr) (x:=p) E_pNode ha8 rfl (by omega) (by omega) (by have:=k07.size;omega) λa' w9 o9 m9 k9 g9=>?_
   obtain⟨ga,hga,hga2⟩:=g9
   have s9:=k9.size
   have hA:∀ c,a'.blk c→a.blk c∨w8.heap.size≤c:=λc hc=>by rw [blk_one hga hc];exact hga2
   have k48:Keeps (·=m1) w4 w8:=(k47.no).trans k8
   have v9:Vle (V (λc=>a.blk c∨c=b2∨c=m1) w8) (V (λc=>a'.blk c∨c=b2∨c=m1) w9):=V.move k9 (λc _ hc=>.inl hc) λc hlt hc=>by
    rcases hc with h1 | h1
    ·exact .inl ((hA c h1).resolve_right (by omega))
    ·exact .inr h1
   have hNp8:Nd (V (λc=>a.blk c∨c=b2∨c=m1) w8) p (reOf c):=hNp.mono ((V.move (k7.no.then k8 (M:=λc=>a.blk c∨c=b2∨c=m1) λ_ _ h=>.inr (.inr h)) (λb hb h=>?_) λb hb h=>?_))
   rotate_left
   ·rcases h with h | h | h
    ·have:=(ha.ge h).2;show b < _;omega
    ·show b < _;omega
    ·show b < _;omega
   ·rcases h with h | h | h
    ·have:=(ha.ge h).2;show b < _;omega
    ·show b < _;omega
    ·show b < _;omega
   have hN8:All2 (Nd (V (λc=>a.blk c∨c=b2∨c=m1) w8)) ps (ysOf (cs.take i)):=hN.mono λ_ _ x=>x.mono (V.move k48 (λ_ _ h=>.inr (.inr h)) λ_ _ h=>h)
   have ew:w64 ((i:Int) + 1)=((i + 1:Nat):Int):=by rw [w64_eq (by omega)];omega
   have htk:cs.take (i + 1)=cs.take i++[c]:=by rw [List.take_add_one,hci];rfl
   rw [ew]
   have k89:Keeps (λc=>a.blk c∨c=m1) w7 w9:=(k8.mono λ_ _ h=>.inr h).trans (k9.mono λ_ _ h=>.inl h)
   refine hR _ _ ⟨(k07.no (M:=No)).then k89 λc hc h=>?_,i + 1,ps++[p],rfl,by omega,by simp [hpl],?_,?_,?_,o9,⟨?_,?_,?_⟩,?_,?_⟩ (by dsimp only;omega)
   ·rcases h with h | h
    ·have:=(ha.ge h).1;omega
    ·have:=k1.size;omega
   ·exact k9.blk (k8.blk (k47.blk0 hb2) (by omega)) f1
   ·exact ((ho4.keep0 k47).keep k8 λb hb h=>(hl1 b h).2.1 hb).keep k9 λb hb h=>f3 b hb h
   ·refine (hm8.congr λx v=>NameR.snoc hci h7 x v).keep k9 f2 id
   ·exact λh=>(hA _ h).elim f1 λh=>by omega
   ·exact λh=>(hA _ h).elim f2 λh=>by omega
   ·exact λb h=>(hA _ h).elim (f3 b) λh hb=>by have:=(ho4.ge hb).2;omega
   ·rw [htk]
    unfold ysOf
    rw [List.map_append]
    exact (hN8.append (.cons hNp8 .nil)).mono λ_ _ x=>x.mono v9
   ·intro j hj
    by_cases hji:j=i
    ·subst hji;exact hcok
    ·exact hcl j (by omega)
 ·have e:i=cs.length:=by have:=kF e;omega
  subst e
  rw [List.take_length] at hN
  rw [List.take_length] at hmap
  have hyl:(ysOf cs).length=cs.length:=by simp [ysOf]
  refine nfa_New_spec (M:=No) (λ_ h=>h.elim) (ha.reads λ_ _ h=>h) (hN.mono λ_ _ x=>x.mono (V.sub λ_ _ h=>h.elim)) (λh=>hne (List.eq_nil_of_length_eq_zero (by rw [← hpl,h];rfl))) (by omega) (λx hx=>?_) λm e w5 k5 g1 g2=>?_
  ·obtain⟨c,hc,rfl⟩:=List.mem_map.1 hx
   obtain⟨j,hj⟩:=List.getElem?_of_mem hc
   obtain⟨c',hc',_,_,h0,_⟩:=hcl j (kA hj).1
   rw [hj] at hc';cases hc'
   have:=parse_small h0
   unfold reOf;omega
  have k05:=k4.trans k5
  by_cases hc:mCnt (ysOf cs)≤2000
  ·obtain⟨rfl,hm⟩:=g1 hc
   have hmn:m≠none:=by
    obtain⟨bm,_,_,_,_,rfl,_⟩:=hm.ex
    simp
   dsimp only
   rw [bne_self_eq_false,Br_false]
   refine dfa_New_spec (.inr hm) hmn (by rw [mKs_len];omega) (λd svs cl nc w6 k6 hd hok6=>?_) (λw6 k6 hg=>?_)
   ·dsimp only
    rw [bne_self_eq_false,Br_false]
    have hsome:d.isNone=false:=by obtain⟨bd,p,l,rfl,_⟩:=hd;rfl
    have A:=Aut.of hok6 (by omega)
    refine least_New_fresh (.inr hd) hsome A λp lv kd fs ms of_ w7 k7 hlv L=>?_
    have k47:=(k5.trans k6).trans k7
    have k07:=k4.trans k47
    have hb7:=k47.blk0 hb2
    have z06:=(k4.trans (k5.trans k6)).size;have z46:=(k5.trans k6).size
    have hlv2:LeastV (V (λb=>b=b2∨b < w.heap.size) w7) p svs.length ms of_:=hlv.mono (V.sub λb _ h=>by show b < _;rcases h with rfl | h <;> omega)
    dsimp only
    refine St.blk hb7 (by simp) λw8 u8=>?_
    have hl1b:∀ b,l1.blk b→¬ b=b2:=λb hb=>(hl1 b hb).2.2
    have hn':(l.n:Int)=(cs.length:Int):=by omega
    rw [hn']
    refine hok _ ms w8 ((k07.no (M:=No)).then u8.keeps λb hb h=>by have:b=b2:=h;omega) ⟨svs.length,of_,b2,p,l1,m1,rfl,⟨λh=>by have h:b2 < w.heap.size:=h;omega,u8.at_⟩,hlv2.mono (V.move u8.keeps (λ_ _ h=>.inl h) λ_ _ h=>.inr h),?_,?_⟩ ⟨hne,hcl,svs,cl,nc,lv,kd,fs,of_,hok6,A,L⟩
    ·exact (((ho4.keep0 k47).keep u8.keeps λb hb h=>hl1b b h hb).readsC (by omega) Cls.lens λc hc h=>by have h:c < w.heap.size:=h;have:=(ho4.ge hc).1;omega)
    ·obtain⟨es,clock,q1,q2⟩:=(hmap.keep k47 id id (M':=No)).keep u8.keeps (by omega) id (M':=No)
     exact⟨es,clock,⟨λh=>by have h:m1 < w.heap.size:=h;omega,q1.2⟩,q2⟩
   ·dsimp only
    exact hbig w6 (k05.trans k6) hne hcl (.inr hg)
  ·obtain⟨rfl,rfl⟩:=g2 (by omega)
   dsimp only
   exact hbig w5 k05 hne hcl (.inl (by omega))
end Go.Fk
end
section
namespace Go.Fk
open Go
inductive Rx where
 | no | eps | cls (l:List (Nat × Nat)) | cat (a b:Rx) | alt (a b:Rx) | star (a:Rx)
def inCls:List (Nat × Nat)→Nat→Bool
 | [],_=>false
 | p::l,c=>match Nat.ble p.1 c,Nat.ble c p.2 with
  | true,true=>true
  | _,_=>inCls l c
def Rx.nul:Rx→Bool
 | .no=>false
 | .eps=>true
 | .cls _=>false
 | .cat a b=>match a.nul with | true=>b.nul | false=>false
 | .alt a b=>match a.nul with | true=>true | false=>b.nul
 | .star _=>true
def okCls:List (Nat × Nat)→Bool
 | []=>false
 | p::l=>match Nat.ble p.1 p.2,Nat.blt p.1 256 with
  | true,true=>true
  | _,_=>okCls l
def Rx.sm:Rx→Bool
 | .no=>false
 | .eps=>true
 | .cls l=>okCls l
 | .cat a b=>match a.sm with | true=>b.sm | false=>false
 | .alt a b=>match a.sm with | true=>true | false=>b.sm
 | .star _=>true
def mkCat (a b:Rx):Rx:=match a,b with
 | .no,_=>.no
 | _,.no=>.no
 | .eps,b=>b
 | a,b=>.cat a b
def mkAlt (a b:Rx):Rx:=match a,b with
 | .no,b=>b
 | a,.no=>a
 | a,b=>.alt a b
def Rx.d (c:Nat):Rx→Rx
 | .no=>.no
 | .eps=>.no
 | .cls l=>match inCls l c with | true=>.eps | false=>.no
 | .cat a b=>match a.nul with
  | true=>mkAlt (mkCat (a.d c) b) (b.d c)
  | false=>mkCat (a.d c) b
 | .alt a b=>mkAlt (a.d c) (b.d c)
 | .star a=>mkCat (a.d c) (.star a)
def Rx.m (s:List UInt8):Rx→Nat→Nat→Prop
 | .no,_,_=>False
 | .eps,i,j=>i=j
 | .cls l,i,j=>j=i + 1∧∃ c,s[i]?=some c∧inCls l c.toNat=true
 | .cat a b,i,j=>∃ k,a.m s i k∧b.m s k j
 | .alt a b,i,j=>a.m s i j∨b.m s i j
 | .star a,i,j=>Clo (a.m s) i j
section
variable {s:List UInt8}
theorem Rx.m_le (x:Rx):∀ {i j:Nat},x.m s i j→i≤j∧(j=i∨j≤s.length):=by
 induction x with
 | no=>intro i j h;exact h.elim
 | eps=>rintro i j rfl;exact⟨Nat.le_refl _,.inl rfl⟩
 | cls l=>rintro i j ⟨rfl,c,hc,_⟩;have:=(kA hc).1;exact⟨by omega,.inr (by omega)⟩
 | cat a b iha ihb=>rintro i j ⟨k,h1,h2⟩;have:=iha h1;have:=ihb h2;omega
 | alt a b iha ihb=>rintro i j (h | h);exact iha h;exact ihb h
 | star a ih =>
  intro i j h
  change Clo (a.m s) i j at h
  induction h with
  | refl=>exact⟨Nat.le_refl _,.inl rfl⟩
  | snoc _ r ih2=>have:=ih r;omega
theorem Rx.m_nul (x:Rx):∀ {i:Nat},x.m s i i↔x.nul=true:=by
 induction x with
 | no=>intro i;simp [Rx.m,Rx.nul]
 | eps=>intro i;simp [Rx.m,Rx.nul]
 | cls l=>intro i;simp [Rx.m,Rx.nul]
 | cat a b iha ihb =>
  intro i
  have e:(Rx.cat a b).nul=(a.nul&&b.nul):=by simp only [Rx.nul];cases a.nul <;> rfl
  rw [e,Bool.and_eq_true]
  constructor
  ·rintro⟨k,h1,h2⟩
   have g1:=(a.m_le h1).1
   have g2:=(b.m_le h2).1
   have:k=i:=by omega
   subst this
   exact⟨iha.1 h1,ihb.1 h2⟩
  ·rintro⟨h1,h2⟩;exact⟨i,iha.2 h1,ihb.2 h2⟩
 | alt a b iha ihb =>
  intro i
  have e:(Rx.alt a b).nul=(a.nul||b.nul):=by simp only [Rx.nul];cases a.nul <;> rfl
  rw [e,Bool.or_eq_true]
  exact or_congr iha ihb
 | star a ih=>intro i;exact⟨λ_=>rfl,λ_=>Clo.refl⟩
theorem mkCat_m {a b:Rx} {i j:Nat}:(mkCat a b).m s i j↔(Rx.cat a b).m s i j:=by
 unfold mkCat
 split
 ·exact⟨λh=>h.elim,λ⟨_,h,_⟩=>h.elim⟩
 ·exact⟨λh=>h.elim,λ⟨_,_,h⟩=>h.elim⟩
 ·exact⟨λh=>⟨i,rfl,h⟩,λ⟨k,h1,h2⟩=>by have h1:i=k:=h1;subst h1;exact h2⟩
 ·exact Iff.rfl
theorem mkAlt_m {a b:Rx} {i j:Nat}:(mkAlt a b).m s i j↔(Rx.alt a b).m s i j:=by
 unfold mkAlt
 split
 ·exact⟨λh=>.inr h,λh=>h.elim (λh=>h.elim) id⟩
 ·exact⟨λh=>.inl h,λh=>h.elim id (λh=>h.elim)⟩
 ·exact Iff.rfl
theorem clo_head {R:Nat→Nat→Prop} {i j:Nat} (hle:∀ i j,R i j→i≤j) (h:Clo R i j):i=j∨∃ k,i < k∧R i k∧Clo R k j:=by
 induction h with
 | refl=>exact .inl rfl
 | snoc c r ih =>
  rename_i j' k'
  rcases ih with rfl | ⟨k,h1,h2,h3⟩
  ·have:=hle _ _ r
   by_cases e:i=k'
   ·exact .inl e
   ·exact .inr ⟨k',by omega,r,.refl⟩
  ·exact .inr ⟨k,h1,h2,.snoc h3 r⟩
theorem clo_cons {R:Nat→Nat→Prop} {i k j:Nat} (r:R i k) (h:Clo R k j):Clo R i j:=by
 induction h with
 | refl=>exact .snoc .refl r
 | snoc _ r' ih=>exact .snoc ih r'
theorem Rx.d_ok (x:Rx):∀ {i j:Nat} {c:UInt8},s[i]?=some c→((x.d c.toNat).m s (i + 1) j↔i < j∧x.m s i j):=by
 induction x with
 | no=>intro i j c hc;exact⟨λh=>h.elim,λh=>h.2.elim⟩
 | eps=>intro i j c hc;exact⟨λh=>h.elim,λh=>by have h2:i=j:=h.2;have:=h.1;omega⟩
 | cls l =>
  intro i j c hc
  show (match inCls l c.toNat with | true=>Rx.eps | false=>Rx.no).m s (i + 1) j↔_
  cases hl:inCls l c.toNat with
  | true =>
   constructor
   ·intro h;have h:i + 1=j:=h;exact⟨by omega,h.symm,c,hc,hl⟩
   ·rintro⟨_,h,_⟩;exact h.symm
  | false =>
   constructor
   ·intro h;exact h.elim
   ·rintro⟨_,_,c',hc',h⟩;rw [hc] at hc';cases hc';rw [hl] at h;cases h
 | cat a b iha ihb =>
  intro i j c hc
  have key:(mkCat (a.d c.toNat) b).m s (i + 1) j↔∃ k,i < k∧a.m s i k∧b.m s k j:=by
   rw [mkCat_m]
   constructor
   ·rintro⟨k,h1,h2⟩;obtain⟨g1,g2⟩:=(iha hc).1 h1;exact⟨k,g1,g2,h2⟩
   ·rintro⟨k,h1,h2,h3⟩;exact⟨k,(iha hc).2 ⟨h1,h2⟩,h3⟩
  have hs:(∃ k,i < k∧a.m s i k∧b.m s k j)∨(a.nul=true∧i < j∧b.m s i j)↔i < j∧(Rx.cat a b).m s i j:=by
   constructor
   ·rintro (⟨k,h1,h2,h3⟩ | ⟨h1,h2,h3⟩)
    ·exact⟨by have:=(b.m_le h3).1;omega,k,h2,h3⟩
    ·exact⟨h2,i,a.m_nul.2 h1,h3⟩
   ·rintro⟨h0,k,h2,h3⟩
    have:=(a.m_le h2).1
    by_cases e:k=i
    ·subst e;exact .inr ⟨a.m_nul.1 h2,h0,h3⟩
    ·exact .inl ⟨k,by omega,h2,h3⟩
  rw [← hs]
  show (match a.nul with | true=>mkAlt (mkCat (a.d c.toNat) b) (b.d c.toNat) | false=>mkCat (a.d c.toNat) b).m s (i + 1) j↔_
  cases hn:a.nul with
  | true =>
   show (mkAlt (mkCat (a.d c.toNat) b) (b.d c.toNat)).m s (i + 1) j↔_
   rw [mkAlt_m]
   constructor
   ·rintro (h | h)
    ·exact .inl (key.1 h)
    ·exact .inr ⟨rfl,(ihb hc).1 h⟩
   ·rintro (h | ⟨_,h⟩)
    ·exact .inl (key.2 h)
    ·exact .inr ((ihb hc).2 h)
  | false =>
   show (mkCat (a.d c.toNat) b).m s (i + 1) j↔_
   rw [key]
   exact⟨.inl,λh=>h.elim id λh=>by cases h.1⟩
 | alt a b iha ihb =>
  intro i j c hc
  show (mkAlt (a.d c.toNat) (b.d c.toNat)).m s (i + 1) j↔_
  rw [mkAlt_m]
  constructor
  ·rintro (h | h)
   ·exact⟨((iha hc).1 h).1,.inl ((iha hc).1 h).2⟩
   ·exact⟨((ihb hc).1 h).1,.inr ((ihb hc).1 h).2⟩
  ·rintro⟨h0,h | h⟩
   ·exact .inl ((iha hc).2 ⟨h0,h⟩)
   ·exact .inr ((ihb hc).2 ⟨h0,h⟩)
 | star a ih =>
  intro i j c hc
  show (mkCat (a.d c.toNat) (.star a)).m s (i + 1) j↔_
  rw [mkCat_m]
  constructor
  ·rintro⟨k,h1,h2⟩
   obtain⟨g1,g2⟩:=(ih hc).1 h1
   have:=((Rx.star a).m_le h2).1
   exact⟨by omega,clo_cons g2 h2⟩
  ·rintro⟨h0,h⟩
   rcases clo_head (λ_ _ h=>(a.m_le h).1) (show Clo (a.m s) i j from h) with rfl | ⟨k,h1,h2,h3⟩
   ·omega
   ·exact⟨k,(ih hc).2 ⟨h1,h2⟩,h3⟩
end
theorem Rx.m_shift (x:Rx):∀ {s s':List UInt8} {i j d:Nat},x.m s i j→(∀ k,i≤k→k < j→s'[k + d]?=s[k]?)→x.m s' (i + d) (j + d):=by
 induction x with
 | no=>intro s s' i j d h _;exact h.elim
 | eps=>rintro s s' i j d rfl _;rfl
 | cls l=>rintro s s' i j d ⟨rfl,c,hc,hf⟩ h;exact⟨by omega,c,by rw [h i (Nat.le_refl _) (by omega)];exact hc,hf⟩
 | cat a b iha ihb =>
  rintro s s' i j d ⟨k,h1,h2⟩ h
  have g1:=(a.m_le h1).1
  have g2:=(b.m_le h2).1
  exact⟨k + d,iha h1 λq _ _=>h q (by omega) (by omega),ihb h2 λq _ _=>h q (by omega) (by omega)⟩
 | alt a b iha ihb =>
  rintro s s' i j d (h1 | h1) h
  ·exact .inl (iha h1 h)
  ·exact .inr (ihb h1 h)
 | star a ih =>
  intro s s' i j d h1
  change Clo (a.m s) i j at h1
  induction h1 with
  | refl=>intro _;exact .refl
  | snoc hh r ih2 =>
   intro h
   have g:=(a.m_le r).1
   have g0:=(Rx.m_le (.star a) hh).1
   exact .snoc (ih2 λq _ _=>h q (by omega) (by omega)) (ih r λq _ _=>h q (by omega) (by omega))
theorem okCls_ok:∀ l:List (Nat × Nat),okCls l=true↔∃ b,b < 256∧inCls l b=true
 | []=>by simp [okCls,inCls]
 | p::l=>by
  have ih:=okCls_ok l
  have e1:okCls (p::l)=match Nat.ble p.1 p.2,Nat.blt p.1 256 with | true,true=>true | _,_=>okCls l:=rfl
  have e2:∀ c,inCls (p::l) c=match Nat.ble p.1 c,Nat.ble c p.2 with | true,true=>true | _,_=>inCls l c:=λ_=>rfl
  by_cases h:p.1≤p.2∧p.1 < 256
  ·have h1:Nat.ble p.1 p.2=true:=Nat.ble_eq_true_of_le h.1
   have h2:Nat.blt p.1 256=true:=by simpa using h.2
   rw [e1,h1,h2]
   refine⟨λ_=>⟨p.1,h.2,?_⟩,λ_=>rfl⟩
   rw [e2,h1,Nat.ble_eq_true_of_le (Nat.le_refl _)]
  ·have h3:okCls (p::l)=okCls l:=by
    rw [e1]
    cases h1:Nat.ble p.1 p.2 <;> cases h2:Nat.blt p.1 256 <;> first | rfl | (exact absurd ⟨Nat.le_of_ble_eq_true h1,by simpa using h2⟩ h)
   rw [h3,ih]
   constructor
   ·rintro⟨b,h1,h2⟩
    refine⟨b,h1,?_⟩
    rw [e2];split <;> first | rfl | exact h2
   ·rintro⟨b,h1,h2⟩
    refine⟨b,h1,?_⟩
    rw [e2] at h2
    split at h2
    ·rename_i g1 g2
     exact absurd ⟨Nat.le_trans (Nat.le_of_ble_eq_true g1) (Nat.le_of_ble_eq_true g2),by have:=Nat.le_of_ble_eq_true g1;omega⟩ h
    ·exact h2
theorem Rx.sm_of (x:Rx):∀ {s:List UInt8} {i j:Nat},x.m s i j→x.sm=true:=by
 induction x with
 | no=>intro s i j h;exact h.elim
 | eps=>intro s i j _;rfl
 | cls l=>rintro s i j ⟨_,c,_,hf⟩;exact (okCls_ok l).2 ⟨c.toNat,c.toNat_lt,hf⟩
 | cat a b iha ihb=>rintro s i j ⟨k,h1,h2⟩;simp only [Rx.sm];rw [iha h1];exact ihb h2
 | alt a b iha ihb =>
  rintro s i j (h | h)
  ·simp only [Rx.sm];rw [iha h]
  ·simp only [Rx.sm];rw [ihb h];cases a.sm <;> rfl
 | star a ih=>intro s i j _;rfl
theorem Rx.sm_text (x:Rx):x.sm=true→∃ s:List UInt8,x.m s 0 s.length:=by
 induction x with
 | no=>intro h;cases h
 | eps=>intro _;exact⟨[],rfl⟩
 | cls l =>
  intro h
  obtain⟨b,hb,hf⟩:=(okCls_ok l).1 h
  refine⟨[UInt8.ofNat b],rfl,_,rfl,?_⟩
  have:(UInt8.ofNat b).toNat=b:=by simp [UInt8.toNat_ofNat'];omega
  rw [this];exact hf
 | cat a b iha ihb =>
  intro h
  have h':(match a.sm with | true=>b.sm | false=>false)=true:=h
  cases ha:a.sm with
  | false=>rw [ha] at h';cases h'
  | true =>
   rw [ha] at h'
   obtain⟨s,hs⟩:=iha ha
   obtain⟨t,ht⟩:=ihb h'
   refine⟨s++t,s.length,?_,?_⟩
   ·have:=a.m_shift (s':=s++t) (d:=0) hs λk _ hk=>by rw [Nat.add_zero,List.getElem?_append_left hk]
    simpa using this
   ·have:=b.m_shift (s':=s++t) (d:=s.length) ht λk _ hk=>by rw [List.getElem?_append_right (by omega)];congr 1;omega
    simpa [Nat.add_comm] using this
 | alt a b iha ihb =>
  intro h
  have h':(match a.sm with | true=>true | false=>b.sm)=true:=h
  cases ha:a.sm with
  | false=>rw [ha] at h';obtain⟨s,hs⟩:=ihb h';exact⟨s,.inr hs⟩
  | true=>obtain⟨s,hs⟩:=iha ha;exact⟨s,.inl hs⟩
 | star a ih=>intro _;exact⟨[],.refl⟩
inductive RxOf:Re→Rx→Prop
 | set {f:Nat→Bool} {l:List (Nat × Nat)} (h:∀ c,c < 256→f c=inCls l c):RxOf (.set f) (.cls l)
 | empty:RxOf .empty .eps
 | cat {a b:Re} {x y:Rx} (h:RxOf a x) (h':RxOf b y):RxOf (.cat a b) (.cat x y)
 | or {a b:Re} {x y:Rx} (h:RxOf a x) (h':RxOf b y):RxOf (.or a b) (.alt x y)
 | star {a:Re} {x:Rx} (h:RxOf a x):RxOf (.star a) (.star x)
theorem RxOf.m {a:Re} {x:Rx} (h:RxOf a x) {s:List UInt8}:∀ {i j:Nat},a.m s i j↔x.m s i j:=by
 induction h with
 | set h =>
  intro i j
  refine and_congr_right λ_=>exists_congr λc=>and_congr_right λ_=>?_
  rw [h c.toNat c.toNat_lt]
 | empty=>intro i j;exact Iff.rfl
 | cat _ _ ih ih'=>intro i j;exact exists_congr λk=>and_congr ih ih'
 | or _ _ ih ih'=>intro i j;exact or_congr ih ih'
 | star _ ih =>
  intro i j
  show Clo _ i j↔Clo _ i j
  exact⟨λh=>h.mono λ_ _ h=>ih.1 h,λh=>h.mono λ_ _ h=>ih.2 h⟩
def dAll (c:Nat):List Rx→List Rx
 | []=>[]
 | x::l=>x.d c::dAll c l
def anySm:List Rx→Bool
 | []=>false
 | x::l=>match x.sm with | true=>true | false=>anySm l
def nulAt:List Rx→Nat→Option Nat
 | [],_=>none
 | x::l,i=>match x.nul with | true=>some i | false=>nulAt l (i + 1)
def tokR:List Rx→List Nat→Nat→Option (Nat × Nat)→Option (Nat × Nat) × Nat
 | _,[],t,b=>(b,t)
 | xs,c::s,t,b=>match anySm (dAll c xs) with
  | false=>(b,t)
  | true=>tokR (dAll c xs) s (t + 1) (match nulAt (dAll c xs) 0 with | some i=>some (i,t + 1) | none=>b)
theorem dAll_get (c:Nat):∀ (l:List Rx) (i:Nat),(dAll c l)[i]?=(l[i]?).map (Rx.d c)
 | [],i=>rfl
 | x::l,0=>rfl
 | x::l,i + 1=>by simpa [dAll] using dAll_get c l i
theorem dAll_len (c:Nat):∀ l:List Rx,(dAll c l).length=l.length
 | []=>rfl
 | x::l=>by simp [dAll,dAll_len c l]
theorem anySm_ok:∀ l:List Rx,anySm l=true↔∃ (i:Nat) (x:Rx),l[i]?=some x∧x.sm=true
 | []=>by simp [anySm]
 | x::l=>by
  have ih:=anySm_ok l
  have e:anySm (x::l)=match x.sm with | true=>true | false=>anySm l:=rfl
  rw [e]
  cases hx:x.sm with
  | true=>exact⟨λ_=>⟨0,x,rfl,hx⟩,λ_=>rfl⟩
  | false =>
   show anySm l=true↔_
   rw [ih]
   constructor
   ·rintro⟨i,y,h1,h2⟩;exact⟨i + 1,y,by simpa using h1,h2⟩
   ·rintro⟨i,y,h1,h2⟩
    cases i with
    | zero=>simp at h1;subst h1;rw [hx] at h2;cases h2
    | succ i=>exact⟨i,y,by simpa using h1,h2⟩
theorem nulAt_ok:∀ (l:List Rx) (n:Nat),match nulAt l n with
  | some k=>∃ (i:Nat) (x:Rx),k=n + i∧l[i]?=some x∧x.nul=true∧∀ (j:Nat) (y:Rx),j < i→l[j]?=some y→y.nul=false
  | none=>∀ (i:Nat) (x:Rx),l[i]?=some x→x.nul=false
 | [],n=>by intro i x h;simp at h
 | x::l,n=>by
  have ih:=nulAt_ok l (n + 1)
  have e:nulAt (x::l) n=match x.nul with | true=>some n | false=>nulAt l (n + 1):=rfl
  rw [e]
  cases hx:x.nul with
  | true=>exact⟨0,x,rfl,rfl,hx,λj y h=>by omega⟩
  | false =>
   show match nulAt l (n + 1) with | some k=>_ | none=>_
   cases hn:nulAt l (n + 1) with
   | some k =>
    rw [hn] at ih
    obtain⟨i,y,h1,h2,h3,h4⟩:=ih
    refine⟨i + 1,y,by omega,by simpa using h2,h3,λj z hj hz=>?_⟩
    cases j with
    | zero=>simp at hz;subst hz;exact hx
    | succ j=>exact h4 j z (by omega) (by simpa using hz)
   | none =>
    rw [hn] at ih
    intro i y hy
    cases i with
    | zero=>simp at hy;subst hy;exact hx
    | succ i=>exact ih i y (by simpa using hy)
def MoreOf (ys:List Re) (s:List UInt8) (t:Nat):Prop:=∃ (u:List UInt8) (i:Nat),t≤u.length∧u.take t=s.take t∧Means ys u u.length i
section
variable {cs:List Cls} {ms:List LSt}
theorem LeastOK.alive_q {ys:List Re} {svs:List DSt} {cl:Nat→Int} {nc:Int} {lv:Nat→Bool} {kd:Nat→Int} {fs:List Nat} {of_:Nat→Int} (L:LeastOK svs lv kd fs ms of_) (A:Aut svs) (h:DfaOK (mFs 0 ys) (mFol 0 ys) (mKs 0 ys) svs cl nc) {s:List UInt8} {t:Nat} (h0:0 < t) (ht:t≤s.length):(qAt ms s t).2=true↔MoreOf ys s t:=by
 constructor
 ·intro hq
  obtain⟨t',rfl⟩:∃ t',t=t' + 1:=⟨t - 1,by omega⟩
  have hsplit:s.take (t' + 1)=s.take t'++[s[t']]:=by rw [List.take_succ,kC (by omega)];rfl
  have hc:(s[t']).toNat < 256:=by have:=(s[t']).toNat_lt;omega
  unfold qAt at hq
  rw [hsplit,mRun_append] at hq
  rcases L.run A (s.take t') (L.rel0 A) with⟨y,k,h1,h2,h3⟩ | ⟨h1,_⟩
  ·rw [h1,mRun_cons] at hq
   rcases L.next A h3 hc with⟨k',y',g1,g2,g3,g4⟩ | ⟨g1,_⟩
   ·have hk':k' < svs.length:=(A.nxt_lt hc g1).1
    have hal:=(L.alive k' hk').1 g2
    obtain⟨l,z,e1,e2⟩:=alive_run A hal
    have hrun:runFrom svs (s.take (t' + 1)++l) (0,true)=((z:Int),true):=by
     rw [runFrom_append,hsplit,runFrom_append]
     have h2':runFrom svs (s.take t') (0,true)=((k:Int),true):=h2
     rw [h2',runFrom_cons,A.next hc,g1]
     show runFrom svs l (runFrom svs [] ((k':Int),true))=_
     exact e1
    have hl:0 < (s.take (t' + 1)++l).length:=by simp;omega
    have hlaw:=(run_law h hl).2 (by rw [hrun])
    rw [hrun] at hlaw
    rcases hlaw with⟨e,_⟩ | ⟨i,hi,_,hm,_⟩
    ·exact absurd e e2
    ·refine⟨s.take (t' + 1)++l,i,by simp;omega,?_,hm⟩
     rw [List.take_append_of_le_length (by simp;omega),List.take_take,Nat.min_self]
   ·rw [g1] at hq;cases hq
  ·have e1:mRun ms (s.take t') (0,true)=((mRun ms (s.take t') (0,true)).1,false):=by rw [← h1]
   rw [e1,mRun_false] at hq;cases hq
 ·rintro⟨u,i,h1,h2,hm⟩
  have hi:i < ys.length:=by obtain⟨y,hy,_⟩:=hm;exact (kA hy).1
  have hu:(qAt ms u u.length).2=true:=by
   cases e:(qAt ms u u.length).2 with
   | true=>rfl
   | false =>
    rcases (L.means A h (by omega) (Nat.le_refl _)).2 e with⟨_,g⟩ | ⟨i',_,e',_⟩
    ·exact absurd hm (g i hi)
    ·omega
  have:qAt ms s t=qAt ms u t:=by unfold qAt;rw [h2]
  rw [this]
  cases e:(qAt ms u t).2 with
  | true=>rfl
  | false =>
   obtain⟨t',rfl⟩:∃ t',t=t' + 1:=⟨t - 1,by omega⟩
   rw [qAt_dead e u.length h1] at hu;cases hu
theorem Sound.best' (h:Sound cs ms) (s:List UInt8) {i:Nat} (hi:i≤s.length):∃ (F:Nat) (r z:Int),F≤(s.drop i).length∧tokF ms s i=⟨r,i,i + (if r=-1 then 1 else z),i + F + 1⟩∧LawBest (Means (ysOf cs) (s.drop i)) cs.length (s.drop i).length r z ∧
  (∀ t,0 < t→t≤F→MoreOf (ysOf cs) (s.drop i) t)∧(F < (s.drop i).length→¬ MoreOf (ysOf cs) (s.drop i) (F + 1)):=by
 obtain⟨F,r,z,h1,h2,_⟩:=tok_law (ms:=ms) hi
 obtain⟨svs,cl,nc,lv,kd,fs,of_,hok,A,L⟩:=h.auto
 have hb:=L.best A hok h1.le h1.all h1.no h1.best
 have e:(ysOf cs).length=cs.length:=by simp [ysOf]
 rw [e] at hb
 refine⟨F,r,z,h1.le,h2,hb,λt h0 ht=>?_,λhF hm=>?_⟩
 ·exact (L.alive_q A hok h0 (by have:=h1.le;omega)).1 (h1.all t ht)
 ·have:=(L.alive_q A hok (by omega) (by omega)).2 hm
  rw [h1.no hF] at this;cases this
end
section
variable {ys:List Re} {s:List UInt8}
structure At (ys:List Re) (s:List UInt8) (t:Nat) (xs:List Rx):Prop where
 len:xs.length=ys.length
 m:∀ (i:Nat) (y:Re) (x:Rx),ys[i]?=some y→xs[i]?=some x→∀ (u:List UInt8),u.take t=s.take t→t≤u.length→∀ j,x.m u t j↔t≤j∧y.m u 0 j
theorem At.zero {xs:List Rx} (h:All2 RxOf ys xs):At ys s 0 xs where
 len:=h.length.symm
 m i y x hy hx u _ _ j:=by
  obtain⟨x',hx',h'⟩:=h.get _ _ hy
  rw [hx] at hx';cases hx'
  rw [← h'.m]
  exact⟨λh=>⟨Nat.zero_le _,h⟩,λh=>h.2⟩
theorem At.step {t:Nat} {xs:List Rx} {c:UInt8} (h:At ys s t xs) (hc:s[t]?=some c):At ys s (t + 1) (dAll c.toNat xs) where
 len:=by rw [dAll_len,h.len]
 m i y x hy hx u hu ht j:=by
  rw [dAll_get] at hx
  obtain⟨x0,hx0,rfl⟩:=kE hx
  have hu':u.take t=s.take t:=by
   have:=congrArg (List.take t) hu
   rwa [List.take_take,List.take_take,Nat.min_eq_left (by omega)] at this
  have hlt:=(kA hc).1
  have huc:u[t]?=some c:=by
   have:=congrArg (·[t]?) hu
   simpa [List.getElem?_take,hc] using this
  rw [x0.d_ok huc,h.m i y x0 hy hx0 u hu' (by omega) j]
  constructor
  ·rintro⟨h1,h2,h3⟩;exact⟨by omega,h3⟩
  ·rintro⟨h1,h2⟩;exact⟨by omega,by omega,h2⟩
theorem At.nul {t:Nat} {xs:List Rx} (h:At ys s t xs) (ht:t≤s.length) {i:Nat} {x:Rx} (hx:xs[i]?=some x):x.nul=true↔Means ys s t i:=by
 have hi:i < ys.length:=by rw [← h.len];exact (kA hx).1
 have hy:ys[i]?=some ys[i]:=kC hi
 rw [← x.m_nul (s:=s) (i:=t),h.m i _ x hy hx s rfl ht t]
 constructor
 ·rintro⟨_,h2⟩;exact⟨_,hy,h2⟩
 ·rintro⟨y,hy',h2⟩;rw [hy] at hy';cases hy';exact⟨Nat.le_refl _,h2⟩
theorem At.more {t:Nat} {xs:List Rx} (h:At ys s t xs) (ht:t≤s.length):anySm xs=true↔MoreOf ys s t:=by
 rw [anySm_ok]
 constructor
 ·rintro⟨i,x,hx,hm⟩
  have hi:i < ys.length:=by rw [← h.len];exact (kA hx).1
  have hy:ys[i]?=some ys[i]:=kC hi
  obtain⟨u,hu⟩:=x.sm_text hm
  have hl:(s.take t).length=t:=by simp;omega
  have h1:x.m (s.take t++u) t (t + u.length):=by
   have:=x.m_shift (s':=s.take t++u) (d:=t) hu λk _ hk=>by rw [List.getElem?_append_right (by omega),hl];congr 1;omega
   simpa [Nat.add_comm] using this
  have htk:(s.take t++u).take t=s.take t:=by rw [List.take_append_of_le_length (by omega),List.take_take,Nat.min_self]
  refine⟨s.take t++u,i,by simp;omega,htk,_,hy,?_⟩
  have:=((h.m i _ x hy hx _ htk (by simp;omega) _).1 h1).2
  rw [List.length_append,hl];exact this
 ·rintro⟨u,i,h1,h2,y,hy,hm⟩
  have hi:i < xs.length:=by rw [h.len];exact (kA hy).1
  have hx:xs[i]?=some xs[i]:=kC hi
  refine⟨i,_,hx,Rx.sm_of _ ((h.m i y _ hy hx u h2 h1 u.length).2 ⟨h1,hm⟩)⟩
def bestI (b:Option (Nat × Nat)):Int × Int:=match b with | some p=>((p.1:Int),(p.2:Int)) | none=>(-1,0)
def BestN (ys:List Re) (s:List UInt8) (t:Nat) (b:Option (Nat × Nat)):Prop:=LawBest (Means ys s) ys.length t (bestI b).1 (bestI b).2
theorem moreOf_pre {t t':Nat} (h:MoreOf ys s t') (ht:t≤t'):MoreOf ys s t:=by
 obtain⟨u,i,h1,h2,h3⟩:=h
 refine⟨u,i,by omega,?_,h3⟩
 have:=congrArg (List.take t) h2
 rwa [List.take_take,List.take_take,Nat.min_eq_left ht] at this
theorem means_more {t i:Nat} (ht:t≤s.length) (h:Means ys s t i):MoreOf ys s t:=by
 obtain⟨y,hy,hm⟩:=h
 have hl:(s.take t).length=t:=by simp;omega
 refine⟨s.take t,i,by omega,by rw [List.take_take,Nat.min_self],y,hy,?_⟩
 have:=y.m_shift (s':=s.take t) (d:=0) hm λk _ hk=>by rw [Nat.add_zero,List.getElem?_take,if_pos hk]
 rw [hl];simpa using this
theorem tokR_ok:∀ (r:List UInt8) (t:Nat) (xs:List Rx) (b:Option (Nat × Nat)),s.drop t=r→t≤s.length→At ys s t xs→BestN ys s t b→(∀ t',0 < t'→t'≤t→MoreOf ys s t') →
  ∀ b' F,tokR xs (r.map UInt8.toNat) t b=(b',F)→F≤s.length∧BestN ys s s.length b'∧(∀ t',0 < t'→t'≤F→MoreOf ys s t')∧(F < s.length→¬ MoreOf ys s (F + 1))
 | [],t,xs,b,hr,ht,hat,hb,hm,b',F,e=>by
  cases e
  have:s.length≤t:=by have:=congrArg List.length hr;simp at this;omega
  have:t=s.length:=by omega
  subst this
  exact⟨ht,hb,hm,λh=>by omega⟩
 | c::r,t,xs,b,hr,ht,hat,hb,hm,b',F,e=>by
  have hc:s[t]?=some c:=by
   have:=congrArg (·[0]?) hr
   simpa using this
  have hlt:=(kA hc).1
  have hat':=hat.step hc
  have hdrop:s.drop (t + 1)=r:=by rw [← List.drop_drop,hr];rfl
  have e':(match anySm (dAll c.toNat xs) with
   | false=>(b,t)
   | true=>tokR (dAll c.toNat xs) (r.map UInt8.toNat) (t + 1) (match nulAt (dAll c.toNat xs) 0 with | some i=>some (i,t + 1) | none=>b))=(b',F):=e
  cases ha:anySm (dAll c.toNat xs) with
  | false =>
   rw [ha] at e'
   cases e'
   have hno:¬ MoreOf ys s (t + 1):=λh=>by rw [(hat'.more (by omega)).2 h] at ha;cases ha
   refine⟨ht,?_,hm,λ_=>hno⟩
   rcases hb with⟨h1,h2,h3⟩ | ⟨t1,i,h0,h1,h2,h3,h4,h5,h6,h7⟩
   ·refine .inl ⟨h1,h2,λi t' hi h0 hl hmm=>?_⟩
    by_cases e:t'≤t
    ·exact h3 i t' hi h0 e hmm
    ·exact hno (moreOf_pre (means_more hl hmm) (by omega))
   ·refine .inr ⟨t1,i,h0,by omega,h2,h3,h4,h5,h6,λj t' hj ht' hl hmm=>?_⟩
    by_cases e:t'≤t
    ·exact h7 j t' hj ht' e hmm
    ·exact hno (moreOf_pre (means_more hl hmm) (by omega))
  | true =>
   rw [ha] at e'
   have hmore:=(hat'.more (by omega)).1 ha
   refine tokR_ok r (t + 1) _ _ hdrop (by omega) hat' ?_ (λt' h0 h1=>?_) b' F e'
   ·have hn:=nulAt_ok (dAll c.toNat xs) 0
    cases hx:nulAt (dAll c.toNat xs) 0 with
    | none =>
     rw [hx] at hn
     have none':∀ i,i < ys.length→¬ Means ys s (t + 1) i:=λi hi hmm=>by
      have hil:i < (dAll c.toNat xs).length:=by rw [hat'.len];exact hi
      have hxi:(dAll c.toNat xs)[i]?=some (dAll c.toNat xs)[i]:=kC hil
      have:=(hat'.nul (by omega) hxi).2 hmm
      rw [hn i _ hxi] at this;cases this
     rcases hb with⟨h1,h2,h3⟩ | ⟨t1,i,h0,h1,h2,h3,h4,h5,h6,h7⟩
     ·refine .inl ⟨h1,h2,λi t' hi h0 hl hmm=>?_⟩
      by_cases e:t'≤t
      ·exact h3 i t' hi h0 e hmm
      ·have:t'=t + 1:=by omega
       subst this;exact none' i hi hmm
     ·refine .inr ⟨t1,i,h0,by omega,h2,h3,h4,h5,h6,λj t' hj ht' hl hmm=>?_⟩
      by_cases e:t'≤t
      ·exact h7 j t' hj ht' e hmm
      ·have:t'=t + 1:=by omega
       subst this;exact none' j hj hmm
    | some k =>
     rw [hx] at hn
     obtain⟨i,x,h1,h2,h3,h4⟩:=hn
     have hki:k=i:=by omega
     subst hki
     have hi:k < ys.length:=by rw [← hat'.len];exact (kA h2).1
     refine .inr ⟨t + 1,k,by omega,Nat.le_refl _,hi,rfl,rfl,(hat'.nul (by omega) h2).1 h3,λj hj hmm=>?_,λj t' _ h5 h6=>by omega⟩
     have hjl:j < (dAll c.toNat xs).length:=by rw [hat'.len];omega
     have hxj:(dAll c.toNat xs)[j]?=some (dAll c.toNat xs)[j]:=kC hjl
     have:=(hat'.nul (by omega) hxj).2 hmm
     rw [h4 j _ hj hxj] at this;cases this
   ·by_cases e:t'≤t
    ·exact hm t' h0 e
    ·have:t'=t + 1:=by omega
     subst this;exact hmore
end
def tokOf (xs:List Rx) (s:List Nat) (i:Nat):Nat × Bool × Nat × Nat:=match tokR xs s 0 none with
 | (some p,F)=>(p.1,true,i + p.2,i + F + 1)
 | (none,F)=>(0,false,i + 1,i + F + 1)
def tokC (q:Nat × Bool × Nat × Nat) (i:Nat):Tok:=⟨match q.2.1 with | true=>q.1 | false=>-1,i,q.2.2.1,q.2.2.2⟩
theorem tokOf_ok {cs:List Cls} {ms:List LSt} (h:Sound cs ms) {xs:List Rx} (hx:All2 RxOf (ysOf cs) xs) (s:List UInt8) {i:Nat} (hi:i≤s.length):tokF ms s i=tokC (tokOf xs ((s.drop i).map UInt8.toNat) i) i:=by
 obtain⟨F,r,z,h1,h2,h3,h4,h5⟩:=h.best' s hi
 cases hr:tokR xs ((s.drop i).map UInt8.toNat) 0 none with
 | mk b' F' =>
  have el:(ysOf cs).length=cs.length:=by simp [ysOf]
  obtain⟨g1,g2,g3,g4⟩:=tokR_ok (s:=s.drop i) (s.drop i) 0 xs none rfl (by omega) (At.zero hx) (.inl ⟨rfl,rfl,λi t _ h0 h1=>by omega⟩) (λt' h0 h1=>by omega) b' F' hr
  have hF:F=F':=by
   rcases Nat.lt_trichotomy F F' with g | g | g
   ·exact absurd (g3 (F + 1) (by omega) (by omega)) (h5 (by omega))
   ·exact g
   ·exact absurd (h4 (F' + 1) (by omega) (by omega)) (g4 (by omega))
  subst hF
  have g2':LawBest (Means (ysOf cs) (s.drop i)) cs.length (s.drop i).length (bestI b').1 (bestI b').2:=by rw [← el];exact g2
  obtain⟨rfl,rfl⟩:=h3.one g2'
  rw [h2]
  unfold tokOf
  rw [hr]
  cases b' with
  | none=>rw [if_pos (show (bestI none).1=-1 from rfl)];rfl
  | some p =>
   rw [if_neg (show ¬ (bestI (some p)).1=-1 from λh=>by have h:(p.1:Int)=-1:=h;omega)]
   show (⟨(p.1:Int),i,(i:Int) + (p.2:Int),(i:Int) + F + 1⟩:Tok)=⟨(p.1:Int),i,((i + p.2:Nat):Int),((i + F + 1:Nat):Int)⟩
   simp
end Go.Fk
end
section
namespace Go.Ev
open Go Go.Fk
inductive R where
 | ok | no (n:Nat)
inductive Cp where
 | ex (c:Nat) | re (k:Nat)
inductive Q where
 | q0 | q1 | q2 | q3
 deriving DecidableEq
abbrev Vid:=List Q
inductive V where
 | b (x:Bool) | i (k:IntKind) (n:Int) | s (l:List Nat)
 | p (v:Vid) (off:Nat) | np
 | sl (v:Vid) (off n:Nat) (c:Cp) | se (v:Vid) (off r o sz:Nat) | ns
 | m (v:Vid) | nm
 | f (F:Nat) (first cap:List V) | nf
 | q (t:Nat) (x:V) | nq
 | a (l:List V) | t (l:List V)
inductive Tr (α:Type) where
 | e | n (v:Option α) (a b c d:Tr α)
def orE {α:Type} (o:Option α) (k:α→R) (n:Nat):R:=Option.rec (motive:=λ_=>R) (R.no n) k o
def iff' (b:Bool) (x y:R):R:=Bool.rec (motive:=λ_=>R) y x b
section
variable {α:Type}
def Tr.getp (p:Vid):Tr α→Option α :=
 List.rec (motive:=λ_=>Tr α→Option α) (λt=>Tr.rec (motive:=λ_=>Option α) none (λv _ _ _ _ _ _ _ _=>v) t)
  (λq _ ih t=>Tr.rec (motive:=λ_=>Option α) none (λ_ a b c d _ _ _ _=>ih (Q.rec (motive:=λ_=>Tr α) a b c d q)) t) p
def Tr.onep (x:α) (p:Vid):Tr α :=
 List.rec (motive:=λ_=>Tr α) (.n (some x) .e .e .e .e) (λq _ ih=>Q.rec (motive:=λ_=>Tr α) (.n none ih .e .e .e) (.n none .e ih .e .e) (.n none .e .e ih .e) (.n none .e .e .e ih) q) p
def Tr.putp (x:α) (p:Vid):Tr α→(Tr α→R)→R :=
 List.rec (motive:=λ_=>Tr α→(Tr α→R)→R) (λt k=>Tr.rec (motive:=λ_=>R) (k (.n (some x) .e .e .e .e)) (λ_ a b c d _ _ _ _=>k (.n (some x) a b c d)) t)
  (λq p ih t k=>Tr.rec (motive:=λ_=>R) (k (Tr.onep x (q::p)))
   (λv a b c d _ _ _ _=>Q.rec (motive:=λ_=>R) (ih a λa=>k (.n v a b c d)) (ih b λb=>k (.n v a b c d)) (ih c λc=>k (.n v a b c d)) (ih d λd=>k (.n v a b c d)) q) t) p
def Tr.delp (p:Vid):Tr α→(Tr α→R)→R :=
 List.rec (motive:=λ_=>Tr α→(Tr α→R)→R) (λt k=>Tr.rec (motive:=λ_=>R) (k .e) (λ_ a b c d _ _ _ _=>k (.n none a b c d)) t)
  (λq p ih t k=>Tr.rec (motive:=λ_=>R) (k .e)
   (λv a b c d _ _ _ _=>Q.rec (motive:=λ_=>R) (ih a λa=>k (.n v a b c d)) (ih b λb=>k (.n v a b c d)) (ih c λc=>k (.n v a b c d)) (ih d λd=>k (.n v a b c d)) q) t) p
def digs (fuel:Nat):Nat→Vid :=
 Nat.rec (motive:=λ_=>Nat→Vid) (λ_=>[]) (λ_ ih i=>Bool.rec (motive:=λ_=>Vid)
  (Bool.rec (motive:=λ_=>Q) (Bool.rec (motive:=λ_=>Q) (Bool.rec (motive:=λ_=>Q) .q3 .q2 (Nat.beq (Nat.mod i 4) 2)) .q1 (Nat.beq (Nat.mod i 4) 1)) .q0 (Nat.beq (Nat.mod i 4) 0)::ih (Nat.div i 4)) [] (Nat.beq i 0)) fuel
def Tr.get (t:Tr α) (i:Nat):Option α:=Bool.rec (motive:=λ_=>Option α) none (t.getp (digs 20 i)) (Nat.blt i 1099511627776)
def Tr.put (x:α) (t:Tr α) (i:Nat) (k:Tr α→R):R:=Bool.rec (motive:=λ_=>R) (R.no 4) (t.putp x (digs 20 i) k) (Nat.blt i 1099511627776)
def next (p:Vid):Vid:=List.rec (motive:=λ_=>Vid) [.q1] (λq r ih=>Q.rec (motive:=λ_=>Vid) (.q1::r) (.q2::r) (.q3::r) (.q0::ih) q) p
def Q.eq (a b:Q):Bool:=Q.rec (motive:=λ_=>Bool) (Q.rec (motive:=λ_=>Bool) true false false false b) (Q.rec (motive:=λ_=>Bool) false true false false b) (Q.rec (motive:=λ_=>Bool) false false true false b) (Q.rec (motive:=λ_=>Bool) false false false true b) a
def vidEq (a b:Vid):Bool :=
 List.rec (motive:=λ_=>Vid→Bool) (λb=>List.rec (motive:=λ_=>Bool) true (λ_ _ _=>false) b)
  (λq _ ih b=>List.rec (motive:=λ_=>Bool) false (λq' r _=>Bool.rec (motive:=λ_=>Bool) false (ih r) (Q.eq q q')) b) a b
end
inductive KP where
 | int (q:IntKind) | str | bool
inductive KS where
 | p (k:KP) | s (ks:List KP)
inductive Blk (D:Type) where
 | cells (ex:Bool) (n:Nat) (c:Tr V) (ty sz:Nat)
 | map (kT:Nat) (ks:KS) (es:List (V × V)) (ver:Nat)
 | iter (mv:Vid) (ver:Nat) (last:List V) (rest:List (V × V))
 | opq (d:D)
 | dead
inductive H (D:Type) where
 | mk (h:Tr (Blk D)) (nx:Vid) (lg:List Vid)
abbrev E:=Tr V
def fN (n:Nat) (k:Nat→R):R:=Nat.rec (motive:=λ_=>R) (k 0) (λm _=>k (Nat.succ m)) n
def ilt (a b:Int):Bool :=
 Int.rec (motive:=λ_=>Bool) (λa=>Int.rec (motive:=λ_=>Bool) (λb=>Nat.blt a b) (λ_=>false) b)
  (λa=>Int.rec (motive:=λ_=>Bool) (λ_=>true) (λb=>Nat.blt b a) b) a
def ieq (a b:Int):Bool :=
 Int.rec (motive:=λ_=>Bool) (λa=>Int.rec (motive:=λ_=>Bool) (λb=>Nat.beq a b) (λ_=>false) b)
  (λa=>Int.rec (motive:=λ_=>Bool) (λ_=>false) (λb=>Nat.beq a b) b) a
def iadd (a b:Int):Int :=
 Int.rec (motive:=λ_=>Int) (λx=>Int.rec (motive:=λ_=>Int) (λy=>.ofNat (Nat.add x y)) (λ_=>a + b) b) (λ_=>a + b) a
def isub (a b:Int):Int :=
 Int.rec (motive:=λ_=>Int) (λx=>Int.rec (motive:=λ_=>Int) (λy=>Bool.rec (motive:=λ_=>Int) (a - b) (.ofNat (Nat.sub x y)) (Nat.ble y x)) (λ_=>a - b) b) (λ_=>a - b) a
def kIx (k:IntKind):Nat:=IntKind.rec (motive:=λ_=>Nat) 0 1 2 3 4 5 6 7 k
def wrapAt (lim:Nat) (k:IntKind) (n:Int):Int :=
 Int.rec (motive:=λ_=>Int) (λm=>Bool.rec (motive:=λ_=>Int) (k.wrap n) n (Nat.blt m lim)) (λ_=>k.wrap n) n
def iwrap (k:IntKind) (n:Int):Int :=
 IntKind.rec (motive:=λ_=>Int) (wrapAt 128 .i8 n) (wrapAt 32768 .i16 n) (wrapAt 2147483648 .i32 n) (wrapAt 9223372036854775808 .i64 n)
  (wrapAt 256 .u8 n) (wrapAt 65536 .u16 n) (wrapAt 4294967296 .u32 n) (wrapAt 18446744073709551616 .u64 n) k
def bit2 (f:Nat→Nat→Nat) (g:IntKind→Int→Int→Int) (k:IntKind) (a b:Int):Int :=
 Int.rec (motive:=λ_=>Int) (λx=>Int.rec (motive:=λ_=>Int) (λy=>Bool.rec (motive:=λ_=>Int) (g k a b)
  (Bool.rec (motive:=λ_=>Int) (g k a b) (.ofNat (f x y)) (Nat.blt y 18446744073709551616)) (Nat.beq (kIx k) 7&&Nat.blt x 18446744073709551616)) (λ_=>g k a b) b) (λ_=>g k a b) a
def seq':List Nat→List Nat→Bool
 | [],[]=>true
 | a::l,b::m=>match Nat.beq (a % 256) (b % 256) with | true=>seq' l m | false=>false
 | _,_=>false
def V.onB (x:V):(Bool→R)→(Nat)→R :=
 V.rec (motive_1:=λ_=>(Bool→R)→(Nat)→R) (motive_2:=λ_=>Unit)
  (λx0 k n=>k x0)
  (λx0 x1 k n=>R.no n)
  (λx0 k n=>R.no n)
  (λx0 x1 k n=>R.no n)
  (λk n=>R.no n)
  (λx0 x1 x2 x3 k n=>R.no n)
  (λx0 x1 x2 x3 x4 k n=>R.no n)
  (λk n=>R.no n)
  (λx0 k n=>R.no n)
  (λk n=>R.no n)
  (λx0 x1 x2 h0 h1 k n=>R.no n)
  (λk n=>R.no n)
  (λx0 x1 h0 k n=>R.no n)
  (λk n=>R.no n)
  (λx0 h0 k n=>R.no n)
  (λx0 h0 k n=>R.no n)
  () (λ_ _ _ _=>()) x
def V.onI (x:V):(IntKind→Int→R)→(Nat)→R :=
 V.rec (motive_1:=λ_=>(IntKind→Int→R)→(Nat)→R) (motive_2:=λ_=>Unit)
  (λx0 k n=>R.no n)
  (λx0 x1 k n=>k x0 x1)
  (λx0 k n=>R.no n)
  (λx0 x1 k n=>R.no n)
  (λk n=>R.no n)
  (λx0 x1 x2 x3 k n=>R.no n)
  (λx0 x1 x2 x3 x4 k n=>R.no n)
  (λk n=>R.no n)
  (λx0 k n=>R.no n)
  (λk n=>R.no n)
  (λx0 x1 x2 h0 h1 k n=>R.no n)
  (λk n=>R.no n)
  (λx0 x1 h0 k n=>R.no n)
  (λk n=>R.no n)
  (λx0 h0 k n=>R.no n)
  (λx0 h0 k n=>R.no n)
  () (λ_ _ _ _=>()) x
def V.onS (x:V):(List Nat→R)→(Nat)→R :=
 V.rec (motive_1:=λ_=>(List Nat→R)→(Nat)→R) (motive_2:=λ_=>Unit)
  (λx0 k n=>R.no n)
  (λx0 x1 k n=>R.no n)
  (λx0 k n=>k x0)
  (λx0 x1 k n=>R.no n)
  (λk n=>R.no n)
  (λx0 x1 x2 x3 k n=>R.no n)
  (λx0 x1 x2 x3 x4 k n=>R.no n)
  (λk n=>R.no n)
  (λx0 k n=>R.no n)
  (λk n=>R.no n)
  (λx0 x1 x2 h0 h1 k n=>R.no n)
  (λk n=>R.no n)
  (λx0 x1 h0 k n=>R.no n)
  (λk n=>R.no n)
  (λx0 h0 k n=>R.no n)
  (λx0 h0 k n=>R.no n)
  () (λ_ _ _ _=>()) x
def V.onP (x:V):(Vid→Nat→R)→(Nat)→R :=
 V.rec (motive_1:=λ_=>(Vid→Nat→R)→(Nat)→R) (motive_2:=λ_=>Unit)
  (λx0 k n=>R.no n)
  (λx0 x1 k n=>R.no n)
  (λx0 k n=>R.no n)
  (λx0 x1 k n=>k x0 x1)
  (λk n=>R.no n)
  (λx0 x1 x2 x3 k n=>R.no n)
  (λx0 x1 x2 x3 x4 k n=>R.no n)
  (λk n=>R.no n)
  (λx0 k n=>R.no n)
  (λk n=>R.no n)
  (λx0 x1 x2 h0 h1 k n=>R.no n)
  (λk n=>R.no n)
  (λx0 x1 h0 k n=>R.no n)
  (λk n=>R.no n)
  (λx0 h0 k n=>R.no n)
  (λx0 h0 k n=>R.no n)
  () (λ_ _ _ _=>()) x
def V.onSl (x:V):(Vid→Nat→Nat→Cp→R)→(Nat)→R :=
 V.rec (motive_1:=λ_=>(Vid→Nat→Nat→Cp→R)→(Nat)→R) (motive_2:=λ_=>Unit)
  (λx0 k n=>R.no n)
  (λx0 x1 k n=>R.no n)
  (λx0 k n=>R.no n)
  (λx0 x1 k n=>R.no n)
  (λk n=>R.no n)
  (λx0 x1 x2 x3 k n=>k x0 x1 x2 x3)
  (λx0 x1 x2 x3 x4 k n=>R.no n)
  (λk n=>R.no n)
  (λx0 k n=>R.no n)
  (λk n=>R.no n)
  (λx0 x1 x2 h0 h1 k n=>R.no n)
  (λk n=>R.no n)
  (λx0 x1 h0 k n=>R.no n)
  (λk n=>R.no n)
  (λx0 h0 k n=>R.no n)
  (λx0 h0 k n=>R.no n)
  () (λ_ _ _ _=>()) x
def V.onM (x:V):(Vid→R)→(Nat)→R :=
 V.rec (motive_1:=λ_=>(Vid→R)→(Nat)→R) (motive_2:=λ_=>Unit)
  (λx0 k n=>R.no n)
  (λx0 x1 k n=>R.no n)
  (λx0 k n=>R.no n)
  (λx0 x1 k n=>R.no n)
  (λk n=>R.no n)
  (λx0 x1 x2 x3 k n=>R.no n)
  (λx0 x1 x2 x3 x4 k n=>R.no n)
  (λk n=>R.no n)
  (λx0 k n=>k x0)
  (λk n=>R.no n)
  (λx0 x1 x2 h0 h1 k n=>R.no n)
  (λk n=>R.no n)
  (λx0 x1 h0 k n=>R.no n)
  (λk n=>R.no n)
  (λx0 h0 k n=>R.no n)
  (λx0 h0 k n=>R.no n)
  () (λ_ _ _ _=>()) x
def V.onMO (x:V):(Option Vid→R)→(Nat)→R :=
 V.rec (motive_1:=λ_=>(Option Vid→R)→(Nat)→R) (motive_2:=λ_=>Unit)
  (λx0 k n=>R.no n)
  (λx0 x1 k n=>R.no n)
  (λx0 k n=>R.no n)
  (λx0 x1 k n=>R.no n)
  (λk n=>R.no n)
  (λx0 x1 x2 x3 k n=>R.no n)
  (λx0 x1 x2 x3 x4 k n=>R.no n)
  (λk n=>R.no n)
  (λx0 k n=>k (some x0))
  (λk n=>k none)
  (λx0 x1 x2 h0 h1 k n=>R.no n)
  (λk n=>R.no n)
  (λx0 x1 h0 k n=>R.no n)
  (λk n=>R.no n)
  (λx0 h0 k n=>R.no n)
  (λx0 h0 k n=>R.no n)
  () (λ_ _ _ _=>()) x
def V.onF (x:V):(Nat→List V→List V→R)→(Nat)→R :=
 V.rec (motive_1:=λ_=>(Nat→List V→List V→R)→(Nat)→R) (motive_2:=λ_=>Unit)
  (λx0 k n=>R.no n)
  (λx0 x1 k n=>R.no n)
  (λx0 k n=>R.no n)
  (λx0 x1 k n=>R.no n)
  (λk n=>R.no n)
  (λx0 x1 x2 x3 k n=>R.no n)
  (λx0 x1 x2 x3 x4 k n=>R.no n)
  (λk n=>R.no n)
  (λx0 k n=>R.no n)
  (λk n=>R.no n)
  (λx0 x1 x2 h0 h1 k n=>k x0 x1 x2)
  (λk n=>R.no n)
  (λx0 x1 h0 k n=>R.no n)
  (λk n=>R.no n)
  (λx0 h0 k n=>R.no n)
  (λx0 h0 k n=>R.no n)
  () (λ_ _ _ _=>()) x
def V.onQ (x:V):(Nat→V→R)→(Nat)→R :=
 V.rec (motive_1:=λ_=>(Nat→V→R)→(Nat)→R) (motive_2:=λ_=>Unit)
  (λx0 k n=>R.no n)
  (λx0 x1 k n=>R.no n)
  (λx0 k n=>R.no n)
  (λx0 x1 k n=>R.no n)
  (λk n=>R.no n)
  (λx0 x1 x2 x3 k n=>R.no n)
  (λx0 x1 x2 x3 x4 k n=>R.no n)
  (λk n=>R.no n)
  (λx0 k n=>R.no n)
  (λk n=>R.no n)
  (λx0 x1 x2 h0 h1 k n=>R.no n)
  (λk n=>R.no n)
  (λx0 x1 h0 k n=>k x0 x1)
  (λk n=>R.no n)
  (λx0 h0 k n=>R.no n)
  (λx0 h0 k n=>R.no n)
  () (λ_ _ _ _=>()) x
def V.onA (x:V):(List V→R)→(Nat)→R :=
 V.rec (motive_1:=λ_=>(List V→R)→(Nat)→R) (motive_2:=λ_=>Unit)
  (λx0 k n=>R.no n)
  (λx0 x1 k n=>R.no n)
  (λx0 k n=>R.no n)
  (λx0 x1 k n=>R.no n)
  (λk n=>R.no n)
  (λx0 x1 x2 x3 k n=>R.no n)
  (λx0 x1 x2 x3 x4 k n=>R.no n)
  (λk n=>R.no n)
  (λx0 k n=>R.no n)
  (λk n=>R.no n)
  (λx0 x1 x2 h0 h1 k n=>R.no n)
  (λk n=>R.no n)
  (λx0 x1 h0 k n=>R.no n)
  (λk n=>R.no n)
  (λx0 h0 k n=>k x0)
  (λx0 h0 k n=>R.no n)
  () (λ_ _ _ _=>()) x
def V.onT (x:V):(List V→R)→(Nat)→R :=
 V.rec (motive_1:=λ_=>(List V→R)→(Nat)→R) (motive_2:=λ_=>Unit)
  (λx0 k n=>R.no n)
  (λx0 x1 k n=>R.no n)
  (λx0 k n=>R.no n)
  (λx0 x1 k n=>R.no n)
  (λk n=>R.no n)
  (λx0 x1 x2 x3 k n=>R.no n)
  (λx0 x1 x2 x3 x4 k n=>R.no n)
  (λk n=>R.no n)
  (λx0 k n=>R.no n)
  (λk n=>R.no n)
  (λx0 x1 x2 h0 h1 k n=>R.no n)
  (λk n=>R.no n)
  (λx0 x1 h0 k n=>R.no n)
  (λk n=>R.no n)
  (λx0 h0 k n=>R.no n)
  (λx0 h0 k n=>k x0)
  () (λ_ _ _ _=>()) x
def V.onNil (x:V):(V→R)→(Nat)→R :=
 V.rec (motive_1:=λ_=>(V→R)→(Nat)→R) (motive_2:=λ_=>Unit)
  (λx0 k n=>R.no n)
  (λx0 x1 k n=>R.no n)
  (λx0 k n=>R.no n)
  (λx0 x1 k n=>k (.p x0 x1))
  (λk n=>R.no n)
  (λx0 x1 x2 x3 k n=>R.no n)
  (λx0 x1 x2 x3 x4 k n=>R.no n)
  (λk n=>R.no n)
  (λx0 k n=>R.no n)
  (λk n=>R.no n)
  (λx0 x1 x2 h0 h1 k n=>k (.f x0 x1 x2))
  (λk n=>R.no n)
  (λx0 x1 h0 k n=>R.no n)
  (λk n=>R.no n)
  (λx0 h0 k n=>R.no n)
  (λx0 h0 k n=>R.no n)
  () (λ_ _ _ _=>()) x
def V.onLen (x:V):(Nat→Nat→R)→(Vid→R)→(Nat)→R :=
 V.rec (motive_1:=λ_=>(Nat→Nat→R)→(Vid→R)→(Nat)→R) (motive_2:=λ_=>Unit)
  (λx0 k g n=>R.no n)
  (λx0 x1 k g n=>R.no n)
  (λx0 k g n=>k 0 (List.length x0))
  (λx0 x1 k g n=>R.no n)
  (λk g n=>R.no n)
  (λx0 x1 x2 x3 k g n=>k 1 x2)
  (λx0 x1 x2 x3 x4 k g n=>k 1 0)
  (λk g n=>k 1 0)
  (λx0 k g n=>g x0)
  (λk g n=>k 2 0)
  (λx0 x1 x2 h0 h1 k g n=>R.no n)
  (λk g n=>R.no n)
  (λx0 x1 h0 k g n=>R.no n)
  (λk g n=>R.no n)
  (λx0 h0 k g n=>R.no n)
  (λx0 h0 k g n=>R.no n)
  () (λ_ _ _ _=>()) x
def V.onG (x:V):(Bool→R)→(R)→(Nat)→R :=
 V.rec (motive_1:=λ_=>(Bool→R)→(R)→(Nat)→R) (motive_2:=λ_=>Unit)
  (λx0 k u n=>k x0)
  (λx0 x1 k u n=>R.no n)
  (λx0 k u n=>R.no n)
  (λx0 x1 k u n=>R.no n)
  (λk u n=>R.no n)
  (λx0 x1 x2 x3 k u n=>R.no n)
  (λx0 x1 x2 x3 x4 k u n=>R.no n)
  (λk u n=>R.no n)
  (λx0 k u n=>R.no n)
  (λk u n=>R.no n)
  (λx0 x1 x2 h0 h1 k u n=>R.no n)
  (λk u n=>R.no n)
  (λx0 x1 h0 k u n=>R.no n)
  (λk u n=>R.no n)
  (λx0 h0 k u n=>R.no n)
  (λx0 h0 k u n=>u)
  () (λ_ _ _ _=>()) x
def V.onZ (x:V):(Nat→Bool→R)→(Nat)→R :=
 V.rec (motive_1:=λ_=>(Nat→Bool→R)→(Nat)→R) (motive_2:=λ_=>Unit)
  (λx0 k n=>R.no n)
  (λx0 x1 k n=>R.no n)
  (λx0 k n=>R.no n)
  (λx0 x1 k n=>k 0 false)
  (λk n=>k 0 true)
  (λx0 x1 x2 x3 k n=>k 1 false)
  (λx0 x1 x2 x3 x4 k n=>k 1 false)
  (λk n=>k 1 true)
  (λx0 k n=>k 2 false)
  (λk n=>k 2 true)
  (λx0 x1 x2 h0 h1 k n=>R.no n)
  (λk n=>R.no n)
  (λx0 x1 h0 k n=>R.no n)
  (λk n=>R.no n)
  (λx0 h0 k n=>R.no n)
  (λx0 h0 k n=>R.no n)
  () (λ_ _ _ _=>()) x
def V.onApp (x:V):(R)→(Vid→Nat→Nat→Cp→R)→(Nat)→R :=
 V.rec (motive_1:=λ_=>(R)→(Vid→Nat→Nat→Cp→R)→(Nat)→R) (motive_2:=λ_=>Unit)
  (λx0 k0 k n=>R.no n)
  (λx0 x1 k0 k n=>R.no n)
  (λx0 k0 k n=>R.no n)
  (λx0 x1 k0 k n=>R.no n)
  (λk0 k n=>R.no n)
  (λx0 x1 x2 x3 k0 k n=>k x0 x1 x2 x3)
  (λx0 x1 x2 x3 x4 k0 k n=>R.no n)
  (λk0 k n=>k0)
  (λx0 k0 k n=>R.no n)
  (λk0 k n=>R.no n)
  (λx0 x1 x2 h0 h1 k0 k n=>R.no n)
  (λk0 k n=>R.no n)
  (λx0 x1 h0 k0 k n=>R.no n)
  (λk0 k n=>R.no n)
  (λx0 h0 k0 k n=>R.no n)
  (λx0 h0 k0 k n=>R.no n)
  () (λ_ _ _ _=>()) x
def V.onRd (x:V):(R)→(Vid→Nat→Nat→R)→(List Nat→R)→(Nat)→R :=
 V.rec (motive_1:=λ_=>(R)→(Vid→Nat→Nat→R)→(List Nat→R)→(Nat)→R) (motive_2:=λ_=>Unit)
  (λx0 k0 k g n=>R.no n)
  (λx0 x1 k0 k g n=>R.no n)
  (λx0 k0 k g n=>g x0)
  (λx0 x1 k0 k g n=>R.no n)
  (λk0 k g n=>R.no n)
  (λx0 x1 x2 x3 k0 k g n=>k x0 x1 x2)
  (λx0 x1 x2 x3 x4 k0 k g n=>k0)
  (λk0 k g n=>k0)
  (λx0 k0 k g n=>R.no n)
  (λk0 k g n=>R.no n)
  (λx0 x1 x2 h0 h1 k0 k g n=>R.no n)
  (λk0 k g n=>R.no n)
  (λx0 x1 h0 k0 k g n=>R.no n)
  (λk0 k g n=>R.no n)
  (λx0 h0 k0 k g n=>R.no n)
  (λx0 h0 k0 k g n=>R.no n)
  () (λ_ _ _ _=>()) x
def V.onSlN (x:V):(R)→(Vid→Nat→Nat→Cp→R)→(Nat)→R :=
 V.rec (motive_1:=λ_=>(R)→(Vid→Nat→Nat→Cp→R)→(Nat)→R) (motive_2:=λ_=>Unit)
  (λx0 k0 k n=>R.no n)
  (λx0 x1 k0 k n=>R.no n)
  (λx0 k0 k n=>R.no n)
  (λx0 x1 k0 k n=>R.no n)
  (λk0 k n=>R.no n)
  (λx0 x1 x2 x3 k0 k n=>k x0 x1 x2 x3)
  (λx0 x1 x2 x3 x4 k0 k n=>R.no n)
  (λk0 k n=>k0)
  (λx0 k0 k n=>R.no n)
  (λk0 k n=>R.no n)
  (λx0 x1 x2 h0 h1 k0 k n=>R.no n)
  (λk0 k n=>R.no n)
  (λx0 x1 h0 k0 k n=>R.no n)
  (λk0 k n=>R.no n)
  (λx0 h0 k0 k n=>R.no n)
  (λx0 h0 k0 k n=>R.no n)
  () (λ_ _ _ _=>()) x
def oneV:V→Bool
 | .a _=>false
 | .t _=>false
 | _=>true
def allOne (l:List V):Bool:=List.rec (motive:=λ_=>Bool) true (λv _ ih=>Bool.rec (motive:=λ_=>Bool) false ih (oneV v)) l
def cellsV:V→List V
 | .a l=>l
 | v=>[v]
def tw0:Unit:=()
def tw1:Unit:=tw0
def tw2:Unit:=tw1
def tw3:Unit:=tw2
def tw4:Unit:=tw3
def tw5:Unit:=tw4
def tw6:Unit:=tw5
def tw7:Unit:=tw6
def tw8:Unit:=tw7
def tw9:Unit:=tw8
def tw10:Unit:=tw9
def tw11:Unit:=tw10
def tw12:Unit:=tw11
def tw13:Unit:=tw12
def tw14:Unit:=tw13
def tw15:Unit:=tw14
def tw16:Unit:=tw15
def tw17:Unit:=tw16
def tw18:Unit:=tw17
def tw19:Unit:=tw18
def tw20:Unit:=tw19
def tw21:Unit:=tw20
def tw22:Unit:=tw21
def tw23:Unit:=tw22
def tw24:Unit:=tw23
def tw25:Unit:=tw24
def tw26:Unit:=tw25
def tw27:Unit:=tw26
def tw28:Unit:=tw27
def tw29:Unit:=tw28
def tw30:Unit:=tw29
def tw31:Unit:=tw30
def tw32:Unit:=tw31
def tw33:Unit:=tw32
def tw34:Unit:=tw33
def tw35:Unit:=tw34
def tw36:Unit:=tw35
def tw37:Unit:=tw36
def tw38:Unit:=tw37
def tw39:Unit:=tw38
def tw40:Unit:=tw39
def tw41:Unit:=tw40
def tw42:Unit:=tw41
def tw43:Unit:=tw42
def tw44:Unit:=tw43
def tw45:Unit:=tw44
def tw46:Unit:=tw45
def tw47:Unit:=tw46
def tw48:Unit:=tw47
def tw49:Unit:=tw48
def tw50:Unit:=tw49
def tw51:Unit:=tw50
def tw52:Unit:=tw51
def tw53:Unit:=tw52
def tw54:Unit:=tw53
def tw55:Unit:=tw54
def tw56:Unit:=tw55
def tw57:Unit:=tw56
def tw58:Unit:=tw57
def tw59:Unit:=tw58
def tw60:Unit:=tw59
inductive Opd where
 | l (k:Nat) | t (p:Vid) | c (v:V) | bad
abbrev Lc:=List V
def nth {α:Type} (k:Nat):List α→Option α :=
 Nat.rec (motive:=λ_=>List α→Option α) (λl=>List.rec (motive:=λ_=>Option α) none (λv _ _=>some v) l)
  (λ_ ih l=>List.rec (motive:=λ_=>Option α) none (λ_ t _=>ih t) l) k
def getO (x:Opd) (L:Lc) (e:E) (k:V→R):R :=
 let _:=tw60
 Opd.rec (motive:=λ_=>R) (λj=>orE (nth j L) k 1) (λp=>orE (e.getp p) k 2) (λv=>k v) (R.no 3) x
def getL (l:List Opd) (L:Lc) (e:E) (k:List V→R):R :=
 let _:=tw60
 List.rec (motive:=λ_=>(List V→R)→R) (λk=>k []) (λx _ ih k=>getO x L e λv=>ih λvs=>k (v::vs)) l k
section
variable {D:Type}
def Blk.onC (b:Blk D) (k:Bool→Nat→Tr V→Nat→Nat→R) (n:Nat):R :=
 Blk.rec (motive:=λ_=>R) k (λ_ _ _ _=>R.no n) (λ_ _ _ _=>R.no n) (λ_=>R.no n) (R.no n) b
def Blk.onM (b:Blk D) (k:Nat→KS→List (V × V)→Nat→R) (n:Nat):R :=
 Blk.rec (motive:=λ_=>R) (λ_ _ _ _ _=>R.no n) k (λ_ _ _ _=>R.no n) (λ_=>R.no n) (R.no n) b
def Blk.onI (b:Blk D) (k:Vid→Nat→List V→List (V × V)→R) (n:Nat):R :=
 Blk.rec (motive:=λ_=>R) (λ_ _ _ _ _=>R.no n) (λ_ _ _ _=>R.no n) k (λ_=>R.no n) (R.no n) b
def H.get (σ:H D) (v:Vid) (k:Blk D→R):R:=H.rec (motive:=λ_=>R) (λh _ _=>orE (h.getp v) k 5) σ
def H.put (σ:H D) (v:Vid) (b:Blk D) (k:H D→R):R:=H.rec (motive:=λ_=>R) (λh nx lg=>Tr.putp b v h λh'=>k (.mk h' nx (v::lg))) σ
def H.add (σ:H D) (v:Vid) (b:Blk D) (k:H D→R):R :=
 H.rec (motive:=λ_=>R) (λh nx lg=>Option.rec (motive:=λ_=>R) (Tr.putp b v h λh'=>k (.mk h' nx (v::lg))) (λ_=>R.no 6) (h.getp v)) σ
def H.room (n:Nat) (σ:H D) (k:List Vid→H D→R):R :=
 H.rec (motive:=λ_=>R) (λh nx lg=>Nat.rec (motive:=λ_=>Vid→List Vid→R) (λm l=>k l (.mk h m lg)) (λ_ ih m l=>ih (next m) (m::l)) n nx []) σ
def H.cells (σ:H D) (v:Vid) (k:Bool→Nat→Tr V→Nat→Nat→R):R:=σ.get v λb=>b.onC k 7
def rdFrom (c:Tr V) (off n:Nat) (k:List V→R):R :=
 Nat.rec (motive:=λ_=>Nat→(List V→R)→R) (λ_ k=>k []) (λ_ ih off k=>orE (c.get off) (λv=>fN (Nat.succ off) λo=>ih o λl=>k (v::l)) 8) n off k
def wrFrom (l:List V) (c:Tr V) (off:Nat) (k:Tr V→R):R :=
 List.rec (motive:=λ_=>Tr V→Nat→(Tr V→R)→R) (λc _ k=>k c) (λv _ ih c off k=>Tr.put v c off λc'=>fN (Nat.succ off) λo=>ih c' o k) l c off k
def trOf (l:List V) (k:Tr V→R):R:=wrFrom l .e 0 k
def hasAll (c:Tr V) (off n:Nat):Bool :=
 Nat.rec (motive:=λ_=>Nat→Bool) (λ_=>true) (λ_ ih off=>Option.rec (motive:=λ_=>Bool) false (λ_=>ih (Nat.succ off)) (c.get off)) n off
def mkRow (v:Vid) (l:List V) (ty sz:Nat) (σ:H D) (k:H D→R):R :=
 trOf l λc=>fN (List.length l) λn=>σ.add v (.cells true n c ty sz) k
abbrev K (D:Type):=V→H D→R
def vNew (z:List V) (ty:Nat) (v:Vid) (σ:H D) (k:K D):R:=mkRow v z ty 1 σ λσ=>k (.p v 0) σ
def vBox (ty:Nat) (v:Vid) (x:V) (σ:H D) (k:K D):R:=iff' (allOne (cellsV x)) (mkRow v (cellsV x) ty 1 σ λσ=>k (.p v 0) σ) (R.no 11)
def laid (ps:List (Nat × Nat)) (xs:List V) (c:Tr V) (k:Tr V→R):R :=
 List.rec (motive:=λ_=>List V→Tr V→(Tr V→R)→R) (λ_ c k=>k c) (λp _ ih xs c k=>List.rec (motive:=λ_=>R) (R.no 12) (λx xs _=>iff' (Nat.beq (List.length (cellsV x)) p.2&&Nat.blt 0 p.2&&allOne (cellsV x)&&hasAll c p.1 p.2)
  (wrFrom (cellsV x) c p.1 λc=>ih xs c k) (R.no 12)) xs) ps xs c k
def vBuild (z:List V) (n:Nat) (ps:List (Nat × Nat)) (xs:List V) (σ:H D) (k:K D):R:=trOf z λc=>laid ps xs c λc=>rdFrom c 0 n λl=>k (.a l) σ
def vBSl (z:List V) (ty sz len n:Nat) (ps:List (Nat × Nat)) (v:Vid) (xs:List V) (σ:H D) (k:K D):R :=
 trOf z λc=>laid ps xs c λc=>σ.add v (.cells true n c ty sz) λσ=>k (.sl v 0 len (.ex len)) σ
def vLd (x:V) (σ:H D) (k:V→R):R:=x.onP (λv off=>σ.cells v λ_ _ c _ _=>orE (c.get off) k 13) 14
def vLdA (n:Nat) (x:V) (σ:H D) (k:V→R):R:=x.onP (λv off=>σ.cells v λ_ _ c _ _=>rdFrom c off n λl=>k (.a l)) 15
def vSt (n:Nat) (x y:V) (σ:H D) (k:H D→R):R :=
 x.onP (λv off=>σ.cells v λex m c ty sz=>iff' (Nat.beq (List.length (cellsV y)) n&&hasAll c off n&&allOne (cellsV y)) (wrFrom (cellsV y) c off λc'=>σ.put v (.cells ex m c' ty sz) k) (R.no 16)) 17
def vNil (x:V) (k:V→R):R:=x.onNil k 18
inductive EK where
 | int | str | bool | nil (k:Nat) | struct (ks:List Nat) | none
def primEq (x y:V):Option Bool:=match x,y with
 | .i k a,.i k' b=>match Nat.beq (kIx k) (kIx k') with | true=>some (ieq a b) | false=>none
 | .b a,.b b=>some (a==b)
 | .s a,.s b=>some (seq' a b)
 | _,_=>none
def primsEq:List V→List V→Option Bool
 | [],[]=>some true
 | x::xs,y::ys=>match primEq x y,primsEq xs ys with
  | some a,some b=>some (a&&b)
  | _,_=>none
 | _,_=>none
def primK (k:Nat) (x y:V):Option Bool:=match k,x,y with
 | 0,.i k a,.i k' b=>match Nat.beq (kIx k) (kIx k') with | true=>some (ieq a b) | false=>none
 | 1,.s a,.s b=>some (seq' a b)
 | 2,.b a,.b b=>some (a==b)
 | _,_,_=>none
def primsK:List Nat→List V→List V→Option Bool
 | [],[],[]=>some true
 | k::ks,x::xs,y::ys=>match primK k x y,primsK ks xs ys with
  | some a,some b=>some (a&&b)
  | _,_=>none
 | _,_,_=>none
def eqV (ek:EK) (x y:V) (k:Bool→R):R :=
 EK.rec (motive:=λ_=>R)
  (x.onI (λκ a=>y.onI (λκ' b=>iff' (Nat.beq (kIx κ) (kIx κ')) (k (ieq a b)) (R.no 20)) 20) 20)
  (x.onS (λa=>y.onS (λb=>k (seq' a b)) 21) 21)
  (x.onB (λa=>y.onB (λb=>k (a==b)) 21) 21)
  (λkk=>y.onZ (λky z=>iff' (z&&Nat.beq ky kk) (x.onZ (λkx z=>iff' (Nat.beq kx kk) (k z) (R.no 22)) 22) (R.no 22)) 22)
  (λks=>x.onA (λxs=>y.onA (λys=>orE (primsK ks xs ys) k 23) 23) 23)
  (R.no 24) ek
def vEqn (neg:Bool) (ek:EK) (x y:V) (k:V→R):R:=eqV ek x y λb=>iff' b (iff' neg (k (.b false)) (k (.b true))) (iff' neg (k (.b true)) (k (.b false)))
def binI (op:BinOp) (κ:IntKind) (a b:Int) (k:V→R):R:=match op with
 | .add=>k (.i κ (iwrap κ (iadd a b)))
 | .sub=>k (.i κ (iwrap κ (isub a b)))
 | .mul=>k (.i κ (iwrap κ (a * b)))
 | .quo=>iff' (ieq b 0) (R.no 25) (k (.i κ (iwrap κ (a.tdiv b))))
 | .rem=>iff' (ieq b 0) (R.no 25) (k (.i κ (a.tmod b)))
 | .lss=>iff' (ilt a b) (k (.b true)) (k (.b false))
 | .leq=>iff' (ilt b a) (k (.b false)) (k (.b true))
 | .gtr=>iff' (ilt b a) (k (.b true)) (k (.b false))
 | .geq=>iff' (ilt a b) (k (.b false)) (k (.b true))
 | .and=>k (.i κ (bit2 Nat.land bAnd κ a b))
 | .or=>k (.i κ (bit2 Nat.lor bOr κ a b))
 | .xor=>k (.i κ (bit2 Nat.xor bXor κ a b))
 | .andNot=>k (.i κ (bAndNot κ a b))
 | _=>R.no 26
def vBin (op:BinOp) (x y:V) (k:V→R):R:=x.onI (λκ a=>y.onI (λκ' b=>iff' (Nat.beq (kIx κ) (kIx κ')) (binI op κ a b k) (R.no 27)) 27) 28
def vShl (x y:V) (k:V→R):R:=x.onI (λκ a=>y.onI (λ_ b=>iff' (ilt b 0) (R.no 29) (k (.i κ (iwrap κ (a * 2 ^ min b.toNat κ.bits))))) 29) 29
def vShr (x y:V) (k:V→R):R:=x.onI (λκ a=>y.onI (λ_ b=>iff' (ilt b 0) (R.no 29) (k (.i κ (a.fdiv (2 ^ min b.toNat κ.bits))))) 29) 29
def vCat (x y:V) (k:V→R):R:=x.onS (λa=>y.onS (λb=>iff' (Nat.ble (Nat.add (List.length a) (List.length b)) 1000000) (k (.s (a++b))) (R.no 30)) 30) 30
def vNot (x:V) (k:V→R):R:=x.onB (λb=>iff' b (k (.b false)) (k (.b true))) 31
def vNeg (x:V) (k:V→R):R:=x.onI (λκ n=>k (.i κ (iwrap κ (0 - n)))) 32
def vCpl (x:V) (k:V→R):R:=x.onI (λκ n=>k (.i κ (bNot κ n))) 32
def vFA (off:Nat) (x:V) (k:V→R):R:=x.onP (λv o=>k (.p v (Nat.add o off))) 33
def partV (agg:Bool) (off n:Nat) (l:List V) (k:V→R):R :=
 iff' agg (iff' (Nat.ble (Nat.add off n) (List.length l)) (k (.a ((l.drop off).take n))) (R.no 34)) (orE (nth off l) k 35)
def vFld (agg:Bool) (off n:Nat) (x:V) (k:V→R):R:=x.onA (λl=>partV agg off n l k) 36
def asI (x:V) (k:Nat→R):R:=x.onI (λ_ n=>Int.rec (motive:=λ_=>R) k (λ_=>R.no 37) n) 37
def vIA (sz:Nat) (x i:V) (k:V→R):R:=asI i λi=>x.onSl (λv off n _=>iff' (Nat.blt i n) (k (.p v (Nat.add off (Nat.mul i sz)))) (R.no 38)) 39
def vIAA (len sz:Nat) (x i:V) (k:V→R):R:=asI i λi=>x.onP (λv off=>iff' (Nat.blt i len) (k (.p v (Nat.add off (Nat.mul i sz)))) (R.no 40)) 41
def vIS (x i:V) (k:V→R):R:=asI i λi=>x.onS (λl=>orE (nth i l) (λb=>k (.i .u8 (.ofNat (Nat.mod b 256)))) 42) 43
def vIV (agg:Bool) (len sz:Nat) (x i:V) (k:V→R):R:=asI i λi=>x.onA (λl=>iff' (Nat.blt i len) (partV agg (Nat.mul i sz) sz l k) (R.no 44)) 45
def vExt (j:Nat) (x:V) (k:V→R):R:=x.onT (λl=>orE (nth j l) k 46) 47
def vLen (kd:Nat) (x:V) (σ:H D) (k:V→R):R :=
 x.onLen (λkk n=>iff' (Nat.beq kk kd) (k (.i .i64 (.ofNat n))) (R.no 49)) (λv=>iff' (Nat.beq kd 2) (σ.get v λb=>b.onM (λ_ _ es _=>k (.i .i64 (.ofNat (List.length es)))) 48) (R.no 49)) 49
def optI (x:Option V) (d:Nat) (k:Nat→R):R:=Option.rec (motive:=λ_=>R) (k d) (λx=>asI x k) x
def vSlS (lo hi:Option V) (x:V) (k:V→R):R :=
 x.onS (λl=>optI hi (List.length l) λh=>optI lo 0 λo=>iff' (Nat.ble h (List.length l)&&Nat.ble o h) (k (.s ((l.drop o).take (Nat.sub h o)))) (R.no 50)) 51
def slOf (sz:Nat) (v:Vid) (off n o h:Nat) (c:Cp) (k:V→R):R :=
 iff' (Nat.ble o h&&Nat.ble h n) (Cp.rec (motive:=λ_=>R)
  (λc=>iff' (Nat.blt o c) (k (.sl v (Nat.add off (Nat.mul o sz)) (Nat.sub h o) (.ex (Nat.sub c o)))) (iff' (Nat.beq o c) (k (.sl v off 0 (.ex 0))) (R.no 52)))
  (λr=>iff' (Nat.beq o 0) (k (.sl v off h (.re r))) (iff' (Nat.blt o n) (k (.sl v (Nat.add off (Nat.mul o sz)) (Nat.sub h o) (.re (Nat.add r o)))) (iff' (Nat.beq o h) (k (.se v off r o sz)) (R.no 53)))) c) (R.no 54)
def vSl (sz:Nat) (lo hi:Option V) (x:V) (k:V→R):R :=
 x.onSlN (optI hi 0 λh=>optI lo 0 λo=>iff' (Nat.beq h 0&&Nat.beq o 0) (k .ns) (R.no 55))
  (λv off n c=>optI hi n λh=>optI lo 0 λo=>slOf sz v off n o h c k) 56
def vSl3 (sz:Nat) (lo:Option V) (hi mx x:V) (k:V→R):R :=
 asI hi λh=>asI mx λm=>optI lo 0 λo=>x.onSlN (iff' (Nat.beq h 0&&Nat.beq o 0&&Nat.beq m 0) (k .ns) (R.no 57))
  (λv off n _=>iff' (Nat.ble o h&&Nat.ble h m&&Nat.ble m n) (iff' (Nat.beq m o) (k (.sl v off 0 (.ex 0))) (k (.sl v (Nat.add off (Nat.mul o sz)) (Nat.sub h o) (.ex (Nat.sub m o))))) (R.no 58)) 59
def vSlA (len sz:Nat) (lo hi:Option V) (x:V) (k:V→R):R :=
 x.onP (λv off=>optI hi len λh=>optI lo 0 λo=>iff' (Nat.ble o h&&Nat.ble h len&&Nat.blt o len) (k (.sl v (Nat.add off (Nat.mul o sz)) (Nat.sub h o) (.ex (Nat.sub len o)))) (R.no 60)) 61
def times (n:Nat) (z:List V):List V:=Nat.rec (motive:=λ_=>List V) [] (λ_ ih=>z++ih) n
def vMkS (z:List V) (ty sz bytes:Nat) (v:Vid) (l c:V) (σ:H D) (k:K D):R :=
 asI l λl=>asI c λc=>iff' (Nat.ble l c&&Nat.ble (Nat.mul c bytes) 100000000&&Nat.ble c 1000000)
  (trOf (times c z) λt=>σ.add v (.cells true (Nat.mul c sz) t ty sz) λσ=>k (.sl v 0 l (.ex c)) σ) (R.no 62)
def vMkM (kT:Nat) (ks:KS) (v:Vid) (σ:H D) (k:K D):R:=σ.add v (.map kT ks [] 0) λσ=>k (.m v) σ
def kpEq (k:KP) (x y:V) (yes no:R):R :=
 KP.rec (motive:=λ_=>R) (λq=>x.onI (λκ a=>y.onI (λκ' b=>iff' (Nat.beq (kIx κ) (kIx q)&&Nat.beq (kIx κ') (kIx q)) (iff' (ieq a b) yes no) (R.no 63)) 63) 63)
  (x.onS (λa=>y.onS (λb=>iff' (seq' a b) yes no) 63) 63) (x.onB (λa=>y.onB (λb=>iff' (a==b) yes no) 63) 63) k
def kpsEq (ks:List KP) (xs ys:List V) (yes no:R):R :=
 List.rec (motive:=λ_=>List V→List V→R) (λxs ys=>List.rec (motive:=λ_=>R) (List.rec (motive:=λ_=>R) yes (λ_ _ _=>R.no 63) ys) (λ_ _ _=>R.no 63) xs)
  (λk _ ih xs ys=>List.rec (motive:=λ_=>R) (R.no 63) (λx xs _=>List.rec (motive:=λ_=>R) (R.no 63) (λy ys _=>kpEq k x y (ih xs ys) no) ys) xs) ks xs ys
def keyEq (ks:KS) (x y:V) (yes no:R):R :=
 KS.rec (motive:=λ_=>R) (λk=>kpEq k x y yes no) (λks=>x.onA (λxs=>y.onA (λys=>kpsEq ks xs ys yes no) 63) 63) ks
def find (ks:KS) (es:List (V × V)) (x:V) (k0:R) (k1:V→R):R :=
 List.rec (motive:=λ_=>R) k0 (λp _ ih=>keyEq ks p.1 x (k1 p.2) ih) es
def putM (ks:KS) (es:List (V × V)) (x y:V) (k:List (V × V)→R):R :=
 List.rec (motive:=λ_=>(List (V × V)→R)→R) (λk=>k [(x,y)]) (λp l ih k=>keyEq ks p.1 x (k ((x,y)::l)) (ih λl=>k (p::l))) es k
def fin (ok b:Bool) (v:V) (k:V→R):R:=iff' ok (k (.t [v,.b b])) (k v)
def vLook (kT:Nat) (ks:KS) (z:V) (ok:Bool) (m i:V) (σ:H D) (k:V→R):R :=
 keyEq ks i i (m.onMO (λo=>Option.rec (motive:=λ_=>R) (fin ok false z k)
  (λv=>σ.get v λb=>b.onM (λkT' ks' es _=>iff' (Nat.beq kT' kT) (find ks' es i (fin ok false z k) λv=>fin ok true v k) (R.no 64)) 65) o) 66) (R.no 63)
def vPutM (kT:Nat) (ks:KS) (m i x:V) (σ:H D) (k:H D→R):R :=
 keyEq ks i i (m.onM (λv=>σ.get v λb=>b.onM (λkT' ks' es ver=>iff' (Nat.beq kT' kT) (putM ks' es i x λes=>σ.put v (.map kT ks' es (Nat.succ ver)) k) (R.no 67)) 68) 69) (R.no 63)
def rdSl (sz:Nat) (x:V) (σ:H D) (k:Nat→List V→R):R :=
 x.onRd (k 0 []) (λv off n=>σ.cells v λ_ _ c _ _=>rdFrom c off (Nat.mul n sz) λl=>k n l) (λl=>iff' (Nat.beq sz 1) (k (List.length l) (l.map λb=>.i .u8 (.ofNat (b % 256)))) (R.no 70)) 70
def newOpen (v:Vid) (l:List V) (need ty sz:Nat) (σ:H D) (k:K D):R :=
 trOf l λc=>fN (Nat.mul need sz) λn=>σ.add v (.cells false n c ty sz) λσ=>k (.sl v 0 need (.re 0)) σ
def vApp (ty sz bytes:Nat) (v:Vid) (s x:V) (σ:H D) (k:K D):R :=
 rdSl sz x σ λm l=>iff' (Nat.ble m 100000&&Nat.ble (Nat.mul m bytes) 100000000&&allOne l&&Nat.beq (List.length l) (Nat.mul m sz)) (s.onApp
  (iff' (Nat.beq m 0) (k .ns σ) (newOpen v l m ty sz σ k))
  (λw off n c=>σ.cells w λex known t ty' sz'=>iff' (Nat.ble n 100000&&Nat.ble (Nat.mul n bytes) 100000000&&Nat.beq ty' ty&&Nat.beq sz' sz) (fN (Nat.add n m) λneed=>Cp.rec (motive:=λ_=>R)
   (λc=>iff' (Nat.ble need c)
    (iff' (hasAll t (Nat.add off (Nat.mul n sz)) (List.length l)) (wrFrom l t (Nat.add off (Nat.mul n sz)) λt=>σ.put w (.cells ex known t ty sz) λσ=>k (.sl w off need (.ex c)) σ) (R.no 71))
    (rdFrom t off (Nat.mul n sz) λold=>newOpen v (old++l) need ty sz σ k))
   (λr=>iff' ex (R.no 72) (iff' (Nat.beq off (Nat.mul r sz)) (iff' (Nat.ble (Nat.add off (Nat.mul need sz)) known)
    (iff' (hasAll t (Nat.add off (Nat.mul n sz)) (List.length l)) (wrFrom l t (Nat.add off (Nat.mul n sz)) λt=>σ.put w (.cells false known t ty sz) λσ=>k (.sl w off need (.re r)) σ) (R.no 71))
    (rdFrom t off (Nat.mul n sz) λold=>σ.put w .dead λσ=>newOpen v (old++l) need ty sz σ k)) (R.no 75))) c) (R.no 73)) 74) (R.no 79)
def vMM (mx:Bool) (x y:V) (k:V→R):R :=
 x.onI (λκ a=>y.onI (λ_ b=>iff' mx (iff' (ilt a b) (k (.i κ b)) (k (.i κ a))) (iff' (ilt b a) (k (.i κ b)) (k (.i κ a)))) 80) 80
def vConv (κ:IntKind) (x:V) (k:V→R):R:=x.onI (λ_ n=>k (.i κ (iwrap κ n))) 81
def bytesV:List V→Option (List Nat)
 | []=>some []
 | v::l=>match v with
  | .i k n=>match Nat.beq (kIx k) 4,n,bytesV l with
   | true,.ofNat n,some r=>some (n::r)
   | _,_,_=>none
  | _=>none
def vB2S (x:V) (σ:H D) (k:V→R):R :=
 x.onRd (k (.s [])) (λv off n=>σ.cells v λ_ _ c _ _=>rdFrom c off n λl=>orE (bytesV l) (λs=>k (.s s)) 82) (λ_=>R.no 83) 83
def vS2S (x:V) (k:V→R):R:=x.onS (λl=>k (.s l)) 84
def vRng (v:Vid) (x:V) (σ:H D) (k:K D):R:=x.onM (λm=>σ.get m λb=>b.onM (λ_ _ es ver=>σ.add v (.iter m ver [] es) λσ=>k (.p v 0) σ) 90) 91
def R.and (x y:R):R:=R.rec (motive:=λ_=>R) y (λn=>R.no n) x
def okIf (b:Bool) (n:Nat):R:=iff' b .ok (.no n)
def eachOf (md:Bool) (pre l:List (V × V)) (k:V × V→List (V × V)→R):R :=
 List.rec (motive:=λ_=>List (V × V)→R) (λ_=>.ok) (λp l ih pre=>iff' md (R.and (k p (pre++l)) (ih (pre++[p]))) (k p (pre++l))) l pre
def onIter (x:V) (σ:H D) (k:Vid→Vid→Nat→List V→List (V × V)→R):R :=
 x.onP (λv off=>iff' (Nat.beq off 0) (σ.get v λb=>b.onI (λm ver last rest=>σ.get m λb=>b.onM (λ_ _ _ ver'=>iff' (Nat.beq ver ver') (k v m ver last rest) (R.no 92)) 93) 94) (R.no 95)) 95
def vNxt (md:Bool) (x:V) (σ:H D) (k:K D):R :=
 onIter x σ λv m ver _ rest=>List.rec (motive:=λ_=>R) (σ.put v .dead λσ=>k (.t [.b false]) σ)
  (λ_ _ _=>eachOf md [] rest λp l=>σ.put v (.iter m ver [p.1,p.2] l) λσ=>k (.t [.b true,p.1,p.2]) σ) rest
def vEnt (x:V) (σ:H D) (k:V→R):R:=onIter x σ λ_ _ _ last _=>iff' (Nat.beq (List.length last) 2) (k (.t last)) (R.no 96)
end
end Go.Ev
end
end
