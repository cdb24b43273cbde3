/-
  A part of the proof: what the functions of the program come to, read off the model: no premise of its own, no axiom. Blank space is spared. By an AI agent.
-/
import Derived.Test.YtihllmhdjbomjaaGreatDoorA3
import Derived.Test.YtihllmhdjbomjaaGreatDoorShelf
import Derived.Test.YtihllmhdjbomjaaGreatDoorA1
import Derived.Laws.MakeOwn
import Derived.Laws.OwnMore
import Derived.Laws.CopyRow
import Derived.Laws.BytesArg
import Derived.Great.BuildSlice
import Derived.Sort.OwnSortedInts
import Derived.Test.YtihllmhdjbomjaaGreatDoorA2
set_option linter.all false
set_option maxRecDepth 100000
noncomputable section
section
namespace Go.Fk
open Go
abbrev bs (s:ByteArray):List UInt8:=s.data.toList
theorem size_bs (s:ByteArray):s.size=(bs s).length:=by show s.data.size=s.data.toList.length;simp
theorem get?_bs (s:ByteArray) (i:Nat):s[i]?=(bs s)[i]?:=by
 by_cases h:i < s.size
 ·rw [getElem?_pos s i h,kC (by rw [← size_bs];exact h)]
  rfl
 ·rw [getElem?_neg s i h,List.getElem?_eq_none (by rw [← size_bs];omega)]
def pobj (s:ByteArray) (st:PS):Obj :=
 .cells #[.string s,.int .i64 st.at_,.bool st.bad,.bool st.long,.int .i64 st.deep] T.regex_parser (0,0)
def PO (w:World) (bp:Nat) (s:ByteArray) (st:PS):Prop:=w.heap[bp]?=some (pobj s st)
theorem PO.keep {w w':World} {bp:Nat} {s:ByteArray} {st:PS} (h:PO w bp s st) (hk:Keeps No w w'):PO w' bp s st:=hk.blk0 h
theorem PO.heap {w w':World} {bp:Nat} {s:ByteArray} {st:PS} (h:PO w bp s st) (hk:w'.heap=w.heap):PO w' bp s st:=by unfold PO at *;rw [hk];exact h
def Small (s:ByteArray):Prop:=s.size≤1048576
theorem regex_reader_peek_spec {w:World} {bp:Nat} {s:ByteArray} {st:PS} {K:Int × Bool→World→Prop} (h:PO w bp s st) (hs:Small s)
  (hk:∀ w',Keeps No w w'→K (match (bs s)[st.at_]? with | some c=>((c.toNat:Int),true) | none=>(0,false)) w'):regex_reader_peek.C (some ⟨bp,0,none⟩) w K:=by
 refine regex_reader_peek.ok _ _ _ ?_
 simp only [regex_reader_peek.M,NilC_some]
 refine Draw.mk λw1 e1 k1=>?_
 have h1:=h.heap e1
 refine LdS.int (cell_of h1 rfl) (LdS.str (cell_of h1 rfl) ?_)
 refine Br.mk (λht=>?_) (λhf=>?_)
 ·have ht:(bs s).length≤st.at_:=by rw [← size_bs];simpa using ht
  have:=hk w1 k1
  rwa [List.getElem?_eq_none ht] at this
 ·have hf:st.at_ < (bs s).length:=by rw [← size_bs];simpa using hf
  refine Draw.mk λw2 e2 k2=>?_
  have h2:=h1.heap e2
  refine LdS.str (cell_of h2 rfl) (LdS.int (cell_of h2 rfl) ?_)
  refine⟨by omega,(bs s)[st.at_],by rw [get?_bs];exact kC hf,rfl,?_⟩
  have:=hk w2 (k1.trans k2)
  rwa [kC hf] at this
theorem PO.st {w:World} {bp off:Nat} {s:ByteArray} {st st':PS} {v:Value} {k:World→Prop} (h:PO w bp s st) (ho:off < 5)
  (he:(match pobj s st with | .cells cs E f=>.cells (cs.setIfInBounds off v) E f | o=>o)=pobj s st') (hk:∀ w',PO w' bp s st'→Keeps (·=bp) w w'→k w'):St ⟨bp,off,none⟩ v w k:=by
 refine St.blk h (by simpa using ho) λw' hu=>hk w' ?_ hu.keeps
 have:=hu.at_
 simp only [pobj] at he
 unfold PO
 rw [this,pobj,← he]
theorem regex_reader_is_spec {w:World} {bp:Nat} {s:ByteArray} {st:PS} {b:UInt8} {K:Bool→World→Prop} (h:PO w bp s st) (hs:Small s) (hat:st.at_≤s.size)
  (hk:∀ w',Keeps (·=bp) w w'→PO w' bp s (isB (bs s) b st).2→K (isB (bs s) b st).1 w'):regex_reader_is.C (some ⟨bp,0,none⟩) b.toNat w K:=by
 refine regex_reader_is.ok _ _ _ _ ?_
 simp only [regex_reader_is.M,NilC_some]
 refine regex_reader_peek_spec h hs λw1 k1=>?_
 have h1:=h.keep k1
 unfold Join
 cases hc:(bs s)[st.at_]? with
 | none =>
  have:=hk w1 k1.no
  simp only [isB,hc] at this
  simpa using this h1
 | some c =>
  simp only [Bool.not_true,Br_false]
  refine Br.mk (λht=>?_) (λhf=>?_)
  ·have hne:c≠b:=by rintro rfl;simp at ht
   have:=hk w1 k1.no
   simp only [isB,hc,Option.some.injEq,hne,if_false] at this
   exact this h1
  ·have he:c=b:=by
    have:(c.toNat:Int)=b.toNat:=by simpa using hf
    exact UInt8.toNat_inj.1 (by omega)
   subst he
   have hlt:st.at_ < s.size:=by
    rw [size_bs];exact (kA hc).1
   refine Ld.int (cell_of h1 rfl) ?_
   rw [w64_eq (by unfold Small at hs;omega)]
   refine PO.st (st':=st.adv) h1 (by simp) rfl λw2 h2 k2=>?_
   have:=hk w2 ((k1.no).trans k2)
   simp only [isB,hc,if_true] at this
   exact this h2
theorem regex_parser_fail_spec {w:World} {bp:Nat} {s:ByteArray} {st:PS} {K:Option Addr→World→Prop} (h:PO w bp s st)
  (hk:∀ p w',Keeps (·=bp) w w'→PO w' bp s st.fail→(∀ M:Nat→Prop,Old M w→Nd (V M w') p .empty)→K p w'):regex_parser_fail.C (some ⟨bp,0,none⟩) w K:=by
 refine regex_parser_fail.ok _ _ _ ?_
 simp only [regex_parser_fail.M,NilC_some]
 refine PO.st (st':=st.fail) h (by simp) rfl λw1 h1 k1=>?_
 refine regex_Empty_spec λp w2 k2 hN=>?_
 exact hk p w2 (k1.then0 k2) (h1.keep k2) λM hM=>hN M (hM.keeps k1)
theorem indexByte_lt (l:List UInt8) (c:UInt8):Lib.indexByte l c < l.length:=by
 induction l with
 | nil=>simp [Lib.indexByte]
 | cons b l ih =>
  simp only [Lib.indexByte,List.length_cons]
  split
  ·omega
  ·split <;> omega
theorem beq_lit {c:UInt8} (k:UInt8) {n:Int} (hn:(k.toNat:Int)=n):((c.toNat:Int)==n)=decide (c=k):=by
 subst hn
 by_cases h:c=k
 ·subst h;simp
 ·have:c.toNat≠k.toNat:=λe=>h (UInt8.toNat_inj.1 e)
  simp [h];omega
theorem strings_IndexByte_spec {w:World} {s:ByteArray} {c:Int} {K:Int→World→Prop} (hk:K (Lib.indexByte (bs s) c.toNat.toUInt8) w):strings_IndexByte.C s c w K :=
 (Go.Proofs.Tryz.strings_IndexByte s c w).mono λe w' ⟨h1,h2⟩=>⟨_,h1,h2 ▸ hk⟩
theorem regex_parser_digit_spec {w:World} {bp:Nat} {s:ByteArray} {st:PS} {K:Int→World→Prop} (h:PO w bp s st) (hs:Small s)
  (hk:∀ w',Keeps (·=bp) w w'→PO w' bp s (digitF (bs s) st).2→K (digitF (bs s) st).1 w'):regex_parser_digit.C (some ⟨bp,0,none⟩) w K:=by
 refine regex_parser_digit.ok _ _ _ ?_
 simp only [regex_parser_digit.M,NilC_some]
 refine regex_reader_peek_spec h hs λw1 k1=>strings_IndexByte_spec ?_
 have h1:=h.keep k1
 unfold Join
 have fail:∀ K':World→Prop,(∀ w',Keeps (·=bp) w w'→PO w' bp s st.fail→K' w')→regex_parser_fail.C (some ⟨bp,0,none⟩) w1 λ_ w'=>K' w':=λK' hK =>
  regex_parser_fail_spec h1 λp w2 k2 h2 _=>hK w2 ((k1.no).trans k2) h2
 cases hc:(bs s)[st.at_]? with
 | none =>
  simp only [Bool.not_false,Br_true]
  simp only [digitF,hc] at hk
  exact fail _ λw' k h=>hk w' k h
 | some c =>
  simp only [Bool.not_true,Br_false]
  have ec:((c.toNat:Int)).toNat.toUInt8=c:=by simp
  rw [ec]
  refine Br.mk (λht=>?_) (λhf=>?_)
  ·have ht:Lib.indexByte hexDigits c < 0:=kG ht
   simp only [digitF,hc,ht,if_true] at hk
   exact fail _ λw' k h=>hk w' k h
  ·have hf:¬ Lib.indexByte hexDigits c < 0:=kF hf
   simp only [digitF,hc,hf,if_false] at hk
   have hlt:st.at_ < s.size:=by
    rw [size_bs];exact (kA hc).1
   refine Ld.int (cell_of h1 rfl) ?_
   rw [w64_eq (by unfold Small at hs;omega)]
   refine PO.st (st':=st.adv) h1 (by simp) rfl λw2 h2 k2=>?_
   have:=hk w2 ((k1.no).trans k2) h2
   have hb:Lib.indexByte hexDigits c < 16:=indexByte_lt hexDigits c
   rw [show IntKind.wrap .u8 (Lib.indexByte (bs ⟨#[48,49,50,51,52,53,54,55,56,57,97,98,99,100,101,102]⟩) c)=((Lib.indexByte hexDigits c).toNat:Int) from ?_]
   ·exact this
   ·show IntKind.wrap .u8 (Lib.indexByte hexDigits c)=_
    rw [IntWalk.u8_in _ (by omega)];omega
theorem PO.step {w:World} {bp:Nat} {s:ByteArray} {st:PS} {k:World→Prop} {x:Int} (h:PO w bp s st) (hx:x=st.at_) (hs:Small s) (hat:st.at_≤s.size)
  (hk:∀ w',PO w' bp s st.adv→Keeps (·=bp) w w'→k w'):St ⟨bp,1,none⟩ (.int .i64 (w64 (x + (1:Int)))) w k:=by
 subst hx
 unfold Small at hs
 rw [w64_eq (by omega)]
 exact PO.st h (by simp) rfl hk
theorem at_lt {s:ByteArray} {st:PS} {c:UInt8} (h:(bs s)[st.at_]?=some c):st.at_ < s.size:=by
 rw [size_bs];exact (kA h).1
theorem digitF_lt (s:List UInt8) (st:PS):(digitF s st).1 < 16:=by
 unfold digitF
 split
 ·simp
 ·split
  ·simp
  ·rename_i c _ _
   have:Lib.indexByte hexDigits c < 16:=indexByte_lt hexDigits c
   simp only [];omega
theorem regex_parser_escaped_spec {w:World} {bp:Nat} {s sp:ByteArray} {st:PS} {K:Int→World→Prop} (h:PO w bp s st) (hs:Small s) (hat:st.at_≤s.size)
  (hk:∀ w',Keeps (·=bp) w w'→PO w' bp s (escapedF (bs s) (bs sp) st).2→K (escapedF (bs s) (bs sp) st).1 w'):regex_parser_escaped.C (some ⟨bp,0,none⟩) sp w K:=by
 refine regex_parser_escaped.ok _ _ _ _ ?_
 simp only [regex_parser_escaped.M,NilC_some]
 refine regex_reader_peek_spec h hs λw1 k1=>?_
 have h1:=h.keep k1
 have fail:∀ (K':World→Prop),(∀ w',Keeps (·=bp) w w'→PO w' bp s st.fail→K' w')→regex_parser_fail.C (some ⟨bp,0,none⟩) w1 λ_ w'=>K' w':=λK' hK =>
  regex_parser_fail_spec h1 λp w2 k2 h2 _=>hK w2 ((k1.no).trans k2) h2
 cases hc:(bs s)[st.at_]? with
 | none =>
  simp only [Bool.not_false,Br_true]
  simp only [escapedF,hc] at hk
  exact fail _ λw' k h=>hk w' k h
 | some c =>
  simp only [Bool.not_true,Br_false]
  unfold Join
  have go:∀ n:Nat,(∀ w',Keeps (·=bp) w w'→PO w' bp s st.adv→K n w') →
    Ld (.int .i64) (Addr.add ⟨bp,0,none⟩ 1) w1 λx62=>St (Addr.add ⟨bp,0,none⟩ 1) (.int .i64 (w64 (x62 + (1:Int)))) w1 λw4=>K n w4:=by
   intro n hK
   refine Ld.int (cell_of h1 rfl) ?_
   exact PO.step h1 rfl hs hat λw2 h2 k2=>hK w2 ((k1.no).trans k2) h2
  dsimp only
  rw [beq_lit (n:=110) 110 rfl,beq_lit (n:=116) 116 rfl,beq_lit (n:=115) 115 rfl,beq_lit (n:=120) 120 rfl]
  by_cases c1:c=110
  ·simp only [escapedF,hc,c1,if_true] at hk
   simp only [c1,decide_true,Br_true]
   exact go 10 hk
  by_cases c2:c=116
  ·simp only [escapedF,hc,c1,c2,if_true,if_false] at hk
   simp only [c1,decide_true,decide_false,Br_false,Br_true,c2]
   exact go 9 (by simpa using hk)
  by_cases c3:c=115
  ·simp only [escapedF,hc,c1,c2,c3,if_true,if_false] at hk
   simp only [c3,decide_true,Br_true]
   exact go 32 (by simpa using hk)
  by_cases c4:c=120
  ·simp only [escapedF,hc,c4] at hk
   simp only [c4]
   refine Ld.int (cell_of h1 rfl) ?_
   refine PO.step h1 rfl hs hat λw2 h2 k2=>?_
   refine regex_parser_digit_spec h2 hs λw3 k3 h3=>?_
   refine Ld.bool (cell_of h3 rfl) ?_
   have k13:Keeps (·=bp) w w3:=((k1.no).trans k2).trans k3
   cases hb:(digitF (bs s) st.adv).2.bad with
   | true =>
    have:=hk w3 k13
    simp only [hb] at this
    exact this h3
   | false =>
    refine regex_parser_digit_spec h3 hs λw4 k4 h4=>?_
    have:=hk w4 (k13.trans k4)
    simp only [hb] at this
    have l1:=digitF_lt (bs s) st.adv
    have l2:=digitF_lt (bs s) (digitF (bs s) st.adv).2
    rw [IntWalk.u8_in (16 * _) (by omega),IntWalk.u8_in _ (by omega)]
    have e:((16:Int) * ((digitF (bs s) st.adv).1:Int) + ((digitF (bs s) (digitF (bs s) st.adv).2).1:Int))=(((16 * (digitF (bs s) st.adv).1 + (digitF (bs s) (digitF (bs s) st.adv).2).1) % 256:Nat):Int):=by omega
    rw [e]
    exact this h4
  ·simp only [escapedF,hc,c1,c2,c3,c4,if_false] at hk
   simp only [c1,c2,c3,c4,decide_false,Br_false]
   refine strings_IndexByte_spec ?_
   rw [show ((c.toNat:Int)).toNat.toUInt8=c from by simp]
   refine Br.mk (λht=>?_) (λhf=>?_)
   ·have ht:Lib.indexByte (bs sp) c < 0:=kG ht
    simp only [ht,if_true] at hk
    exact fail _ λw' k h=>hk w' k h
   ·have hf:¬ Lib.indexByte (bs sp) c < 0:=kF hf
    simp only [hf,if_false] at hk
    exact go c.toNat hk
theorem u64_wrap {n:Nat} (h:n < 2 ^ 64):IntKind.wrap .u64 (n:Int)=n:=IntWalk.u64_in _ (by omega)
theorem ofInt_nat (n:Nat):BitVec.ofInt 64 (n:Int)=BitVec.ofNat 64 n:=by
 apply BitVec.eq_of_toNat_eq
 simp
theorem bOr_nat {x y:Nat} (hx:x < 2 ^ 64) (hy:y < 2 ^ 64):bOr .u64 (x:Int) (y:Int)=((x ||| y:Nat):Int):=by
 have e:(BitVec.ofInt (IntKind.bits .u64) (x:Int) ||| BitVec.ofInt (IntKind.bits .u64) (y:Int)).toNat=x ||| y:=by
  show (BitVec.ofInt 64 (x:Int) ||| BitVec.ofInt 64 (y:Int)).toNat=x ||| y
  rw [ofInt_nat,ofInt_nat,BitVec.toNat_or,BitVec.toNat_ofNat,BitVec.toNat_ofNat,Nat.mod_eq_of_lt hx,Nat.mod_eq_of_lt hy]
 unfold bOr
 rw [e,u64_wrap (Nat.or_lt_two_pow hx hy)]
theorem bAnd_nat {x y:Nat} (hx:x < 2 ^ 64) (hy:y < 2 ^ 64):bAnd .u64 (x:Int) (y:Int)=((x &&& y:Nat):Int):=by
 have e:(BitVec.ofInt (IntKind.bits .u64) (x:Int) &&& BitVec.ofInt (IntKind.bits .u64) (y:Int)).toNat=x &&& y:=by
  show (BitVec.ofInt 64 (x:Int) &&& BitVec.ofInt 64 (y:Int)).toNat=x &&& y
  rw [ofInt_nat,ofInt_nat,BitVec.toNat_and,BitVec.toNat_ofNat,BitVec.toNat_ofNat,Nat.mod_eq_of_lt hx,Nat.mod_eq_of_lt hy]
 unfold bAnd
 rw [e,u64_wrap (Nat.and_lt_two_pow _ hy)]
theorem bNot_nat {x:Nat} (hx:x < 2 ^ 64):bNot .u64 (x:Int)=(((2 ^ 64 - 1) ^^^ x:Nat):Int):=by
 have hm:(2 ^ 64 - 1:Nat) < 2 ^ 64:=by decide
 have e:(BitVec.ofInt (IntKind.bits .u64) ((2 ^ 64 - 1:Nat):Int) ^^^ BitVec.ofInt (IntKind.bits .u64) (x:Int)).toNat=(2 ^ 64 - 1) ^^^ x:=by
  show (BitVec.ofInt 64 ((2 ^ 64 - 1:Nat):Int) ^^^ BitVec.ofInt 64 (x:Int)).toNat=_
  rw [ofInt_nat,ofInt_nat,BitVec.toNat_xor,BitVec.toNat_ofNat,BitVec.toNat_ofNat,Nat.mod_eq_of_lt hm,Nat.mod_eq_of_lt hx]
 have e2:(if IntKind.signed .u64 then (-1:Int) else IntKind.max .u64)=((2 ^ 64 - 1:Nat):Int):=by decide
 unfold bNot bXor
 rw [e2,e,u64_wrap (Nat.xor_lt_two_pow hm hx)]
theorem Word.not {f:Nat→Bool} {k n:Nat} (h:Word f k n):Word (λi=>!f i) k ((2 ^ 64 - 1) ^^^ n):=by
 refine⟨Nat.xor_lt_two_pow (by decide) h.1,λi hi=>?_⟩
 rw [Nat.testBit_xor,h.2 i hi,Nat.testBit_two_pow_sub_one]
 simp [hi]
theorem Word.congr {f g:Nat→Bool} {k n:Nat} (h:Word f k n) (e:∀ i,64 * k≤i→i < 64 * k + 64→f i=g i):Word g k n :=
 ⟨h.1,λi hi=>by rw [h.2 i hi];exact e _ (by omega) (by omega)⟩
theorem Word.zero (k:Nat):Word (λ_=>false) k 0:=⟨by decide,λi _=>by simp⟩
theorem Word.set {f:Nat→Bool} {k n b:Nat} (h:Word f k n) (hb:b / 64=k):Word (λi=>f i||(i==b)) k (n ||| 2 ^ (b % 64)):=by
 have h2:2 ^ (b % 64) < 2 ^ 64:=Nat.pow_lt_pow_right (by decide) (Nat.mod_lt _ (by decide))
 refine⟨Nat.or_lt_two_pow h.1 h2,λi hi=>?_⟩
 rw [Nat.testBit_or,h.2 i hi,Nat.testBit_two_pow]
 congr 1
 by_cases e:b % 64=i
 ·simp [e];omega
 ·have:¬ 64 * k + i=b:=by omega
  simp [e,this]
theorem shl_nat (b:Nat):IntKind.wrap .u64 ((1:Int) * 2 ^ min (Int.toNat (Int.tmod (b:Int) (64:Int))) (IntKind.bits .u64))=((2 ^ (b % 64):Nat):Int):=by
 have e:Int.tmod (b:Int) 64=((b % 64:Nat):Int):=by rw [Int.tmod_eq_emod_of_nonneg (by omega)];omega
 have e2:min (Int.toNat ((b % 64:Nat):Int)) (IntKind.bits .u64)=b % 64:=by
  rw [Int.toNat_natCast];exact Nat.min_eq_left (Nat.le_of_lt (Nat.mod_lt _ (by decide)))
 rw [e,e2,Int.one_mul]
 have h2:2 ^ (b % 64) < 2 ^ 64:=Nat.pow_lt_pow_right (by decide) (Nat.mod_lt _ (by decide))
 have e3:(2:Int) ^ (b % 64)=((2 ^ (b % 64):Nat):Int):=by simp
 rw [e3,u64_wrap h2]
def WO (w:World) (b:Nat) (f:Nat→Bool):Prop:=∃ n0 n1 n2 n3:Nat,w.heap[b]?=some (.cells #[.int .u64 n0,.int .u64 n1,.int .u64 n2,.int .u64 n3] T.a4_uint64 (0,0))∧Words f n0 n1 n2 n3
theorem WO.keep {w w':World} {b:Nat} {f:Nat→Bool} {M:Nat→Prop} (h:WO w b f) (hk:Keeps M w w') (hm:¬ M b):WO w' b f:=by
 obtain⟨n0,n1,n2,n3,h1,h2⟩:=h
 exact⟨n0,n1,n2,n3,hk.blk h1 hm,h2⟩
theorem WO.heap {w w':World} {b:Nat} {f:Nat→Bool} (h:WO w b f) (hk:w'.heap=w.heap):WO w' b f:=by unfold WO at *;rw [hk];exact h
theorem Words.zero:Words (λ_=>false) 0 0 0 0:=⟨Word.zero _,Word.zero _,Word.zero _,Word.zero _⟩
theorem WO.setBit {w:World} {sb b:Nat} {f:Nat→Bool} (h:WO w sb f) (hb:b < 256):∃ x:Nat,x < 2 ^ 64∧w.cell? ⟨sb,b / 64,none⟩=some (.int .u64 x) ∧
  ∀ k:World→Prop,(∀ w',WO w' sb (λi=>f i||(i==b))→Keeps (·=sb) w w'→k w')→St ⟨sb,b / 64,none⟩ (.int .u64 ((x ||| 2 ^ (b % 64):Nat):Int)) w k:=by
 obtain⟨n0,n1,n2,n3,h1,g0,g1,g2,g3⟩:=h
 have other:∀ k n,Word f k n→b / 64≠k→Word (λi=>f i||(i==b)) k n:=λk n hw hne =>
  hw.congr λi h1 h2=>by
   have:¬ i=b:=by omega
   simp [this]
 have c:b / 64=0∨b / 64=1∨b / 64=2∨b / 64=3:=by omega
 rcases c with c | c | c | c <;> rw [c]
 ·exact⟨n0,g0.1,cell_of h1 rfl,λk hk=>St.blk h1 (by simp) λw' hu=>hk w' ⟨_,n1,n2,n3,hu.at_,g0.set c,other _ _ g1 (by omega),other _ _ g2 (by omega),other _ _ g3 (by omega)⟩ hu.keeps⟩
 ·exact⟨n1,g1.1,cell_of h1 rfl,λk hk=>St.blk h1 (by simp) λw' hu=>hk w' ⟨n0,_,n2,n3,hu.at_,other _ _ g0 (by omega),g1.set c,other _ _ g2 (by omega),other _ _ g3 (by omega)⟩ hu.keeps⟩
 ·exact⟨n2,g2.1,cell_of h1 rfl,λk hk=>St.blk h1 (by simp) λw' hu=>hk w' ⟨n0,n1,_,n3,hu.at_,other _ _ g0 (by omega),other _ _ g1 (by omega),g2.set c,other _ _ g3 (by omega)⟩ hu.keeps⟩
 ·exact⟨n3,g3.1,cell_of h1 rfl,λk hk=>St.blk h1 (by simp) λw' hu=>hk w' ⟨n0,n1,n2,_,hu.at_,other _ _ g0 (by omega),other _ _ g1 (by omega),other _ _ g2 (by omega),g3.set c⟩ hu.keeps⟩
structure Lex (n:Nat) (st st':PS):Prop where
 le:st.at_≤n→st'.at_≤n
 go:st'.bad=false→st.bad=false∧st.at_ < st'.at_
 long:st'.long=st.long
 deep:st'.deep=st.deep
structure Lex0 (n:Nat) (st st':PS):Prop where
 le:st.at_≤n→st'.at_≤n
 go:st'.bad=false→st.bad=false∧st.at_≤st'.at_
 long:st'.long=st.long
 deep:st'.deep=st.deep
theorem Lex.weak {n:Nat} {a b:PS} (h:Lex n a b):Lex0 n a b:=⟨h.le,λe=>⟨(h.go e).1,Nat.le_of_lt (h.go e).2⟩,h.long,h.deep⟩
theorem Lex0.refl {n:Nat} {a:PS}:Lex0 n a a:=⟨id,λe=>⟨e,Nat.le_refl _⟩,rfl,rfl⟩
theorem Lex0.trans {n:Nat} {a b c:PS} (h:Lex0 n a b) (k:Lex0 n b c):Lex0 n a c :=
 ⟨λe=>k.le (h.le e),λe=>⟨(h.go (k.go e).1).1,Nat.le_trans (h.go (k.go e).1).2 (k.go e).2⟩,k.long.trans h.long,k.deep.trans h.deep⟩
theorem Lex.then {n:Nat} {a b c:PS} (h:Lex n a b) (k:Lex0 n b c):Lex n a c :=
 ⟨λe=>k.le (h.le e),λe=>⟨(h.go (k.go e).1).1,Nat.lt_of_lt_of_le (h.go (k.go e).1).2 (k.go e).2⟩,k.long.trans h.long,k.deep.trans h.deep⟩
theorem Lex0.then {n:Nat} {a b c:PS} (h:Lex0 n a b) (k:Lex n b c):Lex n a c :=
 ⟨λe=>k.le (h.le e),λe=>⟨(h.go (k.go e).1).1,Nat.lt_of_le_of_lt (h.go (k.go e).1).2 (k.go e).2⟩,k.long.trans h.long,k.deep.trans h.deep⟩
theorem Lex.fail {n:Nat} {a:PS}:Lex n a a.fail:=⟨id,(λe=>by cases e),rfl,rfl⟩
theorem Lex.adv {n:Nat} {a:PS} (h:a.at_ < n):Lex n a a.adv:=⟨λ_=>h,λe=>⟨e,Nat.lt_succ_self _⟩,rfl,rfl⟩
theorem lt_of_get {s:List UInt8} {i:Nat} {c:UInt8} (h:s[i]?=some c):i < s.length:=(kA h).1
theorem isB_lex (s:List UInt8) (b:UInt8) (st:PS):Lex0 s.length st (isB s b st).2:=by
 unfold isB
 split
 ·rename_i h;exact (Lex.adv (lt_of_get h)).weak
 ·exact Lex0.refl
theorem isB_true {s:List UInt8} {b:UInt8} {st:PS} (h:(isB s b st).1=true):Lex s.length st (isB s b st).2:=by
 unfold isB at h ⊢
 split
 ·rename_i h;exact Lex.adv (lt_of_get h)
 ·rename_i h2;simp [h2] at h
theorem digitF_lex (s:List UInt8) (st:PS):Lex s.length st (digitF s st).2:=by
 unfold digitF
 split
 ·exact Lex.fail
 ·rename_i c hc
  split
  ·exact Lex.fail
  ·exact Lex.adv (lt_of_get hc)
theorem escapedF_lex (s sp:List UInt8) (st:PS):Lex s.length st (escapedF s sp st).2:=by
 unfold escapedF
 split
 ·exact Lex.fail
 rename_i c hc
 have ha:Lex s.length st st.adv:=Lex.adv (lt_of_get hc)
 split
 ·exact ha
 split
 ·exact ha
 split
 ·exact ha
 split
 ·dsimp only
  have h1:=digitF_lex s st.adv
  split
  ·exact ha.then h1.weak
  ·exact (ha.then h1.weak).then (digitF_lex s _).weak
 split
 ·exact Lex.fail
 ·exact ha
theorem escapedF_lt (s sp:List UInt8) (st:PS):(escapedF s sp st).1 < 256:=by
 unfold escapedF
 split
 ·simp
 rename_i c hc
 split
 ·simp
 split
 ·simp
 split
 ·simp
 split
 ·dsimp only
  split
  ·simp
  ·exact Nat.mod_lt _ (by decide)
 split
 ·simp
 ·exact c.toNat_lt
theorem letterF_lex (s sp:List UInt8) (st:PS):Lex s.length st (letterF s sp st).2:=by
 unfold letterF
 split
 ·exact Lex.fail
 rename_i c hc
 have ha:Lex s.length st st.adv:=Lex.adv (lt_of_get hc)
 split
 ·exact ha.then (escapedF_lex s sp _).weak
 split
 ·exact Lex.fail
 ·exact ha
theorem letterF_lt (s sp:List UInt8) (st:PS):(letterF s sp st).1 < 256:=by
 unfold letterF
 split
 ·simp
 rename_i c hc
 split
 ·exact escapedF_lt _ _ _
 split
 ·simp
 ·exact c.toNat_lt
theorem spanF_lex (s:List UInt8) (f:Nat→Bool) (st:PS):Lex s.length st (spanF s f st).2:=by
 unfold spanF
 dsimp only
 have h1:=letterF_lex s specialIn st
 split
 ·exact h1
 have h2:=isB_lex s 45 (letterF s specialIn st).2
 split
 ·have h3:=letterF_lex s specialIn (isB s 45 (letterF s specialIn st).2).2
  split
  ·refine⟨λe=>h2.le (h1.le e),(λe=>by cases e),?_,?_⟩
   ·exact h3.long.trans (h2.long.trans h1.long)
   ·exact h3.deep.trans (h2.deep.trans h1.deep)
  ·exact (h1.then h2).then h3.weak
 ·exact h1.then h2
theorem regex_parser_letter_spec {w:World} {bp:Nat} {s sp:ByteArray} {st:PS} {K:Int→World→Prop} (h:PO w bp s st) (hs:Small s) (hat:st.at_≤s.size)
  (hk:∀ w',Keeps (·=bp) w w'→PO w' bp s (letterF (bs s) (bs sp) st).2→K (letterF (bs s) (bs sp) st).1 w'):regex_parser_letter.C (some ⟨bp,0,none⟩) sp w K:=by
 refine regex_parser_letter.ok _ _ _ _ ?_
 simp only [regex_parser_letter.M,NilC_some]
 refine regex_reader_peek_spec h hs λw1 k1=>?_
 have h1:=h.keep k1
 have fail:∀ (K':World→Prop),(∀ w',Keeps (·=bp) w w'→PO w' bp s st.fail→K' w')→regex_parser_fail.C (some ⟨bp,0,none⟩) w1 λ_ w'=>K' w':=λK' hK =>
  regex_parser_fail_spec h1 λp w2 k2 h2 _=>hK w2 ((k1.no).trans k2) h2
 cases hc:(bs s)[st.at_]? with
 | none =>
  simp only [Bool.not_false,Br_true]
  simp only [letterF,hc] at hk
  exact fail _ λw' k h=>hk w' k h
 | some c =>
  simp only [Bool.not_true,Br_false]
  rw [beq_lit (n:=92) 92 rfl]
  by_cases c1:c=92
  ·simp only [letterF,hc,c1,if_true] at hk
   simp only [c1,decide_true,Br_true]
   refine Ld.int (cell_of h1 rfl) ?_
   refine PO.step h1 rfl hs hat λw2 h2 k2=>?_
   refine regex_parser_escaped_spec h2 hs ?_ λw3 k3 h3=>?_
   ·exact at_lt hc
   ·exact hk w3 (((k1.no).trans k2).trans k3) h3
  ·simp only [letterF,hc,c1,if_false] at hk
   simp only [c1,decide_false,Br_false]
   dsimp only [Join]
   have no:(c≤32∨127≤c∨0≤Lib.indexByte (bs sp) c)→regex_parser_fail.C (some ⟨bp,0,none⟩) w1 λ_ w'=>K 0 w':=λhh=>by
    simp only [hh,if_true] at hk
    exact fail _ λw' k h=>hk w' k h
   have yes:¬ (c≤32∨127≤c∨0≤Lib.indexByte (bs sp) c)→Ld (.int .i64) (Addr.add ⟨bp,0,none⟩ 1) w1 λx62=>St (Addr.add ⟨bp,0,none⟩ 1) (.int .i64 (w64 (x62 + (1:Int)))) w1 λw4=>K c.toNat w4:=λhh=>by
    simp only [hh,if_false] at hk
    refine Ld.int (cell_of h1 rfl) ?_
    exact PO.step h1 rfl hs hat λw2 h2 k2=>hk w2 ((k1.no).trans k2) h2
   refine Br.mk (λht=>?_) (λhf=>?_)
   ·have:c≤32:=by
     have ht:(c.toNat:Int)≤32:=kG ht
     rw [UInt8.le_iff_toNat_le];first | (show c.toNat≤32;omega) | (show 127≤c.toNat;omega)
    exact no (.inl this)
   ·have n1:¬ c≤32:=by
     have hf:¬ (c.toNat:Int)≤32:=kF hf
     rw [UInt8.le_iff_toNat_le];first | (show ¬ c.toNat≤32;omega) | (show ¬ 127≤c.toNat;omega)
    refine Br.mk (λht=>?_) (λhf=>?_)
    ·have:127≤c:=by
      have ht:(127:Int)≤c.toNat:=kG ht
      rw [UInt8.le_iff_toNat_le];first | (show c.toNat≤32;omega) | (show 127≤c.toNat;omega)
     exact no (.inr (.inl this))
    ·have n2:¬ 127≤c:=by
      have hf:¬ (127:Int)≤c.toNat:=kF hf
      rw [UInt8.le_iff_toNat_le];first | (show ¬ c.toNat≤32;omega) | (show ¬ 127≤c.toNat;omega)
     refine strings_IndexByte_spec ?_
     rw [show ((c.toNat:Int)).toNat.toUInt8=c from by simp]
     refine Br.mk (λht=>?_) (λhf=>?_)
     ·exact no (.inr (.inr (kG ht)))
     ·exact yes (by rintro (h | h | h);exact n1 h;exact n2 h;exact kF hf h)
theorem regex_one_spec {w:World} {c:Nat} {K:(Int × Int × Int × Int)→World→Prop} (hc:c < 256)
  (hk:∀ (n0 n1 n2 n3:Nat) w',Keeps No w w'→Words (λi=>i==c) n0 n1 n2 n3→K (n0,n1,n2,n3) w'):regex_one.C c w K:=by
 refine regex_one.ok _ _ _ ?_
 simp only [regex_one.M]
 refine Al.mk λb1 w1 h1=>Al.mk λb2 w2 h2=>⟨by decide,by decide,?_,?_⟩
 ·rw [Int.tmod_eq_emod_of_nonneg (by omega)];omega
 have e1:IntKind.wrap .u8 (Int.tdiv (c:Int) 64)=((c / 64:Nat):Int):=by
  rw [IntWalk.u8_quo _ _ (by omega)];omega
 rw [e1]
 refine⟨by omega,?_⟩
 rw [Int.toNat_natCast,Nat.mul_one,shl_nat,add_eq,Nat.zero_add]
 have hw2:WO w2 b2 (λ_=>false):=⟨0,0,0,0,h2.at_,Words.zero⟩
 obtain⟨x,hx,hcell,hst⟩:=hw2.setBit hc
 have hx0:x=0:=by
  have h3:∀ j,j < 4→w2.cell? ⟨b2,j,none⟩=some (.int .u64 0):=λj hj=>by
   have:j=0∨j=1∨j=2∨j=3:=by omega
   rcases this with rfl | rfl | rfl | rfl <;> exact cell_of h2.at_ rfl
  rw [h3 _ (by omega)] at hcell
  simp at hcell;omega
 subst hx0
 rw [Nat.zero_or] at hst
 refine hst _ λw3 hw3 k3=>?_
 obtain⟨n0,n1,n2,n3,h3,hW⟩:=hw3
 refine Ld.int (cell_of h3 rfl) (Ld.int (cell_of h3 rfl) (Ld.int (cell_of h3 rfl) (Ld.int (cell_of h3 rfl) ?_)))
 have hne:b1≠b2:=by have:=h1.eq;have:=h2.eq;have:=h1.size;omega
 have g3:w3.heap[b1]?=some _:=k3.blk (h2.keeps.blk0 h1.at_) hne
 refine St.blk g3 (by simp) λw4 u4=>St.blk u4.at_ (by simp) λw5 u5=>St.blk u5.at_ (by simp) λw6 u6=>St.blk u6.at_ (by simp) λw7 u7=>?_
 refine Ld.int (cell_of u7.at_ rfl) (Ld.int (cell_of u7.at_ rfl) (Ld.int (cell_of u7.at_ rfl) (Ld.int (cell_of u7.at_ rfl) ?_)))
 have hk7:Keeps No w w7:=by
  have e1:=h1.eq;have e2:=h2.eq;have s1:=h1.size
  have k0:Keeps No w w2:=h1.keeps.trans h2.keeps
  have k1:Keeps No w w3:=k0.then k3 λi hi e=>by omega
  have k2:Keeps No w w4:=k1.then u4.keeps λi hi e=>by omega
  have k3:Keeps No w w5:=k2.then u5.keeps λi hi e=>by omega
  have k4:Keeps No w w6:=k3.then u6.keeps λi hi e=>by omega
  exact k4.then u7.keeps λi hi e=>by omega
 refine hk n0 n1 n2 n3 w7 hk7 ?_
 have e:(λi=>false||(i==c))=(λi=>i==c):=by funext i;simp
 rw [← e];exact hW
theorem regex_parser_span_spec {w:World} {bp sb:Nat} {s:ByteArray} {st:PS} {f:Nat→Bool} {K:Unit→World→Prop} (h:PO w bp s st) (hw:WO w sb f) (hne:bp≠sb) (hs:Small s) (hat:st.at_≤s.size)
  (hk:∀ w',Keeps (λb=>b=bp∨b=sb) w w'→PO w' bp s (spanF (bs s) f st).2→WO w' sb (spanF (bs s) f st).1→K () w'):regex_parser_span.C (some ⟨bp,0,none⟩) (some ⟨sb,0,none⟩) w K:=by
 refine regex_parser_span.ok _ _ _ _ ?_
 simp only [regex_parser_span.M,NilC_some]
 refine regex_parser_letter_spec h hs hat λw1 k1 h1=>?_
 have e0:letterF (bs s) (bs ⟨#[93,94,45,92]⟩) st=letterF (bs s) specialIn st:=rfl
 rw [e0] at h1 ⊢
 have L1:=letterF_lex (bs s) specialIn st
 have l1:=letterF_lt (bs s) specialIn st
 generalize hlo:letterF (bs s) specialIn st=lo at *
 have hat1:lo.2.at_≤s.size:=by rw [size_bs] at hat ⊢;exact L1.le hat
 have hw1:WO w1 sb f:=hw.keep k1 λe=>hne e.symm
 have kk1:Keeps (λb=>b=bp∨b=sb) w w1:=k1.mono λ_ _ e=>.inl e
 refine Join.cut (λhi w2=>∃ (n:Nat) (st':PS),hi=(n:Int)∧n < 256∧Keeps (λb=>b=bp∨b=sb) w w2∧PO w2 bp s st'∧WO w2 sb f ∧
   spanF (bs s) f st=(if st'.bad then f else λi=>f i||(decide (lo.1≤i)&&decide (i≤n)),st')) ?_ ?_
 ·rintro _ w2 ⟨n,st',rfl,hn,k2,h2,hw2,hsp⟩
  rw [hsp] at hk
  refine Loop.mk (λx w3=>∃ b:Nat,x=(b:Int)∧lo.1≤b∧b≤256∧Keeps (λb=>b=bp∨b=sb) w w3∧PO w3 bp s st' ∧
   (st'.bad=true→WO w3 sb f)∧(lo.1≤n→b≤n + 1)∧(n < lo.1→b=lo.1)∧WO w3 sb (λi=>f i||(decide (lo.1≤i)&&decide (i < b)))) (λx=>300 - x.toNat) ?_ ?_
  ·refine⟨lo.1,by rw [w64_eq (by omega)],Nat.le_refl _,by omega,k2,h2,λ_=>hw2,λh=>by omega,λ_=>rfl,?_⟩
   have:(λi=>f i||(decide (lo.1≤i)&&decide (i < lo.1)))=f:=by
    funext i
    by_cases h1:lo.1≤i
    ·simp [Nat.not_lt.2 h1]
    ·simp [h1]
   rw [this];exact hw2
  ·rintro _ w3 ⟨b,rfl,hb1,hb2,k3,h3,hbad,hle,hgt,hw3⟩ R hR
   refine Join.cut (λt w4=>w4=w3∧t=(decide (b≤n)&&!st'.bad)) ?_ ?_
   ·rintro t w4 ⟨rfl,rfl⟩
    refine Br.mk (λht=>?_) (λhf=>?_)
    ·have ht:b≤n∧st'.bad=false:=by simpa using ht
     refine DrawN.mk λw5 e5 k5=>?_
     have hw5:=hw3.heap e5;have h5:=h3.heap e5
     obtain⟨x,hx,hcell,hst⟩:=hw5.setBit (b:=b) (by omega)
     have e1:w64 (Int.tdiv (b:Int) 64)=((b / 64:Nat):Int):=by
      show IntKind.i64.wrap _=_
      rw [IntWalk.i64_quo _ _ (by omega)];omega
     have e2:((b / 64:Nat):Int).toNat * 1=b / 64:=by omega
     refine⟨by decide,?_⟩
     rw [e1]
     refine⟨by omega,?_⟩
     rw [e2,add_eq,Nat.zero_add]
     refine⟨by decide,?_,Ld.int hcell ⟨trivial,?_⟩⟩
     ·rw [Int.tmod_eq_emod_of_nonneg (by omega)];omega
     have e3:(⟨sb,0,none⟩:Addr).add (b / 64)=⟨sb,b / 64,none⟩:=by rw [add_eq,Nat.zero_add]
     refine⟨by omega,?_⟩
     rw [e2,add_eq,Nat.zero_add]
     have h2p:2 ^ (b % 64) < 2 ^ 64:=Nat.pow_lt_pow_right (by decide) (Nat.mod_lt _ (by decide))
     rw [shl_nat,bOr_nat hx h2p]
     refine hst _ λw6 hw6 k6=>⟨trivial,?_⟩
     refine hR _ _ ⟨b + 1,by rw [w64_eq (by omega)];omega,by omega,by omega,?_,?_,?_,by omega,by omega,?_⟩ ?_
     ·exact (k3.then0 k5).trans (k6.mono λ_ _ e=>.inr e)
     ·exact k6.blk h5 hne
     ·intro hb;rw [ht.2] at hb;cases hb
     ·have:(λi=>(f i||(decide (lo.1≤i)&&decide (i < b)))||(i==b))=(λi=>f i||(decide (lo.1≤i)&&decide (i < b + 1))):=by
       funext i
       by_cases e:i=b
       ·subst e;simp [hb1]
       ·have:(i < b + 1)↔i < b:=by omega
        simp [e,this]
      rw [← this];exact hw6
     ·rw [w64_eq (by omega)];omega
    ·refine hk _ k3 h3 ?_
     have hf:st'.bad=true∨n < b:=by
      rcases hbb:st'.bad with _ | _
      ·simp [hbb] at hf;exact .inr hf
      ·exact .inl rfl
     cases hbb:st'.bad with
     | true=>simpa using hbad hbb
     | false =>
      have hnb:n < b:=by rcases hf with h | h;(rw [hbb] at h;cases h);exact h
      have:(λi=>f i||(decide (lo.1≤i)&&decide (i < b)))=(λi=>f i||(decide (lo.1≤i)&&decide (i≤n))):=by
       funext i
       by_cases h1:lo.1≤n
       ·have:(i < b)↔i≤n:=by have:=hle h1;omega
        simp [this]
       ·have hb3:=hgt (by omega)
        by_cases h2:lo.1≤i
        ·have a1:¬ i < b:=by omega
         have a2:¬ i≤n:=by omega
         simp [a1,a2]
        ·simp [h2]
      simp only [Bool.false_eq_true,if_false]
      rw [← this];exact hw3
   ·intro j hj
    refine Br.mk (λht=>?_) (λhf=>?_)
    ·have ht:b≤n:=by
      have ht:(b:Int)≤w64 (n:Int):=kG ht
      rw [w64_eq (by omega)] at ht;omega
     refine Ld.bool (cell_of h3 rfl) (hj _ _ ⟨rfl,?_⟩)
     simp [ht]
    ·have hf:¬ b≤n:=by
      have hf:¬ (b:Int)≤w64 (n:Int):=kF hf
      rw [w64_eq (by omega)] at hf;omega
     exact hj _ _ ⟨rfl,by simp [hf]⟩
 ·intro j7 hj7
  refine Join.cut (λt w2=>∃ st2,PO w2 bp s st2∧WO w2 sb f∧Keeps (λb=>b=bp∨b=sb) w w2 ∧
   ((lo.2.bad=true∧t=false∧st2=lo.2)∨(lo.2.bad=false∧(t,st2)=isB (bs s) 45 lo.2))) ?_ ?_
  ·rintro t w2 ⟨st2,h2,hw2,k2,hcase⟩
   refine Br.mk (λht=>?_) (λhf=>?_)
   ·subst ht
    obtain⟨hb,hd⟩:lo.2.bad=false∧(true,st2)=isB (bs s) 45 lo.2:=by
     rcases hcase with⟨_,h,_⟩ | h
     ·cases h
     ·exact h
    have L2:Lex (bs s).length lo.2 st2:=by have:=isB_true (s:=bs s) (b:=45) (st:=lo.2) (by rw [← hd]);rw [← hd] at this;exact this
    have hat2:st2.at_≤s.size:=by rw [size_bs] at hat1 ⊢;exact L2.le hat1
    refine Ld.int (cell_of h2 rfl) ?_
    refine regex_parser_letter_spec h2 hs hat2 λw3 k3 h3=>?_
    have e0:letterF (bs s) (bs ⟨#[93,94,45,92]⟩) st2=letterF (bs s) specialIn st2:=rfl
    rw [e0] at h3 ⊢
    have lh:=letterF_lt (bs s) specialIn st2
    have hw3:WO w3 sb f:=hw2.keep k3 λe=>hne e.symm
    have kk3:=k2.trans (k3.mono (M:=λb=>b=bp∨b=sb) λ_ _ e=>.inl e)
    have hsp:spanF (bs s) f st=(if (if !(letterF (bs s) specialIn st2).2.bad&&(letterF (bs s) specialIn st2).1 < lo.1 then ((letterF (bs s) specialIn st2).1,{ (letterF (bs s) specialIn st2).2 with at_:=st2.at_,bad:=true }) else letterF (bs s) specialIn st2).2.bad then f else λi=>f i||(decide (lo.1≤i)&&decide (i≤(if !(letterF (bs s) specialIn st2).2.bad&&(letterF (bs s) specialIn st2).1 < lo.1 then ((letterF (bs s) specialIn st2).1,{ (letterF (bs s) specialIn st2).2 with at_:=st2.at_,bad:=true }) else letterF (bs s) specialIn st2).1)),(if !(letterF (bs s) specialIn st2).2.bad&&(letterF (bs s) specialIn st2).1 < lo.1 then ((letterF (bs s) specialIn st2).1,{ (letterF (bs s) specialIn st2).2 with at_:=st2.at_,bad:=true }) else letterF (bs s) specialIn st2).2):=by
     unfold spanF
     simp only [hlo,hb,← hd]
     rfl
    generalize letterF (bs s) specialIn st2=hi at *
    refine Join.cut (λt w4=>w4=w3∧t=(!hi.2.bad&&decide (hi.1 < lo.1))) ?_ ?_
    ·rintro t w4 ⟨rfl,rfl⟩
     refine Br.mk (λht=>?_) (λhf=>?_)
     ·rw [ht] at hsp
      refine PO.st (st':={ hi.2 with at_:=st2.at_ }) h3 (by simp) rfl λw5 h5 k5=>?_
      refine regex_parser_fail_spec h5 λp w6 k6 h6 _=>?_
      have k36:Keeps (·=bp) w4 w6:=k5.trans k6
      refine hj7 _ _ ⟨hi.1,_,rfl,lh,?_,h6,?_,?_⟩
      ·exact kk3.trans (k36.mono λ_ _ e=>.inl e)
      ·exact hw3.keep k36 λe=>hne e.symm
      ·rw [hsp];rfl
     ·rw [hf] at hsp
      exact hj7 _ _ ⟨hi.1,hi.2,rfl,lh,kk3,h3,hw3,by rw [hsp];rfl⟩
    ·intro j10 hj10
     refine Ld.bool (cell_of h3 rfl) ?_
     cases hbad:hi.2.bad with
     | true=>exact hj10 _ _ ⟨rfl,by simp [hbad]⟩
     | false=>exact hj10 _ _ ⟨rfl,by simp [hbad]⟩
   ·subst hf
    refine hj7 _ _ ⟨lo.1,st2,rfl,l1,k2,h2,hw2,?_⟩
    rcases hcase with⟨hb,_,rfl⟩ | ⟨hb,hd⟩
    ·unfold spanF
     simp only [hlo,hb,if_true]
    ·unfold spanF
     simp only [hlo,hb,← hd]
     rfl
  ·intro j11 hj11
   refine Ld.bool (cell_of h1 rfl) ?_
   cases hb:lo.2.bad with
   | true=>exact hj11 _ _ ⟨lo.2,h1,hw1,kk1,.inl ⟨hb,rfl,rfl⟩⟩
   | false =>
    refine regex_reader_is_spec (b:=45) h1 hs hat1 λw2 k2 h2=>?_
    exact hj11 _ _ ⟨_,h2,hw1.keep k2 λe=>hne e.symm,kk1.trans (k2.mono λ_ _ e=>.inl e),.inr ⟨hb,rfl⟩⟩
structure FR (n:Nat) (st:PS) (r:Re × PS):Prop where
 le:st.at_≤n→r.2.at_≤n
 go:r.2.bad=false→st.bad=false∧st.at_ < r.2.at_∧r.2.deep=st.deep∧r.1.size + 1≤500 * (r.2.at_ - st.at_)
 ge:st.deep≤r.2.deep
 ub:st.deep≤51→r.2.deep≤51
structure OR (n:Nat) (st:PS) (r:Re × PS):Prop where
 le:st.at_≤n→r.2.at_≤n
 go:r.2.bad=false→st.bad=false∧st.at_≤r.2.at_∧r.2.deep=st.deep∧r.1.size≤500 * (r.2.at_ - st.at_) + 1
 ge:st.deep≤r.2.deep
 ub:st.deep≤51→r.2.deep≤51
theorem FR.of_lex {n:Nat} {st st':PS} {f:Nat→Bool} (h:Lex n st st'):FR n st (.set f,st'):=by
 refine⟨h.le,λe=>?_,Nat.le_of_eq h.deep.symm,λe=>by rw [h.deep];exact e⟩
 have:=h.go e
 exact⟨this.1,this.2,h.deep,by simp only [Re.size];omega⟩
theorem FR.bad {n:Nat} {st st':PS} {x:Re} (hl:st.at_≤n→st'.at_≤n) (hg:st.deep≤st'.deep) (hu:st.deep≤51→st'.deep≤51) (hb:st'.bad=true):FR n st (x,st') :=
 ⟨hl,(λe=>by simp only [hb] at e;cases e),hg,hu⟩
theorem classLoop_lex (s:List UInt8):∀ (n:Nat) (f:Nat→Bool) (st:PS),Lex0 s.length st (classLoop s n f st).2
 | 0,f,st=>Lex0.refl
 | n + 1,f,st=>by
  unfold classLoop
  split
  ·exact Lex0.refl
  ·dsimp only
   split
   ·exact isB_lex _ _ _
   ·exact ((isB_lex s 93 st).trans (spanF_lex s f _).weak).trans (classLoop_lex s n _ _)
theorem classF_lex (s:List UInt8) (st:PS):Lex s.length st (classF s st).2:=by
 unfold classF
 exact ((isB_lex s 94 st).then (spanF_lex s _ _)).then (classLoop_lex s _ _ _)
theorem atomF_fr {s:List UInt8} {g:PS→Re × PS} (hg:∀ st,st.deep≤50→OR s.length st (g st)) (st:PS) (hd:st.deep≤50):FR s.length st (atomF s g st):=by
 unfold atomF
 dsimp only
 have ha:=isB_lex s 40 st
 split
 ·rename_i hat
  have ha1:=isB_true hat
  generalize isB s 40 st=a at *
  split
  ·exact FR.bad ha1.le (by dsimp only;rw [ha1.deep];omega) (λe=>by dsimp only;rw [ha1.deep];omega) rfl
  ·rename_i hle50
   have ho:=hg { a.2 with deep:=a.2.deep + 1 } (by dsimp only at hle50 ⊢;omega)
   generalize g { a.2 with deep:=a.2.deep + 1 }=n at *
   have hle:st.at_≤s.length→n.2.at_≤s.length:=λe=>ho.le (ha1.le e)
   have hge:=ho.ge
   have hub:=ho.ub
   simp only [ha1.deep] at hge hub
   split
   ·rename_i hb
    exact FR.bad hle (by dsimp only;omega) (λe=>by have:=hub (by omega);dsimp only;omega) hb
   ·rename_i hb
    have hb:n.2.bad=false:=by simpa using hb
    have hgo:=ho.go hb
    simp only [ha1.deep] at hgo
    have hc:=isB_lex s 41 n.2
    split
    ·rename_i hct
     have hc1:=isB_true hct
     generalize isB s 41 n.2=c at *
     refine⟨λe=>hc1.le (hle e),λe=>?_,by dsimp only;rw [hc1.deep];omega,λe=>by dsimp only;rw [hc1.deep];omega⟩
     have h1:=hc1.go e
     have h2:=ha1.go (hgo.1)
     dsimp only
     exact⟨h2.1,by omega,by rw [hc1.deep];omega,by omega⟩
    ·generalize isB s 41 n.2=c at *
     exact FR.bad (λe=>hc.le (hle e)) (by show _≤c.2.deep;rw [hc.deep];omega) (λe=>by show c.2.deep≤_;rw [hc.deep];omega) rfl
 ·generalize isB s 40 st=a at *
  have hd2:=isB_lex s 46 a.2
  split
  ·rename_i h
   exact FR.of_lex (ha.then (isB_true h))
  ·have hb:=isB_lex s 91 (isB s 46 a.2).2
   split
   ·have h1:=(((ha.trans hd2).trans hb).then (classF_lex s (isB s 91 (isB s 46 a.2).2).2))
    unfold classF at h1 ⊢
    exact FR.of_lex h1
   ·exact FR.of_lex ((((ha.trans hd2).trans hb).then (letterF_lex s specialOut _)))
theorem factorLoop_fr {s:List UInt8} {st₀:PS}:∀ (k:Nat) (x:Re) (st:PS),FR s.length st₀ (x,st)→FR s.length st₀ (factorLoop s k x st)
 | 0,x,st,h=>h
 | k + 1,x,st,h=>by
  have ext:∀ (b:UInt8) (st1:PS),Lex0 s.length st st1→∀ y:Re,(isB s b st1).1=true→FR s.length st₀ (if 400 < y.size then (Re.empty,{ (isB s b st1).2 with long:=true,bad:=true }) else factorLoop s k y (isB s b st1).2):=by
   intro b st1 hl y hb
   have h1:=hl.then (isB_true hb)
   generalize isB s b st1=a at *
   have hge:st₀.deep≤a.2.deep:=by rw [h1.deep];exact h.ge
   have hub:st₀.deep≤51→a.2.deep≤51:=λe=>by rw [h1.deep];exact h.ub e
   split
   ·exact FR.bad (λe=>h1.le (h.le e)) hge hub rfl
   ·rename_i hsz
    refine factorLoop_fr k y a.2 ⟨λe=>h1.le (h.le e),λe=>?_,hge,hub⟩
    have h2:=h1.go e
    have h3:=h.go h2.1
    dsimp only at h3 ⊢
    exact⟨h3.1,by omega,by rw [h1.deep];exact h3.2.2.1,by omega⟩
  unfold factorLoop
  split
  ·exact h
  ·dsimp only
   split
   ·rename_i hb;exact ext 42 st Lex0.refl _ hb
   split
   ·rename_i hb;exact ext 43 _ (isB_lex s 42 st) _ hb
   split
   ·rename_i hb;exact ext 63 _ ((isB_lex s 42 st).trans (isB_lex s 43 _)) _ hb
   ·have h1:=((isB_lex s 42 st).trans (isB_lex s 43 _)).trans (isB_lex s 63 (isB s 43 (isB s 42 st).2).2)
    refine⟨λe=>h1.le (h.le e),λe=>?_,by dsimp only;rw [h1.deep];exact h.ge,λe=>by dsimp only;rw [h1.deep];exact h.ub e⟩
    have h2:=h1.go e
    have h3:=h.go h2.1
    dsimp only at h3 ⊢
    exact⟨h3.1,by omega,by rw [h1.deep];exact h3.2.2.1,by omega⟩
theorem factorF_fr {s:List UInt8} {g:PS→Re × PS} (hg:∀ st,st.deep≤50→OR s.length st (g st)) (st:PS) (hd:st.deep≤50):FR s.length st (factorF s g st):=by
 unfold factorF
 exact factorLoop_fr _ _ _ (atomF_fr hg st hd)
theorem twoOf_size {f:Re→Re→Re} {x:Re} (hf:∀ a b,(f a b).size=1 + a.size + b.size):∀ (l:List Re),l≠[]→(twoOf f x l).size + 1=(l.map Re.size).sum + l.length
 | [],h=>absurd rfl h
 | [a],_=>by simp [twoOf]
 | a::b::l,_=>by
  have ih:=twoOf_size (x:=x) hf (b::l) (by simp)
  simp only [twoOf,hf,List.map_cons,List.sum_cons,List.length_cons] at ih ⊢
  omega
structure CL (n:Nat) (st:PS) (add:Nat) (r:List Re × PS):Prop where
 le:st.at_≤n→r.2.at_≤n
 go:r.2.bad=false→st.bad=false∧st.at_≤r.2.at_∧r.2.deep=st.deep∧(r.1.map Re.size).sum + r.1.length≤500 * (r.2.at_ - st.at_) + add
 ge:st.deep≤r.2.deep
 ub:st.deep≤51→r.2.deep≤51
theorem catLoop_cl {s:List UInt8} {g:PS→Re × PS} (hg:∀ st,st.deep≤50→OR s.length st (g st)) {st₀:PS} (hd:st₀.deep≤50):∀ (k:Nat) (l:List Re) (st:PS),CL s.length st₀ 0 (l,st)→CL s.length st₀ 0 (catLoop s g k l st)
 | 0,l,st,h=>h
 | k + 1,l,st,h=>by
  unfold catLoop
  split
  ·exact h
  rename_i hb
  have hb:st.bad=false:=by simpa using hb
  split
  ·exact h
  split
  ·exact h
  ·dsimp only
   have h0:=h.go hb
   dsimp only at h0
   have hf:=factorF_fr hg st (by omega)
   generalize factorF s g st=f at *
   refine catLoop_cl hg hd k _ _ ⟨λe=>hf.le (h.le e),λe=>?_,Nat.le_trans h.ge hf.ge,λe=>hf.ub (h.ub e)⟩
   have h1:=hf.go e
   dsimp only at h1 ⊢
   refine⟨h0.1,by omega,by omega,?_⟩
   simp only [List.map_append,List.sum_append,List.length_append,List.map_cons,List.map_nil,List.sum_cons,List.sum_nil,List.length_cons,List.length_nil]
   omega
theorem catF_or {s:List UInt8} {g:PS→Re × PS} (hg:∀ st,st.deep≤50→OR s.length st (g st)) (st:PS) (hd:st.deep≤50):OR s.length st (catF s g st):=by
 unfold catF
 have h:=catLoop_cl hg hd (s.length + 1) [] st ⟨id,λe=>⟨e,Nat.le_refl _,rfl,by simp⟩,Nat.le_refl _,id⟩
 generalize catLoop s g (s.length + 1) [] st=l at *
 refine⟨h.le,λe=>?_,h.ge,h.ub⟩
 have h1:=h.go e
 refine⟨h1.1,h1.2.1,h1.2.2.1,?_⟩
 by_cases hl:l.1=[]
 ·simp [hl,twoOf,Re.size]
 ·have:=twoOf_size (f:=.cat) (x:=.empty) (λa b=>rfl) l.1 hl
  dsimp only;omega
theorem orLoop_cl {s:List UInt8} {g:PS→Re × PS} (hg:∀ st,st.deep≤50→OR s.length st (g st)) {st₀:PS} (hd:st₀.deep≤50):∀ (k:Nat) (l:List Re) (st:PS),(st.bad=false→st.deep≤50)→CL s.length st₀ 2 (l,st)→CL s.length st₀ 2 (orLoop s g k l st)
 | 0,l,st,_,h=>h
 | k + 1,l,st,hs,h=>by
  unfold orLoop
  split
  ·exact h
  rename_i hb
  have hb:st.bad=false:=by simpa using hb
  dsimp only
  have h0:=h.go hb
  dsimp only at h0
  split
  ·rename_i hc
   have ha:=isB_true hc
   generalize isB s 124 st=a at *
   have hf:=catF_or hg a.2 (by rw [ha.deep];exact hs hb)
   generalize catF s g a.2=f at *
   have hge:=hf.ge
   have hub:=hf.ub
   rw [ha.deep] at hge hub
   refine orLoop_cl hg hd k _ _ (λe=>?_) ⟨λe=>hf.le (ha.le (h.le e)),λe=>?_,by have:=h.ge;dsimp only at this ⊢;omega,λe=>by have:=h.ub e;exact hub this⟩
   ·have h1:=hf.go e;rw [ha.deep] at h1;have:=hs hb;omega
   ·have h1:=hf.go e
    have h2:=ha.go h1.1
    rw [ha.deep] at h1
    dsimp only at h1 ⊢
    refine⟨h0.1,by omega,by omega,?_⟩
    simp only [List.map_append,List.sum_append,List.length_append,List.map_cons,List.map_nil,List.sum_cons,List.sum_nil,List.length_cons,List.length_nil]
    omega
  ·have ha:=isB_lex s 124 st
   generalize isB s 124 st=a at *
   refine⟨λe=>ha.le (h.le e),λe=>?_,by have:=h.ge;dsimp only at this ⊢;rw [ha.deep];omega,λe=>by have:=h.ub e;dsimp only at this ⊢;rw [ha.deep];omega⟩
   have h2:=ha.go e
   have:=ha.deep
   dsimp only at h0 ⊢
   exact⟨h0.1,by omega,by omega,by omega⟩
theorem orLoop_ne {s:List UInt8} {g:PS→Re × PS}:∀ (k:Nat) (l:List Re) (st:PS),l≠[]→(orLoop s g k l st).1≠[]
 | 0,l,st,h=>h
 | k + 1,l,st,h=>by
  unfold orLoop
  split
  ·exact h
  ·dsimp only
   split
   ·exact orLoop_ne k _ _ (by simp)
   ·exact h
theorem orF_or (s:List UInt8):∀ (n:Nat) (st:PS),st.deep≤50→OR s.length st (orF s n st)
 | 0,st,_=>⟨id,λe=>⟨e,Nat.le_refl _,rfl,by simp [orF,Re.size]⟩,Nat.le_refl _,id⟩
 | n + 1,st,hd=>by
  have ih:=orF_or s n
  unfold orF
  have hc:=catF_or ih st hd
  generalize catF s (orF s n) st=c at *
  dsimp only
  have hl:=orLoop_cl (st₀:=st) ih hd (s.length + 1) [c.1] c.2 (λe=>by have:=hc.go e;omega) ⟨hc.le,λe=>?_,hc.ge,hc.ub⟩
  ·have hne:=orLoop_ne (s:=s) (g:=orF s n) (s.length + 1) [c.1] c.2 (by simp)
   generalize orLoop s (orF s n) (s.length + 1) [c.1] c.2=l at *
   refine⟨hl.le,λe=>?_,hl.ge,hl.ub⟩
   have h1:=hl.go e
   have:=twoOf_size (f:=.or) (x:=noBytes) (λa b=>rfl) l.1 hne
   exact⟨h1.1,h1.2.1,h1.2.2.1,by dsimp only;omega⟩
  ·have h1:=hc.go e
   refine⟨h1.1,h1.2.1,h1.2.2.1,?_⟩
   simp only [List.map_cons,List.map_nil,List.sum_cons,List.sum_nil,List.length_cons,List.length_nil]
   omega
theorem WO.congr {w:World} {b:Nat} {f g:Nat→Bool} (h:WO w b f) (e:∀ i,i < 256→f i=g i):WO w b g:=by
 obtain⟨n0,n1,n2,n3,h1,g0,g1,g2,g3⟩:=h
 exact⟨n0,n1,n2,n3,h1,g0.congr λi h1 h2=>e i (by omega),g1.congr λi h1 h2=>e i (by omega),g2.congr λi h1 h2=>e i (by omega),g3.congr λi h1 h2=>e i (by omega)⟩
theorem WO.flip {w:World} {sb i:Nat} {f:Nat→Bool} (h:WO w sb f) (hi:i < 4):∃ x:Nat,x < 2 ^ 64∧w.cell? ⟨sb,i,none⟩=some (.int .u64 x) ∧
  ∀ k:World→Prop,(∀ w',WO w' sb (λj=>if j / 64=i then !f j else f j)→Keeps (·=sb) w w'→k w')→St ⟨sb,i,none⟩ (.int .u64 (((2 ^ 64 - 1) ^^^ x:Nat):Int)) w k:=by
 obtain⟨n0,n1,n2,n3,h1,g0,g1,g2,g3⟩:=h
 have other:∀ k n,Word f k n→k≠i→Word (λj=>if j / 64=i then !f j else f j) k n:=λk n hw hne =>
  hw.congr λj h1 h2=>by rw [if_neg (by omega)]
 have this:∀ k n,Word f k n→k=i→Word (λj=>if j / 64=i then !f j else f j) k ((2 ^ 64 - 1) ^^^ n):=λk n hw he =>
  hw.not.congr λj h1 h2=>by rw [if_pos (by omega)]
 have c:i=0∨i=1∨i=2∨i=3:=by omega
 rcases c with rfl | rfl | rfl | rfl
 ·exact⟨n0,g0.1,cell_of h1 rfl,λk hk=>St.blk h1 (by simp) λw' hu=>hk w' ⟨_,n1,n2,n3,hu.at_,this _ _ g0 rfl,other _ _ g1 (by omega),other _ _ g2 (by omega),other _ _ g3 (by omega)⟩ hu.keeps⟩
 ·exact⟨n1,g1.1,cell_of h1 rfl,λk hk=>St.blk h1 (by simp) λw' hu=>hk w' ⟨n0,_,n2,n3,hu.at_,other _ _ g0 (by omega),this _ _ g1 rfl,other _ _ g2 (by omega),other _ _ g3 (by omega)⟩ hu.keeps⟩
 ·exact⟨n2,g2.1,cell_of h1 rfl,λk hk=>St.blk h1 (by simp) λw' hu=>hk w' ⟨n0,n1,_,n3,hu.at_,other _ _ g0 (by omega),other _ _ g1 (by omega),this _ _ g2 rfl,other _ _ g3 (by omega)⟩ hu.keeps⟩
 ·exact⟨n3,g3.1,cell_of h1 rfl,λk hk=>St.blk h1 (by simp) λw' hu=>hk w' ⟨n0,n1,n2,_,hu.at_,other _ _ g0 (by omega),other _ _ g1 (by omega),other _ _ g2 (by omega),this _ _ g3 rfl⟩ hu.keeps⟩
theorem neg_loop {b:Nat} {f:Nat→Bool} {w:World} {R:World→Prop} (h:WO w b f) (hk:∀ w',WO w' b (λi=>!f i)→Keeps (·=b) w w'→R w') :
  Loop (λ(s5:Int) w7 again6=>Br (decide (s5 < (4:Int))) (IdxA 4 (⟨b,0,none⟩) s5 1 λp32=>Ld (.int .u64) p32 w7 λx33=>IdxA 4 (⟨b,0,none⟩) s5 1 λp35=>St p35 (.int .u64 (bNot .u64 x33)) w7 λw8=>again6 (w64 (s5 + (1:Int))) w8) (R w7)) 0 w:=by
 refine Loop.mk (λs w'=>∃ i:Nat,s=(i:Int)∧i≤4∧WO w' b (λj=>if j / 64 < i then !f j else f j)∧Keeps (·=b) w w') (λs=>4 - s.toNat) ⟨0,rfl,by omega,h.congr λi _=>by simp,Keeps.refl⟩ ?_
 rintro _ w1 ⟨i,rfl,hi,hw,hk1⟩ Rr hR
 refine Br.mk (λht=>?_) (λhf=>?_)
 ·have ht:i < 4:=by have:(i:Int) < 4:=kG ht;omega
  obtain⟨x,hx,hcell,hst⟩:=hw.flip ht
  have e2:(i:Int).toNat * 1=i:=by omega
  refine⟨by omega,?_⟩
  rw [e2,add_eq,Nat.zero_add]
  refine Ld.int hcell ⟨by omega,?_⟩
  rw [e2,add_eq,Nat.zero_add,bNot_nat hx]
  refine hst _ λw2 hw2 k2=>hR _ _ ⟨i + 1,by rw [w64_eq (by omega)];omega,by omega,hw2.congr λj hj=>?_,hk1.trans k2⟩ ?_
  ·by_cases h1:j / 64=i
   ·simp [h1]
   ·by_cases h2:j / 64 < i
    ·have:j / 64 < i + 1:=by omega
     simp [h1,h2,this]
    ·have:¬ j / 64 < i + 1:=by omega
     simp [h1,h2,this]
  ·rw [w64_eq (by omega)];omega
 ·have hf:¬ (i:Int) < 4:=kF hf
  refine hk _ (hw.congr λj hj=>?_) hk1
  rw [if_pos (by omega)]
theorem set_of {b:Nat} {f:Nat→Bool} {w:World} {K:Option Addr→World→Prop} (h:WO w b f) (hk:∀ p w',Keeps No w w'→(∀ M:Nat→Prop,Old M w→Nd (V M w') p (.set f))→K p w') :
  Ld (.int .u64) (⟨b,0,none⟩) w λx37_0=>Ld (.int .u64) (⟨b,1,none⟩) w λx37_1=>Ld (.int .u64) (⟨b,2,none⟩) w λx37_2=>Ld (.int .u64) (⟨b,3,none⟩) w λx37_3=>regex_Set.C (x37_0,x37_1,x37_2,x37_3) w λx38 w9=>K x38 w9:=by
 obtain⟨n0,n1,n2,n3,h1,hW⟩:=h
 exact Ld.int (cell_of h1 rfl) (Ld.int (cell_of h1 rfl) (Ld.int (cell_of h1 rfl) (Ld.int (cell_of h1 rfl) (regex_Set_spec hW hk))))
theorem Old.mono {M:Nat→Prop} {w w':World} (h:Old M w) (hs:w.heap.size≤w'.heap.size):Old M w':=λb hb=>Nat.lt_of_lt_of_le (h b hb) hs
theorem regex_parser_class_spec {w:World} {bp:Nat} {s:ByteArray} {st:PS} {K:Option Addr→World→Prop} (h:PO w bp s st) (hs:Small s) (hat:st.at_≤s.size)
  (hk:∀ p w',Keeps (·=bp) w w'→PO w' bp s (classF (bs s) st).2→(∀ M:Nat→Prop,Old M w→Nd (V M w') p (classF (bs s) st).1)→K p w'):regex_parser_class.C (some ⟨bp,0,none⟩) w K:=by
 refine regex_parser_class.ok _ _ _ ?_
 simp only [regex_parser_class.M,NilC_some]
 have hbw:bp < w.heap.size:=lt_of_some h
 refine regex_reader_is_spec (b:=94) h hs hat λw1 k1 h1=>?_
 have L1:=isB_lex (bs s) 94 st
 have hcl:classF (bs s) st=(.set (if (isB (bs s) 94 st).1 then λi=>!(classLoop (bs s) ((bs s).length + 1) (spanF (bs s) (λ_=>false) (isB (bs s) 94 st).2).1 (spanF (bs s) (λ_=>false) (isB (bs s) 94 st).2).2).1 i
   else (classLoop (bs s) ((bs s).length + 1) (spanF (bs s) (λ_=>false) (isB (bs s) 94 st).2).1 (spanF (bs s) (λ_=>false) (isB (bs s) 94 st).2).2).1),(classLoop (bs s) ((bs s).length + 1) (spanF (bs s) (λ_=>false) (isB (bs s) 94 st).2).1 (spanF (bs s) (λ_=>false) (isB (bs s) 94 st).2).2).2):=rfl
 rw [hcl] at hk
 generalize isB (bs s) 94 st=no at *
 refine Al.mk λb1 w2 h2=>?_
 have hs1:=k1.size;have e2:=h2.eq;have s2:=h2.size
 have hne:bp≠b1:=by omega
 have hat1:no.2.at_≤s.size:=by rw [size_bs] at hat ⊢;exact L1.le hat
 refine regex_parser_span_spec (h1.keep h2.keeps) (f:=λ_=>false) ⟨0,0,0,0,h2.at_,Words.zero⟩ hne hs hat1 λw3 k3 h3 hw3=>?_
 have L2:=spanF_lex (bs s) (λ_=>false) no.2
 generalize spanF (bs s) (λ_=>false) no.2=r at *
 have kM:∀ {w'},Keeps (λb=>b=bp∨b=b1) w2 w'→Keeps (·=bp) w w':=λ{w'} k =>
  (k1.then0 h2.keeps).then k λi hi e=>by rcases e with rfl | rfl;rfl;omega
 have hat2:r.2.at_≤s.size:=by rw [size_bs] at hat1 ⊢;exact L2.le hat1
 generalize hF:classLoop (bs s) ((bs s).length + 1) r.1 r.2=F at *
 refine Loop.mkn (λn _ w4=>∃ (f:Nat→Bool) (st4:PS),Keeps (λb=>b=bp∨b=b1) w2 w4∧PO w4 bp s st4∧WO w4 b1 f∧classLoop (bs s) n f st4=F∧st4.at_≤s.size∧(st4.bad=true∨s.size < st4.at_ + n)) ((bs s).length + 1)
  ⟨r.1,r.2,k3,h3,hw3,hF,hat2,.inr (by rw [size_bs];omega)⟩ ?_
 rintro n _ w4 ⟨f,st4,k4,h4,hw4,hn,hat4,hgo⟩ R hR
 refine Join.cut (λt w5=>∃ st5,PO w5 bp s st5∧WO w5 b1 f∧Keeps (λb=>b=bp∨b=b1) w2 w5∧st5.at_≤s.size ∧
   ((t=true∧st4.bad=false∧st5=(isB (bs s) 93 st4).2∧(isB (bs s) 93 st4).1=false)∨(t=false∧F=(f,st5)))) ?_ ?_
 ·rintro t w5 ⟨st5,h5,hw5,k5,hat5,hc⟩
  refine Br.mk (λht=>?_) (λhf=>?_)
  ·subst ht
   obtain⟨hb,rfl,hi⟩:st4.bad=false∧st5=(isB (bs s) 93 st4).2∧(isB (bs s) 93 st4).1=false:=by
    rcases hc with⟨_,h⟩ | ⟨h,_⟩
    ·exact h
    ·cases h
   refine regex_parser_span_spec h5 hw5 hne hs hat5 λw6 k6 h6 hw6=>?_
   have L3:=spanF_lex (bs s) f (isB (bs s) 93 st4).2
   obtain⟨m,rfl⟩:∃ m,n=m + 1:=⟨n - 1,by rcases hgo with h | h;(rw [hb] at h;cases h);omega⟩
   refine hR m _ _ (by omega) ⟨_,_,k5.trans k6,h6,hw6,?_,?_,?_⟩
   ·rw [← hn];conv=>rhs;unfold classLoop
    simp [hb,hi]
   ·rw [size_bs] at hat5 ⊢;exact L3.le hat5
   ·cases hbad:(spanF (bs s) f (isB (bs s) 93 st4).2).2.bad with
    | true=>exact .inl rfl
    | false =>
     right
     have h7:=L3.go hbad
     have h8:=(isB_lex (bs s) 93 st4).go h7.1
     rcases hgo with h | h
     ·rw [hb] at h;cases h
     ·omega
  ·subst hf
   have hF:F=(f,st5):=by
    rcases hc with⟨h,_⟩ | ⟨_,h⟩
    ·cases h
    ·exact h
   subst hF
   have hb1w:w.heap.size≤b1:=by omega
   refine Br.mk (λht=>?_) (λhf=>?_)
   ·rw [ht] at hk
    refine neg_loop hw5 λw7 hw7 k7=>set_of hw7 λp w8 k8 hN=>hk p w8 ?_ ?_ λM hM=>?_
    ·exact (kM (k5.trans (k7.mono λ_ _ e=>.inr e))).then0 k8
    ·exact PO.keep (w:=w7) (k7.blk h5 hne) k8
    ·exact hN M (hM.mono (by have:=k5.size;have:=k7.size;omega))
   ·rw [hf] at hk
    refine set_of hw5 λp w8 k8 hN=>hk p w8 ((kM k5).then0 k8) (h5.keep k8) λM hM=>?_
    exact hN M (hM.mono (by have:=k5.size;omega))
 ·intro j hj
  refine Ld.bool (cell_of h4 rfl) ?_
  cases hb:st4.bad with
  | true =>
   refine hj _ _ ⟨st4,h4,hw4,k4,hat4,.inr ⟨rfl,?_⟩⟩
   rw [← hn];cases n <;> simp [classLoop,hb]
  | false =>
   refine regex_reader_is_spec (b:=93) h4 hs hat4 λw5 k5 h5=>?_
   have L4:=isB_lex (bs s) 93 st4
   refine hj _ _ ⟨_,h5,hw4.keep k5 λe=>hne e.symm,k4.trans (k5.mono λ_ _ e=>.inl e),by rw [size_bs] at hat4 ⊢;exact L4.le hat4,?_⟩
   cases hi:(isB (bs s) 93 st4).1 with
   | false=>exact .inl ⟨rfl,hb,rfl,rfl⟩
   | true =>
    refine .inr ⟨rfl,?_⟩
    obtain⟨m,rfl⟩:∃ m,n=m + 1:=⟨n - 1,by rcases hgo with h | h;(rw [hb] at h;cases h);omega⟩
    rw [← hn];unfold classLoop;simp [hb,hi]
theorem E_pNode:Elem P T.sl_p_regex_Node T.p_regex_Node (.pointer none) 1 8:=⟨by kernel_rfl,by kernel_rfl,rfl,by decide⟩
theorem regex_Cat_spec {M:Nat→Prop} {w:World} {l:Sl} {ps:List (Option Addr)} {xs:List Re} {K:Option Addr→World→Prop}
  (hM:Old M w) (hl:SlT .ptr (V M w) l ps) (ha:All2 (Nd (V M w)) ps xs) (hlen:ps.length < 1000000000)
  (hk:∀ p w',Keeps No w w'→Nd (V M w') p (twoOf .cat .empty xs)→K p w'):regex_Cat.C l w K:=by
 refine regex_Cat.ok _ _ _ ?_
 simp only [regex_Cat.M]
 refine regex_Empty_spec λp w1 k1 h1=>?_
 exact regex_two_spec (.inl ⟨rfl,rfl⟩) (hM.keeps k1) (hl.mono (V.keeps0 k1)) (ha.mono λ_ _ h=>h.mono (V.keeps0 k1)) (h1 M hM) hlen λq w2 k2 h2=>hk q w2 (k1.trans k2) h2
theorem regex_Or_spec {M:Nat→Prop} {w:World} {l:Sl} {ps:List (Option Addr)} {xs:List Re} {K:Option Addr→World→Prop}
  (hM:Old M w) (hl:SlT .ptr (V M w) l ps) (ha:All2 (Nd (V M w)) ps xs) (hlen:ps.length < 1000000000)
  (hk:∀ p w',Keeps No w w'→Nd (V M w') p (twoOf .or noBytes xs)→K p w'):regex_Or.C l w K:=by
 refine regex_Or.ok _ _ _ ?_
 simp only [regex_Or.M]
 refine regex_Set_spec (n0:=0) (n1:=0) (n2:=0) (n3:=0) Words.zero λp w1 k1 h1=>?_
 exact regex_two_spec (.inr ⟨rfl,rfl⟩) (hM.keeps k1) (hl.mono (V.keeps0 k1)) (ha.mono λ_ _ h=>h.mono (V.keeps0 k1)) (h1 M hM) hlen λq w2 k2 h2=>hk q w2 (k1.trans k2) h2
theorem regex_Star_spec {M:Nat→Prop} {w:World} {p:Option Addr} {x:Re} {K:Option Addr→World→Prop} (hM:Old M w) (h:Nd (V M w) p x)
  (hk:∀ q w',Keeps No w w'→Nd (V M w') q (.star x)→K q w'):regex_Star.C p w K:=by
 refine regex_Star.ok _ _ _ ?_
 simp only [regex_Star.M]
 obtain⟨b,_,_,_,_,_,_,rfl,-⟩:=h.out
 simp only [Option.isNone_some,Br_false]
 refine Al.mk λb1 w1 h1=>Al.mk λb2 w2 h2=>?_
 have e1:=h1.eq;have s1:=h1.size;have e2:=h2.eq
 refine hk _ _ (h1.keeps.trans h2.keeps) (.star ⟨λhm=>by have:=hM _ hm;omega,h2.at_⟩ ⟨λhm=>by have:=hM _ hm;omega,h2.keeps.blk0 h1.at_⟩ (h.mono (V.keeps0 (h1.keeps.trans h2.keeps))))
def OrSpec (n:Nat):Prop:=∀ {w:World} {bp:Nat} {s:ByteArray} {st:PS} {K:Option Addr→World→Prop},PO w bp s st→Small s→st.at_≤s.size→st.bad=false→st.deep≤50→st.deep + n=51 →
 (∀ p w',Keeps (·=bp) w w'→PO w' bp s (orF (bs s) n st).2→(∀ M:Nat→Prop,Old M w→M bp→Nd (V M w') p (orF (bs s) n st).1)→K p w')→regex_parser_or.C (some ⟨bp,0,none⟩) w K
theorem nd_old {M:Nat→Prop} {w w':World} {p:Option Addr} {x:Re} {N:Nat→Prop} (h:Nd (V M w) p x) (hk:Keeps N w w') (hN:∀ b,N b→M b):Nd (V M w') p x :=
 h.mono (V.move hk (λb _ hb=>hN b hb) λ_ _ h=>h)
theorem regex_parser_atom_spec {n:Nat} (hor:OrSpec n) {w:World} {bp:Nat} {s:ByteArray} {st:PS} {K:Option Addr→World→Prop} (h:PO w bp s st) (hs:Small s) (hat:st.at_≤s.size)
  (hb:st.bad=false) (hd:st.deep + (n + 1)=51)
  (hk:∀ p w',Keeps (·=bp) w w'→PO w' bp s (atomF (bs s) (orF (bs s) n) st).2→(∀ M:Nat→Prop,Old M w→M bp→Nd (V M w') p (atomF (bs s) (orF (bs s) n) st).1)→K p w'):regex_parser_atom.C (some ⟨bp,0,none⟩) w K:=by
 refine regex_parser_atom.ok _ _ _ ?_
 simp only [regex_parser_atom.M,NilC_some]
 have hbw:bp < w.heap.size:=lt_of_some h
 have hsz:s.size=(bs s).length:=size_bs s
 refine regex_reader_is_spec (b:=40) h hs hat λw1 k1 h1=>?_
 have L1:=isB_lex (bs s) 40 st
 have T1:(isB (bs s) 40 st).1=true→Lex (bs s).length st (isB (bs s) 40 st).2:=isB_true
 have hb1:(isB (bs s) 40 st).2.bad=false:=by unfold isB;split <;> exact hb
 unfold atomF at hk
 generalize isB (bs s) 40 st=a at *
 have hat1:a.2.at_≤s.size:=by rw [hsz] at hat ⊢;exact L1.le hat
 have failed:∀ {w2:World} {st2:PS},PO w2 bp s st2→Keeps (·=bp) w w2→(∀ p w',Keeps (·=bp) w w'→PO w' bp s st2.fail→(∀ M:Nat→Prop,Old M w→M bp→Nd (V M w') p .empty)→K p w')→regex_parser_fail.C (some ⟨bp,0,none⟩) w2 λp w'=>K p w':=λh2 k2 hK =>
  regex_parser_fail_spec h2 λp w3 k3 h3 hN=>hK p w3 (k2.trans k3) h3 λM hM hm=>hN M (hM.mono k2.size)
 refine Br.mk (λht=>?_) (λhf=>?_)
 ·simp only [ht,if_true] at hk
  refine Ld.int (cell_of h1 rfl) ?_
  have hdeep:a.2.deep=st.deep:=L1.deep
  rw [w64_eq (by omega)]
  refine PO.st (st':={ a.2 with deep:=a.2.deep + 1 }) h1 (by simp) (by simp [pobj]) λw2 h2 k2=>?_
  refine Ld.int (cell_of h2 rfl) ?_
  refine Br.mk (λht2=>?_) (λhf2=>?_)
  ·have ht2:50 < a.2.deep + 1:=by
    have:(50:Int) < ((a.2.deep + 1:Nat):Int):=kG ht2
    omega
   simp only [ht2,if_true] at hk
   refine PO.st (st':={ a.2 with deep:=a.2.deep + 1,long:=true }) h2 (by simp) (by simp [pobj]) λw3 h3 k3=>?_
   exact failed h3 ((k1.trans k2).trans k3) hk
  ·have hf2:¬ 50 < a.2.deep + 1:=by
    have:¬ (50:Int) < ((a.2.deep + 1:Nat):Int):=kF hf2
    omega
   simp only [hf2,if_false] at hk
   have hO:=orF_or (bs s) n { a.2 with deep:=a.2.deep + 1 } (by dsimp only;omega)
   refine hor h2 hs hat1 hb1 (by dsimp only;omega) (by dsimp only;omega) λp w3 k3 h3 hN=>?_
   generalize orF (bs s) n { a.2 with deep:=a.2.deep + 1 }=r at *
   have k13:=(k1.trans k2).trans k3
   have hge:=hO.ge
   have hub:=hO.ub (by dsimp only;omega)
   dsimp only at hge hub
   have hat3:r.2.at_≤s.size:=by rw [hsz] at hat1 ⊢;exact hO.le hat1
   have hN3:∀ M:Nat→Prop,Old M w→M bp→Nd (V M w3) p r.1:=λM hM hm=>hN M (hM.mono (k1.trans k2).size) hm
   refine Join.cut (λt w4=>∃ st4,PO w4 bp s st4∧Keeps (·=bp) w3 w4∧((t=false∧r.2.bad=true∧st4=r.2)∨(r.2.bad=false∧st4=(isB (bs s) 41 r.2).2∧t=!(isB (bs s) 41 r.2).1))) ?_ ?_
   ·rintro t w4 ⟨st4,h4,k4,hc⟩
    refine Br.mk (λht4=>?_) (λhf4=>?_)
    ·subst ht4
     obtain⟨hrb,rfl,hi⟩:r.2.bad=false∧st4=(isB (bs s) 41 r.2).2∧(isB (bs s) 41 r.2).1=false:=by
      rcases hc with⟨h,_⟩ | ⟨h1,h2,h3⟩
      ·cases h
      ·exact⟨h1,h2,by simpa using h3.symm⟩
     simp only [hrb,hi] at hk
     exact failed h4 (k13.trans k4) hk
    ·subst hf4
     have hde:st4.deep=r.2.deep:=by
      rcases hc with⟨_,_,rfl⟩ | ⟨_,rfl,_⟩
      ·rfl
      ·exact (isB_lex (bs s) 41 r.2).deep
     refine Ld.int (cell_of h4 rfl) ?_
     rw [w64_eq (by omega)]
     refine PO.st (st':={ st4 with deep:=st4.deep - 1 }) h4 (by simp) (by simp [pobj];omega) λw5 h5 k5=>?_
     have hN5:∀ M:Nat→Prop,Old M w→M bp→Nd (V M w5) p r.1:=λM hM hm=>nd_old (hN3 M hM hm) (k4.trans k5) λb hb=>by subst hb;exact hm
     have k15:=(k13.trans k4).trans k5
     rcases hc with⟨_,hrb,rfl⟩ | ⟨hrb,rfl,hi⟩
     ·simp only [hrb,if_true] at hk
      exact hk p w5 k15 (by rw [hrb] at h5;exact h5) hN5
     ·have hi:(isB (bs s) 41 r.2).1=true:=by simpa using hi.symm
      simp only [hrb,hi,if_true] at hk
      exact hk p w5 k15 h5 hN5
   ·intro j hj
    refine Ld.bool (cell_of h3 rfl) ?_
    cases hrb:r.2.bad with
    | true=>exact hj _ _ ⟨r.2,h3,Keeps.refl,.inl ⟨rfl,hrb,rfl⟩⟩
    | false =>
     refine regex_reader_is_spec (b:=41) h3 hs hat3 λw4 k4 h4=>?_
     exact hj _ _ ⟨_,h4,k4,.inr ⟨hrb,rfl,rfl⟩⟩
 ·simp only [hf,if_false,Bool.false_eq_true] at hk
  refine regex_reader_is_spec (b:=46) h1 hs hat1 λw2 k2 h2=>?_
  have L2:=isB_lex (bs s) 46 a.2
  generalize isB (bs s) 46 a.2=d at *
  have hat2:d.2.at_≤s.size:=by rw [hsz] at hat1 ⊢;exact L2.le hat1
  refine Br.mk (λht2=>?_) (λhf2=>?_)
  ·simp only [ht2,if_true] at hk
   refine regex_one_spec (c:=10) (by decide) λn0 n1 n2 n3 w3 k3 hW=>?_
   refine Al.mk λb3 w4 h4=>?_
   refine St.blk h4.at_ (by simp) λw5 u5=>St.blk u5.at_ (by simp) λw6 u6=>St.blk u6.at_ (by simp) λw7 u7=>St.blk u7.at_ (by simp) λw8 u8=>?_
   have hs1:=k1.size;have hs2:=k2.size;have hs3:=k3.size;have e4:=h4.eq
   have hne:bp≠b3:=by omega
   have kk:Keeps (·=b3) w4 w8:=((u5.keeps.trans u6.keeps).trans u7.keeps).trans u8.keeps
   refine neg_loop (f:=λi=>i==10) ⟨n0,n1,n2,n3,u8.at_,hW⟩ λw9 hw9 k9=>set_of hw9 λp w10 k10 hN=>?_
   have k49:=kk.trans k9
   have k1_4:Keeps (·=bp) w w4:=((k1.trans k2).then0 k3).then0 h4.keeps
   have k1_10:Keeps (·=bp) w w10:=(k1_4.then k49 λi hi e=>by subst e;omega).then0 k10
   refine hk p w10 k1_10 ?_ λM hM hm=>hN M (hM.mono (by have:=k1_4.size;have:=k49.size;omega))
   exact PO.keep (w:=w9) (k49.blk ((h2.keep k3).keep h4.keeps) hne) k10
  ·simp only [hf2,if_false,Bool.false_eq_true] at hk
   refine regex_reader_is_spec (b:=91) h2 hs hat2 λw3 k3 h3=>?_
   have L3:=isB_lex (bs s) 91 d.2
   generalize isB (bs s) 91 d.2=c at *
   have hat3:c.2.at_≤s.size:=by rw [hsz] at hat2 ⊢;exact L3.le hat2
   have k13:=(k1.trans k2).trans k3
   refine Br.mk (λht3=>?_) (λhf3=>?_)
   ·simp only [ht3,if_true] at hk
    exact regex_parser_class_spec h3 hs hat3 λp w4 k4 h4 hN=>hk p w4 (k13.trans k4) h4 λM hM hm=>hN M (hM.mono k13.size)
   ·simp only [hf3,if_false,Bool.false_eq_true] at hk
    refine regex_parser_letter_spec h3 hs hat3 λw4 k4 h4=>?_
    have e0:letterF (bs s) (bs ⟨#[124,42,43,63,40,41,91,93,46,92]⟩) c.2=letterF (bs s) specialOut c.2:=rfl
    rw [e0] at h4 ⊢
    refine regex_one_spec (letterF_lt _ _ _) λn0 n1 n2 n3 w5 k5 hW=>?_
    refine regex_Set_spec hW λp w6 k6 hN=>?_
    have k14:=k13.trans k4
    exact hk p w6 ((k14.then0 k5).then0 k6) ((h4.keep k5).keep k6) λM hM hm=>hN M (hM.mono (by have:=k14.size;have:=k5.size;omega))
def Lt (n:Nat):Nat→Prop:=λb=>b < n
theorem Old.lt {w:World}:Old (Lt w.heap.size) w:=λ_ h=>h
theorem nd_all {n:Nat} {w':World} {p:Option Addr} {x:Re} (h:Nd (V (Lt n) w') p x) {M:Nat→Prop} (hM:∀ b,M b→b < n):Nd (V M w') p x :=
 h.mono λb o ⟨h1,h2⟩=>⟨λhm=>h1 (hM b hm),h2⟩
theorem regex_parser_factor_spec {n:Nat} (hor:OrSpec n) {w:World} {bp:Nat} {s:ByteArray} {st:PS} {K:Option Addr→World→Prop} (h:PO w bp s st) (hs:Small s) (hat:st.at_≤s.size)
  (hb:st.bad=false) (hd:st.deep + (n + 1)=51)
  (hk:∀ p w',Keeps (·=bp) w w'→PO w' bp s (factorF (bs s) (orF (bs s) n) st).2→(∀ M:Nat→Prop,Old M w→M bp→Nd (V M w') p (factorF (bs s) (orF (bs s) n) st).1)→K p w'):regex_parser_factor.C (some ⟨bp,0,none⟩) w K:=by
 refine regex_parser_factor.ok _ _ _ ?_
 simp only [regex_parser_factor.M,NilC_some]
 have hbw:bp < w.heap.size:=lt_of_some h
 have hsz:s.size=(bs s).length:=size_bs s
 have hF:=atomF_fr (s:=bs s) (g:=orF (bs s) n) (λst h=>orF_or _ _ _ h) st (by omega)
 refine regex_parser_atom_spec hor h hs hat hb hd λp0 w1 k1 h1 hN1=>?_
 unfold factorF at hk
 generalize atomF (bs s) (orF (bs s) n) st=a at *
 generalize hFF:factorLoop (bs s) ((bs s).length + 1) a.1 a.2=F at *
 have hat1:a.2.at_≤s.size:=by rw [hsz] at hat ⊢;exact hF.le hat
 have fin:∀ {p:Option Addr} {x:Re} {st':PS} {w':World},F=(x,st')→Keeps (·=bp) w w'→PO w' bp s st'→Nd (V (Lt w.heap.size) w') p x→K p w':=by
  rintro p x st' w' rfl k' h' hN
  exact hk p w' k' h' λM hM hm=>nd_all hN hM
 refine Loop.mkn (λm p w2=>∃ (x:Re) (st2:PS),Keeps (·=bp) w w2∧PO w2 bp s st2∧Nd (V (Lt w.heap.size) w2) p x∧factorLoop (bs s) m x st2=F∧FR (bs s).length st (x,st2)∧(st2.bad=true∨s.size < st2.at_ + m)) ((bs s).length + 1)
  ⟨a.1,a.2,k1,h1,hN1 _ Old.lt hbw,hFF,hF,.inr (by omega)⟩ ?_
 rintro m p w2 ⟨x,st2,k2,h2,hN2,hL,hfr,hgo⟩ R hR
 have hat2:st2.at_≤s.size:=by rw [hsz] at hat ⊢;exact hfr.le hat
 refine Ld.bool (cell_of h2 rfl) ?_
 cases hbad:st2.bad with
 | true =>
  refine fin ?_ k2 h2 hN2
  rw [← hL];cases m <;> simp [factorLoop,hbad]
 | false =>
  obtain⟨m,rfl⟩:∃ m',m=m' + 1:=⟨m - 1,by rcases hgo with h | h;(rw [hbad] at h;cases h);omega⟩
  have hgo:s.size < st2.at_ + (m + 1):=by rcases hgo with h | h;(rw [hbad] at h;cases h);exact h
  have hszx:=(hfr.go hbad).2.2.2
  dsimp only at hszx
  unfold factorLoop at hL
  simp only [hbad,Bool.false_eq_true,if_false] at hL
  simp only [Bool.not_false,Br_true]
  have move:∀ {w':World} {N:Nat→Prop},Keeps N w2 w'→(∀ b,N b→b=bp)→Nd (V (Lt w.heap.size) w') p x:=λk hN=>nd_old hN2 k λb hb=>by have:=hN b hb;subst this;exact hbw
  refine Join.cut (λq w3=>∃ (y:Re) (st3:PS),Keeps (·=bp) w w3∧PO w3 bp s st3∧Nd (V (Lt w.heap.size) w3) q y∧y.size≤2 * x.size + 2 ∧
    F=(if 400 < y.size then (Re.empty,{ st3 with long:=true,bad:=true }) else factorLoop (bs s) m y st3)∧Lex (bs s).length st2 st3) ?_ ?_
  ·rintro q w3 ⟨y,st3,k3,h3,hN3,hys,hF3,hlex⟩
   have hsm:=hs;unfold Small at hsm
   refine regex_Size_spec y.size y (Nat.le_refl _) (by omega) hN3 λw4 k4=>?_
   refine Br.mk (λht=>?_) (λhf=>?_)
   ·have ht:400 < y.size:=by have:(400:Int) < (y.size:Int):=kG ht;omega
    rw [if_pos ht] at hF3
    refine PO.st (st':={ st3 with long:=true }) (h3.keep k4) (by simp) (by simp [pobj]) λw5 h5 k5=>?_
    refine regex_parser_fail_spec h5 λq w6 k6 h6 hN6=>?_
    have k36:=(k3.then0 k4).trans k5
    exact fin hF3 (k36.trans k6) h6 (hN6 _ (Old.mono Old.lt k36.size))
   ·have hf:¬ 400 < y.size:=by have:¬ (400:Int) < (y.size:Int):=kF hf;omega
    rw [if_neg hf] at hF3
    refine hR m _ _ (Nat.lt_succ_self _) ⟨y,st3,k3.then0 k4,h3.keep k4,hN3.mono (V.keeps0 k4),hF3.symm,?_,?_⟩
    ·refine⟨λe=>hlex.le (hfr.le e),λe=>?_,by dsimp only;rw [hlex.deep];exact hfr.ge,λe=>by dsimp only;rw [hlex.deep];exact hfr.ub e⟩
     have h5:=hlex.go e
     have h6:=hfr.go h5.1
     dsimp only at h6 ⊢
     exact⟨h6.1,by omega,by rw [hlex.deep];exact h6.2.2.1,by omega⟩
    ·cases hb3:st3.bad with
     | true=>exact .inl rfl
     | false=>right;have:=(hlex.go hb3).2;omega
  ·intro j hj
   refine regex_reader_is_spec (b:=42) h2 hs hat2 λw3 k3 h3=>?_
   have La:=isB_lex (bs s) 42 st2
   have Ta:(isB (bs s) 42 st2).1=true→Lex (bs s).length st2 (isB (bs s) 42 st2).2:=isB_true
   generalize isB (bs s) 42 st2=a1 at *
   have hata:a1.2.at_≤s.size:=by rw [hsz] at hat2 ⊢;exact La.le hat2
   have k03:=k2.trans k3
   have hN3:=move k3 λb hb=>hb
   refine Br.mk (λht=>?_) (λhf=>?_)
   ·simp only [ht,if_true] at hL
    refine regex_Star_spec (Old.mono Old.lt k03.size) hN3 λq w4 k4 hN4=>?_
    exact hj _ _ ⟨_,a1.2,k03.then0 k4,h3.keep k4,hN4,by simp only [Re.size];omega,hL.symm,Ta ht⟩
   ·simp only [hf,Bool.false_eq_true,if_false] at hL
    refine regex_reader_is_spec (b:=43) h3 hs hata λw4 k4 h4=>?_
    have Lb:=isB_lex (bs s) 43 a1.2
    have Tb:(isB (bs s) 43 a1.2).1=true→Lex (bs s).length a1.2 (isB (bs s) 43 a1.2).2:=isB_true
    generalize isB (bs s) 43 a1.2=b1 at *
    have hatb:b1.2.at_≤s.size:=by rw [hsz] at hata ⊢;exact Lb.le hata
    have k04:=k03.trans k4
    have hN4:=move (k3.trans k4) λb hb=>hb
    refine Br.mk (λht=>?_) (λhf=>?_)
    ·simp only [ht,if_true] at hL
     refine regex_Star_spec (Old.mono Old.lt k04.size) hN4 λq w5 k5 hN5=>?_
     refine Al.mk λb5 w6 h6=>?_
     have k06:=(k04.then0 k5).then0 h6.keeps
     have hO:Old (Lt w.heap.size) w6:=Old.mono Old.lt k06.size
     have e6:=h6.eq;have s05:=(k04.then0 k5).size
     have hb5:V (Lt w.heap.size) w6 b5 _:=⟨λhm=>by have:b5 < w.heap.size:=hm;omega,h6.at_⟩
     refine regex_Cat_spec hO (row2 hb5) (.cons (hN4.mono (V.keeps0 (k5.trans h6.keeps))) (.cons (hN5.mono (V.keeps0 h6.keeps)) .nil)) (by simp) λr w7 k7 hN7=>?_
     exact hj _ _ ⟨.cat x (.star x),b1.2,k06.then0 k7,((h4.keep k5).keep h6.keeps).keep k7,hN7,by simp only [Re.size];omega,hL.symm,La.then (Tb ht)⟩
    ·simp only [hf,Bool.false_eq_true,if_false] at hL
     refine regex_reader_is_spec (b:=63) h4 hs hatb λw5 k5 h5=>?_
     have Lc:=isB_lex (bs s) 63 b1.2
     have Tc:(isB (bs s) 63 b1.2).1=true→Lex (bs s).length b1.2 (isB (bs s) 63 b1.2).2:=isB_true
     generalize isB (bs s) 63 b1.2=c1 at *
     have k05:=k04.trans k5
     have hN5:=move ((k3.trans k4).trans k5) λb hb=>hb
     refine Br.mk (λht=>?_) (λhf=>?_)
     ·simp only [ht,if_true] at hL
      refine regex_Empty_spec λq w6 k6 hN6=>?_
      refine Al.mk λb6 w7 h7=>?_
      have k07:=(k05.then0 k6).then0 h7.keeps
      have hO:Old (Lt w.heap.size) w7:=Old.mono Old.lt k07.size
      have e7:=h7.eq;have s06:=(k05.then0 k6).size
      have hb6:V (Lt w.heap.size) w7 b6 _:=⟨λhm=>by have:b6 < w.heap.size:=hm;omega,h7.at_⟩
      refine regex_Or_spec hO (row2 hb6) (.cons (hN5.mono (V.keeps0 (k6.trans h7.keeps))) (.cons ((hN6 _ (Old.mono Old.lt k05.size)).mono (V.keeps0 h7.keeps)) .nil)) (by simp) λr w8 k8 hN8=>?_
      exact hj _ _ ⟨.or x .empty,c1.2,k07.then0 k8,((h5.keep k6).keep h7.keeps).keep k8,hN8,by simp only [Re.size];omega,hL.symm,(La.trans Lb).then (Tc ht)⟩
     ·simp only [hf,Bool.false_eq_true,if_false] at hL
      exact fin hL.symm k05 h5 hN5
theorem V.grown {M:Nat→Prop} {w w':World} {l l':Sl} (hk:Keeps l.blk w w') (h:∃ g,l'.a=some ⟨g,0,none⟩∧(l.blk g∨w.heap.size≤g)) :
  Vle (V (λb=>M b∨l.blk b) w) (V (λb=>M b∨l'.blk b) w') :=
 V.move hk (λb _ hb=>.inr hb) λb hlt hb=>by
  rcases hb with hb | ⟨a,ha,rfl⟩
  ·exact .inl hb
  ·obtain⟨g,hg,hc⟩:=h
   rw [hg] at ha;simp at ha;subst ha
   rcases hc with hc | hc
   ·exact .inr hc
   ·dsimp only at hlt;omega
theorem V.ofOwn {M:Nat→Prop} {w:World} {l:Sl}:Vle (V (λb=>M b∨l.blk b) w) (V M w):=V.sub λb _ h=>.inl h
structure Gath (w:World) (base:Nat) (l:Sl) (ps:List (Option Addr)) (xs:List Re):Prop where
 own:Own w base T.p_regex_Node 1 l (ps.map (Ty.enc .ptr))
 nds:All2 (Nd (V (λb=>Lt base b∨l.blk b) w)) ps xs
theorem Gath.keep {w w':World} {base:Nat} {l:Sl} {ps:List (Option Addr)} {xs:List Re} {N:Nat→Prop} (h:Gath w base l ps xs) (hk:Keeps N w w') (hN:∀ b,N b→b < base):Gath w' base l ps xs :=
 ⟨h.own.keep hk λb hb hl=>by have:=hN b hb;have:=(h.own.ge hl).1;omega,h.nds.mono λ_ _ x=>nd_old x hk λb hb=>.inl (hN b hb)⟩
theorem Gath.n {w:World} {base:Nat} {l:Sl} {ps:List (Option Addr)} {xs:List Re} (h:Gath w base l ps xs):l.n=ps.length:=by have:=h.own.len;simp at this;exact this.symm
theorem Gath.add {w:World} {base:Nat} {l:Sl} {ps:List (Option Addr)} {xs:List Re} {p:Option Addr} {x:Re} {k:Sl→World→Prop} (h:Gath w base l ps xs) (hb:base≤w.heap.size) (hlen:ps.length < 1000000000)
  (hN:Nd (V (λb=>Lt base b∨l.blk b) w) p x)
  (hk:∀ l' w',Gath w' base l' (ps++[p]) (xs++[x])→Keeps (λb=>base≤b) w w'→k l' w') :
  Al (.cells #[.pointer p] T.p_regex_Node (0,0)) w λb w1=>App P (Builtin.append_ #[T.sl_p_regex_Node,T.sl_p_regex_Node] T.sl_p_regex_Node #[.slice l.a l.n l.c,.slice (some ⟨b,0,none⟩) 1 1]) (.one .sl) w1 k:=by
 have hn:=h.n
 refine append1 (t:=.ptr) (x:=p) E_pNode h.own rfl (by omega) (by omega) hb λl' w' h1 h2 h3 h4=>?_
 have hv:=V.grown (M:=Lt base) h3 h4
 exact hk l' w' ⟨h1,(h.nds.append (.cons hN .nil)).mono λ_ _ x=>x.mono hv⟩ (h3.mono λb _ hb=>(h.own.ge hb).1)
theorem Gath.nil {w:World}:Gath w w.heap.size ⟨none,0,0⟩ [] []:=⟨Own.nil _ _ _ _,.nil⟩
theorem Gath.reads {w:World} {base:Nat} {l:Sl} {ps:List (Option Addr)} {xs:List Re} (h:Gath w base l ps xs):SlT .ptr (V (Lt base) w) l ps∧All2 (Nd (V (Lt base) w)) ps xs :=
 ⟨h.own.reads λb hb hlt=>by have:=(h.own.ge hb).1;have:b < base:=hlt;omega,h.nds.mono λ_ _ x=>x.mono V.ofOwn⟩
theorem Keeps.new {bp:Nat} {w a b:World} (h:Keeps (·=bp) w a) (k:Keeps (λb=>w.heap.size≤b) a b):Keeps (·=bp) w b:=h.then k λi hi e=>by omega
theorem regex_parser_cat_spec {n:Nat} (hor:OrSpec n) {w:World} {bp:Nat} {s:ByteArray} {st:PS} {K:Option Addr→World→Prop} (h:PO w bp s st) (hs:Small s) (hat:st.at_≤s.size)
  (hb:st.bad=false) (hd:st.deep + (n + 1)=51)
  (hk:∀ p w',Keeps (·=bp) w w'→PO w' bp s (catF (bs s) (orF (bs s) n) st).2→Nd (V (Lt w.heap.size) w') p (catF (bs s) (orF (bs s) n) st).1→K p w'):regex_parser_cat.C (some ⟨bp,0,none⟩) w K:=by
 refine regex_parser_cat.ok _ _ _ ?_
 simp only [regex_parser_cat.M,NilC_some]
 have hbw:bp < w.heap.size:=lt_of_some h
 have hsz:s.size=(bs s).length:=size_bs s
 have hsm:=hs;unfold Small at hsm
 have hg:∀ st:PS,st.deep≤50→OR (bs s).length st (orF (bs s) n st):=λst h=>orF_or _ _ _ h
 unfold catF at hk
 generalize hFF:catLoop (bs s) (orF (bs s) n) ((bs s).length + 1) [] st=F at *
 have fin:∀ {l:Sl} {ps:List (Option Addr)} {xs:List Re} {st':PS} {w':World},F=(xs,st')→Keeps (·=bp) w w'→PO w' bp s st'→Gath w' w.heap.size l ps xs→ps.length < 1000000000 →
   regex_Cat.C l w' λx34 w4=>K x34 w4:=by
  rintro l ps xs st' w' rfl k' h' hG hlen
  exact regex_Cat_spec (Old.mono Old.lt k'.size) hG.reads.1 hG.reads.2 hlen λp w4 k4 hN=>hk p w4 (k'.then0 k4) (h'.keep k4) hN
 refine Loop.mkn (λm l w2=>∃ (ps:List (Option Addr)) (xs:List Re) (st2:PS),Keeps (·=bp) w w2∧PO w2 bp s st2∧Gath w2 w.heap.size l ps xs∧catLoop (bs s) (orF (bs s) n) m xs st2=F ∧
   CL (bs s).length st 0 (xs,st2)∧st2.at_≤s.size∧(st2.bad=true∨s.size < st2.at_ + m)∧ps.length≤s.size + 1∧(st2.bad=false→ps.length≤st2.at_)) ((bs s).length + 1)
  ⟨[],[],st,Keeps.refl,h,Gath.nil,hFF,⟨id,λe=>⟨e,Nat.le_refl _,rfl,by simp⟩,Nat.le_refl _,id⟩,hat,.inr (by omega),by simp,by simp⟩ ?_
 rintro m l w2 ⟨ps,xs,st2,k2,h2,hG,hL,hcl,hat2,hgo,hpl,hpl2⟩ R hR
 refine Ld.bool (cell_of h2 rfl) ?_
 cases hbad:st2.bad with
 | true =>
  refine fin ?_ k2 h2 hG (by omega)
  rw [← hL];cases m <;> simp [catLoop,hbad]
 | false =>
  obtain⟨m,rfl⟩:∃ m',m=m' + 1:=⟨m - 1,by rcases hgo with h | h;(rw [hbad] at h;cases h);omega⟩
  have hgo:s.size < st2.at_ + (m + 1):=by rcases hgo with h | h;(rw [hbad] at h;cases h);exact h
  have hpl2:=hpl2 hbad
  unfold catLoop at hL
  simp only [hbad,Bool.false_eq_true,if_false] at hL
  simp only [Bool.not_false,Br_true]
  refine regex_reader_peek_spec h2 hs λw3 k3=>?_
  have h3:=h2.keep k3
  have hG3:=hG.keep k3 λ_ h=>h.elim
  have k03:=k2.then0 k3
  refine Join.cut (λt w4=>w4=w3∧(t=true→F=(xs,st2))∧(t=false→F=catLoop (bs s) (orF (bs s) n) m (xs++[(factorF (bs s) (orF (bs s) n) st2).1]) (factorF (bs s) (orF (bs s) n) st2).2)) ?_ ?_
  ·rintro t w4 ⟨rfl,ht,hf⟩
   refine Br.mk (λe=>?_) (λe=>?_)
   ·exact fin (ht e) k03 h3 hG3 (by omega)
   ·have hf:=hf e
    have h0:=hcl.go hbad
    dsimp only at h0
    refine regex_parser_factor_spec hor h3 hs hat2 hbad (by omega) λp w5 k5 h5 hN5=>?_
    have hfr:=factorF_fr hg st2 (by omega)
    generalize factorF (bs s) (orF (bs s) n) st2=f at *
    have k05:=k03.trans k5
    have hG5:=hG3.keep k5 λb hb=>by subst hb;exact hbw
    refine Gath.add hG5 k05.size (by omega) (hN5 _ (λb hb=>?_) (.inl hbw)) λl' w7 hG7 k7=>?_
    ·rcases hb with hb | hb
     ·exact Nat.lt_of_lt_of_le hb k03.size
     ·exact (hG3.own.ge hb).2
    have h7:PO w7 bp s f.2:=k7.blk h5 (by omega)
    have hatf:f.2.at_≤s.size:=by rw [hsz] at hat2 ⊢;exact hfr.le hat2
    refine hR m _ _ (Nat.lt_succ_self _) ⟨_,_,f.2,Keeps.new k05 k7,h7,hG7,hf.symm,?_,hatf,?_,?_,?_⟩
    ·refine⟨λe=>hfr.le (hcl.le e),λe=>?_,Nat.le_trans hcl.ge hfr.ge,λe=>hfr.ub (hcl.ub e)⟩
     have h1:=hfr.go e
     dsimp only at h1 ⊢
     refine⟨h0.1,by omega,by omega,?_⟩
     simp only [List.map_append,List.sum_append,List.length_append,List.map_cons,List.map_nil,List.sum_cons,List.sum_nil,List.length_cons,List.length_nil]
     omega
    ·cases hb3:f.2.bad with
     | true=>exact .inl rfl
     | false=>right;have:=(hfr.go hb3).2.1;omega
    ·simp only [List.length_append,List.length_cons,List.length_nil]
     omega
    ·intro hb3
     have:=(hfr.go hb3).2.1
     simp only [List.length_append,List.length_cons,List.length_nil];omega
  ·intro j hj
   cases hc:(bs s)[st2.at_]? with
   | none =>
    rw [hc] at hL
    exact hj _ _ ⟨rfl,λ_=>hL.symm,λe=>by cases e⟩
   | some c =>
    rw [hc] at hL
    simp only [] at hL
    simp only [Bool.not_true,Br_false]
    rw [beq_lit (n:=124) 124 rfl,beq_lit (n:=41) 41 rfl]
    by_cases c1:c=124
    ·simp only [c1,true_or,if_true] at hL
     simp only [c1,decide_true,Br_true]
     exact hj _ _ ⟨rfl,λ_=>hL.symm,λe=>by cases e⟩
    ·simp only [c1,decide_false,Br_false]
     by_cases c2:c=41
     ·simp only [c2,or_true,if_true] at hL
      exact hj _ _ ⟨rfl,λ_=>hL.symm,λe=>by simp [c2] at e⟩
     ·simp only [c1,c2,or_self,if_false] at hL
      exact hj _ _ ⟨rfl,λe=>by simp [c2] at e,λ_=>hL.symm⟩
theorem regex_parser_or_spec:∀ n,OrSpec n:=by
 intro n
 induction n with
 | zero=>intro w bp s st K _ _ _ _ h1 h2;omega
 | succ n hor =>
  intro w bp s st K h hs hat hb hd50 hd hk
  refine regex_parser_or.ok _ _ _ ?_
  simp only [regex_parser_or.M,NilC_some]
  have hbw:bp < w.heap.size:=lt_of_some h
  have hsz:s.size=(bs s).length:=size_bs s
  have hsm:=hs;unfold Small at hsm
  have hg:∀ st:PS,st.deep≤50→OR (bs s).length st (orF (bs s) n st):=λst h=>orF_or _ _ _ h
  refine regex_parser_cat_spec hor h hs hat hb hd λp0 w1 k1 h1 hN1=>?_
  have hO1:=catF_or hg st (by omega)
  unfold orF at hk
  generalize catF (bs s) (orF (bs s) n) st=c at *
  dsimp only at hk
  generalize hFF:orLoop (bs s) (orF (bs s) n) ((bs s).length + 1) [c.1] c.2=F at *
  have hatc:c.2.at_≤s.size:=by rw [hsz] at hat ⊢;exact hO1.le hat
  refine Al.mk λb1 w2 h2=>?_
  have fin:∀ {l:Sl} {ps:List (Option Addr)} {xs:List Re} {st':PS} {w':World},F=(xs,st')→Keeps (·=bp) w w'→PO w' bp s st'→Gath w' w.heap.size l ps xs→ps.length < 1000000000 →
    regex_Or.C l w' λx34 w4=>K x34 w4:=by
   rintro l ps xs st' w' rfl k' h' hG hlen
   exact regex_Or_spec (Old.mono Old.lt k'.size) hG.reads.1 hG.reads.2 hlen λp w4 k4 hN=>hk p w4 (k'.then0 k4) (h'.keep k4) λM hM _=>nd_all hN hM
  have e2:=h2.eq;have s1:=k1.size
  have hG0:Gath w2 w.heap.size ⟨some ⟨b1,0,none⟩,1,1⟩ [p0] [c.1]:=by
   refine⟨⟨rfl,.inr ⟨b1,1,_,rfl,by omega,h2.at_,by simp,by decide,by simp,by simp [Ty.enc]⟩⟩,.cons ?_ .nil⟩
   refine hN1.mono (V.move h2.keeps (λ_ _ h=>h.elim) λb hlt hb=>?_)
   rcases hb with hb | ⟨a,ha,rfl⟩
   ·exact hb
   ·simp at ha;subst ha;dsimp only at hlt;omega
  refine Loop.mkn (λm l w2=>∃ (ps:List (Option Addr)) (xs:List Re) (st2:PS),Keeps (·=bp) w w2∧PO w2 bp s st2∧Gath w2 w.heap.size l ps xs∧orLoop (bs s) (orF (bs s) n) m xs st2=F ∧
    CL (bs s).length st 2 (xs,st2)∧st2.at_≤s.size∧(st2.bad=true∨s.size < st2.at_ + m)∧ps.length≤s.size + 2∧(st2.bad=false→ps.length≤st2.at_ + 1)) ((bs s).length + 1)
   ⟨[p0],[c.1],c.2,k1.then0 h2.keeps,h1.keep h2.keeps,hG0,hFF,⟨hO1.le,λe=>?_,hO1.ge,hO1.ub⟩,hatc,.inr (by omega),by simp,by simp⟩ ?_
  ·have:=hO1.go e
   refine⟨this.1,this.2.1,this.2.2.1,?_⟩
   simp only [List.map_cons,List.map_nil,List.sum_cons,List.sum_nil,List.length_cons,List.length_nil];omega
  rintro m l w2 ⟨ps,xs,st2,k2,h2,hG,hL,hcl,hat2,hgo,hpl,hpl2⟩ R hR
  refine Join.cut (λt w4=>∃ st4,PO w4 bp s st4∧Keeps (·=bp) w2 w4∧((t=false∧F=(xs,st4))∨(t=true∧st2.bad=false∧st4=(isB (bs s) 124 st2).2∧(isB (bs s) 124 st2).1=true))) ?_ ?_
  ·rintro t w4 ⟨st4,h4,k4,hc⟩
   have hG4:=hG.keep k4 λb hb=>by subst hb;exact hbw
   have k04:=k2.trans k4
   refine Br.mk (λe=>?_) (λe=>?_)
   ·subst e
    obtain⟨hbad,rfl,hi⟩:st2.bad=false∧st4=(isB (bs s) 124 st2).2∧(isB (bs s) 124 st2).1=true:=by
     rcases hc with⟨h,_⟩ | ⟨_,h⟩
     ·cases h
     ·exact h
    obtain⟨m,rfl⟩:∃ m',m=m' + 1:=⟨m - 1,by rcases hgo with h | h;(rw [hbad] at h;cases h);omega⟩
    have hgo:s.size < st2.at_ + (m + 1):=by rcases hgo with h | h;(rw [hbad] at h;cases h);exact h
    have h0:=hcl.go hbad
    dsimp only at h0
    unfold orLoop at hL
    simp only [hbad,hi,Bool.false_eq_true,if_false,if_true] at hL
    have La:=isB_true hi
    have hba:(isB (bs s) 124 st2).2.bad=false:=by unfold isB;split <;> exact hbad
    generalize isB (bs s) 124 st2=a at *
    have hata:a.2.at_≤s.size:=by rw [hsz] at hat2 ⊢;exact La.le hat2
    have hdeep:=La.deep
    refine regex_parser_cat_spec hor h4 hs hata hba (by omega) λp w5 k5 h5 hN5=>?_
    have hO:=catF_or hg a.2 (by omega)
    generalize catF (bs s) (orF (bs s) n) a.2=f at *
    have k05:=k04.trans k5
    have hG5:=hG4.keep k5 λb hb=>by subst hb;exact hbw
    refine Gath.add hG5 k05.size (by omega) (nd_all hN5 λb hb=>?_) λl' w7 hG7 k7=>?_
    ·rcases hb with hb | hb
     ·exact Nat.lt_of_lt_of_le hb k04.size
     ·exact (hG4.own.ge hb).2
    have h7:PO w7 bp s f.2:=k7.blk h5 (by omega)
    have hatf:f.2.at_≤s.size:=by rw [hsz] at hata ⊢;exact hO.le hata
    refine hR m _ _ (Nat.lt_succ_self _) ⟨_,_,f.2,Keeps.new k05 k7,h7,hG7,hL,?_,hatf,?_,?_,?_⟩
    ·have hge:=hO.ge;have hub:=hO.ub
     rw [hdeep] at hge hub
     refine⟨λe=>hO.le (La.le (hcl.le e)),λe=>?_,Nat.le_trans hcl.ge hge,λe=>hub (hcl.ub e)⟩
     have h1:=hO.go e
     have h2:=La.go h1.1
     dsimp only at h1 ⊢
     refine⟨h0.1,by omega,by omega,?_⟩
     simp only [List.map_append,List.sum_append,List.length_append,List.map_cons,List.map_nil,List.sum_cons,List.sum_nil,List.length_cons,List.length_nil]
     omega
    ·cases hb3:f.2.bad with
     | true=>exact .inl rfl
     | false=>right;have h1:=hO.go hb3;have h2:=La.go h1.1;omega
    ·have:=hpl2 hbad
     simp only [List.length_append,List.length_cons,List.length_nil];omega
    ·intro hb3
     have h1:=hO.go hb3;have h2:=La.go h1.1;have:=hpl2 hbad
     simp only [List.length_append,List.length_cons,List.length_nil];omega
   ·subst e
    have hF:F=(xs,st4):=by
     rcases hc with⟨_,h⟩ | ⟨h,_⟩
     ·exact h
     ·cases h
    exact fin hF k04 h4 hG4 (by omega)
  ·intro j hj
   refine Ld.bool (cell_of h2 rfl) ?_
   cases hbad:st2.bad with
   | true =>
    refine hj _ _ ⟨st2,h2,Keeps.refl,.inl ⟨rfl,?_⟩⟩
    rw [← hL];cases m <;> simp [orLoop,hbad]
   | false =>
    refine regex_reader_is_spec (b:=124) h2 hs hat2 λw3 k3 h3=>?_
    cases hi:(isB (bs s) 124 st2).1 with
    | true=>exact hj _ _ ⟨_,h3,k3,.inr ⟨rfl,hbad,rfl,hi⟩⟩
    | false =>
     refine hj _ _ ⟨_,h3,k3,.inl ⟨rfl,?_⟩⟩
     obtain⟨m,rfl⟩:∃ m',m=m' + 1:=⟨m - 1,by rcases hgo with h | h;(rw [hbad] at h;cases h);omega⟩
     rw [← hL];unfold orLoop;simp [hbad,hi]
theorem regex_Parse_spec {w:World} {s:ByteArray} {K:(Option Addr × Int × Int)→World→Prop} (hs:Small s)
  (hk:∀ p w',Keeps No w w'→((parseF (bs s)).2.2=0→Nd (V (Lt w.heap.size) w') p (parseF (bs s)).1)→((parseF (bs s)).2.2≠0→p=none) →
   K (p,((parseF (bs s)).2.1:Int),((parseF (bs s)).2.2:Int)) w'):regex_Parse.C s w K:=by
 refine regex_Parse.ok _ _ _ ?_
 simp only [regex_Parse.M,NilC_some]
 have hsz:s.size=(bs s).length:=size_bs s
 refine Al.mk λb1 w1 h1=>?_
 have hp:PO w1 b1 s ⟨0,false,false,0⟩:=h1.at_
 refine regex_parser_or_spec 51 hp hs (by dsimp only;omega) rfl (by dsimp only;omega) rfl λp w2 k2 h2 hN2=>?_
 have hO:=orF_or (bs s) 51 ⟨0,false,false,0⟩ (by dsimp only;omega)
 unfold parseF at hk
 generalize orF (bs s) 51 ⟨0,false,false,0⟩=r at *
 have e1:=h1.eq;have s1:=h1.size
 have k02:Keeps No w w2:=h1.keeps.then k2 λi hi e=>by omega
 have hN:Nd (V (Lt w.heap.size) w2) p r.1:=nd_all (hN2 _ Old.lt (by show b1 < _;omega)) λb hb=>Nat.lt_of_lt_of_le hb (by omega)
 refine Ld.bool (cell_of h2 rfl) ?_
 cases hl:r.2.long with
 | true =>
  simp only [hl,if_true] at hk
  exact hk none w2 k02 (λh=>by cases h) λ_=>rfl
 | false =>
  simp only [hl,Bool.false_eq_true,if_false] at hk
  have hat:r.2.at_≤s.size:=by rw [hsz];exact hO.le (by dsimp only;omega)
  simp only [Br_false]
  refine Join.cut (λt w3=>w3=w2∧t=(r.2.bad||decide (r.2.at_ < (bs s).length))) ?_ ?_
  ·rintro t w3 ⟨rfl,rfl⟩
   refine Br.mk (λe=>?_) (λe=>?_)
   ·simp only [e,if_true] at hk
    refine Draw.mk λw4 e4 k4=>?_
    exact LdS.int (cell_of (h2.heap e4) rfl) (hk none w4 (k02.trans k4) (λh=>by cases h) λ_=>rfl)
   ·simp only [e,Bool.false_eq_true,if_false] at hk
    have hb:r.2.bad=false:=by cases hbb:r.2.bad with | true=>simp [hbb] at e | false=>rfl
    have hgo:=(hO.go hb).2.2.2
    have hsm:=hs;unfold Small at hsm
    refine regex_Size_spec r.1.size r.1 (Nat.le_refl _) (by omega) hN λw4 k4=>?_
    refine Br.mk (λe=>?_) (λe=>?_)
    ·have e:400 < r.1.size:=by have:(400:Int) < (r.1.size:Int):=kG e;omega
     simp only [e,if_true] at hk
     exact hk none w4 (k02.trans k4) (λh=>by cases h) λ_=>rfl
    ·have e:¬ 400 < r.1.size:=by have:¬ (400:Int) < (r.1.size:Int):=kF e;omega
     simp only [e,if_false] at hk
     exact hk p w4 (k02.trans k4) (λ_=>hN.mono (V.keeps0 k4)) λh=>absurd rfl h
  ·intro j hj
   refine Ld.bool (cell_of h2 rfl) ?_
   cases hb:r.2.bad with
   | true=>exact hj _ _ ⟨rfl,by rw [hb];rfl⟩
   | false =>
    refine Ld.int (cell_of h2 rfl) (hj _ _ ⟨rfl,?_⟩)
    rw [hb,Bool.false_or,← hsz]
    simp only [Int.ofNat_lt]
end Go.Fk
end
section
namespace Go.Fk
open Go Go.MapKept
theorem Mach.rl {w w':World} {bm base:Nat} {fs:List ((Nat→Bool) × Int)} {F:Int→Int→Prop} {l rl rl':Sl} {vs:List PosV} {Ft:Nat→Prop} (h:MachAt w bm base fs F l rl vs Ft)
  (u:Upd bm (.cells #[.slice l.a l.n l.c,.slice rl'.a rl'.n rl'.c] T.nfa_Machine (0,0)) w w'):MachAt w' bm base fs F l rl' vs Ft where
 at_:=u.at_
 own:=h.own.keep u.keeps λb e hb=>by
  subst e
  obtain⟨a,ha,hab⟩:=hb
  rcases h.own.2 with⟨hv,_⟩ | ⟨g,cap,cur,hv,_,hg,_⟩
  ·simp [Sl.val,ha] at hv
  ·simp [Sl.val,ha] at hv
   obtain⟨rfl,_⟩:=hv
   have:g=b:=hab
   subst this
   rw [h.at_] at hg
   cases hg
 pos:=h.pos
 sets:=λi v hv=>(h.sets i v hv).keep u.keeps (λe=>by
  obtain⟨es,clock,⟨_,h1⟩,_⟩:=h.sets i v hv
  rw [e,h.at_] at h1
  cases h1) id
 apart:=h.apart
 foot:=h.foot
 old:=λb hb=>⟨(h.old b hb).1,Nat.lt_of_lt_of_le (h.old b hb).2 u.keeps.size⟩
 fin:=h.fin
 few:=h.few
theorem mCnt_take_succ {xs:List Re} {i:Nat} {x:Re} (h:xs[i]?=some x):mCnt (xs.take (i + 1))=mCnt (xs.take i) + x.cnt:=by
 rw [List.take_add_one,h];simp [mCnt]
theorem mCnt_take_le (xs:List Re) (i:Nat):mCnt (xs.take i)≤mCnt xs:=by
 have:=sum_take_le (xs.map Re.cnt) i
 simpa [mCnt,List.map_take] using this
theorem mFs_len' (xs:List Re) (r:Int):((mFs r xs).length:Int)=mCnt xs:=by rw [mFs_len]
theorem mKs_in (xs:List Re):∀ (n:Int),∀ k∈mKs n xs,∀ p,(k.first p∨k.last p)→n≤p∧p < n + mCnt xs:=by
 induction xs with
 | nil=>intro n k hk;simp [mKs] at hk
 | cons y xs ih =>
  intro n k hk p hp
  have e:((mCnt (y::xs):Nat):Int)=y.cnt + mCnt xs:=by simp [mCnt]
  rw [e]
  simp only [mKs,List.mem_cons] at hk
  rcases hk with rfl | hk
  ·have:n≤p∧p < n + y.cnt:=by rcases hp with h | h;{ exact Re.first_in h };{ exact Re.last_in h }
   omega
  ·have:=ih _ k hk p hp
   omega
structure RulesAt (w:World) (base:Nat) (rl:Sl) (kvs:List KnV) (ks:List Kn) (Ft:Nat→Prop):Prop where
 own:Own w base T.nfa_known 3 rl (kvs.map KnV.cells).flatten
 out:∀ b,rl.blk b→¬ Ft b
 sets:All2 (λv k=>SetAt (V Ft w) v.a k.first∧SetAt (V Ft w) v.b k.last∧v.e=k.emp) kvs ks
theorem RulesAt.move {w w':World} {base:Nat} {rl:Sl} {kvs:List KnV} {ks:List Kn} {Ft Ft' N:Nat→Prop} (h:RulesAt w base rl kvs ks Ft) (hk:Keeps N w w') (hN:∀ b,b < w.heap.size→N b→Ft b) (hF:∀ i,Ft' i→Ft i∨w.heap.size≤i):RulesAt w' base rl kvs ks Ft' where
 own:=by
  refine⟨h.own.1,?_⟩
  rcases h.own.2 with h2 | ⟨g,cap,cur,hv,hge,hg,h3⟩
  ·exact .inl h2
  ·refine .inr ⟨g,cap,cur,hv,hge,hk.blk hg (λhm=>h.out g ?_ (hN g (lt_of_some hg) hm)),h3⟩
   simp only [Sl.val,Value.slice.injEq] at hv
   exact⟨_,hv.1,rfl⟩
 out:=λb hb hf=>by
  rcases hF b hf with h1 | h1
  ·exact h.out b hb h1
  ·have:=(h.own.ge hb).2;omega
 sets:=h.sets.mono λa b ⟨h1,h2,h3⟩=>by
  have hv:Vle (V Ft w) (V Ft' w'):=V.move hk hN λb hb hf=>(hF b hf).resolve_right (by omega)
  exact⟨h1.mono hv,h2.mono hv,h3⟩
theorem kcell_len {kvs:List KnV}:∀ c∈kvs.map KnV.cells,c.length=3:=λc hc=>by obtain⟨v,_,rfl⟩:=List.mem_map.1 hc;rfl
theorem RulesAt.push {w wA:World} {bm base b:Nat} {fs:List ((Nat→Bool) × Int)} {F:Int→Int→Prop} {l rl:Sl} {vs:List PosV} {Ft:Nat→Prop} {kvs:List KnV} {ks:List Kn} {v:KnV} {kn:Kn} {k:World→Prop}
  (hm:MachAt w bm base fs F l rl vs Ft) (hr:RulesAt w base rl kvs ks Ft) (hbase:base≤w.heap.size) (hk:Keeps No w wA) (hb:wA.heap[b]?=some (.cells #[.map (some v.a),.map (some v.b),.bool v.e] T.nfa_known (0,0)))
  (hv:SetAt (V Ft w) v.a kn.first∧SetAt (V Ft w) v.b kn.last∧v.e=kn.emp) (hfew:kvs.length≤1000000)
  (hK:∀ w' rl',Keeps (λi=>base≤i) w w'→w.heap.size≤w'.heap.size→MachAt w' bm base fs F l rl' vs Ft→RulesAt w' base rl' (kvs++[v]) (ks++[kn]) Ft→k w') :
  App P (Builtin.append_ #[T.sl_nfa_known,T.sl_nfa_known] T.sl_nfa_known #[.slice rl.a rl.n rl.c,.slice (some ⟨b,0,none⟩) 1 1]) (.one .sl) wA λx34 w16 =>
   St ⟨bm,1,none⟩ (.slice x34.a x34.n x34.c) w16 λw17=>k w17:=by
 have hmA:=hm.keep hk λ_ h=>h.elim
 have hrA:=hr.move hk (λ_ _ h=>h.elim) (λi h=>.inl h)
 have hn:rl.n=kvs.length:=by
  have:=hrA.own.len
  rw [flatten_len kcell_len,List.length_map] at this
  omega
 refine appendC (c:=KnV.cells v) (base:=base) elKnown hrA.own rfl hb ?_ (by omega) (by omega) (Nat.le_trans hbase hk.size) λrl' w16 o16 e16 k16 g16=>?_
 ·intro u hu
  simp [KnV.cells] at hu
  rcases hu with rfl | rfl | rfl <;> rfl
 ·have nbm:¬ rl.blk bm:=λh=>hrA.out _ h (hm.foot _ (.inl rfl))
  refine St.blk (k16.blk hmA.at_ nbm) (by simp) λw17 u17=>?_
  have hsz:=hk.size;have hsz2:=k16.size;have hsz3:=u17.size
  have hbm:=hm.old bm (hm.foot _ (.inl rfl))
  obtain⟨g,hg1,hg2⟩:=g16
  have hgF:¬ Ft g:=by
   rcases hg2 with h | h
   ·exact hrA.out _ h
   ·intro hf
    have:=(hmA.old g hf).2
    omega
  have nbm':¬ bm=g:=λe=>hgF (e ▸ hm.foot _ (.inl rfl))
  have m16:=hmA.keep k16 λb' h hf=>hrA.out b' h hf
  refine hK w17 rl' ?_ (by omega) (Mach.rl m16 u17) ⟨?_,?_,?_⟩
  ·refine ((hk.no (M:=λi=>base≤i)).trans (k16.mono λi _ hi=>(hrA.own.ge hi).1)).then u17.keeps λi _ e=>e ▸ hbm.1
  ·rw [List.map_append]
   refine o16.keep u17.keeps λb' e h=>?_
   obtain⟨a,ha,hab⟩:=h
   rw [hg1] at ha
   cases ha
   exact nbm' (e ▸ hab.symm)
  ·rintro b' ⟨a,ha,hab⟩ hf
   rw [hg1] at ha
   cases ha
   have:g=b':=hab
   exact hgF (this ▸ hf)
  ·have mv:∀ {m:Nat} {S:Int→Prop},SetAt (V Ft w) m S→SetAt (V Ft w17) m S:=λ{m S} h=>by
    have hA:SetAt (V Ft wA) m S:=h.mono (V.keeps0 hk)
    have hA':=hA
    obtain⟨es,clock,⟨_,h1⟩,_⟩:=hA'
    refine MapAt.keep (MapAt.keep (M':=Ft) hA k16 (λhb'=>?_) h.out) u17.keeps (λe=>?_) h.out
    ·obtain⟨a,ha,hab⟩:=hb'
     rcases hrA.own.2 with⟨hv,_⟩ | ⟨g',cap,cur,hv,_,hg',_⟩
     ·simp [Sl.val,ha] at hv
     ·simp [Sl.val,ha] at hv
      obtain⟨rfl,_⟩:=hv
      have:g'=m:=hab
      subst this
      rw [h1] at hg'
      cases hg'
    ·subst e
     rw [hmA.at_] at h1
     cases h1
   refine All2.append (hr.sets.mono λa b ⟨h1,h2,h3⟩=>⟨mv h1,mv h2,h3⟩) (.cons ⟨mv hv.1,mv hv.2.1,hv.2.2⟩ .nil)
theorem nfa_New_spec {M:Nat→Prop} {w:World} {l:Sl} {ps:List (Option Addr)} {xs:List Re} {K:(Option Addr × Int)→World→Prop} (hM:Old M w) (hl:SlT .ptr (V M w) l ps) (ha:All2 (Nd (V M w)) ps xs) (hne:ps≠[]) (hlen:ps.length≤1000000) (hsz:∀ x∈xs,x.size < 1000000000000)
  (hK:∀ p e w',Keeps No w w'→(mCnt xs≤2000→e=0∧MachV (V No w') p (mFs 0 xs) (mFol 0 xs) (mKs 0 xs))→(2000 < mCnt xs→e=3∧p=none)→K (p,e) w'):nfa_New.C l w K:=by
 refine nfa_New.ok _ _ _ ?_
 simp only [nfa_New.M]
 have hn:=hl.1;have hal:=ha.length
 have hpos:0 < ps.length:=by cases ps with | nil=>exact absurd rfl hne | cons a l=>simp
 have hnone:none ∉ ps:=λh=>by
  obtain⟨i,hi⟩:=List.getElem?_of_mem h
  obtain⟨x,_,hx⟩:=ha.get _ _ hi
  obtain⟨_,_,_,_,_,_,_,h,_⟩:=hx.out
  cases h
 refine Join.cut (λs w'=>s=false∧w'=w) ?_ ?_
 ·rintro s w' ⟨rfl,rfl⟩
  show Loop _ _ _
  refine Loop.mk (λs w1=>Keeps No w' w1∧∃ i:Nat,i≤ps.length∧s=(((mCnt (xs.take i):Nat):Int),(i:Int))∧mCnt (xs.take i)≤2000) (λs=>(ps.length:Nat) - s.2.toNat) ⟨Keeps.refl,0,by omega,by simp [mCnt]⟩ ?_
  rintro s w1 ⟨k1,i,hi,rfl,hc⟩ R hR
  refine Br.mk (λht=>?_) (λhf=>?_)
  ·have ht:i < ps.length:=by simpa [hn] using ht
   refine IdxS.get (M:=M) (hl.mono (V.keeps0 k1)) (by simp) (by simp;omega) λq hq=>?_
   simp at hq
   obtain⟨x,hx,hN⟩:=ha.get _ _ hq
   have h4:=mCnt_take_succ hx
   have h5:=mCnt_take_le xs (i + 1)
   have hxs:=hsz x (kD hx)
   have hcs:=x.cnt_size
   refine nfa_count_spec (by omega) (by omega) x.size x (Nat.le_refl _) (hM.keeps k1) hxs (hN.mono (V.keeps0 k1)) λr w2 k2 r0 r1 r2 r3=>?_
   dsimp only
   rw [w64_eq (by omega),w64_eq (by omega)]
   refine Br.mk (λht2=>?_) (λhf2=>?_)
   ·have ht2:=kG ht2
    refine hK none 3 w2 (k1.trans k2) (λh=>by omega) (λ_=>⟨rfl,rfl⟩)
   ·have hf2:=kF hf2
    refine hR _ _ ⟨k1.trans k2,i + 1,by omega,?_,by omega⟩ (by dsimp only;omega)
    simp only [Prod.mk.injEq];constructor <;> omega
  ·have hf:ps.length≤i:=by simpa [hn] using hf
   have e:xs.take i=xs:=List.take_of_length_le (by omega)
   rw [e] at hc
   refine Al.mk λbm w2 n2=>?_
   have e2:=n2.eq;have s2:=n2.size;have s1:=k1.size
   have k02:Keeps No w' w2:=k1.trans n2.keeps
   have m0:MachAt w2 bm w'.heap.size [] (λ_ _=>False) ⟨none,0,0⟩ ⟨none,0,0⟩ [] (λb=>b=bm):=by
    refine⟨n2.at_,by simpa using Own.nil _ _ _ _,.nil,by simp,by simp,?_,?_,by simp,by simp⟩
    ·rintro b (h | ⟨a,h,_⟩ | ⟨v,h,_⟩)
     ·exact h
     ·cases h
     ·cases h
    ·rintro b rfl;omega
   have r0:RulesAt w2 w'.heap.size ⟨none,0,0⟩ [] [] (λb=>b=bm):=⟨by simpa using Own.nil _ _ _ _,(λb ⟨a,h,_⟩=>by cases h),.nil⟩
   refine Loop.mk (λs w3=>Keeps No w' w3∧∃ (i:Nat) (rl:Sl) (kvs:List KnV) (Ft:Nat→Prop),i≤ps.length∧s=(i:Int)∧Mach w3 bm w'.heap.size (mFs 0 (xs.take i)) (mFol 0 (xs.take i)) rl Ft∧RulesAt w3 w'.heap.size rl kvs (mKs 0 (xs.take i)) Ft)
    (λs=>(ps.length:Nat) - s.toNat) ⟨k02,0,⟨none,0,0⟩,[],(λb=>b=bm),by omega,by simp,⟨⟨none,0,0⟩,[],m0⟩,r0⟩ ?_
   rintro s w3 ⟨k3,i,rl,kvs,Ft,hi,rfl,m3,r3⟩ R hR
   have s3:=k3.size
   refine Br.mk (λht=>?_) (λhf=>?_)
   ·have ht:i < ps.length:=by simpa [hn] using ht
    refine IdxS.get (M:=M) (hl.mono (V.keeps0 k3)) (by simp) (by simp;omega) λq hq=>?_
    simp at hq
    obtain⟨x,hx,hN⟩:=ha.get _ _ hq
    have h4:=mCnt_take_succ hx
    have h5:=mCnt_take_le xs (i + 1)
    have htk:xs.take (i + 1)=xs.take i++[x]:=by rw [List.take_add_one,hx];rfl
    have hli:(xs.take i).length=i:=by rw [List.length_take];omega
    have hlk:kvs.length=i:=by have:=r3.sets.length;rw [mKs_len,hli] at this;exact this
    have ge:∀ {b:Nat},Ft b→w'.heap.size≤b:=λ{b} h=>by obtain⟨l3,vs3,m3⟩:=m3;exact (m3.old b h).1
    refine DrawN.mk λw4 hh k4=>?_
    simp only [true_and]
    have s34:w4.heap.size=w3.heap.size:=by rw [hh]
    have m4:=m3.keep0 k4
    have r4:=r3.move k4 (λ_ _ h=>h.elim) (λi h=>.inl h) (Ft':=Ft)
    have hN4:Nd (V Ft w4) q x:=hN.mono (V.move (k3.trans k4) (λ_ _ h=>h.elim) λb hb h=>absurd (ge h) (by omega))
    have cfs:(mFs 0 (xs.take i)).length=mCnt (xs.take i):=mFs_len _ _
    have addc:∀ {K:(Option Nat × Option Nat × Bool)→World→Prop},(∀ (a b:Nat) (w5:World) (Ft':Nat→Prop) ,Keeps No w' w5→Mach w5 bm w'.heap.size (mFs 0 (xs.take (i + 1))) (mFol 0 (xs.take (i + 1))) rl Ft'→RulesAt w5 w'.heap.size rl kvs (mKs 0 (xs.take i)) Ft' →
      SetAt (V Ft' w5) a (x.first (mCnt (xs.take i)))→SetAt (V Ft' w5) b (x.last (mCnt (xs.take i)))→K (some a,some b,x.emp) w5)→nfa_Machine_add.C (some ⟨bm,0,none⟩) i q w4 K:=by
     intro K hK'
     refine nfa_Machine_add_spec x.size x (Nat.le_refl _) m4 hN4 (by omega) (by omega) λa b w5 Ft' k5 g5 m5 sa sb=>?_
     rw [cfs] at sa sb
     refine hK' a b w5 Ft' ?_ ?_ (r4.move k5 (λ_ _ h=>h) g5) sa sb
     ·exact ((k3.trans k4).no (M:=No)).then k5 λb hb h=>absurd (ge h) (by omega)
     ·rw [htk,mFs_snoc,hli]
      have e0:(0:Int) + (i:Int)=i:=by omega
      rw [e0]
      refine m5.congr λp q=>?_
      rw [mFol_snoc,cfs]
      have e1:(0:Int) + ((mCnt (xs.take i):Nat):Int)=(mCnt (xs.take i):Nat):=by omega
      rw [e1]
    have tail:∀ {w5 wA:World} {a b b8:Nat} {Ft':Nat→Prop},Keeps No w' w5→Mach w5 bm w'.heap.size (mFs 0 (xs.take (i + 1))) (mFol 0 (xs.take (i + 1))) rl Ft'→RulesAt w5 w'.heap.size rl kvs (mKs 0 (xs.take i)) Ft'→SetAt (V Ft' w5) a (x.first (mCnt (xs.take i)))→SetAt (V Ft' w5) b (x.last (mCnt (xs.take i))) →
      New b8 (.cells #[.map (some a),.map (some b),.bool x.emp] T.nfa_known (0,0)) w5 wA→App P (Builtin.append_ #[T.sl_nfa_known,T.sl_nfa_known] T.sl_nfa_known #[.slice rl.a rl.n rl.c,.slice (some ⟨b8,0,none⟩) 1 1]) (.one .sl) wA λx34 w16 =>
       St ⟨bm,1,none⟩ (.slice x34.a x34.n x34.c) w16 λw17=>R (w64 ((i:Int) + (1:Int))) w17:=by
     intro w5 wA a b b8 Ft' k5 m5 r5 sa sb n8
     obtain⟨l5,vs5,m5⟩:=m5
     have s5:=k5.size
     refine RulesAt.push (v:=⟨a,b,x.emp⟩) (kn:=⟨x.first (mCnt (xs.take i)),x.last (mCnt (xs.take i)),x.emp⟩) m5 r5 (by omega) n8.keeps n8.at_ ⟨sa,sb,rfl⟩ (by omega) λw9 rl9 k9 s9 m9 r9=>?_
     rw [w64_eq (by omega)]
     refine hR _ w9 ⟨(k5.no (M:=No)).then k9 λb hb h=>absurd h (by omega),i + 1,rl9,kvs++[⟨a,b,x.emp⟩],Ft',by omega,by omega,⟨l5,vs5,m9⟩,?_⟩ (by omega)
     rw [htk,mKs_snoc]
     have e1:(0:Int) + ((mCnt (xs.take i):Nat):Int)=(mCnt (xs.take i):Nat):=by omega
     rw [e1]
     exact r9
    have ldr:∀ {wA:World} {fs:List ((Nat→Bool) × Int)} {F:Int→Int→Prop} {Ft':Nat→Prop} {k:Sl→Prop},Mach wA bm w'.heap.size fs F rl Ft'→k rl→Ld .sl ⟨bm,1,none⟩ wA k:=by
     rintro wA fs F Ft' k ⟨l5,vs5,m5⟩ h
     exact Ld.sl (cell_of m5.at_ rfl) h
    refine⟨ldr m4 (addc λa b w5 Ft' k5 m5 r5 sa sb=>Al.mk λb8 w6 n8=>tail k5 m5 r5 sa sb n8),addc λa b w5 Ft' k5 m5 r5 sa sb=>⟨ldr m5 (Al.mk λb8 w6 n8=>tail k5 m5 r5 sa sb n8),Al.mk λb8 w6 n8=>ldr (m5.keep0 n8.keeps) (tail k5 m5 r5 sa sb n8)⟩⟩
   ·have hf:ps.length≤i:=by simpa [hn] using hf
    have e:xs.take i=xs:=List.take_of_length_le (by omega)
    rw [e] at m3 r3
    refine hK _ 0 w3 k3 (λ_=>⟨rfl,?_⟩) (λh=>by omega)
    obtain⟨l3,vs3,m3⟩:=m3
    refine⟨⟨bm,l3,rl,vs3,kvs,rfl,⟨id,m3.at_⟩,m3.rows,m3.pos,m3.sets,Own.readsC r3.own (by omega) kcell_len λ_ _ h=>h,r3.sets.mono λa b ⟨h1,h2,h3⟩=>⟨h1.mono (V.sub λ_ _ h=>h.elim),h2.mono (V.sub λ_ _ h=>h.elim),h3⟩⟩,m3.fin,?_,m3.few,?_⟩
    ·rw [mFs_len]
     intro k hk p hp
     have:=mKs_in xs 0 k hk p hp
     omega
    ·rw [mKs_len];omega
 ·intro j hj
  refine Br.mk (λht=>?_) λhf=>?_
  ·exfalso
   have:l.n=0:=by simpa using ht
   omega
  ·refine slices_Contains_nil hl (by omega) λb hb=>hj _ _ ⟨?_,rfl⟩
   cases b with
   | false=>rfl
   | true=>exact absurd (hb.1 rfl) hnone
def MachO (H:View) (p:Option Addr) (fs:List ((Nat→Bool) × Int)) (F:Int→Int→Prop) (ks:List Kn):Prop:=(p=none∧fs=[]∧ks=[])∨MachV H p fs F ks
theorem MachO.mono {H H':View} {p:Option Addr} {fs:List ((Nat→Bool) × Int)} {F:Int→Int→Prop} {ks:List Kn} (h:MachO H p fs F ks) (hv:Vle H H'):MachO H' p fs F ks:=h.imp id λh=>h.mono hv
section
variable {M:Nat→Prop} {w:World} {p:Option Addr} {fs:List ((Nat→Bool) × Int)} {F:Int→Int→Prop} {ks:List Kn}
theorem nfa_Machine_Rules_spec (h:MachO (V M w) p fs F ks) {K:Int→World→Prop} (hK:K ks.length w):nfa_Machine_Rules.C p w K:=by
 refine nfa_Machine_Rules.ok _ _ _ ?_
 rcases h with⟨rfl,rfl,rfl⟩ | h
 ·simp only [nfa_Machine_Rules.M]
  exact hK
 ·obtain⟨bm,l,rl,vs,kvs,rfl,h2,h3,h4,h5,h6,h7⟩:=h.ex
  simp only [nfa_Machine_Rules.M,NilC_some]
  refine Ld.sl (cell_of h2.2 rfl) ?_
  have:=h6.1;have:=h7.length
  simp at *
  have e:(rl.n:Int)=(ks.length:Int):=by omega
  rw [e];exact hK
theorem nfa_Machine_Len_spec (h:MachO (V M w) p fs F ks) {K:Int→World→Prop} (hK:K fs.length w):nfa_Machine_Len.C p w K:=by
 refine nfa_Machine_Len.ok _ _ _ ?_
 rcases h with⟨rfl,rfl,rfl⟩ | h
 ·simp only [nfa_Machine_Len.M]
  exact hK
 ·obtain⟨bm,l,rl,vs,kvs,rfl,h2,h3,h4,h5,h6,h7⟩:=h.ex
  simp only [nfa_Machine_Len.M,NilC_some]
  refine Ld.sl (cell_of h2.2 rfl) ?_
  have:=h3.1;have:=h4.length
  simp at *
  have e:(l.n:Int)=(fs.length:Int):=by omega
  rw [e];exact hK
def knAt (ks:List Kn) (i:Int):Kn:=if 0≤i then (ks[i.toNat]?).getD ⟨λ_=>False,λ_=>False,false⟩ else ⟨λ_=>False,λ_=>False,false⟩
theorem knAt_in {ks:List Kn} {i:Int} {k:Kn} (h0:0≤i) (h:ks[i.toNat]?=some k):knAt ks i=k:=by simp [knAt,h0,h]
theorem knAt_out {ks:List Kn} {i:Int} (h:¬ (0≤i∧i < ks.length)):knAt ks i=⟨λ_=>False,λ_=>False,false⟩:=by
 unfold knAt
 split
 ·rw [List.getElem?_eq_none (by omega)];rfl
 ·rfl
theorem MachO.kin (h:MachO (V M w) p fs F ks) (i:Int):∀ q,((knAt ks i).first q∨(knAt ks i).last q)→0≤q∧q < fs.length:=by
 intro q hq
 by_cases hi:0≤i∧i < ks.length
 ·have hx:ks[i.toNat]?=some ks[i.toNat]:=kC (by omega)
  rw [knAt_in hi.1 hx] at hq
  rcases h with⟨_,_,rfl⟩ | h
  ·simp at hi;omega
  ·exact h.kin _ (kD hx) q hq
 ·rw [knAt_out hi] at hq
  rcases hq with h | h <;> exact h.elim
theorem MachO.few (h:MachO (V M w) p fs F ks):fs.length≤2000:=by
 rcases h with⟨_,rfl,_⟩ | h
 ·simp
 ·exact h.few
theorem nfa_Machine_rule_spec (h:MachO (V M w) p fs F ks) {i:Int} {K:(Option Nat × Option Nat × Bool)→World→Prop}
  (hK:∀ a b w',Keeps No w w'→SetO (V M w') a (knAt ks i).first→SetO (V M w') b (knAt ks i).last→(0≤i∧i < ks.length→a≠none∧b≠none)→K (a,b,(knAt ks i).emp) w'):nfa_Machine_rule.C p i w K:=by
 refine nfa_Machine_rule.ok _ _ _ _ ?_
 simp only [nfa_Machine_rule.M]
 refine Al.mk λb1 w1 n1=>?_
 have e1:=n1.eq
 refine Join.cut (λs w'=>w'=w1∧(s=true↔¬ (0≤i∧i < ks.length))) ?_ ?_
 ·rintro s w' ⟨rfl,hs⟩
  refine Br.mk (λht=>?_) (λhf=>?_)
  ·refine St3 n1.at_ λw2 u2=>Ld3 (k:=λa b c=>K (a,b,c) w2) u2.at_ ?_
   have hk:=u2.keeps0 n1.keeps (by omega)
   have e:=knAt_out (hs.1 ht)
   have:=hK none none w2 hk (by rw [e];intro x y h;exact h.1) (by rw [e];intro x y h;exact h.1) λh=>absurd h (hs.1 ht)
   rw [e] at this
   exact this
  ·have hi:0≤i∧i < ks.length:=by
    refine Decidable.byContradiction λh=>?_
    rw [hs.2 h] at hf;cases hf
   rcases h with⟨_,_,rfl⟩ | h
   ·simp at hi;omega
   ·obtain⟨bm,l,rl,vs,kvs,rfl,h2,h3,h4,h5,h6,h7⟩:=h.ex
    simp only [NilC_some]
    have hb:=n1.keeps.blk0 h2.2
    have hlen:=h7.length
    refine Ld.sl (cell_of hb rfl) ?_
    refine IdxS.recd (M:=M) (h6.mono (V.keeps0 n1.keeps)) hi.1 (by simp;omega) λg off c hc hcell=>?_
    rw [List.getElem?_map] at hc
    obtain⟨v,hv,rfl⟩:=kE hc
    obtain⟨k,hk,s1,s2,s3⟩:=h7.get _ _ hv
    simp only [add_eq]
    refine Ld.map (hcell 0 _ rfl) (Ld.map (hcell 1 _ rfl) (Ld.bool (hcell 2 _ rfl) ?_))
    refine St3 n1.at_ λw2 u2=>Ld3 (k:=λa b c=>K (a,b,c) w2) u2.at_ ?_
    have hkk:=u2.keeps0 n1.keeps (by omega)
    have:=hK (some v.a) (some v.b) w2 hkk (by rw [knAt_in hi.1 hk];exact MapAt.mono s1 (V.keeps0 hkk)) (by rw [knAt_in hi.1 hk];exact MapAt.mono s2 (V.keeps0 hkk)) λ_=>⟨by simp,by simp⟩
    rw [knAt_in hi.1 hk,← s3] at this
    exact this
 ·intro j hj
  refine Br.mk (λht=>?_) (λhf=>?_)
  ·have ht:=kG ht
   exact hj _ _ ⟨rfl,⟨λ_ h=>by omega,λ_=>rfl⟩⟩
  ·have hf:=kF hf
   refine nfa_Machine_Rules_spec (h.mono (V.keeps0 n1.keeps)) ?_
   refine hj _ _ ⟨rfl,?_⟩
   rw [decide_eq_true_iff]
   constructor
   ·intro h1 h2;omega
   ·intro h1;omega
def Rising (xs:List Int) (S:Int→Prop):Prop:=xs.Pairwise (· < ·)∧∀ k,k∈xs↔S k
theorem nfa_Machine_First_spec (h:MachO (V M w) p fs F ks) {i:Int} {K:Sl→World→Prop}
  (hK:∀ l xs w',Keeps No w w'→Own w' w.heap.size T.int 1 l (xs.map (Ty.int .i64).enc)→Rising xs (knAt ks i).first→K l w'):nfa_Machine_First.C p i w K:=by
 refine nfa_Machine_First.ok _ _ _ _ ?_
 simp only [nfa_Machine_First.M]
 have hin:=h.kin i;have hfew:=h.few
 refine nfa_Machine_rule_spec h λa b w1 k1 s1 s2 _=>?_
 refine nfa_set_sorted_spec s1 (λk hk=>by have:=hin k (.inl hk);unfold Pos;omega) λl xs w2 k2 o2 p2 m2=>?_
 refine hK l xs w2 (k1.trans k2) ?_ ⟨p2,m2⟩
 refine⟨o2.1,o2.2.imp id ?_⟩
 rintro⟨g,cap,cur,hv,hge,hrest⟩
 exact⟨g,cap,cur,hv,Nat.le_trans k1.size hge,hrest⟩
theorem nfa_Machine_Last_spec (h:MachO (V M w) p fs F ks) {i:Int} {K:Sl→World→Prop}
  (hK:∀ l xs w',Keeps No w w'→Own w' w.heap.size T.int 1 l (xs.map (Ty.int .i64).enc)→Rising xs (knAt ks i).last→K l w'):nfa_Machine_Last.C p i w K:=by
 refine nfa_Machine_Last.ok _ _ _ _ ?_
 simp only [nfa_Machine_Last.M]
 have hin:=h.kin i;have hfew:=h.few
 refine nfa_Machine_rule_spec h λa b w1 k1 s1 s2 _=>?_
 refine nfa_set_sorted_spec s2 (λk hk=>by have:=hin k (.inr hk);unfold Pos;omega) λl xs w2 k2 o2 p2 m2=>?_
 refine hK l xs w2 (k1.trans k2) ?_ ⟨p2,m2⟩
 refine⟨o2.1,o2.2.imp id ?_⟩
 rintro⟨g,cap,cur,hv,hge,hrest⟩
 exact⟨g,cap,cur,hv,Nat.le_trans k1.size hge,hrest⟩
abbrev posobj (n0 n1 n2 n3 rule:Int) (m:Option Nat):Obj:=.cells #[.int .u64 n0,.int .u64 n1,.int .u64 n2,.int .u64 n3,.int .i64 rule,.map m] T.nfa_position (0,0)
theorem Ld6 {b:Nat} {n0 n1 n2 n3 rule:Int} {m:Option Nat} {w:World} {k:Int→Int→Int→Int→Int→Option Nat→Prop} (hb:w.heap[b]?=some (posobj n0 n1 n2 n3 rule m)) (h:k n0 n1 n2 n3 rule m) :
  Ld (.int .u64) ⟨b,0,none⟩ w λr0=>Ld (.int .u64) ⟨b,1,none⟩ w λr1=>Ld (.int .u64) ⟨b,2,none⟩ w λr2=>Ld (.int .u64) ⟨b,3,none⟩ w λr3=>Ld (.int .i64) ⟨b,4,none⟩ w λr4=>Ld .map ⟨b,5,none⟩ w λr5=>k r0 r1 r2 r3 r4 r5 :=
 Ld.int (cell_of hb rfl) (Ld.int (cell_of hb rfl) (Ld.int (cell_of hb rfl) (Ld.int (cell_of hb rfl) (Ld.int (cell_of hb rfl) (Ld.map (cell_of hb rfl) h)))))
theorem nfa_Machine_at_spec (h:MachO (V M w) p fs F ks) {i:Int} {K:((Int × Int × Int × Int × Int × Option Nat) × Bool)→World→Prop}
  (hin:∀ x (n0 n1 n2 n3:Nat) m w',0≤i→fs[i.toNat]?=some x→Words x.1 n0 n1 n2 n3→Keeps No w w'→SetAt (V M w') m (F i)→K ((n0,n1,n2,n3,x.2,some m),true) w')
  (hout:¬ (0≤i∧i < fs.length)→∀ w',Keeps No w w'→K ((0,0,0,0,0,none),false) w'):nfa_Machine_at.C p i w K:=by
 refine nfa_Machine_at.ok _ _ _ _ ?_
 simp only [nfa_Machine_at.M]
 refine Al.mk λb1 w1 n1=>?_
 have e1:=n1.eq
 refine Join.cut (λs w'=>w'=w1∧(s=true↔¬ (0≤i∧i < fs.length))) ?_ ?_
 ·rintro s w' ⟨rfl,hs⟩
  refine Br.mk (λht=>?_) (λhf=>?_)
  ·refine St6 n1.at_ λw2 u2=>Ld6 (k:=λa b c d e f=>K ((a,b,c,d,e,f),false) w2) u2.at_ ?_
   exact hout (hs.1 ht) w2 (u2.keeps0 n1.keeps (by omega))
  ·have hi:0≤i∧i < fs.length:=by
    refine Decidable.byContradiction λh=>?_
    rw [hs.2 h] at hf;cases hf
   rcases h with⟨_,rfl,_⟩ | h
   ·simp at hi;omega
   ·obtain⟨bm,l,rl,vs,kvs,rfl,h2,h3,h4,h5,h6,h7⟩:=h.ex
    simp only [NilC_some]
    have hb:=n1.keeps.blk0 h2.2
    have hlen:=h4.length
    refine Ld.sl (cell_of hb rfl) ?_
    refine IdxS.recd (M:=M) (h3.mono (V.keeps0 n1.keeps)) hi.1 (by simp;omega) λg off c hc hcell=>?_
    rw [List.getElem?_map] at hc
    obtain⟨v,hv,rfl⟩:=kE hc
    obtain⟨k,hk,s1,s2⟩:=h4.get _ _ hv
    simp only [add_eq]
    refine Ld.int (hcell 0 _ rfl) (Ld.int (hcell 1 _ rfl) (Ld.int (hcell 2 _ rfl) (Ld.int (hcell 3 _ rfl) (Ld.int (hcell 4 _ rfl) (Ld.map (hcell 5 _ rfl) ?_)))))
    refine St6 n1.at_ λw2 u2=>Ld6 (k:=λa b c d e f=>K ((a,b,c,d,e,f),true) w2) u2.at_ ?_
    have hkk:=u2.keeps0 n1.keeps (by omega)
    rw [s2]
    refine hin k v.n0 v.n1 v.n2 v.n3 v.m w2 hi.1 hk s1 hkk ?_
    have:=h5 _ v hv
    have e:((i.toNat:Nat):Int)=i:=by omega
    rw [e] at this
    exact this.mono (V.keeps0 hkk)
 ·intro j hj
  refine Br.mk (λht=>?_) (λhf=>?_)
  ·have ht:=kG ht
   exact hj _ _ ⟨rfl,⟨λ_ h=>by omega,λ_=>rfl⟩⟩
  ·have hf:=kF hf
   refine nfa_Machine_Len_spec (h.mono (V.keeps0 n1.keeps)) ?_
   refine hj _ _ ⟨rfl,?_⟩
   rw [decide_eq_true_iff]
   constructor
   ·intro h1 h2;omega
   ·intro h1;omega
theorem MachO.fin (h:MachO (V M w) p fs F ks) {i:Int} (hi:0≤i∧i < fs.length) {q:Int} (hq:F i q):0≤q∧q < fs.length:=by
 rcases h with⟨_,rfl,_⟩ | h
 ·simp at hi;omega
 ·exact (h.fin i q hq).2
theorem nfa_Machine_Follow_spec (h:MachO (V M w) p fs F ks) {i:Int} {K:Sl→World→Prop}
  (hK:∀ l xs w',Keeps No w w'→Own w' w.heap.size T.int 1 l (xs.map (Ty.int .i64).enc)→Rising xs (λq=>(0≤i∧i < fs.length)∧F i q)→K l w'):nfa_Machine_Follow.C p i w K:=by
 refine nfa_Machine_Follow.ok _ _ _ _ ?_
 simp only [nfa_Machine_Follow.M]
 have hfew:=h.few
 have fin:∀ {w1 w3:World} {l:Sl} {xs:List Int} {S:Int→Prop},Keeps No w w1→Keeps No w1 w3→Own w3 w1.heap.size T.int 1 l (xs.map (Ty.int .i64).enc)→xs.Pairwise (· < ·)→(∀ k,k∈xs↔S k)→(∀ q,S q↔((0≤i∧i < fs.length)∧F i q))→K l w3:=by
  intro w1 w3 l xs S k1 k3 o p m e
  refine hK l xs w3 (k1.trans k3) ?_ ⟨p,λk=>by rw [m,e]⟩
  refine⟨o.1,o.2.imp id ?_⟩
  rintro⟨g,cap,cur,hv,hge,hrest⟩
  exact⟨g,cap,cur,hv,Nat.le_trans k1.size hge,hrest⟩
 refine nfa_Machine_at_spec h (λx n0 n1 n2 n3 m w1 h0 hx hw k1 s1=>?_) (λho w1 k1=>?_)
 ·refine Al.mk λb2 w2 a2=>St6 a2.at_ λw3 u3=>Ld.map (cell_of u3.at_ rfl) ?_
  have hi:0≤i∧i < fs.length:=⟨h0,by have:=(kA hx).1;omega⟩
  have k3:Keeps No w1 w3:=u3.keeps0 a2.keeps (by have:=a2.eq;omega)
  refine nfa_set_sorted_spec (mo:=some m) (MapAt.mono s1 (V.keeps0 k3)) (λk hk=>by have:=h.fin hi hk;unfold Pos;omega) λl xs w4 k4 o4 p4 m4=>?_
  exact fin (k1.trans k3) k4 o4 p4 m4 λq=>by simp [hi]
 ·refine Al.mk λb2 w2 a2=>St6 a2.at_ λw3 u3=>Ld.map (cell_of u3.at_ rfl) ?_
  have k3:Keeps No w1 w3:=u3.keeps0 a2.keeps (by have:=a2.eq;omega)
  refine nfa_set_sorted_spec (mo:=none) (M:=No) (S:=λ_=>False) (by intro x y h;exact h.1) (λk hk=>hk.elim) λl xs w4 k4 o4 p4 m4=>?_
  exact fin (k1.trans k3) k4 o4 p4 m4 λq=>⟨λh=>h.elim,λh=>absurd h.1 ho⟩
def ruleAt (fs:List ((Nat→Bool) × Int)) (i:Int):Int:=if 0≤i then ((fs[i.toNat]?).map (·.2)).getD (-1) else -1
theorem nfa_Machine_Rule_spec (h:MachO (V M w) p fs F ks) {i:Int} {K:Int→World→Prop} (hK:∀ w',Keeps No w w'→K (ruleAt fs i) w'):nfa_Machine_Rule.C p i w K:=by
 refine nfa_Machine_Rule.ok _ _ _ _ ?_
 simp only [nfa_Machine_Rule.M]
 refine nfa_Machine_at_spec h (λx n0 n1 n2 n3 m w1 h0 hx hw k1 s1=>?_) (λho w1 k1=>?_)
 ·refine Al.mk λb2 w2 a2=>St6 a2.at_ λw3 u3=>?_
  refine Br.mk (λht=>absurd ht (by simp)) λ_=>Ld.int (cell_of u3.at_ rfl) ?_
  have:=hK w3 (k1.trans (u3.keeps0 a2.keeps (by have:=a2.eq;omega)))
  simpa [ruleAt,h0,hx] using this
 ·refine Al.mk λb2 w2 a2=>St6 a2.at_ λw3 u3=>?_
  refine Br.mk (λ_=>?_) λhf=>absurd hf (by simp)
  have:=hK w3 (k1.trans (u3.keeps0 a2.keeps (by have:=a2.eq;omega)))
  have e:ruleAt fs i=-1:=by
   unfold ruleAt
   split
   ·rw [List.getElem?_eq_none (by omega)];rfl
   ·rfl
  rw [e] at this
  exact this
def hasAt (fs:List ((Nat→Bool) × Int)) (i:Int) (b:Nat):Bool:=if 0≤i then ((fs[i.toNat]?).map λx=>x.1 b).getD false else false
theorem shr_bit {n b:Nat} (hn:n < 2 ^ 64):((bAnd .u64 (Int.fdiv (n:Int) (2 ^ min (Int.toNat (Int.tmod (b:Int) (64:Int))) (IntKind.bits .u64))) (1:Int))==(1:Int))=n.testBit (b % 64):=by
 have e1:min (Int.toNat (Int.tmod (b:Int) (64:Int))) (IntKind.bits .u64)=b % 64:=by
  have:Int.tmod (b:Int) 64=((b % 64:Nat):Int):=by rw [Int.tmod_eq_emod_of_nonneg (by omega)];omega
  rw [this]
  have:IntKind.bits .u64=64:=rfl
  omega
 have e2:Int.fdiv (n:Int) (2 ^ (b % 64))=((n / 2 ^ (b % 64):Nat):Int):=by
  rw [Int.fdiv_eq_ediv_of_nonneg _ (by exact_mod_cast Nat.zero_le _)]
  push_cast
  rfl
 rw [e1,e2]
 have hlt:n / 2 ^ (b % 64) < 2 ^ 64:=Nat.lt_of_le_of_lt (Nat.div_le_self _ _) hn
 have:=bAnd_nat (x:=n / 2 ^ (b % 64)) (y:=1) hlt (by decide)
 rw [show ((1:Nat):Int)=1 from rfl] at this
 rw [this]
 rw [Nat.testBit,Nat.shiftRight_eq_div_pow,Nat.and_comm 1]
 rw [Nat.and_one_is_mod]
 rcases Nat.mod_two_eq_zero_or_one (n / 2 ^ (b % 64)) with h | h <;> rw [h] <;> rfl
theorem hasAt_in {i:Int} {x:(Nat→Bool) × Int} {b:Nat} (h0:0≤i) (h:fs[i.toNat]?=some x):hasAt fs i b=x.1 b:=by simp [hasAt,h0,h]
theorem hasAt_out {i:Int} {b:Nat} (h:¬ (0≤i∧i < fs.length)):hasAt fs i b=false:=by
 unfold hasAt
 split
 ·rw [List.getElem?_eq_none (by omega)];rfl
 ·rfl
theorem nfa_Machine_Has_spec (h:MachO (V M w) p fs F ks) {i:Int} {b:Nat} (hb:b < 256) {K:Bool→World→Prop} (hK:∀ w',Keeps No w w'→K (hasAt fs i b) w'):nfa_Machine_Has.C p i b w K:=by
 refine nfa_Machine_Has.ok _ _ _ _ _ ?_
 simp only [nfa_Machine_Has.M]
 refine nfa_Machine_at_spec h (λx n0 n1 n2 n3 m w1 h0 hx hw k1 s1=>?_) (λho w1 k1=>?_)
 ·refine Al.mk λb2 w2 a2=>St6 a2.at_ λw3 u3=>?_
  refine Br.mk (λ_=>?_) λhf=>absurd hf (by simp)
  refine⟨by decide,?_⟩
  have hdiv:IntKind.wrap .u8 (Int.tdiv (b:Int) 64)=((b / 64:Nat):Int):=by
   rw [Int.tdiv_eq_ediv_of_nonneg (by omega)]
   have:(b:Int) / 64=((b / 64:Nat):Int):=by omega
   rw [this]
   exact IntWalk.u8_in _ (by omega)
  rw [hdiv]
  refine⟨⟨by omega,by omega⟩,?_⟩
  have hK':=hK w3 (k1.trans (u3.keeps0 a2.keeps (by have:=a2.eq;omega)))
  rw [hasAt_in h0 hx] at hK'
  have leaf:∀ (k n:Nat),b / 64=k→Word x.1 k n→w3.cell? ⟨b2,k,none⟩=some (.int .u64 n)→Ld (.int .u64) (Addr.add ⟨b2,0,none⟩ ((((b / 64:Nat):Int)).toNat * 1)) w3 λx21=>Need ((64:Int)≠0) (Need (0≤(Int.tmod (b:Int) (64:Int))) (K (((bAnd .u64 (Int.fdiv x21 (2 ^ min (Int.toNat (Int.tmod (b:Int) (64:Int))) (IntKind.bits .u64))) (1:Int))==(1:Int))) w3)):=by
   intro k n hk hwd hc
   refine Ld.int (i:=(n:Int)) ?_ ⟨by decide,?_,?_⟩
   ·rw [add_eq]
    have:0 + ((b / 64:Nat):Int).toNat * 1=k:=by omega
    rw [this];exact hc
   ·rw [Int.tmod_eq_emod_of_nonneg (by omega)];omega
   ·rw [shr_bit hwd.1,hwd.2 _ (by omega)]
    have:64 * k + b % 64=b:=by omega
    rw [this];exact hK'
  obtain⟨g0,g1,g2,g3⟩:=hw
  have hb4:b / 64=0∨b / 64=1∨b / 64=2∨b / 64=3:=by omega
  rcases hb4 with e | e | e | e
  ·exact leaf 0 n0 e g0 (cell_of u3.at_ rfl)
  ·exact leaf 1 n1 e g1 (cell_of u3.at_ rfl)
  ·exact leaf 2 n2 e g2 (cell_of u3.at_ rfl)
  ·exact leaf 3 n3 e g3 (cell_of u3.at_ rfl)
 ·refine Al.mk λb2 w2 a2=>St6 a2.at_ λw3 u3=>?_
  refine Br.mk (λht=>absurd ht (by simp)) λ_=>?_
  have:=hK w3 (k1.trans (u3.keeps0 a2.keeps (by have:=a2.eq;omega)))
  rw [hasAt_out ho] at this
  exact this
end
theorem rising_len {xs:List Int} {S:Int→Prop} (h:Rising xs S) (hp:∀ k,S k→0≤k∧k < 1000000):xs.length < 1000000000:=by
 have:=nodup_bound 1000000 xs (h.1.imp λ{a b} h=>by intro e;omega) λk hk=>by have:=hp k ((h.2 k).1 hk);omega
 omega
end Go.Fk
end
section
namespace Go.Fk
inductive Clo (R:Nat→Nat→Prop):Nat→Nat→Prop
 | refl {i}:Clo R i i
 | snoc {i j k} (h:Clo R i j) (r:R j k):Clo R i k
theorem Clo.mono {R S:Nat→Nat→Prop} (h:∀ i j,R i j→S i j) {i j:Nat} (c:Clo R i j):Clo S i j:=by
 induction c with
 | refl=>exact .refl
 | snoc _ r ih=>exact .snoc ih (h _ _ r)
def Re.m (s:List UInt8):Re→Nat→Nat→Prop
 | .set f,i,j=>j=i + 1∧∃ c,s[i]?=some c∧f c.toNat=true
 | .empty,i,j=>i=j
 | .cat a b,i,j=>∃ k,a.m s i k∧b.m s k j
 | .or a b,i,j=>a.m s i j∨b.m s i j
 | .star a,i,j=>Clo (a.m s) i j
theorem Re.m_le {s:List UInt8} {x:Re}:∀ {i j:Nat},x.m s i j→i≤j∧(j=i∨j≤s.length):=by
 induction x with
 | set f=>rintro i j ⟨rfl,c,hc,_⟩;have:=(kA hc).1;exact⟨by omega,.inr (by omega)⟩
 | empty=>rintro i j rfl;exact⟨Nat.le_refl _,.inl rfl⟩
 | cat a b iha ihb=>rintro i j ⟨k,h1,h2⟩;have:=iha h1;have:=ihb h2;omega
 | or a b iha ihb=>rintro i j (h | h);exact iha h;exact ihb h
 | star a ih =>
  intro i j h
  change Clo (a.m s) i j at h
  induction h with
  | refl=>exact⟨Nat.le_refl _,.inl rfl⟩
  | snoc _ r ih2=>have:=ih r;omega
inductive Pth (F:Int→Int→Prop) (H:Int→Nat→Bool) (s:List UInt8):Nat→Int→Nat→Int→Prop
 | one {i:Nat} {p:Int} {c:UInt8} (hc:s[i]?=some c) (h:H p c.toNat=true):Pth F H s i p (i + 1) p
 | snoc {i:Nat} {p:Int} {j:Nat} {q q':Int} {c:UInt8} (t:Pth F H s i p j q) (f:F q q') (hc:s[j]?=some c) (h:H q' c.toNat=true):Pth F H s i p (j + 1) q'
section
variable {F G:Int→Int→Prop} {H:Int→Nat→Bool} {s:List UInt8}
theorem Pth.mono (h:∀ p q,F p q→G p q) {i j:Nat} {p q:Int} (t:Pth F H s i p j q):Pth G H s i p j q:=by
 induction t with
 | one hc hh=>exact .one hc hh
 | snoc _ f hc hh ih=>exact .snoc ih (h _ _ f) hc hh
theorem Pth.lt {i j:Nat} {p q:Int} (t:Pth F H s i p j q):i < j:=by
 induction t with
 | one=>omega
 | snoc _ _ _ _ ih=>omega
theorem Pth.join {i j k:Nat} {p q p' q':Int} (t:Pth F H s i p j q) (f:F q p') (u:Pth F H s j p' k q'):Pth F H s i p k q':=by
 induction u with
 | one hc hh=>exact .snoc t f hc hh
 | snoc _ f' hc hh ih=>exact .snoc ih f' hc hh
theorem Pth.split {A B:Int→Int→Prop} {P Q:Int→Prop} {L:Int→Int→Prop} (hF:∀ p q,F p q→P p→(A p q∧P q)∨(L p q∧Q q)) (hF2:∀ p q,F p q→Q p→B p q∧Q q)
  {i j:Nat} {p q:Int} (t:Pth F H s i p j q) (hp:P p):(P q∧Pth A H s i p j q)∨(Q q∧∃ k r r',Pth A H s i p k r∧L r r'∧Pth B H s k r' j q):=by
 induction t with
 | one hc hh=>exact .inl ⟨hp,.one hc hh⟩
 | snoc _ f hc hh ih =>
  rcases ih with⟨h1,h2⟩ | ⟨h1,k,r,r',h2,h3,h4⟩
  ·rcases hF _ _ f h1 with⟨h5,h6⟩ | ⟨h5,h6⟩
   ·exact .inl ⟨h6,.snoc h2 h5 hc hh⟩
   ·exact .inr ⟨h6,_,_,_,h2,h5,.one hc hh⟩
  ·obtain⟨h5,h6⟩:=hF2 _ _ f h1
   exact .inr ⟨h6,k,r,r',h2,h3,.snoc h4 h5 hc hh⟩
theorem Pth.stay {B:Int→Int→Prop} {Q:Int→Prop} (hF:∀ p q,F p q→Q p→B p q∧Q q) {i j:Nat} {p q:Int} (t:Pth F H s i p j q) (hp:Q p):Q q∧Pth B H s i p j q:=by
 induction t with
 | one hc hh=>exact⟨hp,.one hc hh⟩
 | snoc _ f hc hh ih =>
  obtain⟨h1,h2⟩:=ih
  obtain⟨h3,h4⟩:=hF _ _ f h1
  exact⟨h4,.snoc h2 h3 hc hh⟩
end
def Fits (H:Int→Nat→Bool) (x:Re) (n:Int):Prop:=∀ (i:Nat) f,x.poss[i]?=some f→∀ c,c < 256→H (n + i) c=f c
theorem Fits.left {H:Int→Nat→Bool} {a:Re} {l:List (Nat→Bool)} {x:Re} {n:Int} (hx:x.poss=a.poss++l) (h:Fits H x n):Fits H a n:=by
 intro i f hi
 refine h i f ?_
 rw [hx,List.getElem?_append_left (kA hi).1];exact hi
theorem Fits.right {H:Int→Nat→Bool} {a b x:Re} {n:Int} (hx:x.poss=a.poss++b.poss) (h:Fits H x n):Fits H b (n + a.cnt):=by
 intro i f hi c hc
 have:=h (a.cnt + i) f (by rw [hx,List.getElem?_append_right (by rw [Re.poss_len];omega),Re.poss_len];simpa using hi) c hc
 rw [← this]
 congr 1
 push_cast;omega
def Acc (H:Int→Nat→Bool) (s:List UInt8) (x:Re) (n:Int) (i j:Nat):Prop:=(i=j∧x.emp=true)∨∃ p q,x.first n p∧x.last n q∧Pth (x.fol n) H s i p j q
theorem acc_iff {H:Int→Nat→Bool} {s:List UInt8} (x:Re):∀ (n:Int),Fits H x n→∀ i j,x.m s i j↔Acc H s x n i j:=by
 induction x with
 | set f =>
  intro n hf i j
  have hH:∀ c:UInt8,H n c.toNat=f c.toNat:=λc=>by have:=hf 0 f rfl c.toNat (by have:=c.toNat_lt;omega);simpa using this
  constructor
  ·rintro⟨rfl,c,hc,h⟩
   exact .inr ⟨n,n,rfl,rfl,.one hc (by rw [hH];exact h)⟩
  ·rintro (⟨_,h⟩ | ⟨p,q,h1,h2,t⟩)
   ·cases h
   ·change p=n at h1
    subst h1
    cases t with
    | one hc h=>exact⟨rfl,_,hc,by rw [← hH];exact h⟩
    | snoc _ f _ _=>exact f.elim
 | empty =>
  intro n hf i j
  constructor
  ·intro h;exact .inl ⟨h,rfl⟩
  ·rintro (⟨h,_⟩ | ⟨p,q,h1,_⟩)
   ·exact h
   ·exact h1.elim
 | cat a b iha ihb =>
  intro n hf i j
  have ha:=iha n (hf.left rfl)
  have hb:=ihb (n + a.cnt) (hf.right rfl)
  have ma:∀ p q,a.fol n p q→(Re.cat a b).fol n p q:=λp q h=>.inl (.inl h)
  have mb:∀ p q,b.fol (n + a.cnt) p q→(Re.cat a b).fol n p q:=λp q h=>.inl (.inr h)
  constructor
  ·rintro⟨k,h1,h2⟩
   rcases (ha i k).1 h1 with⟨rfl,e1⟩ | ⟨p,q,f1,l1,t1⟩ <;> rcases (hb _ j).1 h2 with⟨rfl,e2⟩ | ⟨p',q',f2,l2,t2⟩
   ·exact .inl ⟨rfl,by simp [Re.emp,e1,e2]⟩
   ·exact .inr ⟨p',q',.inr ⟨e1,f2⟩,.inl l2,t2.mono mb⟩
   ·exact .inr ⟨p,q,.inl f1,.inr ⟨e2,l1⟩,t1.mono ma⟩
   ·exact .inr ⟨p,q',.inl f1,.inl l2,(t1.mono ma).join (.inr ⟨l1,f2⟩) (t2.mono mb)⟩
  ·rintro (⟨rfl,e⟩ | ⟨p,q,f,l,t⟩)
   ·simp [Re.emp] at e
    exact⟨i,(ha i i).2 (.inl ⟨rfl,e.1⟩),(hb i i).2 (.inl ⟨rfl,e.2⟩)⟩
   ·have hQ:∀ p q,(Re.cat a b).fol n p q→(n + a.cnt≤p)→b.fol (n + a.cnt) p q∧n + a.cnt≤q:=by
     intro p q h hp
     rcases h with (h | h) | ⟨h,h'⟩
     ·have:=Re.fol_in h;omega
     ·exact⟨h,(Re.fol_in h).2.1⟩
     ·have:=Re.last_in h;omega
    rcases f with f | ⟨ea,f⟩
    ·have hP:∀ p q,(Re.cat a b).fol n p q→(p < n + a.cnt)→(a.fol n p q∧q < n + a.cnt)∨((a.last n p∧b.first (n + a.cnt) q)∧n + a.cnt≤q):=by
      intro p q h hp
      rcases h with (h | h) | ⟨h,h'⟩
      ·exact .inl ⟨h,(Re.fol_in h).2.2⟩
      ·have:=Re.fol_in h;omega
      ·exact .inr ⟨⟨h,h'⟩,(Re.first_in h').1⟩
     rcases t.split (P:=λp=>p < n + a.cnt) (Q:=λp=>n + a.cnt≤p) hP hQ (Re.first_in f).2 with⟨h1,t1⟩ | ⟨h1,k,r,r',t1,⟨l1,f2⟩,t2⟩
     ·rcases l with l | ⟨eb,l⟩
      ·have:=Re.last_in l;omega
      ·exact⟨j,(ha i j).2 (.inr ⟨p,q,f,l,t1⟩),(hb j j).2 (.inl ⟨rfl,eb⟩)⟩
     ·rcases l with l | ⟨eb,l⟩
      ·exact⟨k,(ha i k).2 (.inr ⟨p,r,f,l1,t1⟩),(hb k j).2 (.inr ⟨r',q,f2,l,t2⟩)⟩
      ·have:=Re.last_in l;omega
    ·obtain⟨h1,t1⟩:=t.stay (Q:=λp=>n + a.cnt≤p) hQ (Re.first_in f).1
     rcases l with l | ⟨eb,l⟩
     ·exact⟨i,(ha i i).2 (.inl ⟨rfl,ea⟩),(hb i j).2 (.inr ⟨p,q,f,l,t1⟩)⟩
     ·have:=Re.last_in l;omega
 | or a b iha ihb =>
  intro n hf i j
  have ha:=iha n (hf.left rfl)
  have hb:=ihb (n + a.cnt) (hf.right rfl)
  constructor
  ·rintro (h | h)
   ·rcases (ha i j).1 h with⟨rfl,e⟩ | ⟨p,q,f,l,t⟩
    ·exact .inl ⟨rfl,by simp [Re.emp,e]⟩
    ·exact .inr ⟨p,q,.inl f,.inl l,t.mono λ_ _ h=>.inl h⟩
   ·rcases (hb i j).1 h with⟨rfl,e⟩ | ⟨p,q,f,l,t⟩
    ·exact .inl ⟨rfl,by simp [Re.emp,e]⟩
    ·exact .inr ⟨p,q,.inr f,.inr l,t.mono λ_ _ h=>.inr h⟩
  ·rintro (⟨rfl,e⟩ | ⟨p,q,f,l,t⟩)
   ·simp [Re.emp] at e
    rcases e with e | e
    ·exact .inl ((ha i i).2 (.inl ⟨rfl,e⟩))
    ·exact .inr ((hb i i).2 (.inl ⟨rfl,e⟩))
   ·rcases f with f | f
    ·obtain⟨h1,t1⟩:=t.stay (B:=a.fol n) (Q:=λp=>p < n + a.cnt) (λp q h hp=>by
      rcases h with h | h
      ·exact⟨h,(Re.fol_in h).2.2⟩
      ·have:=Re.fol_in h;omega) (Re.first_in f).2
     rcases l with l | l
     ·exact .inl ((ha i j).2 (.inr ⟨p,q,f,l,t1⟩))
     ·have:=Re.last_in l;omega
    ·obtain⟨h1,t1⟩:=t.stay (B:=b.fol (n + a.cnt)) (Q:=λp=>n + a.cnt≤p) (λp q h hp=>by
      rcases h with h | h
      ·have:=Re.fol_in h;omega
      ·exact⟨h,(Re.fol_in h).2.1⟩) (Re.first_in f).1
     rcases l with l | l
     ·have:=Re.last_in l;omega
     ·exact .inr ((hb i j).2 (.inr ⟨p,q,f,l,t1⟩))
 | star a ih =>
  intro n hf i j
  have ha:=ih n (hf.left (l:=[]) (by simp [Re.poss]))
  have hm:∀ p q,a.fol n p q→(Re.star a).fol n p q:=λ_ _ h=>.inl h
  constructor
  ·intro h
   change Clo (a.m s) i j at h
   induction h with
   | refl=>exact .inl ⟨rfl,rfl⟩
   | snoc _ r ih2 =>
    rcases (ha _ _).1 r with⟨rfl,e⟩ | ⟨p',q',f2,l2,t2⟩
    ·exact ih2
    ·rcases ih2 with⟨rfl,_⟩ | ⟨p,q,f1,l1,t1⟩
     ·exact .inr ⟨p',q',f2,l2,t2.mono hm⟩
     ·exact .inr ⟨p,q',f1,l2,t1.join (.inr ⟨l1,f2⟩) (t2.mono hm)⟩
  ·rintro (⟨rfl,_⟩ | ⟨p,q,f,l,t⟩)
   ·exact Clo.refl
   ·have key:∀ {i j:Nat} {p q:Int},Pth ((Re.star a).fol n) H s i p j q→a.first n p→∃ i' p',Clo (a.m s) i i'∧a.first n p'∧Pth (a.fol n) H s i' p' j q:=by
     intro i j p q t f
     induction t with
     | one hc hh=>exact⟨_,_,.refl,f,.one hc hh⟩
     | snoc _ g hc hh ih2 =>
      obtain⟨i',p',h1,h2,h3⟩:=ih2
      rcases g with g | ⟨g1,g2⟩
      ·exact⟨i',p',h1,h2,.snoc h3 g hc hh⟩
      ·exact⟨_,_,.snoc h1 ((ha _ _).2 (.inr ⟨p',_,h2,g1,h3⟩)),g2,.one hc hh⟩
    obtain⟨i',p',h1,h2,h3⟩:=key t f
    exact Clo.snoc h1 ((ha _ _).2 (.inr ⟨p',q,h2,l,h3⟩))
end Go.Fk
end
section
namespace Go.Fk
open Go Go.MapKept
def nowP (fs:List ((Nat→Bool) × Int)) (F:Int→Int→Prop) (k:Kn) (s:List UInt8) (t:Nat) (q:Int):Prop:=∃ p,k.first p∧Pth F (hasAt fs) s 0 p t q
def nextP (fs:List ((Nat→Bool) × Int)) (F:Int→Int→Prop) (k:Kn) (s:List UInt8) (t:Nat) (q:Int):Prop:=(t=0∧k.first q)∨∃ p,nowP fs F k s t p∧F p q
def okP (fs:List ((Nat→Bool) × Int)) (F:Int→Int→Prop) (k:Kn) (s:List UInt8) (t:Nat):Prop:=(t=0∧k.emp=true)∨∃ q,nowP fs F k s t q∧k.last q
section
variable {fs:List ((Nat→Bool) × Int)} {F:Int→Int→Prop} {k:Kn} {s:List UInt8}
theorem nowP_zero {q:Int}:¬ nowP fs F k s 0 q:=λ⟨p,_,t⟩=>by have:=t.lt;omega
theorem nowP_succ {t:Nat} {q:Int} {c:UInt8} (hc:s[t]?=some c):nowP fs F k s (t + 1) q↔nextP fs F k s t q∧hasAt fs q c.toNat=true:=by
 constructor
 ·rintro⟨p,hp,h⟩
  generalize hj:t + 1=j at h
  cases h with
  | one hc' hh =>
   have:t=0:=by omega
   subst this
   rw [hc] at hc';cases hc'
   exact⟨.inl ⟨rfl,hp⟩,hh⟩
  | snoc h' f hc' hh =>
   rename_i j' q0 c'
   have:t=j':=by omega
   subst this
   rw [hc] at hc';cases hc'
   exact⟨.inr ⟨_,⟨p,hp,h'⟩,f⟩,hh⟩
 ·rintro⟨⟨rfl,hp⟩ | ⟨p,⟨p0,hp0,h⟩,f⟩,hh⟩
  ·exact⟨q,hp,.one hc hh⟩
  ·exact⟨p0,hp0,.snoc h f hc hh⟩
theorem nextP_succ {t:Nat} {q:Int}:nextP fs F k s (t + 1) q↔∃ p,nowP fs F k s (t + 1) p∧F p q:=by simp [nextP]
end
theorem IdxStr.get {s:ByteArray} {i:Int} {K:UInt8→Prop} (h0:0≤i) (h1:i < s.size) (hk:∀ c,(bs s)[i.toNat]?=some c→K c):IdxStr s i K:=by
 have hsz:=size_bs s
 have hx:(bs s)[i.toNat]?=some (bs s)[i.toNat]:=kC (by omega)
 refine⟨h0,(bs s)[i.toNat],?_,hk _ hx⟩
 rw [← hx]
 show s[i.toNat]?=s.data.toList[i.toNat]?
 rw [Array.getElem?_toList]
 have:i.toNat < s.size:=by omega
 rw [getElem?_pos s i.toNat this]
 have h2:i.toNat < s.data.size:=this
 rw [getElem?_pos s.data i.toNat h2]
 rfl
theorem run_zero {P:Program} {t:TypeId} {z:Value} (h:((P.info? t).bind λi=>i.zero)=some z) (w:World):(zeroValue t).run P w=.ok z w:=by
 cases hi:P.info? t with
 | none=>rw [hi] at h;cases h
 | some i =>
  rw [hi] at h
  have h:i.zero=some z:=h
  simp [zeroValue,typeInfo,hi,h]
end Go.Fk
end
section
namespace Go.Fk
open Go
abbrev rowObj (t:Ty) (E:TypeId) (xs:List t.T):Obj:=.cells (xs.map t.enc).toArray E (0,0)
theorem Row.sl {t:Ty} {E:TypeId} {xs:List t.T} {w:World} {b n c:Nat} {M:Nat→Prop} (h:w.heap[b]?=some (rowObj t E xs)) (hM:¬ M b) (hn:n=xs.length):SlT t (V M w) ⟨some ⟨b,0,none⟩,n,c⟩ xs :=
 ⟨hn,.inr ⟨b,0,_,_,_,rfl,⟨hM,h⟩,λi x hx=>by simp [hx]⟩⟩
theorem App.make1 {P:Program} {T E:TypeId} {bytes n:Nat} {t:Ty} {z:t.T} {w:World} {k:Sl→World→Prop} (hE:Elem P T E (t.enc z) 1 bytes) (hz:(t.enc z).cells=#[t.enc z]) (hb:bytes * n≤281474976710656) (hn:n≤9223372036854775807)
  (hk:∀ b w',New b (rowObj t E (List.replicate n z)) w w'→k ⟨some ⟨b,0,none⟩,n,n⟩ w'):App P (Instr.makeSlice T (.int .i64 (n:Int)) (.int .i64 (n:Int))) (.one .sl) w k:=by
 obtain⟨i,hi,hzz⟩:=kE hE.inf
 simp only [Prod.mk.injEq] at hzz
 obtain⟨h1,h2,h3⟩:=hzz
 have hr:=run_make (P:=P) w T E i (t.enc z) hE.sl hi h1 .i64 .i64 n n (by omega) (by omega) (by rw [h3];have:=Int.ofNat_le.2 hb;simpa using this) (by have:=Int.ofNat_le.2 hn;simpa using this)
 have e:madeCells (t.enc z).cells ((n:Int).toNat * i.size)=((List.replicate n z).map t.enc).toArray:=by
  rw [hz,h2,Nat.mul_one,Int.toNat_natCast,List.map_replicate]
  rw [← toList_madeCells_one]
 rw [e] at hr
 refine Al.mk (o:=rowObj t E (List.replicate n z)) (w:=w) (k:=λb w'=>b=w.heap.size→App P (Instr.makeSlice T (.int .i64 (n:Int)) (.int .i64 (n:Int))) (.one .sl) w k) (λb w' hb' hbe=>?_) rfl
 refine Al.mk (o:=rowObj t E (List.replicate n z)) (w:=w) (k:=λb w'=>w'=w.alloc (rowObj t E (List.replicate n z))→App P (Instr.makeSlice T (.int .i64 (n:Int)) (.int .i64 (n:Int))) (.one .sl) w k) (λb2 w2 hb2 hbe2=>?_) rfl
 refine⟨⟨some ⟨w.heap.size,0,none⟩,n,n⟩,w2,?_,?_⟩
 ·rw [hbe2]
  simp only [Int.toNat_natCast] at hr
  exact hr
 ·have:=hk b2 w2 hb2
  rw [hb2.eq] at this
  exact this
theorem IdxS.put {t:Ty} {E:TypeId} {xs:List t.T} {w:World} {b n c:Nat} {i:Int} {v:t.T} {k:World→Prop} (h:w.heap[b]?=some (rowObj t E xs)) (h0:0≤i) (h1:i < n) (hn:n=xs.length)
  (hk:∀ w',Upd b (rowObj t E (xs.set i.toNat v)) w w'→k w'):IdxS ⟨some ⟨b,0,none⟩,n,c⟩ i 1 λp=>St p (t.enc v) w k:=by
 refine⟨_,rfl,⟨h0,h1⟩,?_⟩
 rw [add_eq,Nat.mul_one,Nat.zero_add]
 refine St.blk h (by simp;omega) λw' u=>hk w' ?_
 have e:((xs.map t.enc).toArray.setIfInBounds i.toNat (t.enc v))=((xs.set i.toNat v).map t.enc).toArray:=by
  rw [List.map_set];simp
 rw [e] at u
 exact u
abbrev tBool:TypeId:=T.bool
theorem elBool:Elem P T.sl_bool tBool (Ty.bool.enc false) 1 1:=⟨by kernel_rfl,by kernel_rfl,rfl,by decide⟩
theorem elU8:Elem P T.sl_uint8 T.uint8 (.int .u8 0) 1 1:=⟨by kernel_rfl,by kernel_rfl,rfl,by decide⟩
def twoB (x:Int):List Int:=[x % 256,x / 256 % 256]
def txt (xs:List Int):ByteArray:=strOfNums (xs.flatMap twoB)
theorem u8_wrap {x:Int} (h:0≤x):IntKind.wrap .u8 x=x % 256:=by
 have h1:0≤x % 256∧x % 256 < 256:=by omega
 have:IntKind.wrap .u8 (x % 256)=x % 256:=IntWalk.u8_in _ (by omega)
 have e:IntKind.wrap .u8 x=IntKind.wrap .u8 (x % 256):=by
  simp only [IntKind.wrap]
  have hb:IntKind.bits .u8=8:=rfl
  simp [IntKind.signed,hb,BitVec.toNat_ofInt]
  try omega
 rw [e,this]
theorem strOf_inj {xs ys:List Int} (hx:∀ x∈xs,0≤x∧x < 256) (hy:∀ x∈ys,0≤x∧x < 256) (h:strOfNums xs=strOfNums ys):xs=ys:=by
 have h1:xs.map (λn=>UInt8.ofNat n.toNat)=ys.map λn=>UInt8.ofNat n.toNat:=by
  have:=congrArg (λs:ByteArray=>s.data.toList) h
  simpa [strOfNums_data] using this
 have key:∀ (xs ys:List Int),(∀ x∈xs,0≤x∧x < 256)→(∀ x∈ys,0≤x∧x < 256)→xs.map (λn=>UInt8.ofNat n.toNat)=ys.map (λn=>UInt8.ofNat n.toNat)→xs=ys:=by
  intro xs
  induction xs with
  | nil=>intro ys _ _ h;cases ys with | nil=>rfl | cons b l=>simp at h
  | cons a l ih =>
   intro ys hx hy h
   cases ys with
   | nil=>simp at h
   | cons b m =>
    simp only [List.map_cons,List.cons.injEq] at h
    have ha:=hx a (by simp);have hb:=hy b (by simp)
    have e:a=b:=by
     have:=congrArg UInt8.toNat h.1
     simp at this
     omega
    rw [e,ih m (λx hx'=>hx x (by simp [hx'])) (λx hx'=>hy x (by simp [hx'])) h.2]
 exact key xs ys hx hy h1
theorem twoB_in {xs:List Int}:∀ x∈xs.flatMap twoB,0≤x∧x < 256:=by
 intro x hx
 obtain⟨y,_,hy⟩:=List.mem_flatMap.1 hx
 simp [twoB] at hy
 omega
theorem twoB_inj:∀ {xs ys:List Int},(∀ x∈xs,0≤x∧x < 65536)→(∀ x∈ys,0≤x∧x < 65536)→xs.flatMap twoB=ys.flatMap twoB→xs=ys
 | [],[],_,_,_=>rfl
 | [],b::m,_,_,h=>by simp [twoB] at h
 | a::l,[],_,_,h=>by simp [twoB] at h
 | a::l,b::m,hx,hy,h=>by
  simp only [List.flatMap_cons,twoB,List.cons_append,List.nil_append,List.cons.injEq] at h
  have ha:=hx a (by simp);have hb:=hy b (by simp)
  have e:a=b:=by omega
  rw [e,twoB_inj (λx hx'=>hx x (by simp [hx'])) (λx hx'=>hy x (by simp [hx'])) h.2.2]
theorem txt_inj {xs ys:List Int} (hx:∀ x∈xs,0≤x∧x < 65536) (hy:∀ x∈ys,0≤x∧x < 65536) (h:txt xs=txt ys):xs=ys :=
 twoB_inj hx hy (strOf_inj twoB_in twoB_in h)
theorem strTy:P.underlying T.string=some .string:=by kernel_rfl
theorem u8Ty:P.underlying T.uint8=some (.int .u8):=by kernel_rfl
theorem dfa_text_spec {M:Nat→Prop} {w:World} {l:Sl} {xs:List Int} {K:ByteArray→World→Prop} (hl:SlT (.int .i64) (V M w) l xs) (hx:∀ x∈xs,0≤x∧x < 65536) (hlen:xs.length≤1000000)
  (hK:∀ w',Keeps No w w'→K (txt xs) w'):dfa_text.C l w K:=by
 have hn:=hl.1
 refine dfa_text.ok _ _ _ ?_
 simp only [dfa_text.M]
 rw [w64_eq (by omega)]
 obtain⟨i,hi,hzz⟩:=kE elU8.inf
 simp only [Prod.mk.injEq] at hzz
 obtain⟨w1,hr1,ho1,hg1⟩:=run_make_own (P:=P) w w.heap.size T.sl_uint8 T.uint8 i (.int .u8 0) 1 elU8.sl hi hzz.1 hzz.2.1 .i64 .i64 (2 * l.n) (by rw [hzz.2.2];omega) (by have:(9223372036854775807:Nat)=maxLen:=rfl;omega) (Nat.le_refl _)
 refine⟨⟨some ⟨w.heap.size,0,none⟩,0,2 * l.n⟩,w1,by simpa [RTy.enc,Ty.enc] using hr1,?_⟩
 have k1:Keeps No w w1:=(Keeps.of_grown hg1).mono λb _ h=>by cases h
 have z1:=k1.size
 refine Loop.mk (λt w'=>Keeps No w w'∧∃ k:Nat,k≤xs.length∧t.2=(k:Int)∧Own w' w.heap.size T.uint8 1 t.1 (((xs.take k).flatMap twoB).map (Ty.int .u8).enc)) (λt=>xs.length - t.2.toNat) ⟨k1,0,by omega,rfl,by rw [List.take_zero];exact ho1⟩ ?_
 rintro⟨o,kk⟩ w2 ⟨k2,k,hk,hkk,ho⟩ R hR
 dsimp only at hkk ho ⊢
 subst hkk
 refine Br.mk (λht=>?_) (λhf=>?_)
 ·have ht:k < xs.length:=by have:=kG ht;omega
  refine IdxS.get (M:=M) (hl.mono (V.keeps0 k2)) (by omega) (by omega) λx hxk=>⟨by decide,?_⟩
  simp only [Int.toNat_natCast] at hxk
  have hxr:=hx x (kD hxk)
  have e1:IntKind.wrap .u8 x=x % 256:=u8_wrap hxr.1
  have e2:Int.fdiv x (2 ^ min (Int.toNat (8:Int)) (IntKind.bits .i64))=x / 256:=by
   have:min (Int.toNat (8:Int)) (IntKind.bits .i64)=8:=rfl
   rw [this,Int.fdiv_eq_ediv_of_nonneg _ (by decide)]
   rfl
  rw [e1,e2,u8_wrap (Int.ediv_nonneg hxr.1 (by decide))]
  refine Al.mk λb3 w3 n3=>?_
  have e3:=n3.eq
  have hol:=ho.len
  have hfl:∀ ys:List Int,(ys.flatMap twoB).length=2 * ys.length:=by
   intro ys
   induction ys with
   | nil=>rfl
   | cons y ys ih=>simp [List.flatMap_cons,twoB,ih];omega
  simp only [List.length_map,hfl,List.length_take,Nat.mul_one] at hol
  have z2:=k2.size
  refine append_own (news:=[.int .u8 (x % 256),.int .u8 (x / 256 % 256)]) elU8 (ho.keep0 n3.keeps) rfl (λj u hu=>?_) (λu hu=>?_) (by omega) (by omega) (by have:=n3.size;omega) λo' w4 o4 m4 k4 g4=>?_
  ·rcases j with _ | _ | j
   ·simp at hu;subst hu;exact cell_of n3.at_ rfl
   ·simp at hu;subst hu;exact cell_of n3.at_ rfl
   ·simp at hu
  ·simp at hu;rcases hu with rfl | rfl <;> rfl
  ·have e4:w64 ((k:Int) + 1)=((k + 1:Nat):Int):=by rw [w64_eq (by omega)];omega
   rw [e4]
   refine hR _ w4 ⟨((k2.trans n3.keeps).no (M:=No)).then k4 λc hc h=>by have:=(ho.ge h).1;have:c < w.heap.size:=hc;omega,k + 1,by omega,rfl,?_⟩ (by dsimp only;omega)
   rw [List.take_add_one,hxk]
   simpa [twoB,Ty.enc] using o4
 ·have hf:k=xs.length:=by have:=kF hf;omega
  subst hf
  rw [List.take_length] at ho
  have hr:=ho.reads (M:=No) λ_ _ h=>h
  refine⟨txt xs,w2,?_,hK w2 k2⟩
  rcases hr.2 with he | ⟨b,off,cs,E,fr,h1,h2,h3⟩
  ·have hn0:=hr.1
   rw [he] at hn0
   have:txt xs=ByteArray.empty:=by unfold txt;rw [he];rfl
   rw [this]
   have hol:=ho.2
   rcases hol with⟨hv,_⟩ | ⟨g,cap,cur,hv,_⟩
   ·simp only [Sl.val,Value.slice.injEq] at hv
    rw [hv.1,hv.2.1,hv.2.2]
    exact run_convert_bytes_nil w2 T.sl_uint8 T.uint8 elU8.sl u8Ty 0 0 T.string strTy
   ·simp only [Sl.val,Value.slice.injEq] at hv
    rw [hv.1]
    have:=run_convert_bytes_arg (P:=P) w2 T.sl_uint8 T.uint8 elU8.sl u8Ty g 0 0 o.c [] rfl (by omega) T.string strTy
    have hn0:o.n=0:=by simpa using hn0
    rw [hn0]
    exact this
  ·rw [h1]
   refine run_convert_bytes_arg (P:=P) w2 T.sl_uint8 T.uint8 elU8.sl u8Ty b off o.n o.c (xs.flatMap twoB) hr.1.symm (λi hi=>?_) T.string strTy
   have hlt:i < (xs.flatMap twoB).length:=by rw [← hr.1];exact hi
   rw [List.getD_eq_getElem?_getD,kC hlt]
   exact cell_of h2.2 (h3 i _ (kC hlt))
theorem Index_int_spec {M:Nat→Prop} {w:World} {l:Sl} {xs:List Int} {v:Int} {K:Int→World→Prop} (hl:SlT (.int .i64) (V M w) l xs) (hlen:xs.length≤1000000000) (hK:∀ r,(0≤r↔v∈xs)→K r w):slices_Index_int.C l v w K:=by
 have hn:=hl.1
 refine slices_Index_int.ok _ _ _ _ ?_
 simp only [slices_Index_int.M]
 refine Loop.mk (λs w'=>w'=w∧0≤s∧s≤xs.length∧∀ i:Nat,i < s→xs[i]?≠some v) (λs=>(xs.length:Nat) - s.toNat) ⟨rfl,by omega,by omega,λi hi=>by omega⟩ ?_
 rintro s w1 ⟨rfl,h0,h1,h2⟩ R hR
 refine Br.mk (λht=>?_) (λhf=>?_)
 ·have ht:s < xs.length:=by simpa [hn] using ht
  refine IdxS.get (M:=M) hl h0 ht λq hq=>?_
  refine Br.mk (λhz=>?_) (λhz=>?_)
  ·have:v=q:=by simpa using hz
   subst this
   exact hK s ⟨λ_=>kD hq,λ_=>h0⟩
  ·have hne:v≠q:=by simpa using hz
   rw [w64_eq (by omega)]
   refine hR _ _ ⟨rfl,by omega,by omega,λi hi=>?_⟩ (by omega)
   by_cases e:(i:Int)=s
   ·have:s.toNat=i:=by omega
    rw [this] at hq
    rw [hq]
    rintro⟨⟩
    exact hne rfl
   ·exact h2 i (by omega)
 ·have hf:(xs.length:Int)≤s:=by have:=kF hf;omega
  refine hK (-1) ⟨λh=>by omega,λh=>?_⟩
  obtain⟨i,hi⟩:=List.getElem?_of_mem h
  have:=(kA hi).1
  exact absurd hi (h2 i (by omega))
theorem Contains_int_spec {M:Nat→Prop} {w:World} {l:Sl} {xs:List Int} {v:Int} {K:Bool→World→Prop} (hl:SlT (.int .i64) (V M w) l xs) (hlen:xs.length≤1000000000) (hK:∀ b,(b=true↔v∈xs)→K b w):slices_Contains_int.C l v w K:=by
 refine slices_Contains_int.ok _ _ _ _ ?_
 simp only [slices_Contains_int.M]
 exact Index_int_spec hl hlen λr hr=>hK _ (by rw [decide_eq_true_iff];exact hr)
def bits (B:Nat→Bool):List Value:=(List.range 256).map λi=>.bool (B i)
theorem blk_one {l:Sl} {g:Nat} (h:l.a=some ⟨g,0,none⟩) {b:Nat} (hb:l.blk b):b=g:=by
 obtain⟨a,ha,rfl⟩:=hb
 rw [h] at ha;cases ha;rfl
theorem parse_small {s:List UInt8} (h:(parseF s).2.2=0):(parseF s).1.size≤400:=by
 unfold parseF at h ⊢
 generalize orF s 51 ⟨0,false,false,0⟩=r at *
 dsimp only at h ⊢
 split at h
 ·cases h
 ·split at h
  ·cases h
  ·split at h
   ·cases h
   ·rename_i h1 h2 h3
    simp only [h1,h2,h3,if_false]
    simp
    omega
theorem emp_of_cnt {x:Re} (h:x.cnt=0):x.emp=true:=by
 induction x with
 | set f=>simp [Re.cnt] at h
 | empty=>rfl
 | cat a b iha ihb=>simp only [Re.cnt] at h;simp [Re.emp,iha (by omega),ihb (by omega)]
 | or a b iha ihb=>simp only [Re.cnt] at h;simp [Re.emp,iha (by omega)]
 | star a ih=>rfl
theorem first_ne (x:Re):∀ n,0 < x.cnt→∃ p,x.first n p:=by
 induction x with
 | set f=>intro n _;exact⟨n,rfl⟩
 | empty=>intro n h;simp [Re.cnt] at h
 | cat a b iha ihb =>
  intro n h
  simp only [Re.cnt] at h
  by_cases ha:a.cnt=0
  ·obtain⟨p,hp⟩:=ihb (n + a.cnt) (by omega)
   exact⟨p,.inr ⟨emp_of_cnt ha,hp⟩⟩
  ·obtain⟨p,hp⟩:=iha n (by omega)
   exact⟨p,.inl hp⟩
 | or a b iha ihb =>
  intro n h
  simp only [Re.cnt] at h
  by_cases ha:a.cnt=0
  ·obtain⟨p,hp⟩:=ihb (n + a.cnt) (by omega)
   exact⟨p,.inr hp⟩
  ·obtain⟨p,hp⟩:=iha n (by omega)
   exact⟨p,.inl hp⟩
 | star a ih=>intro n h;exact ih n h
theorem last_ne (x:Re):∀ n,0 < x.cnt→∃ p,x.last n p:=by
 induction x with
 | set f=>intro n _;exact⟨n,rfl⟩
 | empty=>intro n h;simp [Re.cnt] at h
 | cat a b iha ihb =>
  intro n h
  simp only [Re.cnt] at h
  by_cases hb:b.cnt=0
  ·obtain⟨p,hp⟩:=iha n (by omega)
   exact⟨p,.inr ⟨emp_of_cnt hb,hp⟩⟩
  ·obtain⟨p,hp⟩:=ihb (n + a.cnt) (by omega)
   exact⟨p,.inl hp⟩
 | or a b iha ihb =>
  intro n h
  simp only [Re.cnt] at h
  by_cases ha:a.cnt=0
  ·obtain⟨p,hp⟩:=ihb (n + a.cnt) (by omega)
   exact⟨p,.inr hp⟩
  ·obtain⟨p,hp⟩:=iha n (by omega)
   exact⟨p,.inl hp⟩
 | star a ih=>intro n h;exact ih n h
theorem poss_get {x:Re} {r:Int} {i:Nat} (h:i < x.cnt) (l:List ((Nat→Bool) × Int)):(((x.poss.map λf=>(f,r))++l)[i]?).map (·.2)=some r:=by
 rw [List.getElem?_append_left (by simp [Re.poss_len,h])]
 rw [List.getElem?_map,kC (by rw [Re.poss_len];exact h)]
 rfl
theorem poss_skip {x:Re} {r:Int} {i:Nat} (h:x.cnt≤i) (l:List ((Nat→Bool) × Int)):((x.poss.map λf=>(f,r))++l)[i]?=l[i - x.cnt]?:=by
 rw [List.getElem?_append_right (by simp [Re.poss_len,h])]
 simp [Re.poss_len]
theorem kn_rule (xs:List Re):∀ (n r:Int) (i:Nat) (k:Kn),(mKs n xs)[i]?=some k→((∃ q,k.first q)↔∃ q,k.last q)∧∀ q,(k.first q∨k.last q)→n≤q∧((mFs r xs)[(q - n).toNat]?).map (·.2)=some (r + i):=by
 induction xs with
 | nil=>intro n r i k h;simp [mKs] at h
 | cons x xs ih =>
  intro n r i k h
  cases i with
  | zero =>
   simp [mKs] at h
   subst h
   refine⟨?_,λq hq=>?_⟩
   ·constructor
    ·rintro⟨q,hq⟩
     have:=Re.first_in hq
     exact last_ne x n (by omega)
    ·rintro⟨q,hq⟩
     have:=Re.last_in hq
     exact first_ne x n (by omega)
   ·have hin:n≤q∧q < n + x.cnt:=by rcases hq with h | h;exact Re.first_in h;exact Re.last_in h
    refine⟨hin.1,?_⟩
    simp only [mFs]
    rw [poss_get (by omega)]
    simp
  | succ i =>
   simp [mKs] at h
   obtain⟨h1,h2⟩:=ih (n + x.cnt) (r + 1) i k h
   refine⟨h1,λq hq=>?_⟩
   obtain⟨h3,h4⟩:=h2 q hq
   refine⟨by omega,?_⟩
   simp only [mFs]
   rw [poss_skip (by omega)]
   have e:(q - n).toNat - x.cnt=(q - (n + x.cnt)).toNat:=by omega
   rw [e,h4]
   congr 1
   omega
theorem fol_rule (xs:List Re):∀ (n r:Int) (p q:Int),mFol n xs p q→n≤p∧n≤q∧((mFs r xs)[(p - n).toNat]?).map (·.2)=((mFs r xs)[(q - n).toNat]?).map (·.2)∧(p - n).toNat < (mFs r xs).length∧(q - n).toNat < (mFs r xs).length:=by
 induction xs with
 | nil=>intro n r p q h;exact h.elim
 | cons x xs ih =>
  intro n r p q h
  simp only [mFol] at h
  have hl:(mFs r (x::xs)).length=x.cnt + (mFs (r + 1) xs).length:=by simp [mFs,Re.poss_len]
  rcases h with h | h
  ·have:=Re.fol_in h
   refine⟨by omega,by omega,?_,by omega,by omega⟩
   simp only [mFs]
   rw [poss_get (by omega),poss_get (by omega)]
  ·obtain⟨h1,h2,h3,h4,h5⟩:=ih (n + x.cnt) (r + 1) p q h
   refine⟨by omega,by omega,?_,by omega,by omega⟩
   simp only [mFs]
   rw [poss_skip (by omega),poss_skip (by omega)]
   have e1:(p - n).toNat - x.cnt=(p - (n + x.cnt)).toNat:=by omega
   have e2:(q - n).toNat - x.cnt=(q - (n + x.cnt)).toNat:=by omega
   rw [e1,e2,h3]
theorem ruleAt_first {xs:List Re} {i q:Int} (h:(knAt (mKs 0 xs) i).first q∨(knAt (mKs 0 xs) i).last q):ruleAt (mFs 0 xs) q=i:=by
 unfold knAt at h
 split at h
 ·rename_i h0
  cases hk:(mKs 0 xs)[i.toNat]? with
  | none=>rw [hk] at h;rcases h with h | h <;> exact h.elim
  | some k =>
   rw [hk] at h
   obtain⟨h1,h2⟩:=(kn_rule xs 0 0 i.toNat k hk).2 q h
   unfold ruleAt
   rw [if_pos h1]
   simp only [Int.sub_zero] at h2
   rw [h2]
   simp;omega
 ·rcases h with h | h <;> exact h.elim
theorem ruleAt_fol {xs:List Re} {p q:Int} (h:mFol 0 xs p q):ruleAt (mFs 0 xs) q=ruleAt (mFs 0 xs) p:=by
 obtain⟨h1,h2,h3,_⟩:=fol_rule xs 0 0 p q h
 simp only [Int.sub_zero] at h3
 unfold ruleAt
 rw [if_pos h1,if_pos h2,h3]
def lastAt (fs : List ((Nat → Bool) × Int)) (ks : List Kn) (p : Int) : Prop := (knAt ks (ruleAt fs p)).last p
def AccOf (fs : List ((Nat → Bool) × Int)) (ks : List Kn) (at_ : List Int) (a : Int) : Prop :=
  (a = -1 ∧ ∀ p ∈ at_, ¬ lastAt fs ks p) ∨ ((0 ≤ a ∧ ∃ p ∈ at_, lastAt fs ks p ∧ ruleAt fs p = a) ∧ ∀ p ∈ at_, lastAt fs ks p → a ≤ ruleAt fs p)
theorem lastAt_pos {fs : List ((Nat → Bool) × Int)} {ks : List Kn} {p : Int} (h : lastAt fs ks p) : 0 ≤ ruleAt fs p := by
  unfold lastAt at h
  refine Decidable.byContradiction fun hn => ?_
  rw [knAt_out (by omega)] at h
  exact h
theorem dfa_accept_spec {M : Nat → Prop} {w : World} {p : Option Addr} {fs : List ((Nat → Bool) × Int)} {F : Int → Int → Prop} {ks : List Kn} {l : Sl} {xs : List Int} {K : Int → World → Prop} (h : MachO (V No w) p fs F ks) (hl : SlT (.int .i64) (V M w) l xs) (hlen : xs.length ≤ 1000000)
    (hK : ∀ a w', Keeps No w w' → AccOf fs ks xs a → K a w') : dfa_accept.C p l w K := by
  have hn := hl.1
  refine dfa_accept.ok _ _ _ _ ?_
  simp only [dfa_accept.M]
  refine Loop.mk (fun t w' => Keeps No w w' ∧ ∃ k : Nat, k ≤ xs.length ∧ t.2 = (k : Int) ∧ AccOf fs ks (xs.take k) t.1) (fun t => xs.length - t.2.toNat) ⟨.refl, 0, by omega, rfl, .inl ⟨rfl, by simp⟩⟩ ?_
  rintro ⟨best, kk⟩ w1 ⟨k1, k, hk, hkk, hacc⟩ R hR
  dsimp only at hkk hacc ⊢
  subst hkk
  refine Br.mk (fun ht => ?_) (fun hf => ?_)
  · have ht : k < xs.length := by have := of_decide_eq_true ht; omega
    refine IdxS.get (M := M) (hl.mono (V.keeps0 k1)) (by omega) (by omega) fun x hx => ?_
    simp only [Int.toNat_natCast] at hx
    have htake : xs.take (k + 1) = xs.take k ++ [x] := by rw [List.take_add_one, hx]; rfl
    have e4 : w64 ((k : Int) + 1) = ((k + 1 : Nat) : Int) := by rw [w64_eq (by omega)]; omega
    refine nfa_Machine_Rule_spec (h.mono (V.keeps0 k1)) fun w2 k2 => ?_
    have k12 := k1.trans k2
    refine Join.cut (fun (b : Bool) w' => Keeps No w w' ∧ (b = true → lastAt fs ks x ∧ (best = -1 ∨ ruleAt fs x < best)) ∧ (b = false → ¬ lastAt fs ks x ∨ (best ≠ -1 ∧ best ≤ ruleAt fs x))) ?_ ?_
    · rintro b w3 ⟨k3, hb1, hb2⟩
      rw [e4]
      refine Br.mk (fun hb => ?_) (fun hb => ?_)
      · obtain ⟨g1, g2⟩ := hb1 hb
        refine hR _ w3 ⟨k3, k + 1, by omega, rfl, ?_⟩ (by dsimp only; omega)
        dsimp only
        rw [htake]
        refine .inr ⟨⟨lastAt_pos g1, x, by simp, g1, rfl⟩, fun q hq hl => ?_⟩
        rcases List.mem_append.1 hq with hq | hq
        · rcases hacc with ⟨_, h1⟩ | ⟨⟨h0, _⟩, h1⟩
          · exact absurd hl (h1 q hq)
          · have := h1 q hq hl; omega
        · simp at hq; subst hq; omega
      · refine hR _ w3 ⟨k3, k + 1, by omega, rfl, ?_⟩ (by dsimp only; omega)
        dsimp only
        rw [htake]
        rcases hb2 hb with g | ⟨g1, g2⟩
        · rcases hacc with ⟨h0, h1⟩ | ⟨⟨h0, q, hq, h1⟩, h2⟩
          · refine .inl ⟨h0, fun q hq => ?_⟩
            rcases List.mem_append.1 hq with hq | hq
            · exact h1 q hq
            · simp at hq; subst hq; exact g
          · refine .inr ⟨⟨h0, q, by simp [hq], h1⟩, fun q hq hl => ?_⟩
            rcases List.mem_append.1 hq with hq | hq
            · exact h2 q hq hl
            · simp at hq; subst hq; exact absurd hl g
        · rcases hacc with ⟨h0, h1⟩ | ⟨⟨h0, q, hq, h1⟩, h2⟩
          · exact absurd h0 g1
          · refine .inr ⟨⟨h0, q, by simp [hq], h1⟩, fun q hq hl => ?_⟩
            rcases List.mem_append.1 hq with hq | hq
            · exact h2 q hq hl
            · simp at hq; subst hq; exact g2
    · intro j hj
      have look : ∀ {k : Bool → World → Prop}, (∀ b w', Keeps No w w' → (b = true ↔ lastAt fs ks x) → k b w') → nfa_Machine_Last.C p (ruleAt fs x) w2 fun x28 w4 => slices_Contains_int.C x28 x w4 k := by
        intro kk hkk
        refine nfa_Machine_Last_spec (h.mono (V.keeps0 k12)) fun l5 ys w5 k5 o5 r5 => ?_
        have hfew := h.few
        have hyl := rising_len r5 fun q hq => by have := h.kin _ q (.inr hq); omega
        refine Contains_int_spec (M := No) (o5.reads fun _ _ h => h) (by omega) fun b hb => hkk b w5 (k12.trans k5) ?_
        rw [hb, r5.2]
        exact Iff.rfl
      refine Br.mk (fun hb => look fun b w' k' hb' => hj b w' ⟨k', fun e => ⟨hb'.1 e, .inl (by simpa using hb)⟩, fun e => .inl fun hl => by rw [hb'.2 hl] at e; cases e⟩) (fun hb => ?_)
      have hb : best ≠ -1 := by simpa using hb
      refine Br.mk (fun hlt => look fun b w' k' hb' => hj b w' ⟨k', fun e => ⟨hb'.1 e, .inr (of_decide_eq_true hlt)⟩, fun e => .inl fun hl => by rw [hb'.2 hl] at e; cases e⟩) (fun hlt => ?_)
      refine hj false w2 ⟨k12, (fun e => by cases e), fun _ => .inr ⟨hb, ?_⟩⟩
      have := of_decide_eq_false hlt
      omega
  · have hf : k = xs.length := by have := of_decide_eq_false hf; omega
    subst hf
    rw [List.take_length] at hacc
    exact hK best w1 k1 hacc
theorem append_none {P : Program} {T T' E size bytes : Nat} {z : Value} {w : World} {l : Sl} {k : Sl → World → Prop} (hE : Elem P T E z size bytes) (hle : l.n ≤ l.c) (hk : k l w) :
    App P (Builtin.append_ #[T, T] T' #[.slice l.a l.n l.c, .slice none 0 0]) (.one .sl) w k := by
  obtain ⟨i, hi, hzz⟩ := Option.map_eq_some_iff.1 hE.inf
  refine ⟨l, w, ?_, hk⟩
  simp only [Prod.mk.injEq] at hzz
  obtain ⟨hz, hs, hb⟩ := hzz
  cases ha : l.a <;> simp [Builtin.append_, run_underlying hE.sl, Go.run_sizeOf w hi, Builtin.lenOf, Builtin.firstCells, Result.andThen, RTy.enc, Ty.enc, hle, storeCells, ha]
theorem Own.le {w : World} {base E size : Nat} {l : Sl} {xs : List Value} (h : Own w base E size l xs) : l.n ≤ l.c := by
  rcases h.2 with ⟨hv, hn⟩ | ⟨g, cap, cur, hv, _, _, hnc, _⟩
  · omega
  · simp only [Sl.val, Value.slice.injEq] at hv
    omega
theorem append_ints {w : World} {base b2 : Nat} {l l2 : Sl} {xs ys : List Int} {k : Sl → World → Prop} (ho : Own w base T.int 1 l (xs.map (Ty.int .i64).enc)) (h2 : Own w b2 T.int 1 l2 (ys.map (Ty.int .i64).enc)) (hlen : xs.length + ys.length ≤ 1000000000) (hbase : base ≤ w.heap.size)
    (hk : ∀ l' w', Own w' base T.int 1 l' ((xs ++ ys).map (Ty.int .i64).enc) → Keeps l.blk w w' → (∀ c, l'.blk c → l.blk c ∨ w.heap.size ≤ c) → k l' w') :
    App P (Builtin.append_ #[T.sl_int, T.sl_int] T.sl_int #[.slice l.a l.n l.c, .slice l2.a l2.n l2.c]) (.one .sl) w k := by
  have hl := ho.len; have hl2 := h2.len
  simp at hl hl2
  rcases h2.2 with ⟨hv, hn⟩ | ⟨g, cap, cur, hv, hge, hg, hnc, hcm, hcs, htake⟩
  · simp only [Sl.val, Value.slice.injEq] at hv
    obtain ⟨e1, e2, e3⟩ := hv
    have hy : ys = [] := List.eq_nil_of_length_eq_zero (by omega)
    subst hy
    rw [e1, e2, e3]
    exact append_none elInt ho.le (hk l w (by simpa using ho) .refl fun c hc => .inl hc)
  · simp only [Sl.val, Value.slice.injEq] at hv
    rw [hv.1]
    refine append_own (news := ys.map (Ty.int .i64).enc) elInt ho (by simp; omega) (fun j u hu => ?_) (fun u hu => by obtain ⟨y, _, rfl⟩ := List.mem_map.1 hu; rfl) (by omega) (by omega) hbase fun l' w' o' n' k' g' => ?_
    · rw [Nat.zero_add]
      refine cell_of hg ?_
      have hjl : j < ys.length := by have := (List.getElem?_eq_some_iff.1 hu).1; simpa using this
      rw [← htake] at hu
      rw [List.getElem?_take] at hu
      split at hu
      · simpa using hu
      · cases hu
    · refine hk l' w' (by simpa using o') k' fun c hc => ?_
      rcases g' with ⟨h1, _⟩ | ⟨g2, h1, h3⟩
      · obtain ⟨a, ha, _⟩ := hc; rw [h1] at ha; cases ha
      · obtain ⟨a, ha, rfl⟩ := hc
        rw [h1] at ha; cases ha
        exact h3
theorem compact_sorted {d : Array Int} (hs : ∀ i j, i ≤ j → j < d.size → d[i]! ≤ d[j]!) : ∀ m, m ≤ d.size → (Lib.compactUpTo d m).Pairwise (· < ·) ∧ ∀ x, x ∈ Lib.compactUpTo d m ↔ ∃ j, j < m ∧ d[j]! = x := by
  intro m
  induction m with
  | zero => intro _; simp [Lib.compactUpTo]
  | succ m ih =>
    intro hm
    obtain ⟨h1, h2⟩ := ih (by omega)
    rw [Lib.compactUpTo_succ]
    by_cases hk : Lib.keeps d m = true
    · rw [if_pos hk]
      refine ⟨?_, fun x => ?_⟩
      · rw [List.pairwise_append]
        refine ⟨h1, by simp, fun a ha b hb => ?_⟩
        simp at hb; subst hb
        obtain ⟨j, hj, rfl⟩ := (h2 a).1 ha
        have hne : d[m]! ≠ d[m - 1]! := by
          simp only [Lib.keeps, decide_eq_true_eq] at hk
          rcases hk with hk | hk
          · omega
          · exact hk
        have e1 := hs j (m - 1) (by omega) (by omega)
        have e2 := hs (m - 1) m (by omega) (by omega)
        omega
      · rw [List.mem_append, h2]
        constructor
        · rintro (⟨j, hj, rfl⟩ | h)
          · exact ⟨j, by omega, rfl⟩
          · simp at h; subst h; exact ⟨m, by omega, rfl⟩
        · rintro ⟨j, hj, rfl⟩
          by_cases e : j = m
          · subst e; exact .inr (by simp)
          · exact .inl ⟨j, by omega, rfl⟩
    · rw [if_neg hk, List.append_nil]
      refine ⟨h1, fun x => ?_⟩
      rw [h2]
      have hk : Lib.keeps d m = false := by simpa using hk
      have heq : m ≠ 0 ∧ d[m]! = d[m - 1]! := by
        simp only [Lib.keeps, decide_eq_false_iff_not, not_or, Classical.not_not] at hk
        exact hk
      constructor
      · rintro ⟨j, hj, rfl⟩; exact ⟨j, by omega, rfl⟩
      · rintro ⟨j, hj, rfl⟩
        by_cases e : j = m
        · subst e; exact ⟨j - 1, by omega, heq.2.symm⟩
        · exact ⟨j, by omega, rfl⟩
theorem compact_rising {zs : List Int} (hs : zs.Pairwise (· ≤ ·)) : (Lib.compact zs).Pairwise (· < ·) ∧ ∀ x, x ∈ Lib.compact zs ↔ x ∈ zs := by
  have hg : ∀ i, i < zs.length → zs.toArray[i]! = zs.getD i 0 := fun i hi => by simp [hi, List.getD]
  have := compact_sorted (d := zs.toArray) (fun i j hij hj => by
    have hj : j < zs.length := by simpa using hj
    rw [hg i (by omega), hg j hj]
    by_cases e : i = j
    · subst e; exact Int.le_refl _
    · rw [List.pairwise_iff_getElem] at hs
      have := hs i j (by omega) hj (by omega)
      simpa [List.getD, List.getElem?_eq_getElem hj, List.getElem?_eq_getElem (show i < zs.length by omega)] using this) zs.length (by simp)
  refine ⟨this.1, fun x => ?_⟩
  rw [show Lib.compact zs = Lib.compactUpTo zs.toArray zs.length from rfl, this.2]
  constructor
  · rintro ⟨j, hj, rfl⟩
    rw [hg j hj]
    simp [List.getD, List.getElem?_eq_getElem hj]
  · intro hx
    obtain ⟨j, hj⟩ := List.getElem?_of_mem hx
    have hlt := (List.getElem?_eq_some_iff.1 hj).1
    exact ⟨j, hlt, by rw [hg j hlt]; simp [List.getD, hj]⟩
theorem grow_nil (w:World):Sort.grow w #[]=w:=by simp [Sort.grow]
theorem sort_compact {w:World} {base:Nat} {l:Sl} {zs:List Int} {K:Sl→World→Prop} (ho:Own w base T.int 1 l (zs.map (Ty.int .i64).enc)) (hlen:zs.length≤1000000000)
  (hK:∀ l' (ys:List Int) w',Keeps l.blk w w'→Own w' base T.int 1 l' (ys.map (Ty.int .i64).enc)→ys.Pairwise (· < ·)→(∀ x,x∈ys↔x∈zs)→K l' w'):slices_Sort.C l w λ_ w5=>slices_Compact_int.C l w5 λx w6=>K x w6:=by
 have hl:=ho.len
 simp at hl
 rcases ho.2 with⟨hv,hn⟩ | ⟨g,cap,cur,hv,hge,hg,hnc,hcm,hcs,htake⟩
 ·simp only [Sl.val,Value.slice.injEq] at hv
  obtain⟨e1,e2,e3⟩:=hv
  have hz:zs=[]:=List.eq_nil_of_length_eq_zero (by omega)
  subst hz
  have el:l=⟨none,0,0⟩:=by cases l;simp_all
  subst el
  refine Calls.mono (Go.Proofs.Tryz.slices_Sort_int_none none 0 w) ?_
  rintro e w1 ⟨rfl,rfl⟩
  refine⟨(),rfl,?_⟩
  refine Calls.mono (Go.Proofs.Tryz.slices_Compact_int_empty none 0 w1) ?_
  rintro e w2 ⟨rfl,rfl⟩
  exact⟨⟨none,0,0⟩,rfl,hK _ [] w2 .refl (by simpa using ho) .nil λx=>Iff.rfl⟩
 ·simp only [Sl.val,Value.slice.injEq] at hv
  obtain⟨e1,e2,e3⟩:=hv
  have el:l=⟨some ⟨g,0,none⟩,zs.length,cap⟩:=by cases l;simp_all
  rw [hl.symm] at htake hnc
  subst el
  have hblk:∀ b,(some g=some b)→Sl.blk ⟨some ⟨g,0,none⟩,zs.length,cap⟩ b:=by rintro b ⟨⟩;exact⟨_,rfl,rfl⟩
  have ht:cur.toList.take zs.length=zs.map (Value.int .i64):=by
   simp only [Nat.mul_one] at htake
   exact htake
  have hcs':zs.length≤cur.size:=by omega
  have hb31:zs.length < 4611686018427387904:=by omega
  refine Calls.mono (Go.Proofs.Tryz.slices_Sort_int g 0 cap zs w (holds_of_blockI hg ht) (lt_of_some hg) hb31) ?_
  rintro e w1 ⟨rfl,n,os,rfl⟩
  refine⟨(),rfl,?_⟩
  generalize hs:zs.mergeSort (λx y=>decide (x≤y))=ss
  have hperm:ss.Perm zs:=hs ▸ List.mergeSort_perm zs _
  have hsl:ss.length=zs.length:=hperm.length_eq
  have hsorted:ss.Pairwise (·≤·):=by
   have h1:=List.pairwise_mergeSort (le:=λx y:Int=>decide (x≤y)) (λa b c h1 h2=>by simp only [decide_eq_true_eq] at *;omega) (λa b=>by simp only [Bool.or_eq_true,decide_eq_true_eq];omega) zs
   rw [hs] at h1
   exact h1.imp λh=>by simpa using h
  have hb1:=heap_sortedI (n:=n) (os:=os) ss.toArray hg
  have k1:Keeps (λb=>some g=some b) w (Sort.grow (Sort.putRow (Value.int .i64) (Sort.ahead w n) g 0 ss.toArray) os):=Keeps.of_grown (grownBy_sortedI _)
  generalize Sort.grow (Sort.putRow (Value.int .i64) (Sort.ahead w n) g 0 ss.toArray) os=w1 at *
  have ht1:=take_putCellsI cur ss (by omega)
  have hc:slices_Compact_int.C ⟨some ⟨g,0,none⟩,ss.length,cap⟩ w1 λx w6=>K x w6:=by
   refine Calls.mono (Go.Proofs.Tryz.slices_Compact_int g 0 cap ss w1 (holds_of_blockI hb1 ht1) (by omega) (by omega)) ?_
   rintro e w2 ⟨rfl,q,rfl⟩
   refine⟨⟨some ⟨g,0,none⟩,(Lib.compact ss).length,cap⟩,rfl,?_⟩
   obtain⟨r1,r2⟩:=compact_rising hsorted
   have hcl:(Lib.compact ss).length≤ss.length:=by
    unfold Lib.compact Lib.compactUpTo
    rw [List.length_map]
    exact Nat.le_trans (List.length_filter_le _ _) (by simp)
   generalize hd:Lib.compact ss++List.replicate (ss.length - (Lib.compact ss).length) 0=d2
   have hdl:d2.length=ss.length:=by rw [← hd];simp;omega
   have hb2:=heap_sortedI (n:=q) (os:=#[]) d2.toArray hb1
   have k2:Keeps (λb=>some g=some b) w1 (Sort.grow (Sort.putRow (Value.int .i64) (Sort.ahead w1 q) g 0 d2.toArray) #[]):=Keeps.of_grown (grownBy_sortedI _)
   rw [grow_nil] at hb2 k2
   generalize Sort.putRow (Value.int .i64) (Sort.ahead w1 q) g 0 d2.toArray=w2 at *
   have ht2:=take_putCellsI (Sort.putCells (Value.int .i64) 0 ss.toArray cur) d2 (by simp [Sort.putCells];omega)
   refine hK _ (Lib.compact ss) w2 ((k1.trans k2).mono λb _ h=>hblk b h) ⟨by simp,.inr ⟨g,cap,_,rfl,hge,hb2,by show (Lib.compact ss).length≤cap;omega,hcm,by simp [Sort.putCells,hcs],?_⟩⟩ r1 λx=>by rw [r2];exact hperm.mem_iff
   rw [Nat.mul_one]
   have:List.take (Lib.compact ss).length (List.take d2.length (Sort.putCells (Value.int .i64) 0 d2.toArray (Sort.putCells (Value.int .i64) 0 ss.toArray cur)).toList)=List.take (Lib.compact ss).length (d2.map (Value.int .i64)):=by rw [ht2]
   rw [List.take_take,Nat.min_eq_left (by omega)] at this
   rw [this,← hd,List.map_append,List.take_left' (by simp)]
   rfl
  rw [hsl] at hc
  exact hc
def nextSet (fs:List ((Nat→Bool) × Int)) (F:Int→Int→Prop) (ks:List Kn) (at_:List Int) (q:Int):Prop:=(at_=[]∧∃ r:Nat,r < ks.length∧(knAt ks r).first q)∨∃ p∈at_,F p q
theorem dfa_behind_spec {M:Nat→Prop} {w:World} {p:Option Addr} {fs:List ((Nat→Bool) × Int)} {F:Int→Int→Prop} {ks:List Kn} {l:Sl} {xs:List Int} {K:Sl→World→Prop} (h:MachO (V No w) p fs F ks) (hl:SlT (.int .i64) (V M w) l xs) (hnil:l.a.isNone=true↔xs=[]) (hin:∀ x∈xs,0≤x∧x < fs.length)
  (hlen:xs.length≤2000) (hks:ks.length≤2000) (hK:∀ l' (ys:List Int) w',Keeps No w w'→Own w' w.heap.size T.int 1 l' (ys.map (Ty.int .i64).enc)→Rising ys (nextSet fs F ks xs)→K l' w'):dfa_behind.C p l w K:=by
 have hn:=hl.1
 have hfew:=h.few
 refine dfa_behind.ok _ _ _ _ ?_
 simp only [dfa_behind.M]
 refine Join.cut (λ(o:Sl) w'=>Keeps No w w'∧∃ zs:List Int,Own w' w.heap.size T.int 1 o (zs.map (Ty.int .i64).enc)∧zs.length≤10000000∧∀ q,q∈zs↔xs=[]∧∃ r:Nat,r < ks.length∧(knAt ks r).first q) ?_ ?_
 ·rintro o w1 ⟨k1,zs,ho,hzl,hz⟩
  refine Loop.mk (λt w'=>Keeps No w w'∧∃ (k:Nat) (ys:List Int),k≤xs.length∧t.2=(k:Int)∧Own w' w.heap.size T.int 1 t.1 (ys.map (Ty.int .i64).enc)∧ys.length≤10000000 + k * 2000∧∀ q,q∈ys↔(q∈zs∨∃ p∈xs.take k,F p q)) (λt=>xs.length - t.2.toNat) ⟨k1,0,zs,by omega,rfl,ho,by omega,by simp⟩ ?_
  rintro⟨o2,kk⟩ w2 ⟨k2,k,ys,hk,hkk,ho2,hyl,hy⟩ R hR
  dsimp only at hkk ho2 ⊢
  subst hkk
  refine Br.mk (λht=>?_) (λhf=>?_)
  ·have ht:k < xs.length:=by have:=kG ht;omega
   refine IdxS.get (M:=M) (hl.mono (V.keeps0 k2)) (by omega) (by omega) λx hx=>?_
   simp only [Int.toNat_natCast] at hx
   have hxin:=hin x (kD hx)
   refine nfa_Machine_Follow_spec (h.mono (V.keeps0 k2)) λl3 us w3 k3 o3 r3=>?_
   have hul:us.length≤2000:=nodup_bound 2000 us (r3.1.imp λ{a b} h e=>by omega) λq hq=>by
    have:=(r3.2 q).1 hq
    have:=h.fin this.1 this.2;omega
   have z2:=(k2.trans k3).size
   refine append_ints (ho2.keep0 k3) o3 (by omega) z2 λl4 w4 o4 k4 _=>?_
   have e4:w64 ((k:Int) + 1)=((k + 1:Nat):Int):=by rw [w64_eq (by omega)];omega
   rw [e4]
   refine hR _ w4 ⟨((k2.trans k3).no (M:=No)).then k4 λc hc hb=>by have:=(ho2.ge hb).1;have:c < w.heap.size:=hc;omega,k + 1,ys++us,by omega,rfl,o4,by simp;omega,λq=>?_⟩ (by dsimp only;omega)
   rw [List.mem_append,hy,r3.2,List.take_add_one,hx]
   constructor
   ·rintro ((h1 | ⟨p,h1,h2⟩) | ⟨_,h1⟩)
    ·exact .inl h1
    ·exact .inr ⟨p,by simp [h1],h2⟩
    ·exact .inr ⟨x,by simp,h1⟩
   ·rintro (h1 | ⟨p,h1,h2⟩)
    ·exact .inl (.inl h1)
    ·rcases List.mem_append.1 h1 with h1 | h1
     ·exact .inl (.inr ⟨p,h1,h2⟩)
     ·simp at h1;subst h1;exact .inr ⟨hxin,h2⟩
  ·have hf:k=xs.length:=by have:=kF hf;omega
   subst hf
   refine sort_compact ho2 (by omega) λl' vs w' k' o' r1 r2=>?_
   refine hK l' vs w' ((k2.no (M:=No)).then k' λc hc hb=>by have:=(ho2.ge hb).1;have:c < w.heap.size:=hc;omega) o' ⟨r1,λq=>?_⟩
   rw [r2,hy,List.take_length,hz]
   rfl
 ·intro j hj
  refine Br.mk (λhb=>?_) (λhb=>?_)
  ·have hx:=hnil.1 hb
   refine nfa_Machine_Rules_spec h ?_
   refine Loop.mk (λt w'=>Keeps No w w'∧∃ (k:Nat) (ys:List Int),k≤ks.length∧t.2=(k:Int)∧Own w' w.heap.size T.int 1 t.1 (ys.map (Ty.int .i64).enc)∧ys.length≤k * 2000∧∀ q,q∈ys↔∃ r:Nat,r < k∧(knAt ks r).first q) (λt=>ks.length - t.2.toNat) ⟨.refl,0,[],by omega,rfl,Own.nil _ _ _ _,by simp,by simp⟩ ?_
   rintro⟨o2,kk⟩ w2 ⟨k2,k,ys,hk,hkk,ho2,hyl,hy⟩ R hR
   dsimp only at hkk ho2 ⊢
   subst hkk
   refine Br.mk (λht=>?_) (λhf=>?_)
   ·have ht:k < ks.length:=by have:=kG ht;omega
    refine nfa_Machine_First_spec (h.mono (V.keeps0 k2)) λl3 us w3 k3 o3 r3=>?_
    have hul:us.length≤2000:=nodup_bound 2000 us (r3.1.imp λ{a b} h e=>by omega) λq hq=>by
     have:=h.kin k q (.inl ((r3.2 q).1 hq));omega
    have z2:=(k2.trans k3).size
    refine append_ints (ho2.keep0 k3) o3 (by omega) z2 λl4 w4 o4 k4 _=>?_
    have e4:w64 ((k:Int) + 1)=((k + 1:Nat):Int):=by rw [w64_eq (by omega)];omega
    rw [e4]
    refine hR _ w4 ⟨((k2.trans k3).no (M:=No)).then k4 λc hc hb=>by have:=(ho2.ge hb).1;have:c < w.heap.size:=hc;omega,k + 1,ys++us,by omega,rfl,o4,by simp;omega,λq=>?_⟩ (by dsimp only;omega)
    rw [List.mem_append,hy,r3.2]
    constructor
    ·rintro (⟨r,h1,h2⟩ | h1)
     ·exact⟨r,by omega,h2⟩
     ·exact⟨k,by omega,h1⟩
    ·rintro⟨r,h1,h2⟩
     by_cases e:r=k
     ·subst e;exact .inr h2
     ·exact .inl ⟨r,by omega,h2⟩
   ·have hf:k=ks.length:=by have:=kF hf;omega
    subst hf
    exact hj _ w2 ⟨k2,ys,ho2,by omega,λq=>by rw [hy];simp [hx]⟩
  ·have hx:xs≠[]:=λe=>by rw [hnil.2 e] at hb;cases hb
   exact hj _ w ⟨.refl,[],Own.nil _ _ _ _,by simp,λq=>by simp [hx]⟩
end Go.Fk
end
section
namespace Go.Fk
open Go Go.MapKept Go.Maps
open Go.ChangeMaps (setBlock)
theorem encB (b:Bool):(Ty.bool).enc b=.bool b:=rfl
section
variable {P:Program} {T kT vT:TypeId} {kt vt:Ty} {H H':View} {m:Nat} {R R':kt.T→vt.T→Prop}
theorem App.look2 (hT:MapTy P T kT vT kt vt) {w:World} {M:Nat→Prop} {mo:Option Nat} {x:kt.T} {z:vt.T} {K:(vt.T × Bool)→World→Prop} (hz:(zeroValue vT).run P w=.ok (vt.enc z) w)
  (h:MapO P kT kt vt (V M w) mo R) (hk:OkKey P kT (kt.enc x)) (h1:∀ y,R x y→K (y,true) w) (h0:(∀ y,¬ R x y)→K (z,false) w) :
  App P (Instr.lookup T (.map mo) (kt.enc x) true) (.tup [.one vt,.one .bool]) w K:=by
 obtain⟨lx,hlx⟩:=hk
 cases mo with
 | none =>
  refine⟨(z,false),w,?_,h0 λy'=>h x y'⟩
  rcases hT.keyed.find w hlx [] (by simp) with⟨g1,_⟩ | ⟨j,e0,_,h2,_⟩
  ·simp [Instr.lookup,run_underlying hT.ty,hT.keyed.check w true hlx,g1,hz,Result.andThen,RTy.enc,RTy.encs,encB]
  ·simp at h2
 | some m =>
  obtain⟨es,clock,⟨_,hb⟩,hs,h3,h4⟩:=h
  rcases hT.keyed.find w hlx es.toList (λe he=>(h3 e he).1) with⟨g1,h2⟩ | ⟨j,e0,g1,h2,h5⟩
  ·refine⟨(z,false),w,?_,h0 λy' hr=>?_⟩
   ·simp [Instr.lookup,run_underlying hT.ty,MapKept.run_getObj_map hb,hT.keyed.check w _ hlx,g1,hz,Result.andThen,RTy.enc,RTy.encs,encB]
   ·obtain⟨e,he,h6,_⟩:=h4 x y' hr
    exact h2 e he h6
  ·obtain⟨_,x',y',h7,h8,h9⟩:=h3 e0 (kD h2)
   have hx:x'=x:=Ty.enc_inj (h7.symm.trans h5)
   subst hx
   refine⟨(y',true),w,?_,h1 y' h9⟩
   simp [Instr.lookup,run_underlying hT.ty,MapKept.run_getObj_map hb,hT.keyed.check w _ hlx,g1,Result.andThen,RTy.enc,RTy.encs,encB,h8]
def MapSz (w:World) (m n:Nat):Prop:=∃ es clock,w.heap[m]?=some (.map es clock)∧es.size=n
theorem MapSz.keep {N:Nat→Prop} {w w':World} {n:Nat} (h:MapSz w m n) (hk:Keeps N w w') (hn:¬ N m):MapSz w' m n:=by
 obtain⟨es,clock,h1,h2⟩:=h
 exact⟨es,clock,hk.blk h1 hn,h2⟩
theorem App.len (hT:P.underlying T=some (.map kT vT)) {T':TypeId} {w:World} {n:Nat} {K:Int→World→Prop} (h:MapSz w m n) (hK:K n w):App P (Builtin.len_ #[T] T' #[.map (some m)]) (.one (.int .i64)) w K:=by
 obtain⟨es,clock,h1,h2⟩:=h
 refine⟨(n:Int),w,?_,hK⟩
 simp [Builtin.len_,run_underlying hT,MapKept.run_getObj_map h1,Result.andThen,RTy.enc,Ty.enc,goInt,h2]
theorem AppS.len (hT:P.underlying T=some (.map kT vT)) {T':TypeId} {S:World→Prop} {n:Nat} {K:Int→Prop} (h:∀ w,S w→MapSz w m n) (hK:K n):AppS P S (Builtin.len_ #[T] T' #[.map (some m)]) (.one (.int .i64)) K:=by
 refine⟨(n:Int),λw hw=>?_,hK⟩
 obtain⟨es,clock,h1,h2⟩:=h w hw
 simp [Builtin.len_,run_underlying hT,MapKept.run_getObj_map h1,Result.andThen,RTy.enc,Ty.enc,goInt,h2]
theorem App0.putNew (hT:MapTy P T kT vT kt vt) {w:World} {x:kt.T} {y:vt.T} {K:World→Prop} {M:Nat→Prop} {n:Nat} (h:MapAt P kT kt vt (V M w) m R) (hsz:MapSz w m n) (hk:OkKey P kT (kt.enc x)) (hnew:∀ y',¬ R x y')
  (hK:∀ w',Keeps (·=m) w w'→w'.heap.size=w.heap.size→MapAt P kT kt vt (V M w') m (λa b=>(a=x∧b=y)∨(a≠x∧R a b))→MapSz w' m (n + 1)→K w') :
  App0 P (Instr.mapUpdate T (.map (some m)) (kt.enc x) (vt.enc y)) w K:=by
 obtain⟨es,clock,⟨hM,hb⟩,hs,h3,h4⟩:=h
 obtain⟨es',clock',hb',hn⟩:=hsz
 rw [hb] at hb'
 cases hb'
 obtain⟨lx,hlx⟩:=hk
 rcases hT.keyed.find w hlx es.toList (λe he=>(h3 e he).1) with⟨h1,h2⟩ | ⟨j,e0,h1,h2,h5⟩
 ·have hu:=keepsSetBlock hb (.map (es.push ⟨kt.enc x,vt.enc y,clock⟩) (clock + 1))
  refine⟨setBlock w m (.map (es.push ⟨kt.enc x,vt.enc y,clock⟩) (clock + 1)),?_,hK _ hu.keeps hu.size ?_ ⟨_,_,hu.at_,by simp [hn]⟩⟩
  ·simp [Instr.mapUpdate,run_underlying hT.ty,MapKept.run_getObj_map hb,hT.keyed.check w false hlx,h1,MapKept.run_setObj_map _ hb,Result.andThen,setBlock]
  ·refine⟨_,_,⟨hM,hu.at_⟩,stamped_push hs h2,?_,?_⟩
   ·intro e he
    simp only [Array.toList_push,List.mem_append,List.mem_singleton] at he
    rcases he with he | rfl
    ·obtain⟨h6,x',y',h7,h8,h9⟩:=h3 e he
     exact⟨h6,x',y',h7,h8,.inr ⟨λe1=>h2 e he (by rw [h7,e1]),h9⟩⟩
    ·exact⟨⟨lx,hlx⟩,x,y,rfl,rfl,.inl ⟨rfl,rfl⟩⟩
   ·rintro a b (⟨rfl,rfl⟩ | ⟨ha,hr⟩)
    ·exact⟨⟨kt.enc a,vt.enc b,clock⟩,by simp,rfl,rfl⟩
    ·obtain⟨e,he,h6,h7⟩:=h4 a b hr
     exact⟨e,by simp;exact .inl (by simpa using he),h6,h7⟩
 ·obtain⟨_,x',y',h7,h8,h9⟩:=h3 e0 (kD h2)
  have hx:x'=x:=Ty.enc_inj (h7.symm.trans h5)
  subst hx
  exact absurd h9 (hnew y')
theorem MapSz.empty {w:World} {b:Nat} (h:w.heap[b]?=some (.map #[] 0)):MapSz w b 0:=⟨_,_,h,rfl⟩
end
end Go.Fk
end
section
namespace Go.Fk
open Go Go.MapKept Go.Maps Go.ChangeMaps
theorem App.buildG {T:TypeId} {w:World} {parts:Array (Nat × Value)} {cs:Array Value} {K:Array Value→World→Prop} (h:P.built T parts.toList=some cs) (hK:K cs w):App P (Instr.build T parts) .big w K :=
 ⟨cs,w,run_build w _ parts cs h,hK⟩
theorem AppS.buildG {T:TypeId} {S:World→Prop} {parts:Array (Nat × Value)} {cs:Array Value} {K:Array Value→Prop} (h:P.built T parts.toList=some cs) (hK:K cs):AppS P S (Instr.build T parts) .big K :=
 ⟨cs,λw _=>run_build w _ parts cs h,hK⟩
theorem App.slice1G {Tsl T:TypeId} {sz bytes:Nat} {z:Array Value} (hE:Elem P Tsl T (.agg z) sz bytes) {w:World} {c:Array Value} {K:Sl→World→Prop} (hc:c.size=sz) (hs1:sz≤100000) (hb1:bytes≤1000000)
  (hK:∀ b w',New b (.cells c T (0,0)) w w'→K ⟨some ⟨b,0,none⟩,1,1⟩ w'):App P (Instr.buildSlice Tsl 1 #[(0,.agg c)]) (.one .sl) w K:=by
 obtain⟨i,hi,hzz⟩:=kE hE.inf
 simp only [Prod.mk.injEq] at hzz
 obtain⟨hz,hs,hb⟩:=hzz
 have hpos:=hE.pos
 have hf:=Go.Great.fill_whole (s:=sz) hpos [Value.agg c] ((Array.range (1 * sz)).map ((Value.agg z).cells[· % (Value.agg z).cells.size]!)) (λv hv=>by simp at hv;subst hv;simp [Value.cells,hc]) (by simp)
 have e:[Value.agg c].flatMap (λv=>v.cells.toList)=c.toList:=by simp [Value.cells]
 rw [e] at hf
 refine Al.mk (o:=.cells c T) (w:=w) (k:=λb w'=>b=w.heap.size→App P (Instr.buildSlice Tsl 1 #[(0,.agg c)]) (.one .sl) w K) (λb w' hb' hbe=>?_) rfl
 refine Al.mk (o:=.cells c T) (w:=w) (k:=λb w'=>w'=w.alloc (.cells c T)→App P (Instr.buildSlice Tsl 1 #[(0,.agg c)]) (.one .sl) w K) (λb2 w2 hb2 hbe2=>?_) rfl
 refine⟨⟨some ⟨w.heap.size,0,none⟩,1,1⟩,w2,?_,?_⟩
 ·rw [hbe2]
  refine run_buildSlice w _ _ 1 _ _ i _ hE.sl hi hz (by rw [hs];omega) (by rw [hs];omega) ?_
  rw [hs]
  simpa using hf
 ·have:=hK b2 w2 hb2
  rw [hb2.eq] at this
  exact this
def row256 (f:Nat→Int):List Value:=(List.range 256).map λi=>.int .i64 (f i)
theorem row256_len (f:Nat→Int):(row256 f).length=256:=by simp [row256]
theorem row256_get {f:Nat→Int} {i:Nat} (h:i < 256):(row256 f)[i]?=some (.int .i64 (f i)):=by simp [row256,h]
theorem row256_set {f:Nat→Int} {i:Nat} {v:Int} (h:i < 256):(row256 f).set i (.int .i64 v)=row256 λj=>if j=i then v else f j:=by
 refine List.ext_getElem? λj=>?_
 rw [List.getElem?_set,row256_len]
 by_cases hj:j < 256
 ·rw [row256_get hj,row256_get hj]
  by_cases e:i=j
  ·subst e;simp [h]
  ·simp [e,Ne.symm e]
 ·have e1:∀ g:Nat→Int,(row256 g)[j]?=none:=λg=>List.getElem?_eq_none (by rw [row256_len];omega)
  rw [e1,e1]
  have:i≠j:=by omega
  simp [this]
structure DSt where
 at_:Sl
 xs:List Int
 nx:Nat→Int
 acc:Int
def DSt.cells (v:DSt):List Value:=.slice v.at_.a v.at_.n v.at_.c::(row256 v.nx++[.int .i64 v.acc])
theorem DSt.len (v:DSt):v.cells.length=258:=by simp [DSt.cells,row256_len]
theorem DSt.lens {svs:List DSt}:∀ c∈svs.map DSt.cells,c.length=258:=λc hc=>by obtain⟨v,_,rfl⟩:=List.mem_map.1 hc;exact v.len
theorem DSt.get0 (v:DSt):v.cells[0]?=some (.slice v.at_.a v.at_.n v.at_.c):=rfl
theorem DSt.getN (v:DSt) {i:Nat} (h:i < 256):v.cells[1 + i]?=some (.int .i64 (v.nx i)):=by
 rw [Nat.add_comm,DSt.cells,List.getElem?_cons_succ,List.getElem?_append_left (by rw [row256_len];exact h),row256_get h]
theorem DSt.getA (v:DSt):v.cells[257]?=some (.int .i64 v.acc):=by
 show (row256 v.nx++[_])[256]?=_
 rw [List.getElem?_append_right (by rw [row256_len];omega),row256_len];rfl
theorem DSt.one (v:DSt):∀ u∈v.cells,u.oneCell'=true:=by
 intro u hu
 simp only [DSt.cells,row256,List.mem_cons,List.mem_append,List.mem_map,List.mem_range,List.not_mem_nil,or_false] at hu
 rcases hu with rfl | ⟨i,_,rfl⟩ | rfl <;> rfl
abbrev stObj (v:DSt):Obj:=.cells v.cells.toArray T.dfa_state (0,0)
def dCells (p:Option Addr) (l:Sl) (cl:Nat→Int) (nc:Int):List Value:=.pointer p::.slice l.a l.n l.c::(row256 cl++[.int .i64 nc])
abbrev dObj (p:Option Addr) (l:Sl) (cl:Nat→Int) (nc:Int):Obj:=.cells (dCells p l cl nc).toArray T.dfa_Dfa (0,0)
theorem dCells_l {p:Option Addr} {l:Sl} {cl:Nat→Int} {nc:Int}:(dCells p l cl nc).toArray[1]?=some (.slice l.a l.n l.c):=rfl
theorem dCells_len {p:Option Addr} {l:Sl} {cl:Nat→Int} {nc:Int}:(dCells p l cl nc).length=259:=by simp [dCells,row256_len]
theorem dCells_setl {p:Option Addr} {l l':Sl} {cl:Nat→Int} {nc:Int}:(dCells p l cl nc).toArray.setIfInBounds 1 (.slice l'.a l'.n l'.c)=(dCells p l' cl nc).toArray:=by
 rw [List.setIfInBounds_toArray];rfl
theorem elSt:Elem P T.sl_dfa_state T.dfa_state (.agg (DSt.cells ⟨⟨none,0,0⟩,[],λ_=>0,0⟩).toArray) 258 2080:=⟨by kernel_rfl,by kernel_rfl,by simp [Value.cells,DSt.len],by decide⟩
theorem buildSt (a:Option Addr) (n c:Nat) (k:Int):P.built T.dfa_state [(0,.slice a n c),(2,.int .i64 k)]=some (DSt.cells ⟨⟨a,n,c⟩,[],λ_=>0,k⟩).toArray:=by kernel_rfl
theorem buildSt0 (k:Int):P.built T.dfa_state [(2,.int .i64 k)]=some (DSt.cells ⟨⟨none,0,0⟩,[],λ_=>0,k⟩).toArray:=by kernel_rfl
theorem buildDfa (p a:Option Addr) (n c:Nat):P.built T.dfa_Dfa [(0,.pointer p),(1,.slice a n c)]=some (dCells p ⟨a,n,c⟩ (λ_=>0) 0).toArray:=by kernel_rfl
theorem strIntTy:MapTy P T.map_string_int T.string T.int .str (.int .i64):=⟨by kernel_rfl,string_keyed strTy⟩
theorem strKey {s:ByteArray} (h:s.size≤maxLen):OkKey P T.string (.string s):=⟨.string s.data.toList,by
 have:mapKey P T.string (.string s)=some (.string s.data.toList):=by
  unfold mapKey
  rw [strTy]
  simp [h]
 exact keyOf_of_mapKey this⟩
theorem run_zeroInt (w:World):(zeroValue T.int).run P w=.ok (.int .i64 0) w:=run_zero (by kernel_rfl) w
structure Sts (fs:List ((Nat→Bool) × Int)) (ks:List Kn) (svs:List DSt):Prop where
 zero:∃ sv,svs[0]?=some sv∧sv.xs=[]
 ne:∀ (i:Nat) sv,svs[i]?=some sv→0 < i→sv.xs≠[]
 rise:∀ sv∈svs,sv.xs.Pairwise (· < ·)∧∀ q∈sv.xs,0≤q∧q < fs.length
 inj:∀ (i j:Nat) sv sv',svs[i]?=some sv→svs[j]?=some sv'→sv.xs=sv'.xs→i=j
 acc:∀ sv∈svs,AccOf fs ks sv.xs sv.acc
def KeyR (svs:List DSt) (k:ByteArray) (v:Int):Prop:=∃ (i:Nat) (sv:DSt),svs[i]?=some sv∧0 < i∧k=txt sv.xs∧v=i
abbrev Bft (bb bd mm:Nat) (l:Sl):Nat→Prop:=λb=>b=bb∨b=bd∨b=mm∨l.blk b
abbrev bObj (bd mm:Nat):Obj:=.cells #[.pointer (some ⟨bd,0,none⟩),.map (some mm)] T.dfa_build (0,0)
structure Bd (w:World) (base bb bd mm:Nat) (p:Option Addr) (fs:List ((Nat→Bool) × Int)) (F:Int→Int→Prop) (ks:List Kn) (l:Sl) (svs:List DSt):Prop where
 mach:MachO (V (λb=>base≤b) w) p fs F ks
 hb:w.heap[bb]?=some (bObj bd mm)
 hd:w.heap[bd]?=some (dObj p l (λ_=>0) 0)
 own:Own w base T.dfa_state 258 l (svs.map DSt.cells).flatten
 map:MapAt P T.string .str (.int .i64) (V No w) mm (KeyR svs)
 ge:base≤bb∧base≤bd∧base≤mm
 ne:bb≠bd∧bb≠mm∧bd≠mm
 foot:¬ l.blk bb∧¬ l.blk bd∧¬ l.blk mm
 ats:∀ (i:Nat) sv,svs[i]?=some sv→SlT (.int .i64) (V (Bft bb bd mm l) w) sv.at_ sv.xs∧(sv.at_.a.isNone=true↔sv.xs=[])
 sts:Sts fs ks svs
section
variable {w:World} {base bb bd mm:Nat} {p:Option Addr} {fs:List ((Nat→Bool) × Int)} {F:Int→Int→Prop} {ks:List Kn} {l:Sl} {svs:List DSt}
theorem Bd.n (h:Bd w base bb bd mm p fs F ks l svs):l.n=svs.length:=by
 have:=h.own.len
 rw [flatten_len DSt.lens,List.length_map] at this
 omega
theorem Bd.lt (h:Bd w base bb bd mm p fs F ks l svs):base≤w.heap.size:=by have:=lt_of_some h.hb;have:=h.ge.1;omega
theorem Bd.keep0 {w':World} (h:Bd w base bb bd mm p fs F ks l svs) (k:Keeps No w w'):Bd w' base bb bd mm p fs F ks l svs where
 mach:=h.mach.mono (V.keeps0 k)
 hb:=k.blk0 h.hb
 hd:=k.blk0 h.hd
 own:=h.own.keep0 k
 map:=MapAt.mono h.map (V.keeps0 k)
 ge:=h.ge
 ne:=h.ne
 foot:=h.foot
 ats:=λi sv hi=>⟨(h.ats i sv hi).1.mono (V.keeps0 k),(h.ats i sv hi).2⟩
 sts:=h.sts
def Placed (fs:List ((Nat→Bool) × Int)) (ks:List Kn) (at_:Sl) (xs:List Int) (svs svs':List DSt) (k:Int):Prop :=
 (xs=[]∧k=-1∧svs'=svs)∨(xs≠[]∧∃ (i:Nat) (sv:DSt),0 < i∧k=i∧svs'[i]?=some sv∧sv.xs=xs∧(svs'=svs∨(svs'=svs++[⟨at_,xs,λ_=>0,sv.acc⟩]∧i=svs.length)))
theorem Sts.snoc (h:Sts fs ks svs) {at_:Sl} {xs:List Int} {a:Int} (hne:xs≠[]) (hr:xs.Pairwise (· < ·)∧∀ q∈xs,0≤q∧q < fs.length) (hnew:∀ (i:Nat) sv,svs[i]?=some sv→sv.xs≠xs) (ha:AccOf fs ks xs a) :
  Sts fs ks (svs++[⟨at_,xs,λ_=>0,a⟩]):=by
 have hpos:0 < svs.length:=by
  obtain⟨sv,h0,_⟩:=h.zero
  exact (kA h0).1
 have key:∀ (i:Nat) sv,(svs++[⟨at_,xs,λ_=>0,a⟩])[i]?=some sv→svs[i]?=some sv∨(i=svs.length∧sv=⟨at_,xs,λ_=>0,a⟩):=by
  intro i sv hi
  by_cases hl:i < svs.length
  ·rw [List.getElem?_append_left hl] at hi;exact .inl hi
  ·have:=(kA hi).1
   simp at this
   have e:i=svs.length:=by omega
   subst e
   simp at hi
   exact .inr ⟨rfl,hi.symm⟩
 refine⟨?_,?_,?_,?_,?_⟩
 ·obtain⟨sv,h0,h1⟩:=h.zero
  exact⟨sv,by rw [List.getElem?_append_left hpos];exact h0,h1⟩
 ·intro i sv hi h0
  rcases key i sv hi with hi | ⟨_,rfl⟩
  ·exact h.ne i sv hi h0
  ·exact hne
 ·intro sv hsv
  rcases List.mem_append.1 hsv with hsv | hsv
  ·exact h.rise sv hsv
  ·simp at hsv;subst hsv;exact hr
 ·intro i j sv sv' hi hj he
  rcases key i sv hi with hi | ⟨e1,rfl⟩ <;> rcases key j sv' hj with hj | ⟨e2,rfl⟩
  ·exact h.inj i j sv sv' hi hj he
  ·exact absurd he (hnew i sv hi)
  ·exact absurd he.symm (hnew j sv' hj)
  ·omega
 ·intro sv hsv
  rcases List.mem_append.1 hsv with hsv | hsv
  ·exact h.acc sv hsv
  ·simp at hsv;subst hsv;exact ha
theorem txt_size {xs:List Int}:(txt xs).size=2 * xs.length:=by
 unfold txt
 rw [strOfNums_size]
 induction xs with
 | nil=>rfl
 | cons x xs ih=>simp [List.flatMap_cons,twoB,ih];omega
theorem place_spec (h:Bd w base bb bd mm p fs F ks l svs) {at_:Sl} {xs:List Int} {K:Int→World→Prop} (hat:SlT (.int .i64) (V (Bft bb bd mm l) w) at_ xs) (hnil:at_.a.isNone=true↔xs=[]) (hr:xs.Pairwise (· < ·)∧∀ q∈xs,0≤q∧q < fs.length) (hlen:svs.length≤1000000)
  (hK:∀ k w' l' svs',Keeps (Bft bb bd mm l) w w'→(∀ c,l'.blk c→l.blk c∨w.heap.size≤c)→Bd w' base bb bd mm p fs F ks l' svs'→Placed fs ks at_ xs svs svs' k→K k w'):dfa_build_place.C (some ⟨bb,0,none⟩) at_ w K:=by
 have hn:=hat.1
 have hfew:=h.mach.few
 have hxl:xs.length≤2000:=nodup_bound 2000 xs (hr.1.imp λ{a b} h e=>by omega) λq hq=>by have:=hr.2 q hq;omega
 have hx16:∀ (ys:List Int),(∀ q∈ys,0≤q∧q < fs.length)→∀ x∈ys,0≤x∧x < 65536:=λys hy x hx=>by have:=hy x hx;omega
 refine dfa_build_place.ok _ _ _ _ ?_
 simp only [dfa_build_place.M,NilC_some]
 refine Br.mk (λh0=>?_) (λh0=>?_)
 ·have hx:xs=[]:=by
   have:(at_.n:Int)=0:=by simpa using h0
   exact List.eq_nil_of_length_eq_zero (by omega)
  exact hK _ w l svs .refl (λ_ h=>.inl h) h (.inl ⟨hx,rfl,rfl⟩)
 ·have hx:xs≠[]:=λe=>by subst e;simp [hn] at h0
  refine dfa_text_spec hat (hx16 xs hr.2) (by omega) λw1 k1=>?_
  have h1:=h.keep0 k1
  simp only [add_eq]
  refine Ld.map (cell_of h1.hb rfl) ?_
  have hkey:OkKey P T.string (Ty.str.enc (txt xs)):=strKey (by rw [txt_size];have:(9223372036854775807:Nat)=maxLen:=rfl;omega)
  refine App.look2 (kt:=.str) (vt:=.int .i64) (z:=0) strIntTy (run_zeroInt w1) (mo:=some mm) h1.map hkey (λy hy=>?_) (λhno=>?_)
  ·obtain⟨i,sv,hi,h0',htx,rfl⟩:=hy
   have hxs:sv.xs=xs:=(txt_inj (hx16 xs hr.2) (hx16 sv.xs (h.sts.rise sv (kD hi)).2) htx).symm
   exact hK _ w1 l svs k1.no (λ_ h=>.inl h) h1 (.inr ⟨hx,i,sv,h0',rfl,hi,hxs,.inl rfl⟩)
  ·refine Ld.ptr (cell_of h1.hb rfl) (Ld.sl (cell_of h1.hd dCells_l) (Ld.map (cell_of h1.hb rfl) ?_))
   have hln:=h1.n
   rw [hln]
   have hnew:∀ (i:Nat) sv,svs[i]?=some sv→sv.xs≠xs:=by
    intro i sv hi e
    by_cases hi0:0 < i
    ·exact hno i ⟨i,sv,hi,hi0,by rw [e],rfl⟩
    ·have:i=0:=by omega
     subst this
     obtain⟨sv0,g1,g2⟩:=h.sts.zero
     rw [hi] at g1;cases g1
     exact hx (e ▸ g2)
   refine App0.put (kt:=.str) (vt:=.int .i64) (x:=txt xs) (y:=(svs.length:Int)) strIntTy h1.map hkey λw3 k3 z3 hm3=>?_
   obtain⟨ne1,ne2,ne3⟩:=h.ne
   obtain⟨f1,f2,f3⟩:=h.foot
   have hb3:w3.heap[bb]?=some (bObj bd mm):=k3.blk h1.hb ne2
   have hd3:w3.heap[bd]?=some (dObj p l (λ_=>0) 0):=k3.blk h1.hd ne3
   have hkr:∀ (a:Int) k v,((k=txt xs∧v=(svs.length:Int))∨(k≠txt xs∧KeyR svs k v))↔KeyR (svs++[⟨at_,xs,λ_=>0,a⟩]) k v:=by
    intro a k v
    have hpos:0 < svs.length:=by
     obtain⟨sv,h0,_⟩:=h.sts.zero
     exact (kA h0).1
    constructor
    ·rintro (⟨rfl,rfl⟩ | ⟨_,i,sv,hi,h0,rfl,rfl⟩)
     ·exact⟨svs.length,⟨at_,xs,λ_=>0,a⟩,by simp,hpos,rfl,rfl⟩
     ·exact⟨i,sv,by rw [List.getElem?_append_left (kA hi).1];exact hi,h0,rfl,rfl⟩
    ·rintro⟨i,sv,hi,h0,rfl,rfl⟩
     by_cases hl:i < svs.length
     ·rw [List.getElem?_append_left hl] at hi
      refine .inr ⟨λe=>hno i ⟨i,sv,hi,h0,e.symm,rfl⟩,i,sv,hi,h0,rfl,rfl⟩
     ·have:=(kA hi).1
      simp at this
      have e:i=svs.length:=by omega
      subst e
      simp at hi
      subst hi
      exact .inl ⟨rfl,rfl⟩
   have map4:MapAt P T.string .str (.int .i64) (V No w3.drew) mm (λk v=>(k=txt xs∧v=(svs.length:Int))∨(k≠txt xs∧KeyR svs k v)):=MapAt.mono hm3 (V.keeps0 .drew)
   refine⟨λx=>x.heap[bb]?=some (bObj bd mm)∧∃ l',x.heap[bd]?=some (dObj p l' (λ_=>0) 0),⟨hb3,l,hd3⟩,?_⟩
   have kd:Keeps (·=mm) w1 w3.drew:=k3.then0 .drew
   generalize w3.drew=w4 at *
   have hb4:w4.heap[bb]?=some (bObj bd mm):=kd.blk h1.hb ne2
   have hd4:w4.heap[bd]?=some (dObj p l (λ_=>0) 0):=kd.blk h1.hd ne3
   have s4:=kd.size
   have hlt:=h1.lt
   have kb4:Keeps (Bft bb bd mm l) w w4:=(k1.no (M:=Bft bb bd mm l)).then kd λc _ hc=>.inr (.inr (.inl hc))
   have hat4:SlT (.int .i64) (V (Bft bb bd mm l) w4) at_ xs:=(hat.mono (V.keeps0 k1)).mono (V.move kd (λc _ hc=>.inr (.inr (.inl hc))) λ_ _ h=>h)
   have hmach4:MachO (V (λb=>base≤b) w4) p fs F ks:=h1.mach.mono (V.move kd (λc _ hc=>by rw [hc];exact h.ge.2.2) λ_ _ h=>h)
   have hmachN:MachO (V No w4) p fs F ks:=hmach4.mono (V.sub λ_ _ h=>h.elim)
   have hS:∀ {w':World},Keeps No w4 w'→w'.heap[bb]?=some (bObj bd mm)∧∃ l',w'.heap[bd]?=some (dObj p l' (λ_=>0) 0):=λk=>⟨k.blk0 hb4,l,k.blk0 hd4⟩
   have own4:Own w4 base T.dfa_state 258 l (svs.map DSt.cells).flatten:=h1.own.keep kd λc hc hl=>f3 (hc ▸ hl)
   have ats4:∀ (i:Nat) sv,svs[i]?=some sv→SlT (.int .i64) (V (Bft bb bd mm l) w4) sv.at_ sv.xs∧(sv.at_.a.isNone=true↔sv.xs=[]):=λi sv hi=>⟨(h1.ats i sv hi).1.mono (V.move kd (λc _ hc=>.inr (.inr (.inl hc))) λ_ _ h=>h),(h1.ats i sv hi).2⟩
   have tail:∀ {w':World} {b:Nat} {a:Int},Keeps No w4 w'→w4.heap.size≤b→AccOf fs ks xs a→w'.heap[b]?=some (stObj ⟨at_,xs,λ_=>0,a⟩) →
     App P (Builtin.append_ #[T.sl_dfa_state,T.sl_dfa_state] T.sl_dfa_state #[.slice l.a l.n l.c,.slice (some ⟨b,0,none⟩) 1 1]) (.one .sl) w' λx61 w7=>((w7.heap[bb]?=some (bObj bd mm)∧∃ l',w7.heap[bd]?=some (dObj p l' (λ_=>0) 0)) ∧
      St ⟨bd,0 + 1,none⟩ (.slice x61.a x61.n x61.c) w7 λw8=>((w8.heap[bb]?=some (bObj bd mm)∧∃ l',w8.heap[bd]?=some (dObj p l' (λ_=>0) 0))∧K (svs.length:Int) w8)):=by
    intro w' b a k' hbge ha hbn
    have z':=k'.size
    refine appendC (c:=DSt.cells ⟨at_,xs,λ_=>0,a⟩) elSt (own4.keep0 k') (DSt.len _) hbn (DSt.one _) (by omega) (by omega) (by omega) λl' w7 o7 n7 k7 g7=>?_
    obtain⟨g,hg1,hg2⟩:=g7
    have hblk:∀ c,l'.blk c→l.blk c∨w4.heap.size≤c:=by
     rintro c ⟨ad,ha',rfl⟩
     rw [hg1] at ha';cases ha'
     exact hg2.imp id λh=>by show w4.heap.size≤g;omega
    have hb7:w7.heap[bb]?=some (bObj bd mm):=k7.blk (k'.blk0 hb4) f1
    have hd7:w7.heap[bd]?=some (dObj p l (λ_=>0) 0):=k7.blk (k'.blk0 hd4) f2
    refine⟨⟨hb7,l,hd7⟩,?_⟩
    refine St.blk hd7 (by rw [List.size_toArray,dCells_len];omega) λw8 u8=>?_
    have hd8:w8.heap[bd]?=some (dObj p l' (λ_=>0) 0):=by have:=u8.at_;rw [show (0 + 1)=1 from rfl,dCells_setl] at this;exact this
    have hb8:w8.heap[bb]?=some (bObj bd mm):=u8.keeps.blk hb7 ne1
    refine⟨⟨hb8,l',hd8⟩,?_⟩
    have lt_bb:=lt_of_some hb4;have lt_bd:=lt_of_some hd4;have lt_mm:=MapAt.lt map4
    have f1':¬ l'.blk bb:=λh=>(hblk _ h).elim f1 λh'=>by omega
    have f2':¬ l'.blk bd:=λh=>(hblk _ h).elim f2 λh'=>by omega
    have f3':¬ l'.blk mm:=λh=>(hblk _ h).elim f3 λh'=>by omega
    have k48:Keeps (λc=>c=bd∨l.blk c) w4 w8:=((k'.no (M:=λc=>c=bd∨l.blk c)).trans (k7.mono λc _ hc=>.inr hc)).trans (u8.keeps.mono λc _ hc=>.inl hc)
    have mv:Vle (V (Bft bb bd mm l) w4) (V (Bft bb bd mm l') w8):=V.move k48 (λc _ hc=>by rcases hc with h | h;{ exact .inr (.inl h) };{ exact .inr (.inr (.inr h)) }) λc hc hm=>by
     rcases hm with h | h | h | h
     ·exact .inl h
     ·exact .inr (.inl h)
     ·exact .inr (.inr (.inl h))
     ·exact .inr (.inr (.inr ((hblk c h).resolve_right (by omega))))
    refine hK _ w8 l' (svs++[⟨at_,xs,λ_=>0,a⟩]) (kb4.then k48 λc _ hc=>by rcases hc with hc | hc;{ exact .inr (.inl hc) };{ exact .inr (.inr (.inr hc)) }) (λc hc=>(hblk c hc).imp id λh'=>by have:=kb4.size;omega) ⟨?_,hb8,hd8,?_,?_,h.ge,⟨ne1,ne2,ne3⟩,⟨f1',f2',f3'⟩,?_,h.sts.snoc hx hr hnew ha⟩ (.inr ⟨hx,svs.length,⟨at_,xs,λ_=>0,a⟩,?_,rfl,by simp,rfl,.inr ⟨rfl,rfl⟩⟩)
    ·exact hmach4.mono (V.move k48 (λc _ hc=>by rcases hc with rfl | hc;{ exact h.ge.2.1 };{ exact (own4.ge hc).1 }) λ_ _ h=>h)
    ·have:=o7.keep u8.keeps λc hc hl=>f2' (hc ▸ hl)
     simpa using this
    ·exact MapAt.congr (map4.keep k48 (λhc=>by rcases hc with e | hc;{ exact ne3 e.symm };{ exact f3 hc }) id) (hkr a)
    ·intro i sv hi
     by_cases hl:i < svs.length
     ·rw [List.getElem?_append_left hl] at hi
      exact⟨(ats4 i sv hi).1.mono mv,(ats4 i sv hi).2⟩
     ·have:=(kA hi).1
      simp at this
      have e:i=svs.length:=by omega
      subst e
      simp at hi
      subst hi
      exact⟨hat4.mono mv,hnil⟩
    ·obtain⟨sv,h0,_⟩:=h.sts.zero
     exact (kA h0).1
   have ldp:∀ {k:Option Addr→Prop},k (some ⟨bd,0,none⟩)→LdS (λx=>x.heap[bb]?=some (bObj bd mm)∧∃ l',x.heap[bd]?=some (dObj p l' (λ_=>0) 0)) .ptr ⟨bb,0,none⟩ k:=λ{k} hk=>LdS.of (t:=.ptr) (v:=some ⟨bd,0,none⟩) (λw' hw'=>cell_of hw'.1 rfl) hk
   have ldm:∀ {k:Option Addr→Prop},k p→LdS (λx=>x.heap[bb]?=some (bObj bd mm)∧∃ l',x.heap[bd]?=some (dObj p l' (λ_=>0) 0)) .ptr ⟨bd,0,none⟩ k:=λ{k} hk=>LdS.of (t:=.ptr) (v:=p) (λw' hw'=>by obtain⟨_,l',hw'⟩:=hw';exact cell_of hw' rfl) hk
   have bld:∀ {w':World} {a:Int} {k:Sl→World→Prop},Keeps No w4 w'→(∀ b w'',Keeps No w4 w''→w4.heap.size≤b→w''.heap[b]?=some (stObj ⟨at_,xs,λ_=>0,a⟩)→k ⟨some ⟨b,0,none⟩,1,1⟩ w'') →
     App P (Instr.buildSlice T.sl_dfa_state 1 #[(0,.agg (DSt.cells ⟨at_,[],λ_=>0,a⟩).toArray)]) (.one .sl) w' k:=by
    intro w' a k k' hk
    refine App.slice1G elSt (by simp [DSt.len]) (by omega) (by omega) λb w'' n=>hk b w'' (k'.trans n.keeps) (by have:=n.eq;have:=k'.size;omega) n.at_
   refine ldp (ldp (ldp (ldm ⟨?_,?_⟩)))
   ·refine Ld.sl (cell_of hd4 dCells_l) ⟨hS .refl,?_⟩
    refine dfa_accept_spec hmachN hat4 (by omega) λa w5 k5 ha=>⟨hS k5,?_⟩
    refine AppS.buildG (buildSt _ _ _ _) ?_
    exact bld k5 λb w6 k6 g6 h6=>⟨hS k6,tail k6 g6 ha h6⟩
   ·refine dfa_accept_spec hmachN hat4 (by omega) λa w5 k5 ha=>⟨hS k5,?_⟩
    refine AppS.buildG (buildSt _ _ _ _) ⟨?_,?_⟩
    ·refine Ld.sl (cell_of (k5.blk0 hd4) dCells_l) ⟨hS k5,?_⟩
     exact bld k5 λb w6 k6 g6 h6=>⟨hS k6,tail k6 g6 ha h6⟩
    ·refine bld k5 λb w6 k6 g6 h6=>⟨hS k6,?_⟩
     exact Ld.sl (cell_of (k6.blk0 hd4) dCells_l) ⟨hS k6,tail k6 g6 ha h6⟩
end
end Go.Fk
end
section
namespace Go.Fk
open Go Go.MapKept
theorem Own.cellput {w:World} {base E size:Nat} {l:Sl} {xs:List Value} {k:Nat} {v:Value} (h:Own w base E size l xs) (hk:k < xs.length) :
  ∃ g cur,l.a=some ⟨g,0,none⟩∧w.heap[g]?=some (.cells cur E (0,0))∧k < cur.size∧∀ w',Upd g (.cells (cur.setIfInBounds k v) E (0,0)) w w'→Own w' base E size l (xs.set k v):=by
 rcases h.2 with⟨hv,hn⟩ | ⟨g,cap,cur,hv,hge,hg,hnc,hcm,hcs,htake⟩
 ·have:=h.1
  simp only [hn,Nat.zero_mul] at this
  omega
 ·have hlen:=h.1
  have hks:k < cur.size:=by
   have:(cur.toList.take (l.n * size)).length≤cur.toList.length:=List.length_take_le' _ _
   rw [htake] at this
   simp at this
   omega
  have hv':=hv
  simp only [Sl.val,Value.slice.injEq] at hv'
  refine⟨g,cur,hv'.1,hg,hks,λw' u=>⟨by simpa using hlen,.inr ⟨g,cap,_,hv,hge,u.at_,hnc,hcm,by simpa using hcs,?_⟩⟩⟩
  rw [Array.toList_setIfInBounds,List.take_set,htake]
theorem flatten_set {α:Type} {sz:Nat}:∀ {xs:List (List α)},(∀ c∈xs,c.length=sz)→∀ {i j:Nat} {c:List α} {u:α},xs[i]?=some c→j < sz→xs.flatten.set (i * sz + j) u=(xs.set i (c.set j u)).flatten
 | [],_,i,j,c,u,h,_=>by simp at h
 | x::xs,hl,0,j,c,u,h,hj=>by
  simp at h;subst h
  have:=hl x (by simp)
  simp only [Nat.zero_mul,Nat.zero_add,List.flatten_cons,List.set_cons_zero]
  rw [List.set_append_left _ _ (by omega)]
 | x::xs,hl,i + 1,j,c,u,h,hj=>by
  simp at h
  have h2:=hl x (by simp)
  rw [List.flatten_cons,List.set_cons_succ,List.flatten_cons,← flatten_set (λc hc=>hl c (by simp [hc])) h hj]
  rw [List.set_append_right _ _ (by rw [h2,Nat.add_mul];omega),h2]
  congr 2
  rw [Nat.add_mul];omega
end Go.Fk
end
section
namespace Go.Fk
open Go
theorem mach_rule (ys:List Re):∀ (n r:Int) (i:Nat) (y:Re),ys[i]?=some y→∃ off:Int,n≤off∧(mKs n ys)[i]?=some ⟨y.first off,y.last off,y.emp⟩∧(∀ (k:Nat) f,y.poss[k]?=some f→(mFs r ys)[(off - n).toNat + k]?=some (f,r + i)) ∧
  ∀ p q,off≤p→p < off + y.cnt→(mFol n ys p q↔y.fol off p q):=by
 induction ys with
 | nil=>intro n r i y h;simp at h
 | cons x xs ih =>
  intro n r i y h
  cases i with
  | zero =>
   simp at h;subst h
   refine⟨n,Int.le_refl _,rfl,λk f hk=>?_,λp q h1 h2=>?_⟩
   ·have hlt:k < x.poss.length:=(kA hk).1
    simp only [mFs,Int.sub_self]
    rw [List.getElem?_append_left (by simpa using hlt)]
    simp [hk]
   ·simp only [mFol]
    constructor
    ·rintro (h | h)
     ·exact h
     ·have:=(fol_rule xs _ 0 _ _ h).1;omega
    ·exact .inl
  | succ i =>
   simp at h
   obtain⟨off,h1,h2,h3,h4⟩:=ih (n + x.cnt) (r + 1) i y h
   refine⟨off,by omega,by simpa [mKs] using h2,λk f hk=>?_,λp q g1 g2=>?_⟩
   ·simp only [mFs]
    have:=h3 k f hk
    rw [poss_skip (by omega)]
    have e:(off - n).toNat + k - x.cnt=(off - (n + x.cnt)).toNat + k:=by omega
    rw [e,this]
    simp;omega
   ·simp only [mFol]
    rw [← h4 p q g1 g2]
    constructor
    ·rintro (h | h)
     ·have:=Re.fol_in h;omega
     ·exact h
    ·exact .inr
theorem okP_iff {ys:List Re} {i:Nat} {y:Re} (h:ys[i]?=some y) (s:List UInt8) (t:Nat):okP (mFs 0 ys) (mFol 0 ys) (knAt (mKs 0 ys) i) s t↔y.m s 0 t:=by
 obtain⟨off,h1,h2,h3,h4⟩:=mach_rule ys 0 0 i y h
 have hk:knAt (mKs 0 ys) i=⟨y.first off,y.last off,y.emp⟩:=knAt_in (by omega) (by simpa using h2)
 have hfit:Fits (hasAt (mFs 0 ys)) y off:=by
  intro k f hk c hc
  have:=h3 k f hk
  have e:(off + k).toNat=(off - 0).toNat + k:=by omega
  rw [hasAt_in (by omega) (by rw [e];exact this)]
 rw [acc_iff y off hfit 0 t,hk]
 have hp:∀ p q,y.first off p→(Pth (mFol 0 ys) (hasAt (mFs 0 ys)) s 0 p t q↔Pth (y.fol off) (hasAt (mFs 0 ys)) s 0 p t q):=by
  intro p q hp
  constructor
  ·intro t
   exact (t.stay (Q:=λp=>off≤p∧p < off + y.cnt) (λp q h hp=>by
    have:=(h4 p q hp.1 hp.2).1 h
    exact⟨this,(Re.fol_in this).2⟩) (Re.first_in hp)).2
  ·intro t
   exact t.mono λp q h=>(h4 p q (Re.fol_in h).1.1 (Re.fol_in h).1.2).2 h
 constructor
 ·rintro (⟨rfl,e⟩ | ⟨q,⟨p,f,g⟩,l⟩)
  ·exact .inl ⟨rfl,e⟩
  ·exact .inr ⟨p,q,f,l,(hp p q f).1 g⟩
 ·rintro (⟨rfl,e⟩ | ⟨p,q,f,l,g⟩)
  ·exact .inl ⟨rfl,e⟩
  ·exact .inr ⟨q,⟨p,f,(hp p q f).2 g⟩,l⟩
end Go.Fk
end
section
namespace Go.Fk
open Go Go.MapKept
def stepS (fs:List ((Nat→Bool) × Int)) (F:Int→Int→Prop) (ks:List Kn) (xs:List Int) (c:Nat) (q:Int):Prop:=nextSet fs F ks xs q∧hasAt fs q c=true
def GoodN (fs:List ((Nat→Bool) × Int)) (F:Int→Int→Prop) (ks:List Kn) (svs:List DSt) (xs:List Int) (k:Int) (c:Nat):Prop :=
 (k=-1∧∀ q,¬ stepS fs F ks xs c q)∨∃ (i:Nat) (sv:DSt),0 < i∧k=i∧svs[i]?=some sv∧∀ q,q∈sv.xs↔stepS fs F ks xs c q
def Ext (svs svs':List DSt):Prop:=∀ (i:Nat) sv,svs[i]?=some sv→∃ sv',svs'[i]?=some sv'∧sv'.xs=sv.xs
theorem Ext.refl {svs:List DSt}:Ext svs svs:=λi sv h=>⟨sv,h,rfl⟩
theorem Ext.trans {a b c:List DSt} (h:Ext a b) (h':Ext b c):Ext a c:=λi sv hi=>by
 obtain⟨s1,h1,e1⟩:=h i sv hi
 obtain⟨s2,h2,e2⟩:=h' i s1 h1
 exact⟨s2,h2,e2.trans e1⟩
theorem Ext.app {svs l:List DSt}:Ext svs (svs++l):=λi sv h=>⟨sv,by rw [List.getElem?_append_left (kA h).1];exact h,rfl⟩
section
variable {fs:List ((Nat→Bool) × Int)} {F:Int→Int→Prop} {ks:List Kn} {svs svs':List DSt} {xs:List Int} {k:Int} {c:Nat}
theorem GoodN.mono (h:GoodN fs F ks svs xs k c) (he:Ext svs svs'):GoodN fs F ks svs' xs k c:=by
 rcases h with h | ⟨i,sv,h0,h1,h2,h3⟩
 ·exact .inl h
 ·obtain⟨sv',g1,g2⟩:=he i sv h2
  exact .inr ⟨i,sv',h0,h1,g1,λq=>by rw [g2];exact h3 q⟩
end
def goTop:List Int→Int→Option Int
 | [],t=>some t
 | k::l,t=>if k < 0 then goTop l t else if t + 1 < k then none else goTop l (if t < k then k else t)
theorem goTop_append (l m:List Int):∀ t,goTop (l++m) t=(goTop l t).bind (goTop m):=by
 induction l with
 | nil=>intro t;rfl
 | cons k l ih =>
  intro t
  simp only [List.cons_append,goTop]
  split
  ·exact ih t
  ·split
   ·rfl
   ·exact ih _
def nxAt (svs:List DSt) (i:Nat):Nat→Int:=((svs[i]?).map DSt.nx).getD λ_=>0
def rowL (f:Nat→Int):List Int:=(List.range 256).map f
def seqOf (n c:Nat) (svs:List DSt):List Int:=(List.range n).flatMap (λi=>rowL (nxAt svs i))++(List.range c).map (nxAt svs n)
theorem seqOf_full {n:Nat} {svs:List DSt}:seqOf (n + 1) 0 svs=seqOf n 256 svs:=by
 unfold seqOf
 rw [List.range_succ,List.flatMap_append]
 simp only [List.flatMap_cons,List.flatMap_nil,List.append_nil,List.range_zero,List.map_nil]
 rfl
theorem seqOf_succ {n c:Nat} {svs:List DSt}:seqOf n (c + 1) svs=seqOf n c svs++[nxAt svs n c]:=by
 unfold seqOf
 rw [List.range_succ,List.map_append,← List.append_assoc]
 rfl
theorem flatMap_congr' {α β:Type} {l:List α} {f g:α→List β} (h:∀ x∈l,f x=g x):l.flatMap f=l.flatMap g:=by
 rw [List.flatMap_def,List.flatMap_def,List.map_congr_left h]
theorem seqOf_congr {n c:Nat} {svs svs':List DSt} (h:∀ i,i < n→nxAt svs i=nxAt svs' i) (h':∀ j,j < c→nxAt svs n j=nxAt svs' n j):seqOf n c svs=seqOf n c svs':=by
 unfold seqOf
 congr 1
 ·exact flatMap_congr' λi hi=>by rw [h i (by simpa using hi)]
 ·exact List.map_congr_left λj hj=>h' j (by simpa using hj)
structure Done (fs:List ((Nat→Bool) × Int)) (F:Int→Int→Prop) (ks:List Kn) (n c:Nat) (svs:List DSt):Prop where
 rows:∀ (i:Nat) sv,i < n→svs[i]?=some sv→∀ c',c' < 256→GoodN fs F ks svs sv.xs (sv.nx c') c'
 part:∀ sv,svs[n]?=some sv→∀ c',c' < c→GoodN fs F ks svs sv.xs (sv.nx c') c'
 top:goTop (seqOf n c svs) 0=some ((svs.length:Int) - 1)
 met:∀ v:Nat,0 < v→v < svs.length→∃ j b:Nat,j < v∧((j < n∧b < 256)∨(j=n∧b < c))∧nxAt svs j b=v
theorem Done.next {fs:List ((Nat→Bool) × Int)} {F:Int→Int→Prop} {ks:List Kn} {n:Nat} {svs:List DSt} (h:Done fs F ks n 256 svs):Done fs F ks (n + 1) 0 svs :=
 ⟨λi sv hi hs c' hc=>by
  by_cases e:i=n
  ·subst e;exact h.part sv hs c' hc
  ·exact h.rows i sv (by omega) hs c' hc,λsv hs c' hc=>by omega,by rw [seqOf_full];exact h.top,λv h0 hv=>by
  obtain⟨j,b,h1,h2,h3⟩:=h.met v h0 hv
  exact⟨j,b,h1,by omega,h3⟩⟩
def DSt.put (v:DSt) (c:Nat) (k:Int):DSt:={ v with nx:=λj=>if j=c then k else v.nx j }
theorem DSt.put_cells (v:DSt) {c:Nat} {k:Int} (h:c < 256):v.cells.set (1 + c) (.int .i64 k)=(v.put c k).cells:=by
 rw [Nat.add_comm,DSt.cells,List.set_cons_succ,List.set_append_left _ _ (by rw [row256_len];exact h),row256_set h]
 rfl
theorem Ext.put {svs:List DSt} {n:Nat} {v:DSt} {c:Nat} {k:Int} (h:svs[n]?=some v):Ext svs (svs.set n (v.put c k)):=by
 intro i sv hi
 by_cases e:n=i
 ·subst e
  rw [h] at hi;cases hi
  exact⟨v.put c k,by rw [List.getElem?_set];simp [(kA h).1],rfl⟩
 ·exact⟨sv,by rw [List.getElem?_set_ne e];exact hi,rfl⟩
theorem Done.step {fs:List ((Nat→Bool) × Int)} {F:Int→Int→Prop} {ks:List Kn} {n c:Nat} {svs svs1:List DSt} {v:DSt} {k:Int} (h:Done fs F ks n c svs) (hn:svs[n]?=some v) (hn1:svs1[n]?=some v)
  (hs:svs1=svs∧k < svs.length∨(∃ u,svs1=svs++[u])∧k=svs.length) (hg:GoodN fs F ks svs1 v.xs k c) (hk:-1≤k):Done fs F ks n (c + 1) (svs1.set n (v.put c k)):=by
 have hlt:=(kA hn).1
 have he1:Ext svs svs1:=by
  rcases hs with⟨rfl,_⟩ | ⟨⟨u,rfl⟩,_⟩
  ·exact .refl
  ·exact .app
 have hput:(svs1.set n (v.put c k))[n]?=some (v.put c k):=by rw [List.getElem?_set];simp [(kA hn1).1]
 have he2:Ext svs1 (svs1.set n (v.put c k)):=.put hn1
 have hold:∀ i,i≠n→i < svs.length→(svs1.set n (v.put c k))[i]?=svs[i]?:=by
  intro i hi hl
  rw [List.getElem?_set_ne (Ne.symm hi)]
  rcases hs with⟨rfl,_⟩ | ⟨⟨u,rfl⟩,_⟩
  ·rfl
  ·rw [List.getElem?_append_left hl]
 have oldMet:∀ v':Nat,0 < v'→v' < svs.length→∃ j b:Nat,j < v'∧((j < n∧b < 256)∨(j=n∧b < c + 1))∧nxAt (svs1.set n (v.put c k)) j b=v':=by
  intro v' h0 hv
  obtain⟨j,b,h1,h2,h3⟩:=h.met v' h0 hv
  refine⟨j,b,h1,by omega,?_⟩
  rw [← h3]
  rcases h2 with⟨h4,_⟩ | ⟨rfl,h4⟩
  ·unfold nxAt;rw [hold j (by omega) (by omega)]
  ·unfold nxAt
   rw [hput,hn]
   have:b≠c:=by omega
   simp [DSt.put,this]
 refine⟨λi sv hi hsv c' hc=>?_,λsv hsv c' hc=>?_,?_,λv' h0 hv=>?_⟩
 ·rw [hold i (by omega) (by omega)] at hsv
  exact (h.rows i sv hi hsv c' hc).mono (he1.trans he2)
 ·rw [hput] at hsv
  cases hsv
  by_cases e:c'=c
  ·subst e
   simp only [DSt.put,if_true]
   exact hg.mono he2
  ·simp only [DSt.put,e,if_false]
   exact (h.part v hn c' (by omega)).mono (he1.trans he2)
 ·have e1:seqOf n (c + 1) (svs1.set n (v.put c k))=seqOf n c svs++[k]:=by
   rw [seqOf_succ]
   congr 1
   ·refine seqOf_congr (λi hi=>?_) λj hj=>?_
    ·unfold nxAt;rw [hold i (by omega) (by omega)]
    ·unfold nxAt
     rw [hput,hn]
     have:j≠c:=by omega
     simp [DSt.put,this]
   ·unfold nxAt
    rw [hput]
    simp [DSt.put]
  rw [e1,goTop_append,h.top]
  simp only [Option.bind_some,goTop,List.length_set]
  rcases hs with⟨rfl,hk2⟩ | ⟨⟨u,rfl⟩,rfl⟩
  ·by_cases hk0:k < 0
   ·simp [hk0]
   ·rw [if_neg hk0,if_neg (by omega),if_neg (by omega)]
  ·rw [if_neg (by omega),if_neg (by omega),if_pos (by omega)]
   simp
 ·rw [List.length_set] at hv
  by_cases hlt':v' < svs.length
  ·exact oldMet v' h0 hlt'
  ·rcases hs with⟨rfl,_⟩ | ⟨⟨u,rfl⟩,rfl⟩
   ·exact absurd hv hlt'
   ·simp only [List.length_append,List.length_cons,List.length_nil] at hv
    have:v'=svs.length:=by omega
    subst this
    refine⟨n,c,hlt,by omega,?_⟩
    unfold nxAt
    rw [hput]
    simp [DSt.put]
theorem cell_keep {w w':World} {a:Addr} {u:Value} (h:w.cell? a=some u) (k:Keeps No w w'):w'.cell? a=some u:=by
 unfold World.cell? at h ⊢
 split at h
 ·rename_i c e fr hb
  rw [k.blk0 hb]
  exact h
 ·cases h
section
variable {w:World} {base bb bd mm:Nat} {p:Option Addr} {fs:List ((Nat→Bool) × Int)} {F:Int→Int→Prop} {ks:List Kn} {l:Sl} {svs:List DSt}
set_option maxRecDepth 20000 in
theorem fill_spec (h:Bd w base bb bd mm p fs F ks l svs) {n:Nat} {v:DSt} {K:Unit→World→Prop} (hv:svs[n]?=some v) (hd:Done fs F ks n 0 svs) (hlen:svs.length≤2000) (hks:ks.length≤2000)
  (hK:∀ w' l' svs',Keeps (λb=>base≤b) w w'→Bd w' base bb bd mm p fs F ks l' svs'→Done fs F ks (n + 1) 0 svs'→svs.length≤svs'.length→svs'.length≤svs.length + 256→K () w'):dfa_build_fill.C (some ⟨bb,0,none⟩) n w K:=by
 have hln:=h.n
 have hnl:=(kA hv).1
 have hvm:=kD hv
 have hfew:=h.mach.few
 have hxr:=h.sts.rise v hvm
 have hxl:v.xs.length≤2000:=nodup_bound 2000 v.xs (hxr.1.imp λ{a b} h e=>by omega) λq hq=>by have:=hxr.2 q hq;omega
 refine dfa_build_fill.ok _ _ _ _ ?_
 simp only [dfa_build_fill.M,NilC_some]
 refine⟨λx=>Keeps No w x,.drew,?_⟩
 have ldp:∀ {k:Option Addr→Prop},k (some ⟨bd,0,none⟩)→LdS (λx=>Keeps No w x) .ptr ⟨bb,0,none⟩ k:=λ{k} hk=>LdS.of (t:=.ptr) (v:=some ⟨bd,0,none⟩) (λw' hw'=>cell_of (hw'.blk0 h.hb) rfl) hk
 refine ldp ?_
 simp only [NilC_some]
 refine LdS.of (t:=.ptr) (v:=p) (λw' hw'=>cell_of (hw'.blk0 h.hd) rfl) (ldp ?_)
 simp only [NilC_some,add_eq]
 refine LdS.of (t:=.sl) (v:=l) (λw' hw'=>cell_of (hw'.blk0 h.hd) dCells_l) ?_
 refine IdxS.recd (h.own.readsC (M:=No) (by omega) DSt.lens λ_ _ h=>h) (by omega) (by simp;omega) λg off c hc hcell=>?_
 simp only [Int.toNat_natCast,List.getElem?_map,hv,Option.map_some,Option.some.injEq] at hc
 subst hc
 refine LdS.of (t:=.sl) (v:=v.at_) (λw' hw'=>cell_keep (hcell 0 _ v.get0) hw') ?_
 have h1:=h.keep0 (Keeps.drew (w:=w))
 have kd:Keeps No w w.drew:=.drew
 generalize w.drew=w1 at *
 have hm1:MachO (V No w1) p fs F ks:=h1.mach.mono (V.sub λ_ _ h=>h.elim)
 refine dfa_behind_spec hm1 (h1.ats n v hv).1 (h1.ats n v hv).2 hxr.2 hxl hks λlb ys w2 k2 ob rb=>⟨kd.trans k2,?_⟩
 have h2:=h1.keep0 k2
 have hyl:ys.length≤2000:=nodup_bound 2000 ys (rb.1.imp λ{a b} h e=>by omega) λq hq=>by
  rcases (rb.2 q).1 hq with⟨_,r,hr,hf⟩ | ⟨p',hp',hf⟩
  ·have:=hm1.kin r q (.inl hf);omega
  ·have:=hm1.fin (hxr.2 p' hp') hf;omega
 have hyin:∀ q∈ys,0≤q∧q < fs.length:=λq hq=>by
  rcases (rb.2 q).1 hq with⟨_,r,hr,hf⟩ | ⟨p',hp',hf⟩
  ·exact hm1.kin r q (.inl hf)
  ·exact hm1.fin (hxr.2 p' hp') hf
 have hbn:lb.n=ys.length:=by have:=ob.len;simpa using this.symm
 have lt1:∀ c,Bft bb bd mm l c→c < w1.heap.size:=λc hc=>by
  rcases hc with rfl | rfl | rfl | hc
  ·exact lt_of_some h1.hb
  ·exact lt_of_some h1.hd
  ·exact MapAt.lt h1.map
  ·exact (h1.own.ge hc).2
 have hsb:SlT (.int .i64) (V (Bft bb bd mm l) w2) lb ys:=ob.reads λc hc hm=>by have:=(ob.ge hc).1;have:=lt1 c hm;omega
 have k12:Keeps (λb=>base≤b) w w2:=(kd.trans k2).no
 refine Loop.mk (λs w'=>Keeps (λb=>base≤b) w w'∧∃ (c:Nat) (l':Sl) (svs':List DSt),c≤256∧s=(c:Int)∧Bd w' base bb bd mm p fs F ks l' svs'∧SlT (.int .i64) (V (Bft bb bd mm l') w') lb ys∧Done fs F ks n c svs'∧(∃ v',svs'[n]?=some v'∧v'.xs=v.xs)∧svs.length≤svs'.length∧svs'.length≤svs.length + c) (λs=>256 - s.toNat)
  ⟨k12,0,l,svs,by omega,rfl,h2,hsb,hd,⟨v,hv,rfl⟩,by omega,by omega⟩ ?_
 rintro s w3 ⟨k3,c,l3,svs3,hc,rfl,h3,hsb3,hd3,⟨v3,hv3,hvx⟩,hle3,hge3⟩ R hR
 refine Br.mk (λht=>?_) (λhf=>?_)
 ·have ht:c < 256:=by have:=kG ht;omega
  have hln3:=h3.n
  have hnl3:=(kA hv3).1
  have lt3:∀ b,Bft bb bd mm l3 b→b < w3.heap.size:=λb hb=>by
   rcases hb with rfl | rfl | rfl | hb
   ·exact lt_of_some h3.hb
   ·exact lt_of_some h3.hd
   ·exact MapAt.lt h3.map
   ·exact (h3.own.ge hb).2
  refine Loop.mk (λt w'=>Keeps No w3 w'∧∃ (i:Nat) (zs:List Int),i≤ys.length∧t.2=(i:Int)∧Own w' w3.heap.size T.int 1 t.1 (zs.map (Ty.int .i64).enc)∧zs=(ys.take i).filter (λq=>hasAt fs q c)∧(t.1.a.isNone=true↔zs=[])) (λt=>ys.length - t.2.toNat) ⟨.refl,0,[],by omega,rfl,Own.nil _ _ _ _,by simp,by simp⟩ ?_
  rintro⟨o,ii⟩ w4 ⟨k4,i,zs,hi,hii,ho,hz,hon⟩ R2 hR2
  dsimp only at hii ho hon ⊢
  subst hii
  have h4:=h3.keep0 k4
  have hzl:zs.length≤ys.length:=by rw [hz];exact Nat.le_trans (List.length_filter_le _ _) (by rw [List.length_take];omega)
  refine Br.mk (λht2=>?_) (λhf2=>?_)
  ·have ht2:i < ys.length:=by have:=kG ht2;omega
   refine IdxS.get (hsb3.mono (V.keeps0 k4)) (by omega) (by omega) λq hq=>?_
   simp only [Int.toNat_natCast] at hq
   refine Ld.ptr (cell_of h4.hb rfl) ?_
   simp only [NilC_some]
   refine Ld.ptr (cell_of h4.hd rfl) ?_
   have hwr:IntKind.wrap .u8 (c:Int)=(c:Int):=IntWalk.u8_in _ (by omega)
   rw [hwr]
   have hm4:MachO (V No w4) p fs F ks:=h4.mach.mono (V.sub λ_ _ h=>h.elim)
   refine nfa_Machine_Has_spec hm4 ht λw5 k5=>?_
   have ho5:=ho.keep0 k5
   have hol:=ho5.len
   simp at hol
   have e4:w64 ((i:Int) + 1)=((i + 1:Nat):Int):=by rw [w64_eq (by omega)];omega
   rw [e4]
   have htk:ys.take (i + 1)=ys.take i++[q]:=by rw [List.take_add_one,hq];rfl
   refine Br.mk (λhq2=>?_) (λhq2=>?_)
   ·have z5:=(k4.trans k5).size
    refine append1 (t:=.int .i64) (x:=q) elInt ho5 rfl (by omega) (by omega) z5 λo' w6 o6 m6 k6 g6=>?_
    refine hR2 _ w6 ⟨((k4.trans k5).no (M:=No)).then k6 λb hb hbl=>by have:=(ho5.ge hbl).1;have:b < w3.heap.size:=hb;omega,i + 1,zs++[q],by omega,rfl,o6,?_,?_⟩ (by dsimp only;omega)
    ·rw [htk,List.filter_append,← hz];simp [hq2]
    ·obtain⟨g',hg',_⟩:=g6
     dsimp only
     rw [hg'];simp
   ·refine hR2 _ w5 ⟨k4.trans k5,i + 1,zs,by omega,rfl,ho5,?_,hon⟩ (by dsimp only;omega)
    rw [htk,List.filter_append,← hz];simp [hq2]
  ·have hf2:i=ys.length:=by have:=kF hf2;omega
   subst hf2
   rw [List.take_length] at hz
   have hzm:∀ q,q∈zs↔stepS fs F ks v.xs c q:=λq=>by rw [hz,List.mem_filter,rb.2];rfl
   have hzr:zs.Pairwise (· < ·)∧∀ q∈zs,0≤q∧q < fs.length:=⟨by rw [hz];exact rb.1.filter _,λq hq=>hyin q (by rw [hz] at hq;exact (List.mem_filter.1 hq).1)⟩
   have hso:SlT (.int .i64) (V (Bft bb bd mm l3) w4) o zs:=ho.reads λb hb hm=>by have:=(ho.ge hb).1;have:=lt3 b hm;omega
   refine place_spec h4 hso hon hzr (by omega) λk w5 l5 svs5 k5 hbl5 h5 hpl=>?_
   refine Ld.ptr (cell_of h5.hb rfl) ?_
   simp only [NilC_some,add_eq]
   refine Ld.sl (cell_of h5.hd dCells_l) ?_
   have hsv5:(svs5=svs3∧k < svs3.length∨(∃ u,svs5=svs3++[u])∧k=svs3.length)∧GoodN fs F ks svs5 v.xs k c∧-1≤k:=by
    rcases hpl with⟨h0,rfl,rfl⟩ | ⟨h0,i,sv,hi0,rfl,hi,hxs,h'⟩
    ·refine⟨.inl ⟨rfl,by omega⟩,.inl ⟨rfl,λq hq=>?_⟩,by omega⟩
     have:=(hzm q).2 hq
     rw [h0] at this
     simp at this
    ·have hil:=(kA hi).1
     refine⟨?_,.inr ⟨i,sv,hi0,rfl,hi,λq=>by rw [hxs,hzm]⟩,by omega⟩
     rcases h' with rfl | ⟨h',rfl⟩
     ·exact .inl ⟨rfl,by omega⟩
     ·exact .inr ⟨⟨_,h'⟩,rfl⟩
   obtain⟨hs5,hg5,hk5⟩:=hsv5
   have hv5:svs5[n]?=some v3:=by
    rcases hs5 with⟨rfl,_⟩ | ⟨⟨u,rfl⟩,_⟩
    ·exact hv3
    ·rw [List.getElem?_append_left hnl3];exact hv3
   have hln5:=h5.n
   have hnl5:=(kA hv5).1
   have hlen5:svs3.length≤svs5.length∧svs5.length≤svs3.length + 1:=by
    rcases hs5 with⟨rfl,_⟩ | ⟨⟨u,rfl⟩,_⟩
    ·omega
    ·simp
   obtain⟨g5,cur5,ha5,hc5,hk5',hput5⟩:=h5.own.cellput (k:=n * 258 + (1 + c)) (v:=.int .i64 k) (by rw [flatten_len DSt.lens,List.length_map];omega)
   have hfl:(svs5.map DSt.cells).flatten.set (n * 258 + (1 + c)) (.int .i64 k)=((svs5.set n (v3.put c k)).map DSt.cells).flatten:=by
    rw [flatten_set DSt.lens (i:=n) (c:=v3.cells) (by rw [List.getElem?_map,hv5];rfl) (by omega),v3.put_cells ht,List.map_set]
   rw [hfl] at hput5
   refine⟨_,ha5,⟨by omega,by show (n:Int) < l5.n;omega⟩,?_⟩
   refine⟨⟨by omega,by omega⟩,?_⟩
   dsimp only
   rw [add_eq,add_eq,add_eq]
   have eoff:0 + (n:Int).toNat * 258 + 1 + (c:Int).toNat * 1=n * 258 + (1 + c):=by omega
   rw [eoff]
   refine St.blk hc5 hk5' λw6 u6=>?_
   have hblk5:l5.blk g5:=⟨_,ha5,rfl⟩
   have e4:w64 ((c:Int) + 1)=((c + 1:Nat):Int):=by rw [w64_eq (by omega)];omega
   rw [e4]
   obtain⟨f1,f2,f3⟩:=h5.foot
   have n1:bb≠g5:=λe=>f1 (e ▸ hblk5)
   have n2:bd≠g5:=λe=>f2 (e ▸ hblk5)
   have n3:mm≠g5:=λe=>f3 (e ▸ hblk5)
   have mv6:Vle (V (Bft bb bd mm l5) w5) (V (Bft bb bd mm l5) w6):=V.move u6.keeps (λb _ hb=>.inr (.inr (.inr (by have:b=g5:=hb;subst this;exact hblk5)))) λ_ _ h=>h
   have z4:=k4.size
   have mv5:Vle (V (Bft bb bd mm l3) w4) (V (Bft bb bd mm l5) w5):=V.move k5 (λ_ _ h=>h) λb hb hm=>by
    rcases hm with h | h | h | h
    ·exact .inl h
    ·exact .inr (.inl h)
    ·exact .inr (.inr (.inl h))
    ·exact .inr (.inr (.inr ((hbl5 b h).resolve_right (by omega))))
   have hd6:=hd3.step hv3 hv5 hs5 (by rw [hvx];exact hg5) hk5
   refine hR _ w6 ⟨?_,c + 1,l5,svs5.set n (v3.put c k),by omega,rfl,?_,((hsb3.mono (V.keeps0 k4)).mono mv5).mono mv6,hd6,⟨v3.put c k,by rw [List.getElem?_set];simp [hnl5],hvx⟩,by rw [List.length_set];omega,by rw [List.length_set];omega⟩ (by omega)
   ·refine ((k3.then0 k4).trans (k5.mono λb _ hb=>?_)).trans (u6.keeps.mono λb _ hb=>?_)
    ·rcases hb with rfl | rfl | rfl | hb
     ·exact h.ge.1
     ·exact h.ge.2.1
     ·exact h.ge.2.2
     ·exact (h4.own.ge hb).1
    ·have:b=g5:=hb
     subst this
     exact (h5.own.ge hblk5).1
   ·have hmem:∀ sv,sv∈svs5.set n (v3.put c k)→∃ sv'∈svs5,sv.xs=sv'.xs∧sv.acc=sv'.acc:=by
     intro sv hsv
     obtain⟨i,hi⟩:=List.getElem?_of_mem hsv
     rw [List.getElem?_set] at hi
     split at hi
     ·rename_i e
      simp at hi
      obtain⟨_,rfl⟩:=hi
      exact⟨v3,kD hv5,rfl,rfl⟩
     ·exact⟨sv,kD hi,rfl,rfl⟩
    have hget:∀ (i:Nat) sv,(svs5.set n (v3.put c k))[i]?=some sv→∃ sv',svs5[i]?=some sv'∧sv.xs=sv'.xs∧sv.acc=sv'.acc∧sv.at_=sv'.at_:=by
     intro i sv hi
     rw [List.getElem?_set] at hi
     split at hi
     ·rename_i e
      subst e
      simp at hi
      obtain⟨_,rfl⟩:=hi
      exact⟨v3,hv5,rfl,rfl,rfl⟩
     ·exact⟨sv,hi,rfl,rfl,rfl⟩
    have hback:∀ (i:Nat) sv,svs5[i]?=some sv→∃ sv',(svs5.set n (v3.put c k))[i]?=some sv'∧sv'.xs=sv.xs:=Ext.put hv5
    refine⟨h5.mach.mono (V.move u6.keeps (λb _ hb=>by have:b=g5:=hb;subst this;exact (h5.own.ge hblk5).1) λ_ _ h=>h),u6.keeps.blk h5.hb n1,u6.keeps.blk h5.hd n2,hput5 w6 u6,?_,h5.ge,h5.ne,h5.foot,λi sv hi=>?_,?_⟩
    ·refine MapAt.congr (MapAt.keep h5.map u6.keeps n3 id) λk' v'=>?_
     constructor
     ·rintro⟨i,sv,hi,h0,rfl,rfl⟩
      obtain⟨sv',g1,g2⟩:=hback i sv hi
      exact⟨i,sv',g1,h0,by rw [g2],rfl⟩
     ·rintro⟨i,sv,hi,h0,rfl,rfl⟩
      obtain⟨sv',g1,g2,_⟩:=hget i sv hi
      exact⟨i,sv',g1,h0,by rw [g2],rfl⟩
    ·obtain⟨sv',g1,g2,g3,g4⟩:=hget i sv hi
     rw [g2,g4]
     exact⟨(h5.ats i sv' g1).1.mono mv6,(h5.ats i sv' g1).2⟩
    ·refine⟨?_,λi sv hi h0=>?_,λsv hsv=>?_,λi j sv sv' hi hj he=>?_,λsv hsv=>?_⟩
     ·obtain⟨sv,g1,g2⟩:=h5.sts.zero
      obtain⟨sv',g3,g4⟩:=hback 0 sv g1
      exact⟨sv',g3,g4.trans g2⟩
     ·obtain⟨sv',g1,g2,_⟩:=hget i sv hi
      rw [g2];exact h5.sts.ne i sv' g1 h0
     ·obtain⟨sv',g1,g2,_⟩:=hmem sv hsv
      rw [g2];exact h5.sts.rise sv' g1
     ·obtain⟨s1,g1,g2,_⟩:=hget i sv hi
      obtain⟨s2,g3,g4,_⟩:=hget j sv' hj
      exact h5.sts.inj i j s1 s2 g1 g3 (by rw [← g2,← g4];exact he)
     ·obtain⟨sv',g1,g2,g3⟩:=hmem sv hsv
      rw [g2,g3];exact h5.sts.acc sv' g1
 ·have hf:c=256:=by have:=kF hf;omega
  subst hf
  exact hK w3 l3 svs3 k3 h3 hd3.next hle3 hge3
end
theorem App.makeOwn {Tsl T:TypeId} {bytes:Nat} {z:Value} (hE:Elem P Tsl T z 1 bytes) {w:World} {c:Nat} {K:Sl→World→Prop} (hb:bytes * c≤281474976710656) (hc:c≤1000000000)
  (hK:∀ l w',Keeps No w w'→Own w' w.heap.size T 1 l []→K l w'):App P (Instr.makeSlice Tsl (.int .i64 0) (.int .i64 (c:Int))) (.one .sl) w K:=by
 obtain⟨i,hi,hzz⟩:=kE hE.inf
 simp only [Prod.mk.injEq] at hzz
 obtain⟨w1,hr1,ho1,hg1⟩:=run_make_own (P:=P) w w.heap.size Tsl T i z 1 hE.sl hi hzz.1 hzz.2.1 .i64 .i64 c (by rw [hzz.2.2];exact hb) (by have:(9223372036854775807:Nat)=maxLen:=rfl;omega) (Nat.le_refl _)
 exact⟨⟨some ⟨w.heap.size,0,none⟩,0,c⟩,w1,by simpa [RTy.enc,Ty.enc] using hr1,hK _ w1 ((Keeps.of_grown hg1).mono λb _ h=>by cases h) ho1⟩
theorem StA.gen {w:World} {b n:Nat} {T:TypeId} {cur cs:Array Value} {E:TypeId} {k:World→Prop} (hs:(P.info? T).map (·.size)=some n) (hb:w.heap[b]?=some (.cells cur E (0,0))) (h1:cur.size=n) (h2:cs.size=n) (h3:∀ u∈cs.toList,u.oneCell'=true)
  (hk:∀ w',Upd b (.cells cs E (0,0)) w w'→k w'):StA P T ⟨b,0,none⟩ cs w k:=by
 refine⟨w.setRow b cs,?_,hk _ ?_⟩
 ·refine run_storeVar_row w b _ _ _ _ hb (by rw [hs,h2]) (by rw [h1,h2]) ?_
  rw [Array.all_eq_true_iff_forall_mem]
  intro x hx
  exact h3 x (by simpa using hx)
 ·have hr:=setRow_heap w b _ cs _ _ hb
  refine⟨hr,⟨rfl,rfl,rfl,by simp [World.setRow],λi _ hi=>?_⟩,by simp [World.setRow]⟩
  simp only [World.setRow,Array.getElem?_modify]
  rw [if_neg (λh=>hi h.symm)]
theorem LdA.gen {w:World} {g off n:Nat} {c:List Value} {k:Array Value→Prop} (hn:c.length=n) (hc:∀ j u,c[j]?=some u→w.cell? ⟨g,off + j,none⟩=some u) (hk:k c.toArray):LdA n ⟨g,off,none⟩ w k:=by
 refine⟨c.toArray,⟨by simpa using hn,λi u hu=>?_⟩,hk⟩
 rw [add_eq]
 exact hc i u (by simpa using hu)
theorem sizeSt:(P.info? T.dfa_state).map (·.size)=some 258:=by kernel_rfl
theorem zeroSt:(#[(.slice none 0 0:Value)]++Array.replicate 257 (.int .i64 0:Value))=(DSt.cells ⟨⟨none,0,0⟩,[],λ_=>0,0⟩).toArray:=by kernel_rfl
def colOf (svs:List DSt) (c:Nat):List Int:=svs.map λs=>s.nx c + 1
structure Classes (svs:List DSt) (cl:Nat→Int) (nc:Int):Prop where
 iff:∀ a b,a < 256→b < 256→(cl a=cl b↔colOf svs a=colOf svs b)
 top:goTop (rowL cl) (-1)=some (nc - 1)
 pos:∀ a,a < 256→0≤cl a
set_option maxRecDepth 20000 in
theorem dCells_setc {p:Option Addr} {l:Sl} {cl:Nat→Int} {nc v:Int} {c:Nat} (h:c < 256):(dCells p l cl nc).toArray.setIfInBounds (2 + c) (.int .i64 v)=(dCells p l (λj=>if j=c then v else cl j) nc).toArray:=by
 rw [List.setIfInBounds_toArray]
 congr 1
 rw [Nat.add_comm]
 show Value.pointer p::Value.slice l.a l.n l.c::((row256 cl++[Value.int .i64 nc]).set c (.int .i64 v))=_
 rw [List.set_append_left _ _ (by rw [row256_len];exact h),row256_set h]
 rfl
set_option maxRecDepth 20000 in
theorem dCells_setn {p:Option Addr} {l:Sl} {cl:Nat→Int} {nc v:Int}:(dCells p l cl nc).toArray.setIfInBounds 258 (.int .i64 v)=(dCells p l cl v).toArray:=by
 rw [List.setIfInBounds_toArray]
 congr 1
set_option maxRecDepth 20000 in
theorem group_spec {w:World} {bd:Nat} {p:Option Addr} {l:Sl} {cl0:Nat→Int} {nc0:Int} {svs:List DSt} {K:Unit→World→Prop} (hd:w.heap[bd]?=some (dObj p l cl0 nc0)) (hl:SlC (V (·=bd) w) l 258 (svs.map DSt.cells))
  (hr:∀ sv∈svs,∀ c,c < 256→-1≤sv.nx c∧sv.nx c < 60000) (hlen:svs.length≤3000)
  (hK:∀ w' cl nc,Keeps (·=bd) w w'→w'.heap[bd]?=some (dObj p l cl nc)→Classes svs cl nc→K () w'):dfa_Dfa_group.C (some ⟨bd,0,none⟩) w K:=by
 have hn:=hl.1
 simp only [List.length_map] at hn
 refine dfa_Dfa_group.ok _ _ _ ?_
 simp only [dfa_Dfa_group.M,NilC_some,add_eq,zeroSt]
 refine Al.mk λm1 w1 n1=>?_
 have e1:=n1.eq;have z1:=n1.size
 have hbl:=lt_of_some hd
 have hne:bd≠m1:=by omega
 have hcol:∀ c,c < 256→∀ x∈colOf svs c,0≤x∧x < 65536:=λc hc x hx=>by
  obtain⟨s,hs,rfl⟩:=List.mem_map.1 hx
  have:=hr s hs c hc
  omega
 have colLen:∀ c,(colOf svs c).length=svs.length:=λc=>by simp [colOf]
 refine Loop.mk (λs w'=>Keeps (λb=>b=bd∨b=m1) w1 w'∧∃ (c:Nat) (cl:Nat→Int) (num:Nat),c≤256∧s=(c:Int)∧num≤c∧w'.heap[bd]?=some (dObj p l cl nc0)∧MapAt P T.string .str (.int .i64) (V No w') m1 (λk v=>∃ j,j < c∧k=txt (colOf svs j)∧v=cl j)∧MapSz w' m1 num ∧
   goTop ((List.range c).map cl) (-1)=some ((num:Int) - 1)∧(∀ j,j < c→0≤cl j∧cl j < num)∧∀ i j,i < c→j < c→(cl i=cl j↔colOf svs i=colOf svs j)) (λs=>256 - s.toNat) ⟨.refl,0,cl0,0,by omega,rfl,by omega,n1.keeps.blk0 hd,?_,.empty n1.at_,rfl,λj hj=>by omega,λi j hi=>by omega⟩ ?_
 ·exact (MapAt.empty (kt:=.str) (vt:=.int .i64) ⟨id,n1.at_⟩).congr λx y=>by simp
 rintro s w2 ⟨k2,c,cl,num,hc,rfl,hnum,hd2,hm2,hsz2,htop,hcl,hiff⟩ R hR
 refine Br.mk (λht=>?_) (λhf=>?_)
 ·have ht:c < 256:=by have:=kG ht;omega
  refine Ld.sl (cell_of hd2 dCells_l) ?_
  refine App.makeOwn elInt (by show 8 * l.n≤_;omega) (by show l.n≤_;omega) λl3 w3 k3 o3=>?_
  have hd3:=k3.blk0 hd2
  refine Ld.sl (cell_of hd3 dCells_l) ?_
  have k23:=k2.then0 k3
  have hrow:∀ {w'},Keeps (λb=>b=bd∨b=m1) w1 w'→SlC (V (λb=>b=bd∨b=m1) w') l 258 (svs.map DSt.cells):=λ{w'} k=>hl.mono ((V.move n1.keeps (λ_ _ h=>h.elim) (M':=λb=>b=bd∨b=m1) λb hb h=>h.resolve_right (by omega)).trans (V.keeps k))
  refine Loop.mk (λt w'=>Keeps No w2 w'∧∃ i:Nat,i≤svs.length∧t.2=(i:Int)∧Own w' w2.heap.size T.int 1 t.1 (((colOf svs c).take i).map (Ty.int .i64).enc)) (λt=>svs.length - t.2.toNat) ⟨k3,0,by omega,rfl,by rw [List.take_zero];exact o3⟩ ?_
  rintro⟨o,ii⟩ w4 ⟨k4,i,hi,hii,ho⟩ R2 hR2
  dsimp only at hii ho ⊢
  subst hii
  have k24:=k2.then0 k4
  have hol:=ho.len
  simp [colLen] at hol
  refine Br.mk (λht2=>?_) (λhf2=>?_)
  ·have ht2:i < svs.length:=by have:=kG ht2;omega
   have hsv:svs[i]?=some svs[i]:=kC ht2
   generalize svs[i]=sv at hsv
   refine IdxS.recd (hrow k24) (by omega) (by simp;omega) λg off cs hcs hcell=>?_
   simp only [Int.toNat_natCast,List.getElem?_map,hsv,Option.map_some,Option.some.injEq] at hcs
   subst hcs
   refine LdA.gen sv.len hcell ?_
   refine Al.mk λb6 w5 n5=>StA.gen sizeSt n5.at_ (by simp [DSt.len]) (by simp [DSt.len]) (λu hu=>sv.one u (by simpa using hu)) λw6 u6=>?_
   have k46:Keeps No w4 w6:=u6.keeps0 n5.keeps (by have:=n5.eq;omega)
   refine⟨⟨by omega,by omega⟩,?_⟩
   rw [add_eq,Nat.mul_one,Int.toNat_natCast]
   refine Ld.int (cell_of u6.at_ (by rw [List.getElem?_toArray];exact sv.getN ht)) ?_
   have hsr:=hr sv (kD hsv) c ht
   rw [w64_eq (by omega)]
   have z6:=(k4.trans k46).size
   refine append1 (t:=.int .i64) (x:=sv.nx c + 1) elInt (ho.keep0 k46) rfl (by omega) (by omega) z6 λo' w7 o7 m7 k7 g7=>?_
   have e4:w64 ((i:Int) + 1)=((i + 1:Nat):Int):=by rw [w64_eq (by omega)];omega
   rw [e4]
   refine hR2 _ w7 ⟨?_,i + 1,by omega,rfl,?_⟩ (by dsimp only;omega)
   ·refine ((k4.trans k46).no (M:=No)).then k7 λb hb hbl=>?_
    have:=(ho.ge hbl).1
    have:b < w2.heap.size:=hb
    omega
   ·have:(colOf svs c).take (i + 1)=(colOf svs c).take i++[sv.nx c + 1]:=by
     rw [List.take_add_one,colOf,List.getElem?_map,hsv];rfl
    rw [this]
    exact o7
  ·have hf2:i=svs.length:=by have:=kF hf2;omega
   subst hf2
   rw [← colLen c,List.take_length] at ho
   refine dfa_text_spec (ho.reads (M:=No) λ_ _ h=>h) (hcol c ht) (by rw [colLen];omega) λw5 k5=>?_
   have k25:=k24.then0 k5
   have kk:Keeps No w2 w5:=k4.trans k5
   have hm5:MapAt P T.string .str (.int .i64) (V No w5) m1 _:=MapAt.mono hm2 (V.keeps0 kk)
   have hsz5:=hsz2.keep kk id
   have hd5:=kk.blk0 hd2
   have hkey:OkKey P T.string (Ty.str.enc (txt (colOf svs c))):=strKey (by rw [txt_size,colLen];have:(9223372036854775807:Nat)=maxLen:=rfl;omega)
   have e4:w64 ((c:Int) + 1)=((c + 1:Nat):Int):=by rw [w64_eq (by omega)];omega
   refine App.look2 (kt:=.str) (vt:=.int .i64) (z:=0) strIntTy (run_zeroInt w5) (mo:=some m1) hm5 hkey (λy hy=>?_) (λhno=>?_)
   ·obtain⟨j0,hj0,htx,rfl⟩:=hy
    have hce:=txt_inj (hcol c ht) (hcol j0 (by omega)) htx
    refine Join.cut (λs8 w'=>w'=w5∧s8=cl j0) ?_ λj hj=>hj _ _ ⟨rfl,rfl⟩
    rintro s8 w' ⟨rfl,rfl⟩
    refine⟨⟨by omega,by omega⟩,?_⟩
    rw [add_eq,Nat.mul_one,Int.toNat_natCast,Nat.zero_add]
    refine St.blk hd5 (by rw [List.size_toArray,dCells_len];omega) λw6 u6=>?_
    rw [dCells_setc ht] at u6
    rw [e4]
    have hold:∀ j,j < c→(λj=>if j=c then cl j0 else cl j) j=cl j:=λj hj=>by
     have:j≠c:=by omega
     simp [this]
    refine hR _ w6 ⟨k25.trans (u6.keeps.mono λb _ hb=>.inl hb),c + 1,λj=>if j=c then cl j0 else cl j,num,by omega,rfl,by omega,u6.at_,?_,hsz5.keep u6.keeps (by omega),?_,λj hj=>?_,λi j hi hj=>?_⟩ (by omega)
    ·refine MapAt.congr (MapAt.keep hm5 u6.keeps (by omega) id) λk v=>?_
     constructor
     ·rintro⟨j,hj,rfl,rfl⟩;exact⟨j,by omega,rfl,(hold j hj).symm⟩
     ·rintro⟨j,hj,rfl,rfl⟩
      by_cases e:j=c
      ·subst e;exact⟨j0,hj0,by rw [hce],by simp⟩
      ·exact⟨j,by omega,rfl,hold j (by omega)⟩
    ·rw [List.range_succ,List.map_append,goTop_append,List.map_congr_left λj hj=>hold j (by simpa using hj),htop]
     have:=hcl j0 hj0
     simp only [Option.bind_some,List.map_cons,List.map_nil,goTop,if_true]
     rw [if_neg (by omega),if_neg (by omega),if_neg (by omega)]
    ·by_cases e:j=c
     ·subst e;simpa using hcl j0 hj0
     ·simp only [e,if_false];exact hcl j (by omega)
    ·have ei:∀ i,i < c + 1→∃ i',i' < c∧(if i=c then cl j0 else cl i)=cl i'∧colOf svs i=colOf svs i':=λi hi=>by
      by_cases e:i=c
      ·subst e;exact⟨j0,hj0,by simp,hce⟩
      ·exact⟨i,by omega,by simp [e],rfl⟩
     obtain⟨i',h1,h2,h3⟩:=ei i hi
     obtain⟨j',h4,h5,h6⟩:=ei j hj
     show (if i=c then cl j0 else cl i)=(if j=c then cl j0 else cl j)↔_
     rw [h2,h5,h3,h6]
     exact hiff i' j' h1 h4
   ·have hnewk:∀ j,j < c→colOf svs j≠colOf svs c:=λj hj e=>hno (cl j) ⟨j,hj,by rw [e],rfl⟩
    refine Join.cut (λs8 w'=>Keeps (·=m1) w5 w'∧s8=(num:Int)∧MapAt P T.string .str (.int .i64) (V No w') m1 (λk v=>(k=txt (colOf svs c)∧v=(num:Int))∨(k≠txt (colOf svs c)∧∃ j,j < c∧k=txt (colOf svs j)∧v=cl j))∧MapSz w' m1 (num + 1)) ?_ λj hj=>?_
    ·rintro s8 w' ⟨k',rfl,hm',hsz'⟩
     refine⟨⟨by omega,by omega⟩,?_⟩
     rw [add_eq,Nat.mul_one,Int.toNat_natCast,Nat.zero_add]
     refine St.blk (k'.blk hd5 hne) (by rw [List.size_toArray,dCells_len];omega) λw6 u6=>?_
     rw [dCells_setc ht] at u6
     rw [e4]
     have hold:∀ j,j < c→(λj=>if j=c then (num:Int) else cl j) j=cl j:=λj hj=>by
      have:j≠c:=by omega
      simp [this]
     refine hR _ w6 ⟨(k25.trans (k'.mono λb _ hb=>.inr hb)).trans (u6.keeps.mono λb _ hb=>.inl hb),c + 1,λj=>if j=c then (num:Int) else cl j,num + 1,by omega,rfl,by omega,u6.at_,?_,hsz'.keep u6.keeps (by omega),?_,λj hj=>?_,λi j hi hj=>?_⟩ (by omega)
     ·refine MapAt.congr (MapAt.keep hm' u6.keeps (by omega) id) λk v=>?_
      constructor
      ·rintro (⟨rfl,rfl⟩ | ⟨_,j,hj,rfl,rfl⟩)
       ·exact⟨c,by omega,rfl,by simp⟩
       ·exact⟨j,by omega,rfl,(hold j hj).symm⟩
      ·rintro⟨j,hj,rfl,rfl⟩
       by_cases e:j=c
       ·subst e;exact .inl ⟨rfl,by simp⟩
       ·refine .inr ⟨λe2=>hnewk j (by omega) (txt_inj (hcol j (by omega)) (hcol c ht) e2),j,by omega,rfl,hold j (by omega)⟩
     ·rw [List.range_succ,List.map_append,goTop_append,List.map_congr_left λj hj=>hold j (by simpa using hj),htop]
      simp only [Option.bind_some,List.map_cons,List.map_nil,goTop,if_true]
      rw [if_neg (by omega),if_neg (by omega),if_pos (by omega)]
      simp
     ·by_cases e:j=c
      ·subst e;simp;omega
      ·have:=hcl j (by omega)
       simp only [e,if_false];omega
     ·by_cases e1:i=c <;> by_cases e2:j=c
      ·subst e1 e2;simp
      ·subst e1
       have:=hcl j (by omega)
       simp only [if_true,e2,if_false]
       exact⟨λh=>by omega,λh=>absurd h.symm (hnewk j (by omega))⟩
      ·subst e2
       have:=hcl i (by omega)
       simp only [if_true,e1,if_false]
       exact⟨λh=>by omega,λh=>absurd h (hnewk i (by omega))⟩
      ·simp only [e1,e2,if_false]
       exact hiff i j (by omega) (by omega)
    ·refine App.len strIntTy.ty hsz5 ?_
     exact App0.putNew (kt:=.str) (vt:=.int .i64) (x:=txt (colOf svs c)) (y:=(num:Int)) strIntTy hm5 hsz5 hkey (λy hy=>hno y hy) λw' k' _ hm' hsz'=>hj _ _ ⟨k',rfl,hm',hsz'⟩
 ·have hf:c=256:=by have:=kF hf;omega
  subst hf
  refine App.len strIntTy.ty hsz2 ?_
  refine St.blk hd2 (by rw [List.size_toArray,dCells_len];omega) λw3 u3=>?_
  rw [show (0 + 258:Nat)=258 from rfl,dCells_setn] at u3
  refine hK w3 cl num (((n1.keeps.no (M:=λb=>b=bd)).then k2 λb hb h=>h.resolve_right (by omega)).trans u3.keeps) u3.at_ ⟨λa b ha hb=>hiff a b ha hb,htop,λa ha=>(hcl a ha).1⟩
def DfaV (H:View) (d:Option Addr) (svs:List DSt) (cl:Nat→Int) (nc:Int):Prop :=
 ∃ bd p l,d=some ⟨bd,0,none⟩∧H bd (dObj p l cl nc)∧SlC H l 258 (svs.map DSt.cells)∧∀ sv∈svs,SlT (.int .i64) H sv.at_ sv.xs∧(sv.at_.a.isNone=true↔sv.xs=[])
theorem DfaV.mono {H H':View} {d:Option Addr} {svs:List DSt} {cl:Nat→Int} {nc:Int} (h:DfaV H d svs cl nc) (hv:Vle H H'):DfaV H' d svs cl nc:=by
 obtain⟨bd,p,l,h1,h2,h3,h4⟩:=h
 exact⟨bd,p,l,h1,hv _ _ h2,h3.mono hv,λsv hs=>⟨(h4 sv hs).1.mono hv,(h4 sv hs).2⟩⟩
structure DfaOK (fs:List ((Nat→Bool) × Int)) (F:Int→Int→Prop) (ks:List Kn) (svs:List DSt) (cl:Nat→Int) (nc:Int):Prop where
 sts:Sts fs ks svs
 done:Done fs F ks svs.length 0 svs
 cls:Classes svs cl nc
 few:svs.length≤2000
theorem DfaOK.good {fs:List ((Nat→Bool) × Int)} {F:Int→Int→Prop} {ks:List Kn} {svs:List DSt} {cl:Nat→Int} {nc:Int} (h:DfaOK fs F ks svs cl nc) {sv:DSt} (hs:sv∈svs) {c:Nat} (hc:c < 256):GoodN fs F ks svs sv.xs (sv.nx c) c:=by
 obtain⟨i,hi⟩:=List.getElem?_of_mem hs
 exact h.done.rows i sv (kA hi).1 hi c hc
theorem GoodN.range {fs:List ((Nat→Bool) × Int)} {F:Int→Int→Prop} {ks:List Kn} {svs:List DSt} {xs:List Int} {k:Int} {c:Nat} (h:GoodN fs F ks svs xs k c):-1≤k∧k < svs.length∨(k=-1):=by
 rcases h with⟨h,_⟩ | ⟨i,sv,h0,rfl,hi,_⟩
 ·exact .inr h
 ·have:=(kA hi).1
  left;omega
theorem Ld.slv {a:Addr} {w:World} {k:Sl→Prop} {l:Sl} (h:w.cell? a=some (.slice l.a l.n l.c)) (hk:k l):Ld .sl a w k:=⟨l,h,hk⟩
def TooMany (fs:List ((Nat→Bool) × Int)) (F:Int→Int→Prop) (ks:List Kn):Prop:=∃ svs n,Sts fs ks svs∧Done fs F ks n 0 svs∧2000 < svs.length
theorem TooMany.sts {fs:List ((Nat→Bool) × Int)} {F:Int→Int→Prop} {ks:List Kn} (h:TooMany fs F ks):∃ svs,Sts fs ks svs∧2000 < svs.length:=by
 obtain⟨svs,n,h1,_,h2⟩:=h
 exact⟨svs,h1,h2⟩
set_option maxRecDepth 20000 in
theorem dfa_New_spec {w:World} {p:Option Addr} {fs:List ((Nat→Bool) × Int)} {F:Int→Int→Prop} {ks:List Kn} {K:(Option Addr × Int)→World→Prop} (h:MachO (V No w) p fs F ks) (hp:p≠none) (hks:ks.length≤2000)
  (hK0:∀ d svs cl nc w',Keeps No w w'→DfaV (V No w') d svs cl nc→DfaOK fs F ks svs cl nc→K (d,0) w')
  (hK1:∀ w',Keeps No w w'→TooMany fs F ks→K (none,3) w'):dfa_New.C p w K:=by
 refine dfa_New.ok _ _ _ ?_
 simp only [dfa_New.M]
 refine Br.mk (λh0=>by cases p with | none=>exact absurd rfl hp | some a=>cases h0) (λ_=>?_)
 refine App.buildG (buildSt0 (-1)) (App.slice1G elSt (by simp [DSt.len]) (by omega) (by omega) λbs w1 n1=>App.buildG (buildDfa p _ _ _) (Al.mk λbd w2 n2=>Al.mk λmm w3 n3=>Al.mk λbb w4 n4=>?_))
 have e1:=n1.eq;have z1:=n1.size;have e2:=n2.eq;have z2:=n2.size;have e3:=n3.eq;have z3:=n3.size;have e4:=n4.eq;have z4:=n4.size
 have k14:Keeps No w1 w4:=(n2.keeps.trans n3.keeps).trans n4.keeps
 have k04:Keeps No w w4:=n1.keeps.trans k14
 let sv0:DSt:=⟨⟨none,0,0⟩,[],λ_=>0,-1⟩
 have hb0:Bd w4 w.heap.size bb bd mm p fs F ks ⟨some ⟨bs,0,none⟩,1,1⟩ [sv0]:={
  mach:=h.mono (V.move k04 (λ_ _ h=>h.elim) λb hb h=>by have:w.heap.size≤b:=h;omega)
  hb:=n4.at_
  hd:=(n3.keeps.trans n4.keeps).blk0 n2.at_
  own:=⟨by simp [DSt.len],.inr ⟨bs,1,_,rfl,by omega,k14.blk0 n1.at_,Nat.le_refl _,by have:(9223372036854775807:Nat)=maxLen:=rfl;omega,by simp [DSt.len],by simp [DSt.cells,List.take_of_length_le,row256_len,sv0]⟩⟩
  map:=(MapAt.empty (kt:=.str) (vt:=.int .i64) ⟨id,n4.keeps.blk0 n3.at_⟩).congr λk v=>⟨λh=>h.elim,λ⟨i,sv,hi,h0,_⟩=>by
   cases i with
   | zero=>omega
   | succ i=>simp at hi⟩
  ge:=⟨by omega,by omega,by omega⟩
  ne:=⟨by omega,by omega,by omega⟩
  foot:=by
   have hl:∀ b,Sl.blk ⟨some ⟨bs,0,none⟩,1,1⟩ b→b=bs:=λb hb=>blk_one rfl hb
   exact⟨λhb=>by have:=hl _ hb;omega,λhb=>by have:=hl _ hb;omega,λhb=>by have:=hl _ hb;omega⟩
  ats:=λi sv hi=>by
   cases i with
   | zero=>simp at hi;subst hi;exact⟨SlT.nil,by simp [sv0]⟩
   | succ i=>simp at hi
  sts:=⟨⟨sv0,rfl,rfl⟩,λi sv hi h0=>by cases i with | zero=>omega | succ i=>simp at hi,λsv hs=>by simp at hs;subst hs;exact⟨.nil,λq hq=>by simp [sv0] at hq⟩,
   λi j sv sv' hi hj _=>by cases i with | zero=>(cases j with | zero=>rfl | succ j=>simp at hj) | succ i=>simp at hi,λsv hs=>by simp at hs;subst hs;exact .inl ⟨rfl,by simp [sv0]⟩⟩ }
 have hd0:Done fs F ks 0 0 [sv0]:=⟨λi sv hi=>by omega,λsv hs c hc=>by omega,by simp [seqOf,goTop],λv h0 hv=>by simp at hv;omega⟩
 refine Loop.mk (λs w'=>Keeps No w w'∧∃ (i:Nat) (l:Sl) (svs:List DSt),i≤svs.length∧s=(i:Int)∧Bd w' w.heap.size bb bd mm p fs F ks l svs∧Done fs F ks i 0 svs∧svs.length≤2000) (λs=>2001 - s.toNat) ⟨k04,0,_,_,by simp,rfl,hb0,hd0,by simp⟩ ?_
 rintro s w5 ⟨k5,i,l,svs,hi,rfl,hb,hd,hlen⟩ R hR
 have hln:=hb.n
 refine Ld.slv (cell_of hb.hd dCells_l) ?_
 refine Br.mk (λht=>?_) (λhf=>?_)
 ·have ht:i < svs.length:=by have:=kG ht;omega
  have hsv:svs[i]?=some svs[i]:=kC ht
  refine fill_spec hb hsv hd hlen hks λw6 l' svs' k6 hb6 hd6 hle hge=>?_
  have k06:Keeps No w w6:=(k5.no (M:=No)).then k6 λb hb' h'=>by have:w.heap.size≤b:=h';omega
  refine Ld.slv (cell_of hb6.hd dCells_l) ?_
  have hln6:=hb6.n
  refine Br.mk (λhl=>?_) (λhl=>?_)
  ·have hl:2000 < svs'.length:=by have:=kG hl;omega
   exact hK1 w6 k06 ⟨svs',i + 1,hb6.sts,hd6,hl⟩
  ·have hl:svs'.length≤2000:=by have:=kF hl;omega
   have e4:w64 ((i:Int) + 1)=((i + 1:Nat):Int):=by rw [w64_eq (by omega)];omega
   rw [e4]
   exact hR _ w6 ⟨k06,i + 1,l',svs',by omega,rfl,hb6,hd6,hl⟩ (by omega)
 ·have hf:i=svs.length:=by have:=kF hf;omega
  subst hf
  obtain⟨f1,f2,f3⟩:=hb.foot
  have hrow:SlC (V (·=bd) w5) l 258 (svs.map DSt.cells):=hb.own.readsC (by omega) DSt.lens λb hbl hm=>f2 (by have:b=bd:=hm;exact this ▸ hbl)
  refine group_spec hb.hd hrow (λsv hs c hc=>?_) (by omega) λw6 cl nc k6 hd6 hcl=>?_
  ·obtain⟨j,hj⟩:=List.getElem?_of_mem hs
   have:=(hd.rows j sv (kA hj).1 hj c hc).range
   omega
  ·have mv:Vle (V (Bft bb bd mm l) w5) (V No w6):=V.move k6 (λb _ hm=>.inr (.inl hm)) λ_ _ h=>h.elim
   refine hK0 _ svs cl nc w6 ((k5.no (M:=No)).then k6 λb hb' h'=>by have:b=bd:=h';have:=hb.ge.2.1;omega) ⟨bd,p,l,rfl,⟨id,hd6⟩,hrow.mono (V.move k6 (λ_ _ h=>h) λ_ _ h=>h.elim),λsv hs=>?_⟩ ⟨hb.sts,hd,hcl,hlen⟩
   obtain⟨j,hj⟩:=List.getElem?_of_mem hs
   exact⟨(hb.ats j sv hj).1.mono mv,(hb.ats j sv hj).2⟩
def DfaO (H:View) (d:Option Addr) (svs:List DSt) (cl:Nat→Int) (nc:Int):Prop:=(d=none∧svs=[]∧cl=(λ_=>-1)∧nc=0)∨DfaV H d svs cl nc
theorem DfaO.mono {H H':View} {d:Option Addr} {svs:List DSt} {cl:Nat→Int} {nc:Int} (h:DfaO H d svs cl nc) (hv:Vle H H'):DfaO H' d svs cl nc:=h.imp id λh=>h.mono hv
def stAt (svs:List DSt) (n:Int):Option DSt:=if 0≤n then svs[n.toNat]? else none
def nextOf (svs:List DSt) (n:Int) (b:Nat):Int × Bool:=match stAt svs n with
 | some sv=>if sv.nx b=-1 then (0,false) else (sv.nx b,true)
 | none=>(0,false)
def accOf (svs:List DSt) (n:Int):Int:=((stAt svs n).map DSt.acc).getD (-1)
def runFrom (svs:List DSt) (s:List UInt8):Int × Bool→Int × Bool
 | st=>s.foldl (λ(st:Int × Bool) c=>if st.2=true then nextOf svs st.1 c.toNat else st) st
section
variable {w:World} {d:Option Addr} {svs:List DSt} {cl:Nat→Int} {nc:Int}
theorem stAt_in {n:Int} {sv:DSt} (h0:0≤n) (h:svs[n.toNat]?=some sv):stAt svs n=some sv:=by simp [stAt,h0,h]
theorem stAt_out {n:Int} (h:¬ (0≤n∧n < svs.length)):stAt svs n=none:=by
 unfold stAt
 split
 ·exact List.getElem?_eq_none (by omega)
 ·rfl
theorem dfa_States_spec (h:DfaO (V No w) d svs cl nc) {K:Int→World→Prop} (hK:K svs.length w):dfa_Dfa_States.C d w K:=by
 refine dfa_Dfa_States.ok _ _ _ ?_
 simp only [dfa_Dfa_States.M]
 rcases h with⟨rfl,rfl,_⟩ | ⟨bd,p,l,rfl,h2,h3,h4⟩
 ·exact hK
 ·show Ld _ _ _ _
  rw [add_eq]
  refine Ld.slv (cell_of h2.2 dCells_l) ?_
  have:=h3.1
  simp only [List.length_map] at this
  rw [this];exact hK
theorem dfa_has_spec (h:DfaO (V No w) d svs cl nc) {n:Int} {K:Bool→World→Prop} (hK:K (decide (0≤n∧n < svs.length)) w):dfa_Dfa_has.C d n w K:=by
 refine dfa_Dfa_has.ok _ _ _ _ ?_
 simp only [dfa_Dfa_has.M]
 refine Br.mk (λh0=>dfa_States_spec h ?_) (λh0=>?_)
 ·have h0:=kG h0
  have:decide (n < (svs.length:Int))=decide (0≤n∧n < svs.length):=by rw [decide_eq_decide];omega
  rw [this];exact hK
 ·have h0:=kF h0
  rwa [decide_eq_false (by omega)] at hK
theorem dfa_Next_spec (h:DfaO (V No w) d svs cl nc) {n:Int} {b:Nat} (hb:b < 256) {K:(Int × Bool)→World→Prop} (hK:K (nextOf svs n b) w):dfa_Dfa_Next.C d n b w K:=by
 refine dfa_Dfa_Next.ok _ _ _ _ _ ?_
 simp only [dfa_Dfa_Next.M]
 have cellN:∀ {bd:Nat} {p:Option Addr} {l:Sl} {sv:DSt} {k:Int→Prop},SlC (V No w) l 258 (svs.map DSt.cells)→0≤n→n < svs.length→svs[n.toNat]?=some sv→k (sv.nx b)→IdxS l n 258 λp19=>IdxA 256 (p19.add 1) b 1 λp21=>Ld (.int .i64) p21 w k:=by
  intro bd p l sv k h3 h0 h1 hsv hk
  refine IdxS.recd h3 h0 (by simpa using h1) λg off cs hcs hcell=>?_
  simp only [List.getElem?_map,hsv,Option.map_some,Option.some.injEq] at hcs
  subst hcs
  refine⟨⟨by omega,by omega⟩,?_⟩
  dsimp only
  rw [add_eq,add_eq,Nat.mul_one,Int.toNat_natCast,Nat.add_assoc]
  exact Ld.int (hcell (1 + b) _ (sv.getN hb)) hk
 refine Join.cut (λs w'=>w'=w∧(s=true→nextOf svs n b=(0,false))∧(s=false→∃ sv,0≤n∧n < svs.length∧svs[n.toNat]?=some sv∧sv.nx b≠-1)) ?_ ?_
 ·rintro s w' ⟨rfl,g1,g2⟩
  refine Br.mk (λht=>?_) (λhf=>?_)
  ·rw [g1 ht] at hK;exact hK
  ·obtain⟨sv,h0,h1,hsv,hne⟩:=g2 hf
   rcases h with⟨_,rfl,_⟩ | ⟨bd,p,l,rfl,h2,h3,h4⟩
   ·simp at h1;omega
   ·simp only [NilC_some,add_eq]
    refine Ld.slv (cell_of h2.2 dCells_l) ?_
    refine cellN (bd:=bd) (p:=p) h3 h0 h1 hsv ?_
    have:nextOf svs n b=(sv.nx b,true):=by simp [nextOf,stAt_in h0 hsv,hne]
    rw [this] at hK;exact hK
 ·intro j hj
  refine dfa_has_spec h ?_
  refine Br.mk (λhn=>?_) (λhn=>?_)
  ·have hn:¬ (0≤n∧n < svs.length):=kF ((Bool.not_eq_true' _).mp hn)
   exact hj _ _ ⟨rfl,λ_=>by simp [nextOf,stAt_out hn],λe=>by cases e⟩
  ·have hn:0≤n∧n < svs.length:=by simpa using hn
   have hsv:svs[n.toNat]?=some svs[n.toNat]:=kC (by omega)
   generalize svs[n.toNat]=sv at hsv
   rcases h with⟨_,rfl,_⟩ | ⟨bd,p,l,rfl,h2,h3,h4⟩
   ·simp at hn;omega
   ·simp only [NilC_some,add_eq]
    refine Ld.slv (cell_of h2.2 dCells_l) ?_
    refine cellN (bd:=bd) (p:=p) h3 hn.1 hn.2 hsv ?_
    refine hj _ _ ⟨rfl,λe=>?_,λe=>⟨sv,hn.1,hn.2,hsv,by simpa using e⟩⟩
    have:sv.nx b=-1:=by simpa using e
    simp [nextOf,stAt_in hn.1 hsv,this]
theorem dfa_Accept_spec (h:DfaO (V No w) d svs cl nc) {n:Int} {K:Int→World→Prop} (hK:K (accOf svs n) w):dfa_Dfa_Accept.C d n w K:=by
 refine dfa_Dfa_Accept.ok _ _ _ _ ?_
 simp only [dfa_Dfa_Accept.M]
 refine dfa_has_spec h ?_
 refine Br.mk (λhn=>?_) (λhn=>?_)
 ·have hn:¬ (0≤n∧n < svs.length):=kF ((Bool.not_eq_true' _).mp hn)
  have:accOf svs n=-1:=by simp [accOf,stAt_out hn]
  rw [this] at hK;exact hK
 ·have hn:0≤n∧n < svs.length:=by simpa using hn
  have hsv:svs[n.toNat]?=some svs[n.toNat]:=kC (by omega)
  generalize svs[n.toNat]=sv at hsv
  rcases h with⟨_,rfl,_⟩ | ⟨bd,p,l,rfl,h2,h3,h4⟩
  ·simp at hn;omega
  ·simp only [NilC_some,add_eq]
   refine Ld.slv (cell_of h2.2 dCells_l) ?_
   refine IdxS.recd h3 hn.1 (by simpa using hn.2) λg off cs hcs hcell=>?_
   simp only [List.getElem?_map,hsv,Option.map_some,Option.some.injEq] at hcs
   subst hcs
   rw [add_eq]
   refine Ld.int (hcell 257 _ sv.getA) ?_
   have:accOf svs n=sv.acc:=by simp [accOf,stAt_in hn.1 hsv]
   rw [this] at hK;exact hK
end
end Go.Fk
end
section
namespace Go.Fk
open Go
def cntB (f:Nat→Bool):Nat→Nat
 | 0=>0
 | n + 1=>cntB f n + (if f n then 1 else 0)
theorem cntB_le (f:Nat→Bool) (n:Nat):cntB f n≤n:=by
 induction n with
 | zero=>exact Nat.le_refl _
 | succ n ih=>simp only [cntB];split <;> omega
theorem cntB_mono {f g:Nat→Bool} (h:∀ i,f i=true→g i=true) (n:Nat):cntB f n≤cntB g n:=by
 induction n with
 | zero=>exact Nat.le_refl _
 | succ n ih =>
  simp only [cntB]
  have:=h n
  cases hf:f n <;> cases hg:g n <;> simp_all <;> omega
theorem cntB_lt {f g:Nat→Bool} (h:∀ i,f i=true→g i=true) {n i:Nat} (hi:i < n) (h1:f i=false) (h2:g i=true):cntB f n < cntB g n:=by
 induction n with
 | zero=>omega
 | succ n ih =>
  simp only [cntB]
  by_cases e:i=n
  ·subst e
   have:=cntB_mono h i
   simp [h1,h2];omega
  ·have:=ih (by omega)
   have:=h n
   cases hf:f n <;> cases hg:g n <;> simp_all <;> omega
end Go.Fk
end
end
