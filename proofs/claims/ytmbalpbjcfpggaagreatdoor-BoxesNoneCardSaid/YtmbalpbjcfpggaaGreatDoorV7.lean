/-
  A part of the proof: what the functions of the program come to, read off the model: no premise of its own, no axiom. Blank space is spared. By an AI agent.
-/
import Derived.Test.YtmbalpbjcfpggaaGreatDoorV4
import Derived.Lib.Replace
import Derived.Lib.Repeat
set_option linter.all false
set_option maxRecDepth 100000
noncomputable section
section
namespace Go.Ev
open Go Go.Fk
def replL (c d:Nat):List Nat→List Nat
 | []=>[]
 | a::l=>(match Nat.beq (a % 256) (c % 256) with | true=>d | false=>a)::replL c d l
section
variable {D:Type}
def hkReplace:Hk D:=λargs σ k=>match args with
 | [.s s,.s [c],.s [d]]=>iff' (Nat.blt (List.length s) 1000000&&Bool.rec (motive:=λ_=>Bool) true false (Nat.beq (c % 256) (d % 256))) (k (.s (replL c d s)) σ) (.no 340)
 | _=>.no 340
end
theorem replL_cut (c d:Nat):∀ (s acc:List Nat),acc.reverse++replL c d s=match cutL c s acc with
  | none=>acc.reverse++s
  | some (a,b)=>a++d::replL c d b
 | [],acc=>by simp [replL,cutL]
 | x::l,acc=>by
  have e1:replL c d (x::l)=(match Nat.beq (x % 256) (c % 256) with | true=>d | false=>x)::replL c d l:=rfl
  have e2:cutL c (x::l) acc=match Nat.beq (x % 256) (c % 256) with | true=>some (acc.reverse,l) | false=>cutL c l (x::acc):=rfl
  rw [e1,e2]
  cases Nat.beq (x % 256) (c % 256) with
  | true=>rfl
  | false =>
   simp only
   have:=replL_cut c d l (x::acc)
   rw [List.reverse_cons,List.append_assoc] at this
   simp only [List.cons_append,List.nil_append] at this
   rw [this]
   cases cutL c l (x::acc) with
   | none=>simp
   | some p=>rfl
theorem replL_ok (c d:Nat):∀ (f:Nat) (s:List Nat),s.length < f→(replL c d s).map UInt8.ofNat=Lib.replaceK [UInt8.ofNat c] [UInt8.ofNat d] (Lib.countFrom [UInt8.ofNat c] f (s.map UInt8.ofNat)) (s.map UInt8.ofNat):=by
 intro f
 induction f with
 | zero=>intro s h;omega
 | succ f ih =>
  intro s h
  have hc:=cutL_ok c s []
  have hr:=replL_cut c d s []
  simp only [List.reverse_nil,List.nil_append] at hr
  cases hcut:cutL c s [] with
  | none =>
   rw [hcut] at hc hr
   simp only at hc hr
   rw [Lib.countFrom,hc,hr]
   simp [Lib.replaceK]
  | some p =>
   rw [hcut] at hc hr
   simp only at hr
   obtain⟨i,h1,h2,h3,h4⟩:=hc
   have hlen:p.2.length < f:=by rw [h3];simp;omega
   have g1:=ih p.2 hlen
   have hd:(s.map UInt8.ofNat).drop (((i:Int)).toNat + [UInt8.ofNat c].length)=p.2.map UInt8.ofNat:=by rw [h3];simp [List.map_drop]
   have hne:¬ ((i:Int)==-1)=true:=λe=>by have:=beq_iff_eq.1 e;omega
   rw [Lib.countFrom,h1,if_neg hne,hd,Nat.add_comm 1,Lib.replaceK,h1,if_neg hne,hd,← g1,hr]
   simp [h2,List.map_take]
section
variable {D:Type} {P:Program} {Hd:D→Loc→View→Prop} {w0:Base} {F:Nat} {φ:Phi}
theorem replace_ok {m:Int} (hm:w0.w.cell? ⟨0,0,none⟩=some (.int .i64 m)∧¬ w0.M 0) (hen:enters P F=true)
  (hC:∀ (s old new:ByteArray) (m:Int) (w:World),s.size < 4294967281→w.cell? ⟨0,0,none⟩=some (.int .i64 m)→1≤old.size→s.size + Lib.countB s old * new.size≤140737488355328→Calls P F #[.string s,.string old,.string new] w λe w' =>
   e=.returned (.string ⟨(Lib.replaceAll s.data.toList old.data.toList new.data.toList).toArray⟩)∧Keeps No w w'):FxOK P Hd w0 F (λ_ _ _=>(hkReplace:Hk D)):=by
 refine FxOK.of hen λl σ k φ w vs hr hd h=>?_
 unfold hkReplace at h
 split at h <;> try (cases h;done)
 rename_i s c d
 have hvs:vs=[.string (bytesOf s),.string (bytesOf [c]),.string (bytesOf [d])]:=by
  simp [decs,dec] at hd;exact hd.symm
 subst hvs
 obtain⟨hb,h9⟩:=iff_ok h
 simp only [Bool.and_eq_true] at hb
 have hl:s.length < 1000000:=by simpa using hb.1
 have hcd:Nat.beq (c % 256) (d % 256)=false:=by
  have:=hb.2
  cases h:Nat.beq (c % 256) (d % 256) with
  | false=>rfl
  | true=>rw [h] at this;cases this
 have hc1:(bytesOf [c]).data.toList=[UInt8.ofNat c]:=by rw [bytesOf_list];rfl
 have hd1:(bytesOf [d]).data.toList=[UInt8.ofNat d]:=by rw [bytesOf_list];rfl
 have hcnt:Lib.countB (bytesOf s) (bytesOf [c])=Lib.countFrom [UInt8.ofNat c] (s.length + 1) (s.map UInt8.ofNat):=by
  show Lib.count (bytesOf s).data.toList (bytesOf [c]).data.toList=_
  rw [hc1,bytesOf_list]
  unfold Lib.count
  rw [List.length_map]
 have hcl:Lib.countB (bytesOf s) (bytesOf [c])≤s.length:=by
  have h2:=(splitL_ok c (s.length + 1) s (by omega)).2
  have h3:∀ (s acc:List Nat),(splitL c s acc).length≤s.length + 1:=by
   intro s
   induction s with
   | nil=>intro acc;simp [splitL]
   | cons x l ih =>
    intro acc
    have e1:splitL c (x::l) acc=match Nat.beq (x % 256) (c % 256) with | true=>acc.reverse::splitL c l [] | false=>splitL c l (x::acc):=rfl
    rw [e1]
    cases Nat.beq (x % 256) (c % 256) with
    | true=>have:=ih [];simp;omega
    | false=>have:=ih (x::acc);simp;omega
  have:=h3 s []
  rw [hcnt];omega
 refine (hC (bytesOf s) (bytesOf [c]) (bytesOf [d]) m w (by rw [bytesOf_size];omega) (hr.cell0 hm) (by rw [bytesOf_size];exact Nat.le_refl _) (by rw [bytesOf_size,bytesOf_size];simp;omega)).mono λe w' ⟨h1,h2⟩=>?_
 refine⟨_,h1,φ,_,σ,.refl _,hr.keep h2,?_,.refl _,h9⟩
 rw [hc1,hd1,bytesOf_list]
 have hne:¬ ([UInt8.ofNat c]==[UInt8.ofNat d])=true:=λe=>by
  rw [u8_eq] at hcd
  have:UInt8.ofNat c=UInt8.ofNat d:=by simpa using e
  rw [this] at hcd;simp at hcd
 have hnum:Lib.replaceNum (s.map UInt8.ofNat) [UInt8.ofNat c] (-1)=Lib.countFrom [UInt8.ofNat c] (s.length + 1) (s.map UInt8.ofNat):=by
  unfold Lib.replaceNum Lib.count
  rw [if_pos (.inl (by omega)),List.length_map]
 simp only [dec,Lib.replaceAll,Lib.replace,if_neg hne,hnum,← replL_ok c d (s.length + 1) s (by omega)]
 rfl
theorem replace_det:FxDet (λ_ _ _=>(hkReplace:Hk D)):=FxDet.of λκ p l σ f hf=>by
 unfold hkReplace
 split
 ·rename_i s c d
  exact Det.iff (f:=λk=>f (.s (replL c d s)) σ k) (λ_=>hf _ _ (.refl _)) (λ_=>Det.no)
 ·exact Det.no
end
end Go.Ev
end
end
