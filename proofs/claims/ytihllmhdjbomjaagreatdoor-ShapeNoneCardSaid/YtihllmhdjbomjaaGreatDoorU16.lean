/-
  A part of the proof: what the functions of the program come to, read off the model: no premise of its own, no axiom. Blank space is spared. By an AI agent.
-/
import Derived.Test.YtihllmhdjbomjaaGreatDoorU5
import Derived.Test.YtihllmhdjbomjaaGreatDoorU6
import Derived.Test.YtihllmhdjbomjaaGreatDoorShelf
import Derived.Test.YtihllmhdjbomjaaGreatDoorU4
import Derived.Test.YtihllmhdjbomjaaGreatDoorU8
import Derived.Test.YtihllmhdjbomjaaGreatDoorU9
import Derived.Test.YtihllmhdjbomjaaGreatDoorU10
import Derived.Test.YtihllmhdjbomjaaGreatDoorU11
import Derived.Test.YtihllmhdjbomjaaGreatDoorU12
import Derived.Test.YtihllmhdjbomjaaGreatDoorU13
import Derived.Test.YtihllmhdjbomjaaGreatDoorU14
import Derived.Test.YtihllmhdjbomjaaGreatDoorU15
import Derived.Lib.LaidTab
set_option linter.all false
set_option maxRecDepth 100000
noncomputable section
section
namespace Go.Ev
open Go Go.Fk
def HdU:Unit→Loc→View→Prop:=λ_ _ _=>False
def TabX (w:World):Prop:=Lib.TabIs P w "internal/strconv.uint64pow10" .u64 Lib.pow10Tab
structure G (m:Int) (B:Base):Prop where
 c:B.w.cell? ⟨0,0,none⟩=some (.int .i64 m)∧¬ B.M 0
 x:Stays B TabX
theorem G.next {m:Int} {B:Base} {φ:Phi} {σ:H Unit} {w:World} {M:Nat→Prop} (hB:G m B) (hr:Rel P HdU B φ σ w) (hM:∀ b,M b→B.New b):G m ⟨w,M⟩:=⟨hr.cellM hM hB.c,hr.staysM hM hB.x⟩
def Good (B:Base) (p:Nat × Fx Unit):Prop:=p.1 < 4096∧FxOK P HdU B p.1 p.2∧FxDet p.2
theorem cF {B:Base} {F:Nat} {h:Fx Unit} {l:List (Nat × Fx Unit)} (e:evFn (D:=Unit) PG adv F=h) (hl:∀ p∈l,Good B p) (hF:F < 4096:=by decide) (hen:enters P F=true:=by kernel_rfl):∀ p∈(F,h)::l,Good B p:=by
 subst e;exact List.forall_mem_cons.2 ⟨⟨hF,evFn_ok P_mixed hen,evFn_det⟩,hl⟩
theorem cH {B:Base} {F:Nat} {h:Hk Unit} {l:List (Nat × Fx Unit)} (h1:FxOK P HdU B F (λ_ _ _=>h)) (h2:FxDet (λ_ _ _=>h)) (hl:∀ p∈l,Good B p) (hF:F < 4096:=by decide):∀ p∈(F,λ_ _ _=>h)::l,Good B p:=List.forall_mem_cons.2 ⟨⟨hF,h1,h2⟩,hl⟩
theorem good_app {B:Base} {l l':List (Nat × Fx Unit)} (h:∀ p∈l,Good B p) (h':∀ p∈l',Good B p):∀ p∈l++l',Good B p:=λp hp=>(List.mem_append.1 hp).elim (h p) (h' p)
theorem stage_ok {m:Int} {T:T4 (Fx Unit)} {F:Nat} {ms:List Memo} (hT:∀ B,G m B→ClOK P HdU B (evF T 5000 60 true)) (hen:enters P F=true) (hms:∀ x∈ms,x.closed=true∧x.run T 5000 60 F=.ok) {B:Base} (hB:G m B):FxOK P HdU B F (λ_ _ _=>(hkMemos ms (λ_ _ _=>.no 404):Hk Unit)) :=
 memos_ok hen λx hx=>memo_ok hen (hms x hx).1 (hms x hx).2 hT λ_ _ _ _ hr hM=>hB.next hr hM
def ents:List (Nat × Fx Unit):=[(15,f15),(16,f16),(17,f17),(18,f18),(19,f19),(21,f21),(23,f23),(24,f24),(27,f27),(28,f28),(33,f33),(34,f34),(35,f35),(38,f38),(39,f39),(40,f40),(41,f41),(42,f42),(43,f43),(44,f44),(45,f45),(46,f46),(47,f47),(48,f48),(49,f49),(50,f50),(51,f51),(52,f52),(53,f53),(55,f55),(56,f56),(59,f59),(61,f61),(62,f62),(63,f63),(64,f64),(65,f65),(70,f70),(72,f72),(73,f73),(74,f74),(75,f75),(76,f76),(77,f77),(78,f78),(79,f79),(80,f80),(81,f81),(82,f82),(83,f83),(84,f84),(85,f85),(86,f86),(87,f87),(88,f88),(91,f91),(92,f92),(93,f93),(94,f94),(95,f95),(96,f96),(97,f97),(105,f105),(106,f106),(107,f107),(108,f108),(109,f109),(114,f114),(115,f115),(116,f116),(117,f117),(118,f118),(119,evFn PG adv 119),(120,f120),(121,f121),(122,f122),(123,f123),(124,f124),(125,f125),(126,f126),(127,f127),(128,f128),(129,f129),(132,f132),(133,f133),(134,f134),(135,f135),(136,f136),(137,f137),(138,f138),(139,f139),(140,f140),(141,f141),(142,f142),(144,f144),(145,f145),(146,f146),(150,f150),(151,f151),(152,f152),(153,f153),(156,f156),(157,f157),(158,f158),(159,f159),(160,f160),(162,f162),(163,f163),(164,f164),(165,f165),(166,f166),(167,evFn PG adv 167),(168,f168),(169,f169),(170,f170),(171,f171),(172,f172),(173,f173),(174,f174),(175,f175),(176,f176),(177,f177),(178,f178),(179,f179),(180,f180),(181,f181),(190,f190),(192,f192),(195,f195),(196,f196),(197,f197),(198,f198),(199,f199),(200,f200),(201,f201),(202,f202),(203,f203),(204,f204),(205,f205),(206,f206),(207,f207),(209,f209),(210,f210),(211,f211),(212,f212),(213,f213),(214,f214),(215,f215),(218,f218),(219,f219),(220,f220),(221,f221),(222,f222),(223,f223),(224,f224),(225,f225),(226,f226),(227,f227),(228,f228),(229,f229),(236,f236),(238,f238),(239,f239),(241,f241),(242,f242),(243,f243),(244,f244),(245,f245),(246,f246),(247,f247),(248,f248),(249,f249),(250,f250),(251,f251),(252,f252),(253,f253),(254,f254),(255,f255),(256,f256),(257,f257),(258,f258),(259,f259),(261,f261),(264,f264),(265,f265),(266,f266),(267,f267),(268,f268),(269,f269),(270,f270),(271,f271),(272,f272),(273,f273),(274,f274),(280,f280),(281,f281),(282,f282),(284,f284),(285,f285),(286,f286),(287,f287),(288,f288),(289,f289),(290,f290),(291,f291),(292,f292),(293,f293),(294,f294),(297,f297),(306,f306),(307,f307),(308,f308),(309,f309),(310,f310),(315,f315),(316,f316),(317,f317),(318,f318),(319,f319),(321,f321),(323,f323),(324,f324),(325,f325),(326,f326),(327,f327),(333,f333),(336,f336),(337,f337),(338,f338),(339,f339),(342,f342),(343,f343),(344,f344),(345,f345),(346,f346),(347,f347),(348,f348),(349,f349),(350,f350),(351,f351),(361,f361),(362,f362),(363,f363),(366,f366),(367,f367),(368,f368),(372,f372),(373,f373),(375,f375),(377,f377),(395,f395),(397,f397),(398,f398),(54,λ_ _ _=>hkCut),(191,λ_ _ _=>hkCutPrefix),(189,λ_ _ _=>hkHasPrefix),(90,λ_ _ _=>(hkSplit 9)),(143,λ_ _ _=>hkItoaN),(194,λ_ _ _=>hkIndexByte),(112,λ_ _ _=>(hkCopy 189)),(71,λ_ _ _=>(hkStr 189 5)),(322,λ_ _ _=>(hkSrt 3)),(283,λ_ _ _=>hkClone),(161,λ_ _ _=>(hkSF SB 218 163 181)),(260,λ_ _ _=>(hkSF S3 297 214 325))]
theorem ents_ok {m:Int} {B:Base} (hB:G m B):∀ p∈ents,Good B p :=
 cF f15_eq <|
 cF f16_eq <|
 cF f17_eq <|
 cF f18_eq <|
 cF f19_eq <|
 cF f21_eq <|
 cF f23_eq <|
 cF f24_eq <|
 cF f27_eq <|
 cF f28_eq <|
 cF f33_eq <|
 cF f34_eq <|
 cF f35_eq <|
 cF f38_eq <|
 cF f39_eq <|
 cF f40_eq <|
 cF f41_eq <|
 cF f42_eq <|
 cF f43_eq <|
 cF f44_eq <|
 cF f45_eq <|
 cF f46_eq <|
 cF f47_eq <|
 cF f48_eq <|
 cF f49_eq <|
 cF f50_eq <|
 cF f51_eq <|
 cF f52_eq <|
 cF f53_eq <|
 cF f55_eq <|
 cF f56_eq <|
 cF f59_eq <|
 cF f61_eq <|
 cF f62_eq <|
 cF f63_eq <|
 cF f64_eq <|
 cF f65_eq <|
 cF f70_eq <|
 cF f72_eq <|
 cF f73_eq <|
 cF f74_eq <|
 cF f75_eq <|
 cF f76_eq <|
 cF f77_eq <|
 cF f78_eq <|
 cF f79_eq <|
 cF f80_eq <|
 cF f81_eq <|
 cF f82_eq <|
 cF f83_eq <|
 cF f84_eq <|
 cF f85_eq <|
 cF f86_eq <|
 cF f87_eq <|
 cF f88_eq <|
 cF f91_eq <|
 cF f92_eq <|
 cF f93_eq <|
 cF f94_eq <|
 cF f95_eq <|
 cF f96_eq <|
 cF f97_eq <|
 cF f105_eq <|
 cF f106_eq <|
 cF f107_eq <|
 cF f108_eq <|
 cF f109_eq <|
 cF f114_eq <|
 cF f115_eq <|
 cF f116_eq <|
 cF f117_eq <|
 cF f118_eq <|
 cF (F:=119) rfl <|
 cF f120_eq <|
 cF f121_eq <|
 cF f122_eq <|
 cF f123_eq <|
 cF f124_eq <|
 cF f125_eq <|
 cF f126_eq <|
 cF f127_eq <|
 cF f128_eq <|
 cF f129_eq <|
 cF f132_eq <|
 cF f133_eq <|
 cF f134_eq <|
 cF f135_eq <|
 cF f136_eq <|
 cF f137_eq <|
 cF f138_eq <|
 cF f139_eq <|
 cF f140_eq <|
 cF f141_eq <|
 cF f142_eq <|
 cF f144_eq <|
 cF f145_eq <|
 cF f146_eq <|
 cF f150_eq <|
 cF f151_eq <|
 cF f152_eq <|
 cF f153_eq <|
 cF f156_eq <|
 cF f157_eq <|
 cF f158_eq <|
 cF f159_eq <|
 cF f160_eq <|
 cF f162_eq <|
 cF f163_eq <|
 cF f164_eq <|
 cF f165_eq <|
 cF f166_eq <|
 cF (F:=167) rfl <|
 cF f168_eq <|
 cF f169_eq <|
 cF f170_eq <|
 cF f171_eq <|
 cF f172_eq <|
 cF f173_eq <|
 cF f174_eq <|
 cF f175_eq <|
 cF f176_eq <|
 cF f177_eq <|
 cF f178_eq <|
 cF f179_eq <|
 cF f180_eq <|
 cF f181_eq <|
 cF f190_eq <|
 cF f192_eq <|
 cF f195_eq <|
 cF f196_eq <|
 cF f197_eq <|
 cF f198_eq <|
 cF f199_eq <|
 cF f200_eq <|
 cF f201_eq <|
 cF f202_eq <|
 cF f203_eq <|
 cF f204_eq <|
 cF f205_eq <|
 cF f206_eq <|
 cF f207_eq <|
 cF f209_eq <|
 cF f210_eq <|
 cF f211_eq <|
 cF f212_eq <|
 cF f213_eq <|
 cF f214_eq <|
 cF f215_eq <|
 cF f218_eq <|
 cF f219_eq <|
 cF f220_eq <|
 cF f221_eq <|
 cF f222_eq <|
 cF f223_eq <|
 cF f224_eq <|
 cF f225_eq <|
 cF f226_eq <|
 cF f227_eq <|
 cF f228_eq <|
 cF f229_eq <|
 cF f236_eq <|
 cF f238_eq <|
 cF f239_eq <|
 cF f241_eq <|
 cF f242_eq <|
 cF f243_eq <|
 cF f244_eq <|
 cF f245_eq <|
 cF f246_eq <|
 cF f247_eq <|
 cF f248_eq <|
 cF f249_eq <|
 cF f250_eq <|
 cF f251_eq <|
 cF f252_eq <|
 cF f253_eq <|
 cF f254_eq <|
 cF f255_eq <|
 cF f256_eq <|
 cF f257_eq <|
 cF f258_eq <|
 cF f259_eq <|
 cF f261_eq <|
 cF f264_eq <|
 cF f265_eq <|
 cF f266_eq <|
 cF f267_eq <|
 cF f268_eq <|
 cF f269_eq <|
 cF f270_eq <|
 cF f271_eq <|
 cF f272_eq <|
 cF f273_eq <|
 cF f274_eq <|
 cF f280_eq <|
 cF f281_eq <|
 cF f282_eq <|
 cF f284_eq <|
 cF f285_eq <|
 cF f286_eq <|
 cF f287_eq <|
 cF f288_eq <|
 cF f289_eq <|
 cF f290_eq <|
 cF f291_eq <|
 cF f292_eq <|
 cF f293_eq <|
 cF f294_eq <|
 cF f297_eq <|
 cF f306_eq <|
 cF f307_eq <|
 cF f308_eq <|
 cF f309_eq <|
 cF f310_eq <|
 cF f315_eq <|
 cF f316_eq <|
 cF f317_eq <|
 cF f318_eq <|
 cF f319_eq <|
 cF f321_eq <|
 cF f323_eq <|
 cF f324_eq <|
 cF f325_eq <|
 cF f326_eq <|
 cF f327_eq <|
 cF f333_eq <|
 cF f336_eq <|
 cF f337_eq <|
 cF f338_eq <|
 cF f339_eq <|
 cF f342_eq <|
 cF f343_eq <|
 cF f344_eq <|
 cF f345_eq <|
 cF f346_eq <|
 cF f347_eq <|
 cF f348_eq <|
 cF f349_eq <|
 cF f350_eq <|
 cF f351_eq <|
 cF f361_eq <|
 cF f362_eq <|
 cF f363_eq <|
 cF f366_eq <|
 cF f367_eq <|
 cF f368_eq <|
 cF f372_eq <|
 cF f373_eq <|
 cF f375_eq <|
 cF f377_eq <|
 cF f395_eq <|
 cF f397_eq <|
 cF f398_eq <|
 cH (cut_ok hB.c (by kernel_rfl) λs sep m w h1 h2=>Go.Proofs.Tryz.strings_Cut s sep m w h1 h2) cut_det <|
 cH (cutPrefix_ok (by kernel_rfl) λs p w=>Go.Proofs.Tryz.strings_CutPrefix s p w) cutPrefix_det <|
 cH (hasPrefix_ok (by kernel_rfl) λs p w=>Go.Proofs.Tryz.strings_HasPrefix s p w) hasPrefix_det <|
 cH (split_ok hB.c (by kernel_rfl) λs sep m w h1 h2 h3=>Go.Proofs.Tryz.strings_Split s sep m w h1 h2 h3) split_det <|
 cH (itoaN_ok hB.x (by kernel_rfl) λn w hx h1 h2=>(Go.Proofs.Tryz.strconv_Itoa n (by omega) (by omega) w hx).mono λe w2 ⟨a1,k,os,a2⟩=>⟨a1,Gr.keeps ⟨k,os,a2⟩⟩) itoaN_det <|
 cH (indexByte_ok (by kernel_rfl) λs c w=>Go.Proofs.Tryz.strings_IndexByte s c w) indexByte_det <|
 cH (copy_ok (by kernel_rfl) (λb w h=>Go.Proofs.Tryz.copyCheck_used b w h) (λb w h1 h2 h3=>Go.Proofs.Tryz.copyCheck_fresh b w h1 h2 h3)) copy_det <|
 cH (str_ok (by kernel_rfl) (λb p w h=>Go.Proofs.Tryz.Builder_String_nil b p w h) (λb g off cap l cur p w h1 h2 h3 h4 h5 h6 h7=>Go.Proofs.Tryz.Builder_String_row b g off cap l cur p w h1 h2 h3 h4 h5 h6 h7)) str_det <|
 cH (srt_ok (by kernel_rfl) (λw=>srt_nil w) (λb arr clock w h1 h2 h3=>srt_calls b arr clock w h1 h2 h3)) srt_det <|
 cH (clone_ok (by kernel_rfl) (λw=>Go.Proofs.Tryz.maps_Clone_nil w) (λb es clock w hb=>Go.Proofs.Tryz.maps_Clone b es clock w hb)) clone_det <|
 cH (sf_ok SB_ok (by kernel_rfl) (λa b arr clock w ys h1 h2 h3 h4 h5=>symSF_calls a b arr clock w ys h1 h2 h3 h4 h5)) sf_det <|
 cH (sf_ok S3_ok (by kernel_rfl) (λa b arr clock w ys h1 h2 h3 h4 h5=>itemSF_calls a b arr clock w ys h1 h2 h3 h4 h5)) sf_det <|
 λ_ h=>by cases h
def H0:H Unit:=.mk T5.nil 0 []
def isTrue (v:V):R:=v.onB (λb=>iff' b .ok (.no 998)) 999
theorem look0 (v:Nat):H0.look v=none:=look_nil 0 v
theorem rel0 (w:World):Rel P HdU ⟨w,λ_=>False⟩ (λ_=>none) H0 w:=by
 refine⟨Keeps.refl,λ_ _=>rfl,λv b h _=>?_,λv v' b b' L L' h=>?_⟩
 ·rw [look0] at h;cases h
 ·rw [look0] at h;cases h
theorem tab_keeps {Q:Program} {nm:String} {kd:IntKind} {zs:List Int} {w w':World} (h:Lib.TabIs Q w nm kd zs) (hk:Keeps No w w'):Lib.TabIs Q w' nm kd zs:=by
 unfold Lib.TabIs World.var? at *
 generalize Q.globalNamed nm=g at *
 cases g with
 | none=>exact h
 | some g =>
  simp only [Option.bind_some] at h ⊢
  cases hh:w.heap[g]? with
  | none=>rw [hh] at h;cases h
  | some ob=>rw [hk.keep g (lt_of_some hh) id,hh];rw [hh] at h;exact h
theorem G0 {w:World} {m:Int} (hm:w.cell? ⟨0,0,none⟩=some (.int .i64 m)) (ht:TabX w):G m ⟨w,λ_=>False⟩ :=
 ⟨⟨hm,id⟩,λw' hk=>tab_keeps ht hk⟩
theorem awake_ok {w:World} {m:Int} {T:T4 (Fx Unit)} (hT:∀ B,G m B→ClOK P HdU B (evF T 5000 60 true)) (hm:w.cell? ⟨0,0,none⟩=some (.int .i64 m)) (ht:TabX w) {F:Nat} (h:evF T 5000 60 true F [] H0 (λv _=>isTrue v)=.ok) {K:Bool→World→Prop} (hK:∀ w',Keeps No w w'→K true w'):CallF P F #[] (.one .bool) w K:=by
 obtain⟨_,hc⟩:=hT _ (G0 hm ht) F [] H0 _ _ w [] (rel0 w) rfl h
 refine hc.mono λe w' ⟨y,he,φ,v,σ,_,hr,hv,_,hk⟩=>?_
 obtain⟨b,rfl,hb⟩:=onB_ok hk
 obtain⟨rfl,_⟩:=iff_ok hb
 have:y=.bool true:=by simpa [dec] using hv.symm
 subst this
 exact⟨true,he,hK w' ⟨hr.keeps.os,hr.keeps.tape,hr.keeps.output,hr.keeps.size,λb hb h=>hr.keeps.keep b hb h⟩⟩
end Go.Ev
end
end
