/-
  A part of the proof: what the functions of the program come to, read off the model: no premise of its own, no axiom. Blank space is spared. By an AI agent.
-/
import Derived.Test.YtmbalpbjcfpggaaGreatDoorV5
import Derived.Test.YtmbalpbjcfpggaaGreatDoorV6
import Derived.Test.YtmbalpbjcfpggaaGreatDoorShelf
import Derived.Test.YtmbalpbjcfpggaaGreatDoorV7
import Derived.Test.YtmbalpbjcfpggaaGreatDoorV4
import Derived.Test.YtmbalpbjcfpggaaGreatDoorV9
import Derived.Test.YtmbalpbjcfpggaaGreatDoorV10
import Derived.Test.YtmbalpbjcfpggaaGreatDoorV11
import Derived.Test.YtmbalpbjcfpggaaGreatDoorV12
import Derived.Test.YtmbalpbjcfpggaaGreatDoorV13
import Derived.Test.YtmbalpbjcfpggaaGreatDoorV14
import Derived.Test.YtmbalpbjcfpggaaGreatDoorV15
import Derived.Lib.LaidTab
set_option linter.all false
set_option maxRecDepth 100000
noncomputable section
section
namespace Go.Ev
open Go Go.Fk
def HdU:Unit→Loc→View→Prop:=λ_ _ _=>False
def TabX (w:World):Prop:=Lib.TabIs P w "internal/strconv.uint64pow10" .u64 Lib.pow10Tab
structure G (m:Int) (B:Base):Prop where
 c:B.w.cell? ⟨0,0,none⟩=some (.int .i64 m)∧¬ B.M 0
 x:Stays B TabX
theorem G.next {m:Int} {B:Base} {φ:Phi} {σ:H Unit} {w:World} {M:Nat→Prop} (hB:G m B) (hr:Rel P HdU B φ σ w) (hM:∀ b,M b→B.New b):G m ⟨w,M⟩:=⟨hr.cellM hM hB.c,hr.staysM hM hB.x⟩
def Good (B:Base) (p:Nat × Fx Unit):Prop:=p.1 < 4096∧FxOK P HdU B p.1 p.2∧FxDet p.2
theorem cF {B:Base} {F:Nat} {h:Fx Unit} {l:List (Nat × Fx Unit)} (e:evFn (D:=Unit) PG adv F=h) (hl:∀ p∈l,Good B p) (hF:F < 4096:=by decide) (hen:enters P F=true:=by kernel_rfl):∀ p∈(F,h)::l,Good B p:=by
 subst e;exact List.forall_mem_cons.2 ⟨⟨hF,evFn_ok P_mixed hen,evFn_det⟩,hl⟩
theorem cH {B:Base} {F:Nat} {h:Hk Unit} {l:List (Nat × Fx Unit)} (h1:FxOK P HdU B F (λ_ _ _=>h)) (h2:FxDet (λ_ _ _=>h)) (hl:∀ p∈l,Good B p) (hF:F < 4096:=by decide):∀ p∈(F,λ_ _ _=>h)::l,Good B p:=List.forall_mem_cons.2 ⟨⟨hF,h1,h2⟩,hl⟩
theorem good_app {B:Base} {l l':List (Nat × Fx Unit)} (h:∀ p∈l,Good B p) (h':∀ p∈l',Good B p):∀ p∈l++l',Good B p:=λp hp=>(List.mem_append.1 hp).elim (h p) (h' p)
theorem stage_ok {m:Int} {T:T4 (Fx Unit)} {F:Nat} {ms:List Memo} (hT:∀ B,G m B→ClOK P HdU B (evF T 5000 60 true)) (hen:enters P F=true) (hms:∀ x∈ms,x.closed=true∧x.run T 5000 60 F=.ok) {B:Base} (hB:G m B):FxOK P HdU B F (λ_ _ _=>(hkMemos ms (λ_ _ _=>.no 404):Hk Unit)) :=
 memos_ok hen λx hx=>memo_ok hen (hms x hx).1 (hms x hx).2 hT λ_ _ _ _ hr hM=>hB.next hr hM
def ents:List (Nat × Fx Unit):=[(4,f4),(5,f5),(6,f6),(7,f7),(8,f8),(9,f9),(10,f10),(13,f13),(14,f14),(15,f15),(16,f16),(17,f17),(18,f18),(19,f19),(20,f20),(21,f21),(22,f22),(23,f23),(24,f24),(25,f25),(26,f26),(27,f27),(28,f28),(30,f30),(31,f31),(32,f32),(33,f33),(34,f34),(35,f35),(36,f36),(37,f37),(38,f38),(39,f39),(40,f40),(41,f41),(42,f42),(43,f43),(44,f44),(45,f45),(46,f46),(48,f48),(49,f49),(50,f50),(51,f51),(52,f52),(53,f53),(54,f54),(55,f55),(56,f56),(57,f57),(58,f58),(59,f59),(60,f60),(61,f61),(64,f64),(65,f65),(66,f66),(68,f68),(69,f69),(70,f70),(71,f71),(72,f72),(73,f73),(74,f74),(75,f75),(76,f76),(77,f77),(78,f78),(79,f79),(80,f80),(81,f81),(82,f82),(83,f83),(84,f84),(85,f85),(86,f86),(87,f87),(88,f88),(91,f91),(92,f92),(93,f93),(94,f94),(95,f95),(98,f98),(99,f99),(100,f100),(101,f101),(102,f102),(103,f103),(105,f105),(106,f106),(107,f107),(109,f109),(110,f110),(111,f111),(112,f112),(115,f115),(116,f116),(117,f117),(118,f118),(119,f119),(120,f120),(121,evFn PG adv 121),(122,f122),(123,f123),(124,f124),(125,f125),(126,f126),(127,f127),(128,f128),(129,f129),(130,f130),(131,f131),(132,f132),(133,f133),(134,f134),(135,f135),(137,evFn PG adv 137),(139,f139),(141,f141),(142,f142),(143,f143),(144,f144),(145,f145),(152,f152),(154,f154),(157,f157),(158,f158),(159,f159),(160,f160),(161,f161),(162,f162),(163,f163),(164,f164),(165,f165),(166,f166),(167,f167),(168,f168),(169,f169),(170,f170),(171,f171),(172,f172),(173,f173),(174,f174),(175,f175),(176,f176),(177,f177),(178,f178),(179,f179),(181,f181),(182,f182),(183,f183),(184,f184),(185,f185),(186,evFn PG adv 186),(187,f187),(188,f188),(189,f189),(190,f190),(191,f191),(192,f192),(193,f193),(194,f194),(195,f195),(196,f196),(198,evFn PG adv 198),(199,f199),(200,f200),(204,evFn PG adv 204),(206,f206),(207,f207),(208,f208),(213,f213),(214,f214),(216,f216),(217,f217),(218,f218),(219,f219),(220,f220),(221,f221),(222,f222),(226,f226),(227,f227),(228,f228),(229,f229),(230,f230),(231,f231),(232,f232),(233,f233),(234,f234),(235,f235),(236,f236),(237,f237),(238,f238),(239,f239),(240,f240),(241,f241),(242,f242),(245,f245),(246,f246),(247,f247),(248,f248),(249,f249),(250,f250),(251,f251),(252,f252),(253,f253),(254,f254),(255,f255),(256,f256),(259,f259),(264,f264),(265,f265),(266,f266),(268,f268),(269,f269),(270,f270),(271,f271),(272,f272),(273,f273),(274,f274),(275,f275),(276,f276),(277,f277),(278,f278),(279,f279),(281,f281),(284,f284),(292,f292),(293,f293),(294,f294),(295,f295),(300,f300),(301,f301),(302,f302),(303,f303),(304,f304),(306,f306),(308,f308),(309,f309),(310,f310),(311,f311),(312,f312),(313,f313),(314,f314),(317,f317),(333,f333),(335,f335),(339,f339),(345,f345),(348,f348),(355,f355),(356,f356),(357,f357),(372,f372),(373,f373),(397,f397),(399,f399),(400,f400),(29,λ_ _ _=>hkCut),(153,λ_ _ _=>hkCutPrefix),(151,λ_ _ _=>hkHasPrefix),(63,λ_ _ _=>(hkSplit 9)),(108,λ_ _ _=>hkItoaN),(156,λ_ _ _=>hkIndexByte),(47,λ_ _ _=>hkReplace),(203,λ_ _ _=>(hkCopy [(213,2),(215,7)])),(89,λ_ _ _=>(hkStr [(213,2),(215,7)] 5)),(307,λ_ _ _=>(hkSrt 3)),(267,λ_ _ _=>hkClone),(180,λ_ _ _=>(hkSF SB 245 182 189)),(280,λ_ _ _=>(hkSF S3 317 241 349))]
theorem ents_ok {m:Int} {B:Base} (hB:G m B):∀ p∈ents,Good B p :=
 cF f4_eq <|
 cF f5_eq <|
 cF f6_eq <|
 cF f7_eq <|
 cF f8_eq <|
 cF f9_eq <|
 cF f10_eq <|
 cF f13_eq <|
 cF f14_eq <|
 cF f15_eq <|
 cF f16_eq <|
 cF f17_eq <|
 cF f18_eq <|
 cF f19_eq <|
 cF f20_eq <|
 cF f21_eq <|
 cF f22_eq <|
 cF f23_eq <|
 cF f24_eq <|
 cF f25_eq <|
 cF f26_eq <|
 cF f27_eq <|
 cF f28_eq <|
 cF f30_eq <|
 cF f31_eq <|
 cF f32_eq <|
 cF f33_eq <|
 cF f34_eq <|
 cF f35_eq <|
 cF f36_eq <|
 cF f37_eq <|
 cF f38_eq <|
 cF f39_eq <|
 cF f40_eq <|
 cF f41_eq <|
 cF f42_eq <|
 cF f43_eq <|
 cF f44_eq <|
 cF f45_eq <|
 cF f46_eq <|
 cF f48_eq <|
 cF f49_eq <|
 cF f50_eq <|
 cF f51_eq <|
 cF f52_eq <|
 cF f53_eq <|
 cF f54_eq <|
 cF f55_eq <|
 cF f56_eq <|
 cF f57_eq <|
 cF f58_eq <|
 cF f59_eq <|
 cF f60_eq <|
 cF f61_eq <|
 cF f64_eq <|
 cF f65_eq <|
 cF f66_eq <|
 cF f68_eq <|
 cF f69_eq <|
 cF f70_eq <|
 cF f71_eq <|
 cF f72_eq <|
 cF f73_eq <|
 cF f74_eq <|
 cF f75_eq <|
 cF f76_eq <|
 cF f77_eq <|
 cF f78_eq <|
 cF f79_eq <|
 cF f80_eq <|
 cF f81_eq <|
 cF f82_eq <|
 cF f83_eq <|
 cF f84_eq <|
 cF f85_eq <|
 cF f86_eq <|
 cF f87_eq <|
 cF f88_eq <|
 cF f91_eq <|
 cF f92_eq <|
 cF f93_eq <|
 cF f94_eq <|
 cF f95_eq <|
 cF f98_eq <|
 cF f99_eq <|
 cF f100_eq <|
 cF f101_eq <|
 cF f102_eq <|
 cF f103_eq <|
 cF f105_eq <|
 cF f106_eq <|
 cF f107_eq <|
 cF f109_eq <|
 cF f110_eq <|
 cF f111_eq <|
 cF f112_eq <|
 cF f115_eq <|
 cF f116_eq <|
 cF f117_eq <|
 cF f118_eq <|
 cF f119_eq <|
 cF f120_eq <|
 cF (F:=121) rfl <|
 cF f122_eq <|
 cF f123_eq <|
 cF f124_eq <|
 cF f125_eq <|
 cF f126_eq <|
 cF f127_eq <|
 cF f128_eq <|
 cF f129_eq <|
 cF f130_eq <|
 cF f131_eq <|
 cF f132_eq <|
 cF f133_eq <|
 cF f134_eq <|
 cF f135_eq <|
 cF (F:=137) rfl <|
 cF f139_eq <|
 cF f141_eq <|
 cF f142_eq <|
 cF f143_eq <|
 cF f144_eq <|
 cF f145_eq <|
 cF f152_eq <|
 cF f154_eq <|
 cF f157_eq <|
 cF f158_eq <|
 cF f159_eq <|
 cF f160_eq <|
 cF f161_eq <|
 cF f162_eq <|
 cF f163_eq <|
 cF f164_eq <|
 cF f165_eq <|
 cF f166_eq <|
 cF f167_eq <|
 cF f168_eq <|
 cF f169_eq <|
 cF f170_eq <|
 cF f171_eq <|
 cF f172_eq <|
 cF f173_eq <|
 cF f174_eq <|
 cF f175_eq <|
 cF f176_eq <|
 cF f177_eq <|
 cF f178_eq <|
 cF f179_eq <|
 cF f181_eq <|
 cF f182_eq <|
 cF f183_eq <|
 cF f184_eq <|
 cF f185_eq <|
 cF (F:=186) rfl <|
 cF f187_eq <|
 cF f188_eq <|
 cF f189_eq <|
 cF f190_eq <|
 cF f191_eq <|
 cF f192_eq <|
 cF f193_eq <|
 cF f194_eq <|
 cF f195_eq <|
 cF f196_eq <|
 cF (F:=198) rfl <|
 cF f199_eq <|
 cF f200_eq <|
 cF (F:=204) rfl <|
 cF f206_eq <|
 cF f207_eq <|
 cF f208_eq <|
 cF f213_eq <|
 cF f214_eq <|
 cF f216_eq <|
 cF f217_eq <|
 cF f218_eq <|
 cF f219_eq <|
 cF f220_eq <|
 cF f221_eq <|
 cF f222_eq <|
 cF f226_eq <|
 cF f227_eq <|
 cF f228_eq <|
 cF f229_eq <|
 cF f230_eq <|
 cF f231_eq <|
 cF f232_eq <|
 cF f233_eq <|
 cF f234_eq <|
 cF f235_eq <|
 cF f236_eq <|
 cF f237_eq <|
 cF f238_eq <|
 cF f239_eq <|
 cF f240_eq <|
 cF f241_eq <|
 cF f242_eq <|
 cF f245_eq <|
 cF f246_eq <|
 cF f247_eq <|
 cF f248_eq <|
 cF f249_eq <|
 cF f250_eq <|
 cF f251_eq <|
 cF f252_eq <|
 cF f253_eq <|
 cF f254_eq <|
 cF f255_eq <|
 cF f256_eq <|
 cF f259_eq <|
 cF f264_eq <|
 cF f265_eq <|
 cF f266_eq <|
 cF f268_eq <|
 cF f269_eq <|
 cF f270_eq <|
 cF f271_eq <|
 cF f272_eq <|
 cF f273_eq <|
 cF f274_eq <|
 cF f275_eq <|
 cF f276_eq <|
 cF f277_eq <|
 cF f278_eq <|
 cF f279_eq <|
 cF f281_eq <|
 cF f284_eq <|
 cF f292_eq <|
 cF f293_eq <|
 cF f294_eq <|
 cF f295_eq <|
 cF f300_eq <|
 cF f301_eq <|
 cF f302_eq <|
 cF f303_eq <|
 cF f304_eq <|
 cF f306_eq <|
 cF f308_eq <|
 cF f309_eq <|
 cF f310_eq <|
 cF f311_eq <|
 cF f312_eq <|
 cF f313_eq <|
 cF f314_eq <|
 cF f317_eq <|
 cF f333_eq <|
 cF f335_eq <|
 cF f339_eq <|
 cF f345_eq <|
 cF f348_eq <|
 cF f355_eq <|
 cF f356_eq <|
 cF f357_eq <|
 cF f372_eq <|
 cF f373_eq <|
 cF f397_eq <|
 cF f399_eq <|
 cF f400_eq <|
 cH (cut_ok hB.c (by kernel_rfl) λs sep m w h1 h2=>Go.Proofs.Tryz.strings_Cut s sep m w h1 h2) cut_det <|
 cH (cutPrefix_ok (by kernel_rfl) λs p w=>Go.Proofs.Tryz.strings_CutPrefix s p w) cutPrefix_det <|
 cH (hasPrefix_ok (by kernel_rfl) λs p w=>Go.Proofs.Tryz.strings_HasPrefix s p w) hasPrefix_det <|
 cH (split_ok hB.c (by kernel_rfl) λs sep m w h1 h2 h3=>Go.Proofs.Tryz.strings_Split s sep m w h1 h2 h3) split_det <|
 cH (itoaN_ok hB.x (by kernel_rfl) λn w hx h1 h2=>(Go.Proofs.Tryz.strconv_Itoa n (by omega) (by omega) w hx).mono λe w2 ⟨a1,k,os,a2⟩=>⟨a1,Gr.keeps ⟨k,os,a2⟩⟩) itoaN_det <|
 cH (indexByte_ok (by kernel_rfl) λs c w=>Go.Proofs.Tryz.strings_IndexByte s c w) indexByte_det <|
 cH (replace_ok hB.c (by kernel_rfl) λs old new m w h1 h2 h3 h4=>(Go.Proofs.Tryz.strings_ReplaceAll s old new m w h1 h2 h3 h4).mono λe w2 ⟨a1,a2⟩=>⟨a1,Keeps.of_below a2⟩) replace_det <|
 cH (copy_ok (by kernel_rfl) (λb w h=>Go.Proofs.Tryz.copyCheck_used b w h) (λty n b w hb h1 h2 h3=>by simp only [List.mem_cons,List.not_mem_nil,or_false,Prod.mk.injEq] at hb;rcases hb with⟨rfl,rfl⟩ | ⟨rfl,rfl⟩ <;> first | exact Go.Proofs.Tryz.copyCheck_fresh213 b w h1 h2 h3 | exact Go.Proofs.Tryz.copyCheck_fresh215 b w h1 h2 h3)) copy_det <|
 cH (str_ok (by kernel_rfl) (λb w h=>Go.Proofs.Tryz.Builder_String_nil b w h) (λb g off cap l cur w h1 h2 h3 h4 h5 h6 h7=>Go.Proofs.Tryz.Builder_String_row b g off cap l cur w h1 h2 h3 h4 h5 h6 h7)) str_det <|
 cH (srt_ok (by kernel_rfl) (λw=>srt_nil w) (λb arr clock w h1 h2 h3=>srt_calls b arr clock w h1 h2 h3)) srt_det <|
 cH (clone_ok (by kernel_rfl) (λw=>Go.Proofs.Tryz.maps_Clone_nil w) (λb es clock w hb=>Go.Proofs.Tryz.maps_Clone b es clock w hb)) clone_det <|
 cH (sf_ok SB_ok (by kernel_rfl) (λa b arr clock w ys h1 h2 h3 h4 h5=>symSF_calls a b arr clock w ys h1 h2 h3 h4 h5)) sf_det <|
 cH (sf_ok S3_ok (by kernel_rfl) (λa b arr clock w ys h1 h2 h3 h4 h5=>itemSF_calls a b arr clock w ys h1 h2 h3 h4 h5)) sf_det <|
 λ_ h=>by cases h
def H0:H Unit:=.mk T5.nil 0 []
def isTrue (v:V):R:=v.onB (λb=>iff' b .ok (.no 998)) 999
theorem look0 (v:Nat):H0.look v=none:=look_nil 0 v
theorem rel0 (w:World):Rel P HdU ⟨w,λ_=>False⟩ (λ_=>none) H0 w:=by
 refine⟨Keeps.refl,λ_ _=>rfl,λv b h _=>?_,λv v' b b' L L' h=>?_⟩
 ·rw [look0] at h;cases h
 ·rw [look0] at h;cases h
theorem tab_keeps {Q:Program} {nm:String} {kd:IntKind} {zs:List Int} {w w':World} (h:Lib.TabIs Q w nm kd zs) (hk:Keeps No w w'):Lib.TabIs Q w' nm kd zs:=by
 unfold Lib.TabIs World.var? at *
 generalize Q.globalNamed nm=g at *
 cases g with
 | none=>exact h
 | some g =>
  simp only [Option.bind_some] at h ⊢
  cases hh:w.heap[g]? with
  | none=>rw [hh] at h;cases h
  | some ob=>rw [hk.keep g (lt_of_some hh) id,hh];rw [hh] at h;exact h
theorem G0 {w:World} {m:Int} (hm:w.cell? ⟨0,0,none⟩=some (.int .i64 m)) (ht:TabX w):G m ⟨w,λ_=>False⟩ :=
 ⟨⟨hm,id⟩,λw' hk=>tab_keeps ht hk⟩
theorem awake_ok {w:World} {m:Int} {T:T4 (Fx Unit)} (hT:∀ B,G m B→ClOK P HdU B (evF T 5000 60 true)) (hm:w.cell? ⟨0,0,none⟩=some (.int .i64 m)) (ht:TabX w) {F:Nat} (h:evF T 5000 60 true F [] H0 (λv _=>isTrue v)=.ok) {K:Bool→World→Prop} (hK:∀ w',Keeps No w w'→K true w'):CallF P F #[] (.one .bool) w K:=by
 obtain⟨_,hc⟩:=hT _ (G0 hm ht) F [] H0 _ _ w [] (rel0 w) rfl h
 refine hc.mono λe w' ⟨y,he,φ,v,σ,_,hr,hv,_,hk⟩=>?_
 obtain⟨b,rfl,hb⟩:=onB_ok hk
 obtain⟨rfl,_⟩:=iff_ok hb
 have:y=.bool true:=by simpa [dec] using hv.symm
 subst this
 exact⟨true,he,hK w' ⟨hr.keeps.os,hr.keeps.tape,hr.keeps.output,hr.keeps.size,λb hb h=>hr.keeps.keep b hb h⟩⟩
end Go.Ev
end
end
