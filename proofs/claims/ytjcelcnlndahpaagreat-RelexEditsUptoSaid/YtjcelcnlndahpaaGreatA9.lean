/-
  A part of the proof: what the functions of the program come to, read off the model: no premise of its own, no axiom. By an AI agent.
-/
import Derived.Test.YtjcelcnlndahpaaGreatA1
import Derived.Test.YtjcelcnlndahpaaGreatA8
import Derived.Test.YtjcelcnlndahpaaGreatA2
import Derived.Test.YtjcelcnlndahpaaGreatA6
set_option linter.all false
section
set_option linter.unusedVariables false
namespace Go.Fk
open Go Go.ChangeShapes Go.WideShapes Go.ChangeAt Go.RowKit

def Cls.dat {H : Type} (c : Cls) : DataW H := .agg [.lit (.string c.n.data.toList), .lit (.string c.rx.data.toList), .lit (.bool c.lay)]

/-- A law's argument of type []scan.Class. -/
theorem open_classes {H : Type} {enc : TypeId × Value → H} {P : Program} {w : World} {held : Bool} {t e : TypeId} {b0 : Nat} {v : Value} {d : DataW H} {ps : List MemPlace} {f0 f1 f2 : Field}
    (ht : P.underlying t = some (.slice e)) (he : P.underlying e = some (.struct #[f0, f1, f2])) (hc : P.cellsOf e = 3) (o0 : f0.offset = 0) (o1 : f1.offset = 1) (o2 : f2.offset = 2)
    (t0 : P.underlying f0.type = some .string) (t1 : P.underlying f1.type = some .string) (t2 : P.underlying f2.type = some .bool) (c0 : P.cellsOf f0.type = 1) (c1 : P.cellsOf f1.type = 1) (c2 : P.cellsOf f2.type = 1)
    (hval : Value.okWide P w .any b0 t v) (h : DataW.Trod enc P w 0 (fun _ => true) held t v d ps) :
    ∃ (l : Sl) (cs : List Cls), v = .slice l.a l.n l.c ∧ SlCls (V No w) l cs ∧ (∀ c ∈ cs, c.n.size ≤ maxLen ∧ c.rx.size ≤ maxLen) ∧ l.n ≤ maxLen ∧ ((d = .nil ∧ cs = []) ∨ ∃ sp, d = .slice (cs.map Cls.dat) sp) := by
  refine open_recs Cls.cells Cls.dat (fun c => c.n.size ≤ maxLen ∧ c.rx.size ≤ maxLen) ht hc (by omega) (fun cs' d ps n hlen hx => ?_) hval h
  obtain ⟨xs, k, _, hxy, _, hxl, hf⟩ := DataW.trod_struct he hx
  match xs, hxl, cs', hlen with
  | [y0, y1, y2], _, [v0, v1, v2], _ =>
    have g0 := hf 0 f0 rfl
    have g1 := hf 1 f1 rfl
    have g2 := hf 2 f2 rfl
    simp [o0, o1, o2, c0, c1, c2] at g0 g1 g2
    obtain ⟨s0, h1, rfl, z0⟩ := DataW.trod_string t0 g0
    obtain ⟨s1, h2, rfl, z1⟩ := DataW.trod_string t1 g1
    obtain ⟨b, h3, rfl⟩ := DataW.trod_bool t2 g2
    cases h1; cases h2; cases h3
    exact ⟨⟨s0, s1, b⟩, rfl, by simpa [Cls.dat] using congrArg Prod.fst hxy, z0, z1⟩
end Go.Fk
end

section
set_option maxRecDepth 100000
set_option linter.unusedVariables false
namespace Go.Fk
open Go

/-- frisket/frisketlaw10.RelexSame -/
def frisketlaw10_RelexSame.M (c_0 : Sl) (text_1 : ByteArray) (from_2 : Int) (to_3 : Int) (K : Bool → World → Prop) (w : World) : Prop :=
  Join (fun (s1 : Bool) w1 => Br s1 (frisketlaw10_awake.C  w1 fun x31 w2 => K x31 w2) (scan_New.C c_0 w1 fun x34 w3 => Br (x34.2.2 != (0 : Int)) (K (x34.1.isNone) w3) (relex_New.C x34.1 text_1 w3 fun x45 w4 => Need ((w64 ((text_1.size : Int) + (1 : Int))) ≠ 0) (Need ((w64 ((w64 ((text_1.size : Int) - (Int.tmod (w64 (from_2)) (w64 ((text_1.size : Int) + (1 : Int)))))) + (1 : Int))) ≠ 0) (relex_Tape_Tokens.C x45.1 w4 fun x65 w5 => App P (Instr.sliceAt T.string (.string text_1) (some (.int .i64 (Int.tmod (w64 (from_2)) (w64 ((text_1.size : Int) + (1 : Int)))))) (some (.int .i64 (w64 ((Int.tmod (w64 (from_2)) (w64 ((text_1.size : Int) + (1 : Int)))) + (Int.tmod (w64 (to_3)) (w64 ((w64 ((text_1.size : Int) - (Int.tmod (w64 (from_2)) (w64 ((text_1.size : Int) + (1 : Int)))))) + (1 : Int)))))))) none) (.one .str) w5 fun x73 w6 => relex_Tape_Splice.C x45.1 (Int.tmod (w64 (from_2)) (w64 ((text_1.size : Int) + (1 : Int)))) (w64 ((Int.tmod (w64 (from_2)) (w64 ((text_1.size : Int) + (1 : Int)))) + (Int.tmod (w64 (to_3)) (w64 ((w64 ((text_1.size : Int) - (Int.tmod (w64 (from_2)) (w64 ((text_1.size : Int) + (1 : Int)))))) + (1 : Int)))))) x73 w6 fun x74 w7 => Al (.cells #[.int .i64 0, .int .i64 0] T.api_Span (0, 0)) w7 fun b2 w8 => St (⟨b2, 0, none⟩) (.int .i64 x74.1.1) w8 fun w9 => St (⟨b2, 1, none⟩) (.int .i64 x74.1.2) w9 fun w10 => Br (x74.2 == (0 : Int)) (relex_Tape_Text.C x45.1 w10 fun x81 w11 => Br (x81.toList == text_1.toList) (relex_Tape_Tokens.C x45.1 w11 fun x87 w12 => frisketlaw10_same.C x87 x65 w12 fun x89 w13 => K x89 w13) (K false w11)) (K false w10)))))) fun j3 => frisketlaw09_Great.C c_0 w fun x20 w14 => Br (decide ((0 : Int) < x20)) (j3 true w14) (Br (decide ((100 : Int) < (text_1.size : Int))) (j3 true w14) (frisketlaw10_awake.C  w14 fun x28 w15 => j3 (!x28) w15))
theorem frisketlaw10_RelexSame.ok (c_0 : Sl) (text_1 : ByteArray) (from_2 : Int) (to_3 : Int) (K : Bool → World → Prop) (w : World) (h : frisketlaw10_RelexSame.M c_0 text_1 from_2 to_3 K w) : frisketlaw10_RelexSame.C c_0 text_1 from_2 to_3 w K :=
  calls_of_sem (P := P) (H := [(20, .one (.int .i64)), (28, .one .bool), (31, .one .bool), (34, .tup [.one .ptr, .one (.int .i64), .one (.int .i64)]), (45, .tup [.one .ptr, .one (.int .i64)]), (65, .one .sl), (73, .one .str), (74, .tup [.agg [(.int .i64), (.int .i64)], .one (.int .i64)]), (81, .one .str), (87, .one .sl), (89, .one .bool)]) (ann := (.n .z (.n (.j [(30, .one .bool)] [0, 1, 2, 3] .z .z) .z))) (args := [.slice c_0.a c_0.n c_0.c, .string text_1, .int .u8 from_2, .int .u8 to_3]) (rt := .one .bool) P_mixed rfl rfl (by kernel_rfl) (by kernel_rfl)
    ((show _ = frisketlaw10_RelexSame.M c_0 text_1 from_2 to_3 K w by kernel_rfl).mpr h)

/-- frisket/frisketlaw10.RelexEdits -/
def frisketlaw10_RelexEdits.M (c_0 : Sl) (text_1 : ByteArray) (l_2 : Sl) (K : Bool → World → Prop) (w : World) : Prop :=
  Join (fun (s1 : Bool) w1 => Br s1 (frisketlaw10_awake.C  w1 fun x37 w2 => K x37 w2) (scan_New.C c_0 w1 fun x40 w3 => Br (x40.2.2 != (0 : Int)) (K (x40.1.isNone) w3) (relex_New.C x40.1 text_1 w3 fun x51 w4 => Br (x51.2 != (0 : Int)) (K false w4) (relex_Tape_Tokens.C x51.1 w4 fun x57 w5 => Loop (fun (s2 : ByteArray × Int × Int) w6 again3 => Br (decide (s2.2.2 < (l_2.n : Int))) (IdxS l_2 s2.2.2 3 fun p67 => Ld (.int .i64) p67 w6 fun x68_0 => Ld (.int .i64) (p67.add 1) w6 fun x68_1 => Ld .str (p67.add 2) w6 fun x68_2 => Al (.cells #[.int .i64 0, .int .i64 0, .string (⟨#[]⟩)] T.frisketlaw10_Edit (0, 0)) w6 fun b4 w7 => St (⟨b4, 0, none⟩) (.int .i64 x68_0) w7 fun w8 => St (⟨b4, 1, none⟩) (.int .i64 x68_1) w8 fun w9 => St (⟨b4, 2, none⟩) (.string x68_2) w9 fun w10 => relex_Tape_Tokens.C x51.1 w10 fun x70 w11 => Ld (.int .i64) (⟨b4, 0, none⟩) w11 fun x74 => Ld (.int .i64) (⟨b4, 1, none⟩) w11 fun x76 => Ld .str (⟨b4, 2, none⟩) w11 fun x78 => relex_Tape_Splice.C x51.1 x74 x76 x78 w11 fun x79 w12 => Al (.cells #[.int .i64 0, .int .i64 0] T.api_Span (0, 0)) w12 fun b5 w13 => St (⟨b5, 0, none⟩) (.int .i64 x79.1.1) w13 fun w14 => St (⟨b5, 1, none⟩) (.int .i64 x79.1.2) w14 fun w15 => Join (fun (s6 : Bool) w16 => Br s6 (Join (fun (s7 : Bool) w17 => Br s7 (K false w17) (again3 (s2.1, s2.2.1, (w64 (s2.2.2 + (1 : Int)))) w17)) fun j8 => Ld (.int .i64) (⟨b5, 0, none⟩) w16 fun x99_0 => Ld (.int .i64) (⟨b5, 1, none⟩) w16 fun x99_1 => Br (!((x99_0 == (0 : Int)) && (x99_1 == (0 : Int)))) (j8 true w16) (Br (x79.2 != (2 : Int)) (j8 true w16) (relex_Tape_Text.C x51.1 w16 fun x108 w18 => Br (!(x108.toList == s2.1.toList)) (j8 true w18) (relex_Tape_Tokens.C x51.1 w18 fun x114 w19 => frisketlaw10_same.C x114 x70 w19 fun x116 w20 => j8 (!x116) w20)))) (Join (fun (s9 : ByteArray) w21 => relex_Tape_Tokens.C x51.1 w21 fun x132 w22 => scan_Scanner_Scan.C x40.1 s9 w22 fun x136 w23 => Join (fun (s10 : Bool) w24 => Br s10 (K false w24) (Ld (.int .i64) (⟨b5, 1, none⟩) w24 fun x174 => Ld (.int .i64) (⟨b5, 0, none⟩) w24 fun x177 => relex_Tape_Scanned.C x51.1 w24 fun x180 w25 => Br (x180 != (w64 ((w64 (s2.2.1 + x174)) - x177))) (K false w25) (Ld .str (⟨b4, 2, none⟩) w25 fun x184 => Ld (.int .i64) (⟨b4, 1, none⟩) w25 fun x187 => Ld (.int .i64) (⟨b4, 0, none⟩) w25 fun x189 => Loop (fun (s11 : Int) w26 again12 => Ld (.int .i64) (⟨b5, 0, none⟩) w26 fun x194 => Br (decide (s11 < x194)) (Join (fun (s13 : Bool) w27 => Br s13 (K false w27) (again12 (w64 (s11 + (1 : Int))) w27)) fun j14 => Draw w26 fun S15 w28 => IdxS x132 s11 4 fun p200 => LdS S15 (.int .i64) p200 fun x201_0 => LdS S15 (.int .i64) (p200.add 1) fun x201_1 => LdS S15 (.int .i64) (p200.add 2) fun x201_2 => LdS S15 (.int .i64) (p200.add 3) fun x201_3 => IdxS x70 s11 4 fun p204 => LdS S15 (.int .i64) p204 fun x205_0 => LdS S15 (.int .i64) (p204.add 1) fun x205_1 => LdS S15 (.int .i64) (p204.add 2) fun x205_2 => LdS S15 (.int .i64) (p204.add 3) fun x205_3 => Br (!((x201_0 == x205_0) && ((x201_1 == x205_1) && ((x201_2 == x205_2) && (x201_3 == x205_3))))) (j14 true w28) (IdxS x132 s11 4 fun p210 => LdS S15 (.int .i64) (p210.add 3) fun x212 => LdS S15 (.int .i64) (⟨b4, 0, none⟩) fun x214 => j14 (decide (x214 < x212)) w28)) (Ld (.int .i64) (⟨b5, 1, none⟩) w26 fun x218 => Loop (fun (s16 : Int) w29 again17 => Br (decide (s16 < (x132.n : Int))) (IdxS x70 (w64 ((x70.n : Int) - (w64 ((x132.n : Int) - s16)))) 4 fun p233 => Ld (.int .i64) p233 w29 fun x234_0 => Ld (.int .i64) (p233.add 1) w29 fun x234_1 => Ld (.int .i64) (p233.add 2) w29 fun x234_2 => Ld (.int .i64) (p233.add 3) w29 fun x234_3 => Al (.cells #[.int .i64 0, .int .i64 0, .int .i64 0, .int .i64 0] T.scan_Token (0, 0)) w29 fun b18 w30 => St (⟨b18, 0, none⟩) (.int .i64 x234_0) w30 fun w31 => St (⟨b18, 1, none⟩) (.int .i64 x234_1) w31 fun w32 => St (⟨b18, 2, none⟩) (.int .i64 x234_2) w32 fun w33 => St (⟨b18, 3, none⟩) (.int .i64 x234_3) w33 fun w34 => Join (fun (s19 : Bool) w35 => Br s19 (K false w35) (again17 (w64 (s16 + (1 : Int))) w35)) fun j20 => Draw w34 fun S21 w36 => IdxS x132 s16 4 fun p237 => LdS S21 (.int .i64) p237 fun x239 => LdS S21 (.int .i64) (⟨b18, 0, none⟩) fun x241 => Br (x239 != x241) (j20 true w36) (IdxS x132 s16 4 fun p246 => LdS S21 (.int .i64) (p246.add 1) fun x248 => LdS S21 (.int .i64) (⟨b18, 1, none⟩) fun x250 => Br (x248 != (w64 (x250 + (w64 ((x184.size : Int) - (w64 (x187 - x189))))))) (j20 true w36) (IdxS x132 s16 4 fun p258 => LdS S21 (.int .i64) (p258.add 1) fun x260 => LdS S21 (.int .i64) (⟨b4, 0, none⟩) fun x262 => LdS S21 .str (⟨b4, 2, none⟩) fun x264 => j20 (decide (x260 < (w64 (x262 + (x264.size : Int))))) w36))) (again3 (s9, (w64 ((w64 (s2.2.1 + x174)) - x177)), (w64 (s2.2.2 + (1 : Int)))) w29)) x218 w26)) 0 w25))) fun j22 => Br (x79.2 != (0 : Int)) (j22 true w23) (relex_Tape_Text.C x51.1 w23 fun x143 w37 => Br (!(x143.toList == s9.toList)) (j22 true w37) (frisketlaw10_same.C x132 x136.1 w37 fun x150 w38 => Br (!x150) (j22 true w38) (Ld (.int .i64) (⟨b5, 0, none⟩) w38 fun x155 => Br (decide (x155 < (0 : Int))) (j22 true w38) (Ld (.int .i64) (⟨b5, 1, none⟩) w38 fun x160 => Ld (.int .i64) (⟨b5, 0, none⟩) w38 fun x162 => Br (decide (x160 < x162)) (j22 true w38) (Ld (.int .i64) (⟨b5, 1, none⟩) w38 fun x167 => j22 (decide ((x132.n : Int) < x167)) w38)))))) fun j23 => Draw w16 fun S24 w39 => LdS S24 (.int .i64) (⟨b4, 0, none⟩) fun x121 => LdS S24 .str (⟨b4, 2, none⟩) fun x124 => LdS S24 (.int .i64) (⟨b4, 1, none⟩) fun x128 => (App P (Instr.sliceAt T.string (.string s2.1) none (some (.int .i64 x121)) none) (.one .str) w39 fun x122 w40 => (S24 w40 ∧ Need (((x122.size + x124.size : Nat) : Int) ≤ IntKind.i64.max) (App P (Instr.sliceAt T.string (.string s2.1) (some (.int .i64 x128)) none none) (.one .str) w40 fun x129 w41 => (S24 w41 ∧ Need ((((x122 ++ x124).size + x129.size : Nat) : Int) ≤ IntKind.i64.max) (j23 ((x122 ++ x124) ++ x129) w41))))) ∧ (App P (Instr.sliceAt T.string (.string s2.1) (some (.int .i64 x128)) none none) (.one .str) w39 fun x129 w42 => (S24 w42 ∧ App P (Instr.sliceAt T.string (.string s2.1) none (some (.int .i64 x121)) none) (.one .str) w42 fun x122 w43 => (S24 w43 ∧ Need (((x122.size + x124.size : Nat) : Int) ≤ IntKind.i64.max) (Need ((((x122 ++ x124).size + x129.size : Nat) : Int) ≤ IntKind.i64.max) (j23 ((x122 ++ x124) ++ x129) w43))))))) fun j25 => Ld (.int .i64) (⟨b4, 0, none⟩) w15 fun x83 => Br (decide (x83 < (0 : Int))) (j25 true w15) (Ld (.int .i64) (⟨b4, 1, none⟩) w15 fun x87 => Ld (.int .i64) (⟨b4, 0, none⟩) w15 fun x89 => Br (decide (x87 < x89)) (j25 true w15) (Ld (.int .i64) (⟨b4, 1, none⟩) w15 fun x94 => j25 (decide ((s2.1.size : Int) < x94)) w15))) (K true w6)) (text_1, (x57.n : Int), 0) w5)))) fun j26 => frisketlaw09_Great.C c_0 w fun x26 w44 => Br (decide ((0 : Int) < x26)) (j26 true w44) (frisketlaw10_great.C text_1 l_2 w44 fun x31 w45 => Br x31 (j26 true w45) (frisketlaw10_awake.C  w45 fun x34 w46 => j26 (!x34) w46))
theorem frisketlaw10_RelexEdits.ok (c_0 : Sl) (text_1 : ByteArray) (l_2 : Sl) (K : Bool → World → Prop) (w : World) (h : frisketlaw10_RelexEdits.M c_0 text_1 l_2 K w) : frisketlaw10_RelexEdits.C c_0 text_1 l_2 w K :=
  calls_of_sem (P := P) (H := [(26, .one (.int .i64)), (31, .one .bool), (34, .one .bool), (37, .one .bool), (40, .tup [.one .ptr, .one (.int .i64), .one (.int .i64)]), (51, .tup [.one .ptr, .one (.int .i64)]), (57, .one .sl), (68, .agg [(.int .i64), (.int .i64), .str]), (70, .one .sl), (74, .one (.int .i64)), (76, .one (.int .i64)), (78, .one .str), (79, .tup [.agg [(.int .i64), (.int .i64)], .one (.int .i64)]), (83, .one (.int .i64)), (87, .one (.int .i64)), (89, .one (.int .i64)), (94, .one (.int .i64)), (99, .agg [(.int .i64), (.int .i64)]), (108, .one .str), (114, .one .sl), (116, .one .bool), (121, .one (.int .i64)), (122, .one .str), (124, .one .str), (128, .one (.int .i64)), (129, .one .str), (132, .one .sl), (136, .tup [.one .sl, .one (.int .i64)]), (143, .one .str), (150, .one .bool), (155, .one (.int .i64)), (160, .one (.int .i64)), (162, .one (.int .i64)), (167, .one (.int .i64)), (174, .one (.int .i64)), (177, .one (.int .i64)), (180, .one (.int .i64)), (184, .one .str), (187, .one (.int .i64)), (189, .one (.int .i64)), (194, .one (.int .i64)), (201, .agg [(.int .i64), (.int .i64), (.int .i64), (.int .i64)]), (205, .agg [(.int .i64), (.int .i64), (.int .i64), (.int .i64)]), (212, .one (.int .i64)), (214, .one (.int .i64)), (218, .one (.int .i64)), (234, .agg [(.int .i64), (.int .i64), (.int .i64), (.int .i64)]), (239, .one (.int .i64)), (241, .one (.int .i64)), (248, .one (.int .i64)), (250, .one (.int .i64)), (260, .one (.int .i64)), (262, .one (.int .i64)), (264, .one .str)]) (ann := (.n .z (.n (.j [(36, .one .bool)] [0, 1, 2] .z .z) (.n .z (.n .z (.n .z (.n .z (.n .z (.n (.n .z (.l [(1, .one .str), (12, .one (.int .i64)), (13, .one (.int .i64))] [2, 7, 10] (.n .z (.n (.n .z (.n .z (.n .z (.n (.j [(98, .one .bool)] [1, 2, 7, 10, 12, 13, 14, 15, 16, 17] .z (.n (.n (.j [(118, .one .bool)] [1, 2, 7, 10, 12, 13] .z .z) .z) .z)) (.j [(1, .one .str)] [2, 7, 10, 12, 13, 14, 15, 16, 17] .z (.n .z (.n .z (.n (.j [(171, .one .bool)] [1, 2, 7, 10, 12, 13, 14, 15, 16, 18] .z .z) (.n .z (.n .z (.n .z (.n (.n .z (.l [(22, .one (.int .i64))] [1, 2, 7, 10, 12, 13, 14, 15, 16, 18, 21] (.n .z (.n (.j [(216, .one .bool)] [1, 2, 7, 10, 12, 13, 14, 15, 16, 18, 21, 22] .z .z) .z)))) (.n .z (.l [(23, .one (.int .i64))] [1, 2, 7, 10, 12, 13, 14, 15, 18, 21] (.n .z (.n (.n .z (.j [(268, .one .bool)] [1, 2, 7, 10, 12, 13, 14, 15, 18, 21, 23] .z .z)) .z)))))))))))))))) .z)))) .z))))))))) (args := [.slice c_0.a c_0.n c_0.c, .string text_1, .slice l_2.a l_2.n l_2.c]) (rt := .one .bool) P_mixed rfl rfl (by kernel_rfl) (by kernel_rfl)
    ((show _ = frisketlaw10_RelexEdits.M c_0 text_1 l_2 K w by kernel_rfl).mpr h)

/-- frisket/frisketlaw10.RelexAt -/
def frisketlaw10_RelexAt.M (c_0 : Sl) (text_1 : ByteArray) (place_2 : Int) (K : Bool → World → Prop) (w : World) : Prop :=
  Join (fun (s1 : Bool) w1 => Br s1 (frisketlaw10_awake.C  w1 fun x28 w2 => K x28 w2) (scan_New.C c_0 w1 fun x31 w3 => Br (x31.2.2 != (0 : Int)) (K (x31.1.isNone) w3) (relex_New.C x31.1 text_1 w3 fun x42 w4 => relex_Tape_At.C x42.1 place_2 w4 fun x48 w5 => Al (.cells #[.int .i64 0, .int .i64 0, .int .i64 0, .int .i64 0] T.scan_Token (0, 0)) w5 fun b2 w6 => St (⟨b2, 0, none⟩) (.int .i64 x48.1.1) w6 fun w7 => St (⟨b2, 1, none⟩) (.int .i64 x48.1.2.1) w7 fun w8 => St (⟨b2, 2, none⟩) (.int .i64 x48.1.2.2.1) w8 fun w9 => St (⟨b2, 3, none⟩) (.int .i64 x48.1.2.2.2) w9 fun w10 => relex_Tape_Tokens.C x42.1 w10 fun x52 w11 => Loop (fun (s3 : Int) w12 again4 => Br (decide (s3 < (x52.n : Int))) (Join (fun (s5 : Bool) w13 => Br s5 (Draw w13 fun S6 w14 => Br x48.2 (LdS S6 (.int .i64) (⟨b2, 0, none⟩) fun x77_0 => LdS S6 (.int .i64) (⟨b2, 1, none⟩) fun x77_1 => LdS S6 (.int .i64) (⟨b2, 2, none⟩) fun x77_2 => LdS S6 (.int .i64) (⟨b2, 3, none⟩) fun x77_3 => IdxS x52 s3 4 fun p80 => LdS S6 (.int .i64) p80 fun x81_0 => LdS S6 (.int .i64) (p80.add 1) fun x81_1 => LdS S6 (.int .i64) (p80.add 2) fun x81_2 => LdS S6 (.int .i64) (p80.add 3) fun x81_3 => K ((x77_0 == x81_0) && ((x77_1 == x81_1) && ((x77_2 == x81_2) && (x77_3 == x81_3)))) w14) (K false w14)) (again4 (w64 (s3 + (1 : Int))) w13)) fun j7 => IdxS x52 s3 4 fun p61 => Ld (.int .i64) (p61.add 1) w12 fun x63 => Br (decide (x63 ≤ place_2)) (IdxS x52 s3 4 fun p69 => Ld (.int .i64) (p69.add 2) w12 fun x71 => j7 (decide (place_2 < x71)) w12) (j7 false w12)) (Br (!x48.2) (Ld (.int .i64) (⟨b2, 0, none⟩) w12 fun x87_0 => Ld (.int .i64) (⟨b2, 1, none⟩) w12 fun x87_1 => Ld (.int .i64) (⟨b2, 2, none⟩) w12 fun x87_2 => Ld (.int .i64) (⟨b2, 3, none⟩) w12 fun x87_3 => Br ((x87_0 == (0 : Int)) && ((x87_1 == (0 : Int)) && ((x87_2 == (0 : Int)) && (x87_3 == (0 : Int))))) (Br (decide (place_2 < (0 : Int))) (K true w12) (K (decide ((text_1.size : Int) ≤ place_2)) w12)) (K false w12)) (K false w12))) 0 w11))) fun j8 => frisketlaw09_Great.C c_0 w fun x17 w15 => Br (decide ((0 : Int) < x17)) (j8 true w15) (Br (decide ((100 : Int) < (text_1.size : Int))) (j8 true w15) (frisketlaw10_awake.C  w15 fun x25 w16 => j8 (!x25) w16))
theorem frisketlaw10_RelexAt.ok (c_0 : Sl) (text_1 : ByteArray) (place_2 : Int) (K : Bool → World → Prop) (w : World) (h : frisketlaw10_RelexAt.M c_0 text_1 place_2 K w) : frisketlaw10_RelexAt.C c_0 text_1 place_2 w K :=
  calls_of_sem (P := P) (H := [(17, .one (.int .i64)), (25, .one .bool), (28, .one .bool), (31, .tup [.one .ptr, .one (.int .i64), .one (.int .i64)]), (42, .tup [.one .ptr, .one (.int .i64)]), (48, .tup [.agg [(.int .i64), (.int .i64), (.int .i64), (.int .i64)], .one .bool]), (52, .one .sl), (63, .one (.int .i64)), (71, .one (.int .i64)), (77, .agg [(.int .i64), (.int .i64), (.int .i64), (.int .i64)]), (81, .agg [(.int .i64), (.int .i64), (.int .i64), (.int .i64)]), (87, .agg [(.int .i64), (.int .i64), (.int .i64), (.int .i64)])]) (ann := (.n .z (.n (.j [(27, .one .bool)] [0, 1, 2] .z .z) (.n .z (.n .z (.n .z (.n .z (.n .z (.n (.n .z (.l [(15, .one (.int .i64))] [1, 2, 12, 13, 14] (.n .z (.n (.j [(74, .one .bool)] [1, 2, 12, 13, 14, 15] .z .z) .z)))) .z))))))))) (args := [.slice c_0.a c_0.n c_0.c, .string text_1, .int .i64 place_2]) (rt := .one .bool) P_mixed rfl rfl (by kernel_rfl) (by kernel_rfl)
    ((show _ = frisketlaw10_RelexAt.M c_0 text_1 place_2 K w by kernel_rfl).mpr h)

/-- frisket/frisketlaw10.RelexNone -/
def frisketlaw10_RelexNone.M (from_0 : Int) (to_1 : Int) (with_2 : ByteArray) (K : Bool → World → Prop) (w : World) : Prop :=
  Join (fun (s1 : Bool) w1 => Br s1 (frisketlaw10_awake.C  w1 fun x21 w2 => K x21 w2) (relex_New.C none with_2 w1 fun x24 w3 => relex_Tape_Splice.C none from_0 to_1 with_2 w3 fun x32 w4 => Al (.cells #[.int .i64 0, .int .i64 0] T.api_Span (0, 0)) w4 fun b2 w5 => St (⟨b2, 0, none⟩) (.int .i64 x32.1.1) w5 fun w6 => St (⟨b2, 1, none⟩) (.int .i64 x32.1.2) w6 fun w7 => relex_Tape_At.C none from_0 w7 fun x38 w8 => Al (.cells #[.int .i64 0, .int .i64 0, .int .i64 0, .int .i64 0] T.scan_Token (0, 0)) w8 fun b3 w9 => St (⟨b3, 0, none⟩) (.int .i64 x38.1.1) w9 fun w10 => St (⟨b3, 1, none⟩) (.int .i64 x38.1.2.1) w10 fun w11 => St (⟨b3, 2, none⟩) (.int .i64 x38.1.2.2.1) w11 fun w12 => St (⟨b3, 3, none⟩) (.int .i64 x38.1.2.2.2) w12 fun w13 => Br (x24.1.isNone) (Br (x24.2 == (1 : Int)) (Ld (.int .i64) (⟨b2, 0, none⟩) w13 fun x48_0 => Ld (.int .i64) (⟨b2, 1, none⟩) w13 fun x48_1 => Br ((x48_0 == (0 : Int)) && (x48_1 == (0 : Int))) (Br (x32.2 == (1 : Int)) (Br (!x38.2) (relex_Tape_Text.C none w13 fun x62 w14 => Br (x62.toList == ((⟨#[]⟩) : ByteArray).toList) (relex_Tape_Tokens.C none w14 fun x67 w15 => Br ((x67.n : Int) == (0 : Int)) (relex_Tape_Scanned.C none w15 fun x73 w16 => K (x73 == (0 : Int)) w16) (K false w15)) (K false w14)) (K false w13)) (K false w13)) (K false w13)) (K false w13)) (K false w13))) fun j4 => Br (decide ((60 : Int) < (with_2.size : Int))) (j4 true w) (frisketlaw10_awake.C  w fun x18 w17 => j4 (!x18) w17)
theorem frisketlaw10_RelexNone.ok (from_0 : Int) (to_1 : Int) (with_2 : ByteArray) (K : Bool → World → Prop) (w : World) (h : frisketlaw10_RelexNone.M from_0 to_1 with_2 K w) : frisketlaw10_RelexNone.C from_0 to_1 with_2 w K :=
  calls_of_sem (P := P) (H := [(18, .one .bool), (21, .one .bool), (24, .tup [.one .ptr, .one (.int .i64)]), (32, .tup [.agg [(.int .i64), (.int .i64)], .one (.int .i64)]), (38, .tup [.agg [(.int .i64), (.int .i64), (.int .i64), (.int .i64)], .one .bool]), (48, .agg [(.int .i64), (.int .i64)]), (62, .one .str), (67, .one .sl), (73, .one (.int .i64))]) (ann := (.n .z (.n (.j [(20, .one .bool)] [0, 1, 2] .z .z) .z))) (args := [.int .i64 from_0, .int .i64 to_1, .string with_2]) (rt := .one .bool) P_mixed rfl rfl (by kernel_rfl) (by kernel_rfl)
    ((show _ = frisketlaw10_RelexNone.M from_0 to_1 with_2 K w by kernel_rfl).mpr h)

/-- frisket/frisketlaw10.awake -/
def frisketlaw10_awake.M  (K : Bool → World → Prop) (w : World) : Prop :=
  Al (.cells #[.string (⟨#[105, 100]⟩), .string (⟨#[91, 97, 45, 122, 93, 43]⟩), .bool false, .string (⟨#[119, 115]⟩), .string (⟨#[92, 115, 43]⟩), .bool true] T.scan_Class (0, 0)) w fun b1 w1 => scan_New.C (⟨(some ⟨b1, 0, none⟩), 2, 2⟩) w1 fun x12 w2 => relex_New.C x12.1 (⟨#[97, 98, 32, 99, 100]⟩) w2 fun x18 w3 => relex_Tape_Splice.C x18.1 1 1 (⟨#[120]⟩) w3 fun x23 w4 => Al (.cells #[.int .i64 0, .int .i64 0] T.api_Span (0, 0)) w4 fun b2 w5 => St (⟨b2, 0, none⟩) (.int .i64 x23.1.1) w5 fun w6 => St (⟨b2, 1, none⟩) (.int .i64 x23.1.2) w6 fun w7 => Br (x18.2 == (0 : Int)) (Br (x23.2 == (0 : Int)) (Ld (.int .i64) (⟨b2, 0, none⟩) w7 fun x33_0 => Ld (.int .i64) (⟨b2, 1, none⟩) w7 fun x33_1 => Br ((x33_0 == (0 : Int)) && (x33_1 == (1 : Int))) (relex_Tape_Text.C x18.1 w7 fun x39 w8 => Br (x39.toList == ((⟨#[97, 120, 98, 32, 99, 100]⟩) : ByteArray).toList) (relex_Tape_Tokens.C x18.1 w8 fun x44 w9 => K ((x44.n : Int) == (3 : Int)) w9) (K false w8)) (K false w7)) (K false w7)) (K false w7)
theorem frisketlaw10_awake.ok  (K : Bool → World → Prop) (w : World) (h : frisketlaw10_awake.M  K w) : frisketlaw10_awake.C  w K :=
  calls_of_sem (P := P) (H := [(12, .tup [.one .ptr, .one (.int .i64), .one (.int .i64)]), (18, .tup [.one .ptr, .one (.int .i64)]), (23, .tup [.agg [(.int .i64), (.int .i64)], .one (.int .i64)]), (33, .agg [(.int .i64), (.int .i64)]), (39, .one .str), (44, .one .sl)]) (ann := .z) (args := []) (rt := .one .bool) P_mixed rfl rfl (by kernel_rfl) (by kernel_rfl)
    ((show _ = frisketlaw10_awake.M  K w by kernel_rfl).mpr h)

/-- frisket/relex.New -/
def relex_New.M (s_0 : Option Addr) (text_1 : ByteArray) (K : (Option Addr × Int) → World → Prop) (w : World) : Prop :=
  Br (s_0.isNone) (K (none, 1) w) (scan_Scanner_Scan.C s_0 text_1 w fun x13 w1 => Br (x13.2 != (0 : Int)) (K (none, x13.2) w1) (Al (.cells #[.pointer s_0, .string text_1, .slice x13.1.a x13.1.n x13.1.c, .int .i64 (x13.1.n : Int)] T.relex_Tape (0, 0)) w1 fun b1 w2 => K ((some (⟨b1, 0, none⟩)), 0) w2))
theorem relex_New.ok (s_0 : Option Addr) (text_1 : ByteArray) (K : (Option Addr × Int) → World → Prop) (w : World) (h : relex_New.M s_0 text_1 K w) : relex_New.C s_0 text_1 w K :=
  calls_of_sem (P := P) (H := [(13, .tup [.one .sl, .one (.int .i64)])]) (ann := .z) (args := [.pointer s_0, .string text_1]) (rt := .tup [.one .ptr, .one (.int .i64)]) P_mixed rfl rfl (by kernel_rfl) (by kernel_rfl)
    ((show _ = relex_New.M s_0 text_1 K w by kernel_rfl).mpr h)

/-- (*frisket/relex.Tape).Tokens -/
def relex_Tape_Tokens.M (t_0 : Option Addr) (K : Sl → World → Prop) (w : World) : Prop :=
  Br (t_0.isNone) (K (⟨none, 0, 0⟩) w) (NilC t_0 fun a6 => Ld .sl (a6.add 2) w fun x8 => slices_Clone_scan_Token.C x8 w fun x9 w1 => K x9 w1)
theorem relex_Tape_Tokens.ok (t_0 : Option Addr) (K : Sl → World → Prop) (w : World) (h : relex_Tape_Tokens.M t_0 K w) : relex_Tape_Tokens.C t_0 w K :=
  calls_of_sem (P := P) (H := [(8, .one .sl), (9, .one .sl)]) (ann := .z) (args := [.pointer t_0]) (rt := .one .sl) P_mixed rfl rfl (by kernel_rfl) (by kernel_rfl)
    ((show _ = relex_Tape_Tokens.M t_0 K w by kernel_rfl).mpr h)

/-- (*frisket/relex.Tape).Splice -/
def relex_Tape_Splice.M (t_0 : Option Addr) (from_1 : Int) (to_2 : Int) (with_3 : ByteArray) (K : ((Int × Int) × Int) → World → Prop) (w : World) : Prop :=
  Al (.cells #[.int .i64 0, .int .i64 0] T.api_Span (0, 0)) w fun b1 w1 => Br (t_0.isNone) (St (⟨b1, 0, none⟩) (.int .i64 0) w1 fun w2 => St (⟨b1, 1, none⟩) (.int .i64 0) w2 fun w3 => Ld (.int .i64) (⟨b1, 0, none⟩) w3 fun r0_0 => Ld (.int .i64) (⟨b1, 1, none⟩) w3 fun r0_1 => K ((r0_0, r0_1), 1) w3) (Join (fun (s2 : Bool) w4 => Br s2 (St (⟨b1, 0, none⟩) (.int .i64 0) w4 fun w5 => St (⟨b1, 1, none⟩) (.int .i64 0) w5 fun w6 => Ld (.int .i64) (⟨b1, 0, none⟩) w6 fun r0_0 => Ld (.int .i64) (⟨b1, 1, none⟩) w6 fun r0_1 => K ((r0_0, r0_1), 2) w6) (NilC t_0 fun a44 => Ld .str (a44.add 1) w4 fun x46 => Br (decide ((1048576 : Int) < (w64 ((w64 ((x46.size : Int) + (with_3.size : Int))) - (w64 (to_2 - from_1)))))) (St (⟨b1, 0, none⟩) (.int .i64 0) w4 fun w7 => St (⟨b1, 1, none⟩) (.int .i64 0) w7 fun w8 => Ld (.int .i64) (⟨b1, 0, none⟩) w8 fun r0_0 => Ld (.int .i64) (⟨b1, 1, none⟩) w8 fun r0_1 => K ((r0_0, r0_1), 3) w8) (Join (fun (s3 : ByteArray) w9 => relex_Tape_ahead.C t_0 from_1 w9 fun x80 w10 => NilC t_0 fun a82 => Ld .sl (a82.add 2) w10 fun x84 => App P (Instr.sliceAt T.sl_scan_Token (.slice x84.a x84.n x84.c) none (some (.int .i64 x80)) (some (.int .i64 x80))) (.one .sl) w10 fun x87 w11 => Join (fun (s4 : Int) w12 => NilC t_0 fun a97 => Ld .sl (a97.add 2) w12 fun x99 => Join (fun (s5 : Sl × Int) w13 => Al (.cells #[.int .i64 0, .int .i64 0] T.api_Span (0, 0)) w13 fun b6 w14 => St (⟨b6, 0, none⟩) (.int .i64 x80) w14 fun w15 => St (⟨b6, 1, none⟩) (.int .i64 (s5.1.n : Int)) w15 fun w16 => Join (fun (s7 : Sl) w17 => NilC t_0 fun a165 => St (a165.add 1) (.string s3) w17 fun w18 => NilC t_0 fun a167 => St (a167.add 2) (.slice s7.a s7.n s7.c) w18 fun w19 => Ld (.int .i64) (⟨b6, 0, none⟩) w19 fun x169_0 => Ld (.int .i64) (⟨b6, 1, none⟩) w19 fun x169_1 => St (⟨b1, 0, none⟩) (.int .i64 x169_0) w19 fun w20 => St (⟨b1, 1, none⟩) (.int .i64 x169_1) w20 fun w21 => Ld (.int .i64) (⟨b1, 0, none⟩) w21 fun r0_0 => Ld (.int .i64) (⟨b1, 1, none⟩) w21 fun r0_1 => K ((r0_0, r0_1), 0) w21) fun j8 => Br (decide ((0 : Int) ≤ s5.2)) (App P (Instr.sliceAt T.sl_scan_Token (.slice x99.a x99.n x99.c) (some (.int .i64 s5.2)) none none) (.one .sl) w16 fun x157 w22 => relex_moved.C x157 (w64 ((with_3.size : Int) - (w64 (to_2 - from_1)))) w22 fun x159 w23 => App P (Builtin.append_ #[T.sl_scan_Token, T.sl_scan_Token] T.sl_scan_Token #[.slice s5.1.a s5.1.n s5.1.c, .slice x159.a x159.n x159.c]) (.one .sl) w23 fun x160 w24 => j8 x160 w24) (j8 s5.1 w16)) fun j9 => Loop (fun (s10 : Sl × Int × Int) w25 again11 => Br (decide (s10.2.1 < (s3.size : Int))) (Join (fun (s12 : Int) w26 => NilC t_0 fun a127 => Ld .ptr a127 w26 fun x129 => scan_Scanner_Next.C x129 s3 s10.2.1 w26 fun x132 w27 => Al (.cells #[.int .i64 0, .int .i64 0, .int .i64 0, .int .i64 0] T.scan_Token (0, 0)) w27 fun b13 w28 => St (⟨b13, 0, none⟩) (.int .i64 x132.1.1) w28 fun w29 => St (⟨b13, 1, none⟩) (.int .i64 x132.1.2.1) w29 fun w30 => St (⟨b13, 2, none⟩) (.int .i64 x132.1.2.2.1) w30 fun w31 => St (⟨b13, 3, none⟩) (.int .i64 x132.1.2.2.2) w31 fun w32 => Ld (.int .i64) (⟨b13, 0, none⟩) w32 fun x136_0 => Ld (.int .i64) (⟨b13, 1, none⟩) w32 fun x136_1 => Ld (.int .i64) (⟨b13, 2, none⟩) w32 fun x136_2 => Ld (.int .i64) (⟨b13, 3, none⟩) w32 fun x136_3 => Al (.cells #[.int .i64 x136_0, .int .i64 x136_1, .int .i64 x136_2, .int .i64 x136_3] T.scan_Token (0, 0)) w32 fun b14 w33 => App P (Builtin.append_ #[T.sl_scan_Token, T.sl_scan_Token] T.sl_scan_Token #[.slice s10.1.a s10.1.n s10.1.c, .slice (some ⟨b14, 0, none⟩) 1 1]) (.one .sl) w33 fun x138 w34 => NilC t_0 fun a140 => Ld (.int .i64) (a140.add 3) w34 fun x142 => NilC t_0 fun a144 => St (a144.add 3) (.int .i64 (w64 (x142 + (1 : Int)))) w34 fun w35 => Ld (.int .i64) (⟨b13, 2, none⟩) w35 fun x147 => again11 (x138, x147, s12) w35) fun j15 => Join (fun (s16 : Bool) w36 => Br s16 (relex_Tape_begins.C t_0 x80 (w64 (s10.2.1 - (w64 ((with_3.size : Int) - (w64 (to_2 - from_1)))))) w36 fun x122 w37 => Br (decide ((0 : Int) ≤ x122)) (j9 (s10.1, x122) w37) (j15 x122 w37)) (j15 s10.2.2 w36)) fun j17 => Br (decide (to_2 ≤ (w64 (s10.2.1 - (w64 ((with_3.size : Int) - (w64 (to_2 - from_1)))))))) (j17 (decide ((w64 (from_1 + (with_3.size : Int))) ≤ s10.2.1)) w25) (j17 false w25)) (j9 (s10.1, s10.2.2) w25)) (x87, s4, (-1)) w12) fun j18 => Br (decide ((0 : Int) < x80)) (IdxS x87 (w64 (x80 - (1 : Int))) 4 fun p93 => Ld (.int .i64) (p93.add 2) w11 fun x95 => j18 x95 w11) (j18 0 w11)) fun j19 => Draw w4 fun S20 w38 => NilC t_0 fun a58 => LdS S20 .str (a58.add 1) fun x60 => NilC t_0 fun a66 => LdS S20 .str (a66.add 1) fun x68 => (App P (Instr.sliceAt T.string (.string x60) none (some (.int .i64 from_1)) none) (.one .str) w38 fun x62 w39 => (S20 w39 ∧ Need (((x62.size + with_3.size : Nat) : Int) ≤ IntKind.i64.max) (App P (Instr.sliceAt T.string (.string x68) (some (.int .i64 to_2)) none none) (.one .str) w39 fun x70 w40 => (S20 w40 ∧ Need ((((x62 ++ with_3).size + x70.size : Nat) : Int) ≤ IntKind.i64.max) (j19 ((x62 ++ with_3) ++ x70) w40))))) ∧ (App P (Instr.sliceAt T.string (.string x68) (some (.int .i64 to_2)) none none) (.one .str) w38 fun x70 w41 => (S20 w41 ∧ App P (Instr.sliceAt T.string (.string x60) none (some (.int .i64 from_1)) none) (.one .str) w41 fun x62 w42 => (S20 w42 ∧ Need (((x62.size + with_3.size : Nat) : Int) ≤ IntKind.i64.max) (Need ((((x62 ++ with_3).size + x70.size : Nat) : Int) ≤ IntKind.i64.max) (j19 ((x62 ++ with_3) ++ x70) w42)))))))) fun j21 => Br (decide (from_1 < (0 : Int))) (j21 true w1) (Br (decide (to_2 < from_1)) (j21 true w1) (NilC t_0 fun a35 => Ld .str (a35.add 1) w1 fun x37 => j21 (decide ((x37.size : Int) < to_2)) w1)))
theorem relex_Tape_Splice.ok (t_0 : Option Addr) (from_1 : Int) (to_2 : Int) (with_3 : ByteArray) (K : ((Int × Int) × Int) → World → Prop) (w : World) (h : relex_Tape_Splice.M t_0 from_1 to_2 with_3 K w) : relex_Tape_Splice.C t_0 from_1 to_2 with_3 w K :=
  calls_of_sem (P := P) (H := [(8, .agg [(.int .i64), (.int .i64)]), (37, .one .str), (46, .one .str), (60, .one .str), (62, .one .str), (68, .one .str), (70, .one .str), (80, .one (.int .i64)), (84, .one .sl), (87, .one .sl), (95, .one (.int .i64)), (99, .one .sl), (122, .one (.int .i64)), (129, .one .ptr), (132, .tup [.agg [(.int .i64), (.int .i64), (.int .i64), (.int .i64)], .one (.int .i64)]), (136, .agg [(.int .i64), (.int .i64), (.int .i64), (.int .i64)]), (142, .one (.int .i64)), (147, .one (.int .i64)), (157, .one .sl), (159, .one .sl), (169, .agg [(.int .i64), (.int .i64)])]) (ann := (.n .z (.n (.n .z (.n .z (.j [(24, .one .bool)] [0, 1, 2, 3, 8] .z .z))) (.j [(10, .one .str)] [0, 1, 2, 3, 8] .z (.n .z (.n .z (.n .z (.n .z (.j [(14, .one (.int .i64))] [0, 1, 2, 3, 8, 10, 11, 12, 13] .z (.n .z (.n .z (.j [(13, .one .sl), (16, .one (.int .i64))] [0, 8, 10, 11, 12, 15] (.l [(13, .one .sl), (14, .one (.int .i64)), (16, .one (.int .i64))] [0, 1, 2, 3, 8, 10, 11, 12, 15] (.n .z (.j [(16, .one (.int .i64))] [0, 1, 2, 3, 8, 10, 11, 12, 13, 14, 15] (.j [(116, .one .bool)] [0, 1, 2, 3, 8, 10, 11, 12, 13, 14, 15, 16] .z .z) .z))) (.n .z (.j [(13, .one .sl)] [0, 8, 10, 19] .z .z)))))))))))))) (args := [.pointer t_0, .int .i64 from_1, .int .i64 to_2, .string with_3]) (rt := .tup [.agg [(.int .i64), (.int .i64)], .one (.int .i64)]) P_mixed rfl rfl (by kernel_rfl) (by kernel_rfl)
    ((show _ = relex_Tape_Splice.M t_0 from_1 to_2 with_3 K w by kernel_rfl).mpr h)

/-- (*frisket/relex.Tape).Text -/
def relex_Tape_Text.M (t_0 : Option Addr) (K : ByteArray → World → Prop) (w : World) : Prop :=
  Br (t_0.isNone) (K (⟨#[]⟩) w) (NilC t_0 fun a6 => Ld .str (a6.add 1) w fun x8 => K x8 w)
theorem relex_Tape_Text.ok (t_0 : Option Addr) (K : ByteArray → World → Prop) (w : World) (h : relex_Tape_Text.M t_0 K w) : relex_Tape_Text.C t_0 w K :=
  calls_of_sem (P := P) (H := [(8, .one .str)]) (ann := .z) (args := [.pointer t_0]) (rt := .one .str) P_mixed rfl rfl (by kernel_rfl) (by kernel_rfl)
    ((show _ = relex_Tape_Text.M t_0 K w by kernel_rfl).mpr h)

/-- frisket/frisketlaw10.same -/
def frisketlaw10_same.M (a_0 : Sl) (b_1 : Sl) (K : Bool → World → Prop) (w : World) : Prop :=
  Br ((a_0.n : Int) != (b_1.n : Int)) (K false w) (Loop (fun (s1 : Int) w1 again2 => Br (decide (s1 < (a_0.n : Int))) (Draw w1 fun S3 w2 => IdxS a_0 s1 4 fun p19 => LdS S3 (.int .i64) p19 fun x20_0 => LdS S3 (.int .i64) (p19.add 1) fun x20_1 => LdS S3 (.int .i64) (p19.add 2) fun x20_2 => LdS S3 (.int .i64) (p19.add 3) fun x20_3 => IdxS b_1 s1 4 fun p23 => LdS S3 (.int .i64) p23 fun x24_0 => LdS S3 (.int .i64) (p23.add 1) fun x24_1 => LdS S3 (.int .i64) (p23.add 2) fun x24_2 => LdS S3 (.int .i64) (p23.add 3) fun x24_3 => Br (!((x20_0 == x24_0) && ((x20_1 == x24_1) && ((x20_2 == x24_2) && (x20_3 == x24_3))))) (K false w2) (again2 (w64 (s1 + (1 : Int))) w2)) (K true w1)) 0 w)
theorem frisketlaw10_same.ok (a_0 : Sl) (b_1 : Sl) (K : Bool → World → Prop) (w : World) (h : frisketlaw10_same.M a_0 b_1 K w) : frisketlaw10_same.C a_0 b_1 w K :=
  calls_of_sem (P := P) (H := [(20, .agg [(.int .i64), (.int .i64), (.int .i64), (.int .i64)]), (24, .agg [(.int .i64), (.int .i64), (.int .i64), (.int .i64)])]) (ann := (.n .z (.n .z (.n (.n .z (.l [(5, .one (.int .i64))] [0, 1] .z)) .z)))) (args := [.slice a_0.a a_0.n a_0.c, .slice b_1.a b_1.n b_1.c]) (rt := .one .bool) P_mixed rfl rfl (by kernel_rfl) (by kernel_rfl)
    ((show _ = frisketlaw10_same.M a_0 b_1 K w by kernel_rfl).mpr h)

/-- frisket/frisketlaw10.great -/
def frisketlaw10_great.M (text_0 : ByteArray) (l_1 : Sl) (K : Bool → World → Prop) (w : World) : Prop :=
  Loop (fun (s1 : Int) w1 again2 => Br (decide (s1 < (l_1.n : Int))) (IdxS l_1 s1 3 fun p14 => Ld .str (p14.add 2) w1 fun x16 => Br (decide ((30 : Int) < (x16.size : Int))) (K true w1) (again2 (w64 (s1 + (1 : Int))) w1)) (Br (decide ((20 : Int) < (l_1.n : Int))) (K true w1) (K (decide ((100 : Int) < (text_0.size : Int))) w1))) 0 w
theorem frisketlaw10_great.ok (text_0 : ByteArray) (l_1 : Sl) (K : Bool → World → Prop) (w : World) (h : frisketlaw10_great.M text_0 l_1 K w) : frisketlaw10_great.C text_0 l_1 w K :=
  calls_of_sem (P := P) (H := [(16, .one .str)]) (ann := (.n .z (.n (.n .z (.l [(5, .one (.int .i64))] [0, 1] .z)) .z))) (args := [.string text_0, .slice l_1.a l_1.n l_1.c]) (rt := .one .bool) P_mixed rfl rfl (by kernel_rfl) (by kernel_rfl)
    ((show _ = frisketlaw10_great.M text_0 l_1 K w by kernel_rfl).mpr h)

/-- (*frisket/relex.Tape).Scanned -/
def relex_Tape_Scanned.M (t_0 : Option Addr) (K : Int → World → Prop) (w : World) : Prop :=
  Br (t_0.isNone) (K 0 w) (NilC t_0 fun a6 => Ld (.int .i64) (a6.add 3) w fun x8 => K x8 w)
theorem relex_Tape_Scanned.ok (t_0 : Option Addr) (K : Int → World → Prop) (w : World) (h : relex_Tape_Scanned.M t_0 K w) : relex_Tape_Scanned.C t_0 w K :=
  calls_of_sem (P := P) (H := [(8, .one (.int .i64))]) (ann := .z) (args := [.pointer t_0]) (rt := .one (.int .i64)) P_mixed rfl rfl (by kernel_rfl) (by kernel_rfl)
    ((show _ = relex_Tape_Scanned.M t_0 K w by kernel_rfl).mpr h)

/-- (*frisket/relex.Tape).At -/
def relex_Tape_At.M (t_0 : Option Addr) (place_1 : Int) (K : ((Int × Int × Int × Int) × Bool) → World → Prop) (w : World) : Prop :=
  Al (.cells #[.pointer t_0] T.p_relex_Tape (0, 0)) w fun b1 w1 => Al (.cells #[.int .i64 place_1] T.int (0, 0)) w1 fun b2 w2 => Al (.cells #[.int .i64 0, .int .i64 0, .int .i64 0, .int .i64 0] T.scan_Token (0, 0)) w2 fun b3 w3 => Join (fun (s4 : Bool) w4 => Br s4 (St (⟨b3, 0, none⟩) (.int .i64 0) w4 fun w5 => St (⟨b3, 1, none⟩) (.int .i64 0) w5 fun w6 => St (⟨b3, 2, none⟩) (.int .i64 0) w6 fun w7 => St (⟨b3, 3, none⟩) (.int .i64 0) w7 fun w8 => Ld (.int .i64) (⟨b3, 0, none⟩) w8 fun r0_0 => Ld (.int .i64) (⟨b3, 1, none⟩) w8 fun r0_1 => Ld (.int .i64) (⟨b3, 2, none⟩) w8 fun r0_2 => Ld (.int .i64) (⟨b3, 3, none⟩) w8 fun r0_3 => K ((r0_0, r0_1, r0_2, r0_3), false) w8) (Ld .ptr (⟨b1, 0, none⟩) w4 fun x23 => NilC x23 fun a24 => Ld .sl (a24.add 2) w4 fun x26 => sort_Search.C (x26.n : Int) (.func (.func FN.relex_Tape_At_S1) #[] #[.pointer (some (⟨b1, 0, none⟩)), .pointer (some (⟨b2, 0, none⟩))] : Value) w4 fun x29 w9 => Ld .ptr (⟨b1, 0, none⟩) w9 fun x30 => NilC x30 fun a31 => Ld .sl (a31.add 2) w9 fun x33 => IdxS x33 x29 4 fun p35 => Ld (.int .i64) p35 w9 fun x36_0 => Ld (.int .i64) (p35.add 1) w9 fun x36_1 => Ld (.int .i64) (p35.add 2) w9 fun x36_2 => Ld (.int .i64) (p35.add 3) w9 fun x36_3 => St (⟨b3, 0, none⟩) (.int .i64 x36_0) w9 fun w10 => St (⟨b3, 1, none⟩) (.int .i64 x36_1) w10 fun w11 => St (⟨b3, 2, none⟩) (.int .i64 x36_2) w11 fun w12 => St (⟨b3, 3, none⟩) (.int .i64 x36_3) w12 fun w13 => Ld (.int .i64) (⟨b3, 0, none⟩) w13 fun r0_0 => Ld (.int .i64) (⟨b3, 1, none⟩) w13 fun r0_1 => Ld (.int .i64) (⟨b3, 2, none⟩) w13 fun r0_2 => Ld (.int .i64) (⟨b3, 3, none⟩) w13 fun r0_3 => K ((r0_0, r0_1, r0_2, r0_3), true) w13)) fun j5 => Draw w3 fun S6 w14 => LdS S6 .ptr (⟨b1, 0, none⟩) fun x7 => Br (x7.isNone) (j5 true w14) (LdS S6 (.int .i64) (⟨b2, 0, none⟩) fun x10 => Br (decide (x10 < (0 : Int))) (j5 true w14) (LdS S6 (.int .i64) (⟨b2, 0, none⟩) fun x14 => LdS S6 .ptr (⟨b1, 0, none⟩) fun x15 => NilC x15 fun a16 => LdS S6 .str (a16.add 1) fun x18 => j5 (decide ((x18.size : Int) ≤ x14)) w14))
theorem relex_Tape_At.ok (t_0 : Option Addr) (place_1 : Int) (K : ((Int × Int × Int × Int) × Bool) → World → Prop) (w : World) (h : relex_Tape_At.M t_0 place_1 K w) : relex_Tape_At.C t_0 place_1 w K :=
  calls_of_sem (P := P) (H := [(4, .agg [(.int .i64), (.int .i64), (.int .i64), (.int .i64)]), (7, .one .ptr), (10, .one (.int .i64)), (14, .one (.int .i64)), (15, .one .ptr), (18, .one .str), (23, .one .ptr), (26, .one .sl), (29, .one (.int .i64)), (30, .one .ptr), (33, .one .sl), (36, .agg [(.int .i64), (.int .i64), (.int .i64), (.int .i64)])]) (ann := (.n .z (.n (.j [(21, .one .bool)] [2, 3, 4] .z .z) .z))) (args := [.pointer t_0, .int .i64 place_1]) (rt := .tup [.agg [(.int .i64), (.int .i64), (.int .i64), (.int .i64)], .one .bool]) P_mixed rfl rfl (by kernel_rfl) (by kernel_rfl)
    ((show _ = relex_Tape_At.M t_0 place_1 K w by kernel_rfl).mpr h)

/-- (*frisket/relex.Tape).ahead -/
def relex_Tape_ahead.M (t_0 : Option Addr) (place_1 : Int) (K : Int → World → Prop) (w : World) : Prop :=
  Loop (fun (s1 : Int) w1 again2 => Join (fun (s3 : Bool) w2 => Br s3 (again2 (w64 (s1 + (1 : Int))) w2) (K s1 w2)) fun j4 => NilC t_0 fun a8 => Ld .sl (a8.add 2) w1 fun x10 => Br (decide (s1 < (x10.n : Int))) (NilC t_0 fun a15 => Ld .sl (a15.add 2) w1 fun x17 => IdxS x17 s1 4 fun p19 => Ld (.int .i64) (p19.add 3) w1 fun x21 => j4 (decide (x21 ≤ place_1)) w1) (j4 false w1)) 0 w
theorem relex_Tape_ahead.ok (t_0 : Option Addr) (place_1 : Int) (K : Int → World → Prop) (w : World) (h : relex_Tape_ahead.M t_0 place_1 K w) : relex_Tape_ahead.C t_0 place_1 w K :=
  calls_of_sem (P := P) (H := [(10, .one .sl), (17, .one .sl), (21, .one (.int .i64))]) (ann := (.n .z (.n .z (.n (.l [(5, .one (.int .i64))] [0, 1] (.n (.j [(24, .one .bool)] [0, 1, 5] .z .z) .z)) .z)))) (args := [.pointer t_0, .int .i64 place_1]) (rt := .one (.int .i64)) P_mixed rfl rfl (by kernel_rfl) (by kernel_rfl)
    ((show _ = relex_Tape_ahead.M t_0 place_1 K w by kernel_rfl).mpr h)

/-- (*frisket/relex.Tape).begins -/
def relex_Tape_begins.M (t_0 : Option Addr) (from_1 : Int) (place_2 : Int) (K : Int → World → Prop) (w : World) : Prop :=
  Al (.cells #[.pointer t_0] T.p_relex_Tape (0, 0)) w fun b1 w1 => Al (.cells #[.int .i64 from_1] T.int (0, 0)) w1 fun b2 w2 => Al (.cells #[.int .i64 place_2] T.int (0, 0)) w2 fun b3 w3 => Draw w3 fun S4 w4 => LdS S4 (.int .i64) (⟨b2, 0, none⟩) fun x8 => LdS S4 .ptr (⟨b1, 0, none⟩) fun x9 => NilC x9 fun a10 => LdS S4 .sl (a10.add 2) fun x12 => LdS S4 (.int .i64) (⟨b2, 0, none⟩) fun x14 => (S4 w4 ∧ sort_Search.C (w64 ((x12.n : Int) - x14)) (.func (.func FN.relex_Tape_begins_S1) #[] #[.pointer (some (⟨b1, 0, none⟩)), .pointer (some (⟨b2, 0, none⟩)), .pointer (some (⟨b3, 0, none⟩))] : Value) w4 fun x17 w5 => (S4 w5 ∧ Join (fun (s5 : Bool) w6 => Br s5 (K (w64 (x8 + x17)) w6) (K (-1) w6)) fun j6 => Draw w5 fun S7 w7 => LdS S7 .ptr (⟨b1, 0, none⟩) fun x20 => NilC x20 fun a21 => LdS S7 .sl (a21.add 2) fun x23 => Br (decide ((w64 (x8 + x17)) < (x23.n : Int))) (LdS S7 .ptr (⟨b1, 0, none⟩) fun x27 => NilC x27 fun a28 => LdS S7 .sl (a28.add 2) fun x30 => IdxS x30 (w64 (x8 + x17)) 4 fun p32 => LdS S7 (.int .i64) (p32.add 1) fun x34 => LdS S7 (.int .i64) (⟨b3, 0, none⟩) fun x35 => j6 (x34 == x35) w7) (j6 false w7)))
theorem relex_Tape_begins.ok (t_0 : Option Addr) (from_1 : Int) (place_2 : Int) (K : Int → World → Prop) (w : World) (h : relex_Tape_begins.M t_0 from_1 place_2 K w) : relex_Tape_begins.C t_0 from_1 place_2 w K :=
  calls_of_sem (P := P) (H := [(8, .one (.int .i64)), (9, .one .ptr), (12, .one .sl), (14, .one (.int .i64)), (17, .one (.int .i64)), (20, .one .ptr), (23, .one .sl), (27, .one .ptr), (30, .one .sl), (34, .one (.int .i64)), (35, .one (.int .i64))]) (ann := (.n .z (.n .z (.n (.j [(37, .one .bool)] [7] .z .z) .z)))) (args := [.pointer t_0, .int .i64 from_1, .int .i64 place_2]) (rt := .one (.int .i64)) P_mixed rfl rfl (by kernel_rfl) (by kernel_rfl)
    ((show _ = relex_Tape_begins.M t_0 from_1 place_2 K w by kernel_rfl).mpr h)

/-- frisket/relex.moved -/
def relex_moved.M (l_0 : Sl) (by_1 : Int) (K : Sl → World → Prop) (w : World) : Prop :=
  App P (Instr.makeSlice T.sl_scan_Token (.int .i64 0) (.int .i64 (l_0.n : Int))) (.one .sl) w fun x10 w1 => Loop (fun (s1 : Sl × Int) w2 again2 => Br (decide (s1.2 < (l_0.n : Int))) (IdxS l_0 s1.2 4 fun p15 => Ld (.int .i64) p15 w2 fun x16_0 => Ld (.int .i64) (p15.add 1) w2 fun x16_1 => Ld (.int .i64) (p15.add 2) w2 fun x16_2 => Ld (.int .i64) (p15.add 3) w2 fun x16_3 => Al (.cells #[.int .i64 0, .int .i64 0, .int .i64 0, .int .i64 0] T.scan_Token (0, 0)) w2 fun b3 w3 => St (⟨b3, 0, none⟩) (.int .i64 x16_0) w3 fun w4 => St (⟨b3, 1, none⟩) (.int .i64 x16_1) w4 fun w5 => St (⟨b3, 2, none⟩) (.int .i64 x16_2) w5 fun w6 => St (⟨b3, 3, none⟩) (.int .i64 x16_3) w6 fun w7 => Ld (.int .i64) (⟨b3, 0, none⟩) w7 fun x19 => Ld (.int .i64) (⟨b3, 1, none⟩) w7 fun x21 => Ld (.int .i64) (⟨b3, 2, none⟩) w7 fun x25 => Ld (.int .i64) (⟨b3, 3, none⟩) w7 fun x29 => Al (.cells #[.int .i64 x19, .int .i64 (w64 (x21 + by_1)), .int .i64 (w64 (x25 + by_1)), .int .i64 (w64 (x29 + by_1))] T.scan_Token (0, 0)) w7 fun b4 w8 => App P (Builtin.append_ #[T.sl_scan_Token, T.sl_scan_Token] T.sl_scan_Token #[.slice s1.1.a s1.1.n s1.1.c, .slice (some ⟨b4, 0, none⟩) 1 1]) (.one .sl) w8 fun x34 w9 => again2 (x34, (w64 (s1.2 + (1 : Int)))) w9) (K s1.1 w2)) (x10, 0) w1
theorem relex_moved.ok (l_0 : Sl) (by_1 : Int) (K : Sl → World → Prop) (w : World) (h : relex_moved.M l_0 by_1 K w) : relex_moved.C l_0 by_1 w K :=
  calls_of_sem (P := P) (H := [(10, .one .sl), (16, .agg [(.int .i64), (.int .i64), (.int .i64), (.int .i64)]), (19, .one (.int .i64)), (21, .one (.int .i64)), (25, .one (.int .i64)), (29, .one (.int .i64))]) (ann := (.n .z (.n .z (.n (.n .z (.l [(5, .one .sl), (13, .one (.int .i64))] [1, 11, 12] .z)) .z)))) (args := [.slice l_0.a l_0.n l_0.c, .int .i64 by_1]) (rt := .one .sl) P_mixed rfl rfl (by kernel_rfl) (by kernel_rfl)
    ((show _ = relex_moved.M l_0 by_1 K w by kernel_rfl).mpr h)

/-- (*frisket/relex.Tape).At$1 -/
def relex_Tape_At_S1.M (i_0 : Int) (x1 : Addr) (x2 : Addr) (K : Bool → World → Prop) (w : World) : Prop :=
  Draw w fun S1 w1 => LdS S1 .ptr x1 fun x5 => NilC x5 fun a6 => LdS S1 .sl (a6.add 2) fun x8 => IdxS x8 i_0 4 fun p10 => LdS S1 (.int .i64) (p10.add 2) fun x12 => LdS S1 (.int .i64) x2 fun x13 => K (decide (x13 < x12)) w1
theorem relex_Tape_At_S1.ok (i_0 : Int) (x1 : Addr) (x2 : Addr) (K : Bool → World → Prop) (w : World) (h : relex_Tape_At_S1.M i_0 x1 x2 K w) : relex_Tape_At_S1.C i_0 x1 x2 w K :=
  calls_of_sem (P := P) (H := [(5, .one .ptr), (8, .one .sl), (12, .one (.int .i64)), (13, .one (.int .i64))]) (ann := .z) (args := [.int .i64 i_0, .pointer (some x1), .pointer (some x2)]) (rt := .one .bool) P_mixed rfl rfl (by kernel_rfl) (by kernel_rfl)
    ((show _ = relex_Tape_At_S1.M i_0 x1 x2 K w by kernel_rfl).mpr h)

/-- (*frisket/relex.Tape).begins$1 -/
def relex_Tape_begins_S1.M (i_0 : Int) (x1 : Addr) (x2 : Addr) (x3 : Addr) (K : Bool → World → Prop) (w : World) : Prop :=
  Draw w fun S1 w1 => LdS S1 .ptr x1 fun x6 => NilC x6 fun a7 => LdS S1 .sl (a7.add 2) fun x9 => LdS S1 (.int .i64) x2 fun x10 => IdxS x9 (w64 (x10 + i_0)) 4 fun p13 => LdS S1 (.int .i64) (p13.add 1) fun x15 => LdS S1 (.int .i64) x3 fun x16 => K (decide (x16 ≤ x15)) w1
theorem relex_Tape_begins_S1.ok (i_0 : Int) (x1 : Addr) (x2 : Addr) (x3 : Addr) (K : Bool → World → Prop) (w : World) (h : relex_Tape_begins_S1.M i_0 x1 x2 x3 K w) : relex_Tape_begins_S1.C i_0 x1 x2 x3 w K :=
  calls_of_sem (P := P) (H := [(6, .one .ptr), (9, .one .sl), (10, .one (.int .i64)), (15, .one (.int .i64)), (16, .one (.int .i64))]) (ann := .z) (args := [.int .i64 i_0, .pointer (some x1), .pointer (some x2), .pointer (some x3)]) (rt := .one .bool) P_mixed rfl rfl (by kernel_rfl) (by kernel_rfl)
    ((show _ = relex_Tape_begins_S1.M i_0 x1 x2 x3 K w by kernel_rfl).mpr h)

end Go.Fk
end

section
set_option linter.unusedVariables false
namespace Go.Fk
open Go Go.MapKept

theorem strEq_bs {a b : ByteArray} : (a.toList == b.toList) = true ↔ bs a = bs b := by rw [beq_iff_eq, ByteArray.toList_eq, ByteArray.toList_eq]
theorem bs_inj {a b : ByteArray} (h : bs a = bs b) : a = b := by
  obtain ⟨⟨a⟩⟩ := a
  obtain ⟨⟨b⟩⟩ := b
  simp [bs] at h
  rw [h]
theorem strEq {a b : ByteArray} : (a.toList == b.toList) = true ↔ a = b := ⟨fun h => bs_inj (strEq_bs.1 h), fun h => strEq_bs.2 (by rw [h])⟩

/-! ## Does an expression mean the empty text? -/

theorem regex_Nullable_spec (x : Re) : ∀ {M : Nat → Prop} {w : World} {p : Option Addr} {K : Bool → World → Prop} (h : Nd (V M w) p x) (hk : ∀ w', Keeps No w w' → K x.emp w'), regex_Nullable.C p w K := by
  induction x with
  | set f =>
    intro M w p K h hk
    refine regex_Nullable.ok _ _ _ ?_
    simp only [regex_Nullable.M]
    refine regex_Kind_spec h ?_
    exact hk w .refl
  | empty =>
    intro M w p K h hk
    refine regex_Nullable.ok _ _ _ ?_
    simp only [regex_Nullable.M]
    refine regex_Kind_spec h ?_
    exact hk w .refl
  | star a ih =>
    intro M w p K h hk
    refine regex_Nullable.ok _ _ _ ?_
    simp only [regex_Nullable.M]
    refine regex_Kind_spec h ?_
    exact hk w .refl
  | cat a b iha ihb =>
    intro M w p K h hk
    refine regex_Nullable.ok _ _ _ ?_
    simp only [regex_Nullable.M]
    refine regex_Kind_spec h ?_
    obtain ⟨b0, n0, n1, n2, n3, l, ps, rfl, hb, hl, ha⟩ := h.out
    cases ha; rename_i p ps1 ha ha1
    cases ha1; rename_i q ps2 hb' ha2
    cases ha2
    simp only [Re.kind, Join, show ((2 : Int) == 1) = false from rfl, show ((2 : Int) == 4) = false from rfl, show ((2 : Int) == 2) = true from rfl, show ((3 : Int) == 2) = false from rfl, show ((3 : Int) == 3) = true from rfl, Br_true, Br_false, NilC_some, add_eq]
    refine Ld.slv (l := l) (cell_of hb.2 rfl) (IdxS.get hl (by omega) (by simp) fun y hy => ?_)
    have hy : p = y := by simpa using hy
    subst hy
    refine iha ha fun w1 k1 => Br.mk (fun e => ?_) (fun e => ?_)
    · refine Ld.slv (l := l) (cell_of (k1.blk0 hb.2) rfl) (IdxS.get (hl.mono (V.keeps0 k1)) (by omega) (by simp) fun y hy => ?_)
      have hy : q = y := by simpa using hy
      subst hy
      refine ihb (hb'.mono (V.keeps0 k1)) fun w2 k2 => ?_
      have := hk w2 (k1.trans k2)
      simp only [Re.emp, e, Bool.true_and] at this
      exact this
    · have := hk w1 k1
      simp only [Re.emp, e, Bool.false_and] at this
      exact this
  | or a b iha ihb =>
    intro M w p K h hk
    refine regex_Nullable.ok _ _ _ ?_
    simp only [regex_Nullable.M]
    refine regex_Kind_spec h ?_
    obtain ⟨b0, n0, n1, n2, n3, l, ps, rfl, hb, hl, ha⟩ := h.out
    cases ha; rename_i p ps1 ha ha1
    cases ha1; rename_i q ps2 hb' ha2
    cases ha2
    simp only [Re.kind, Join, show ((3 : Int) == 1) = false from rfl, show ((3 : Int) == 4) = false from rfl, show ((2 : Int) == 2) = true from rfl, show ((3 : Int) == 2) = false from rfl, show ((3 : Int) == 3) = true from rfl, Br_true, Br_false, NilC_some, add_eq]
    refine Ld.slv (l := l) (cell_of hb.2 rfl) (IdxS.get hl (by omega) (by simp) fun y hy => ?_)
    have hy : p = y := by simpa using hy
    subst hy
    refine iha ha fun w1 k1 => Br.mk (fun e => ?_) (fun e => ?_)
    · have := hk w1 k1
      simp only [Re.emp, e, Bool.true_or] at this
      exact this
    · refine Ld.slv (l := l) (cell_of (k1.blk0 hb.2) rfl) (IdxS.get (hl.mono (V.keeps0 k1)) (by omega) (by simp) fun y hy => ?_)
      have hy : q = y := by simpa using hy
      subst hy
      refine ihb (hb'.mono (V.keeps0 k1)) fun w2 k2 => ?_
      have := hk w2 (k1.trans k2)
      simp only [Re.emp, e, Bool.false_or] at this
      exact this

/-! ## Names -/

def ChOK (i : Nat) (c : UInt8) : Prop := (97 ≤ c.toNat ∧ c.toNat ≤ 122) ∨ (0 < i ∧ 48 ≤ c.toNat ∧ c.toNat ≤ 57)
def NameOK (s : List UInt8) : Prop := 1 ≤ s.length ∧ s.length ≤ 20 ∧ ∀ i c, s[i]? = some c → ChOK i c

theorem scan_named_spec {w : World} {s : ByteArray} (hs : s.size ≤ maxLen) {K : Bool → World → Prop} (hK : ∀ b, (b = true ↔ NameOK (bs s)) → K b w) : scan_named.C s w K := by
  have hsz := size_bs s
  have hmx : maxLen = 9223372036854775807 := rfl
  refine scan_named.ok _ _ _ ?_
  simp only [scan_named.M]
  refine Loop.mk (fun t w' => w' = w ∧ ∃ k : Nat, t = k ∧ k ≤ s.size ∧ ∀ i c, i < k → (bs s)[i]? = some c → ChOK i c) (fun t => s.size - t.toNat) ⟨rfl, 0, rfl, by omega, fun i c h => by omega⟩ ?_
  rintro t w' ⟨rfl, k, rfl, hk, hp⟩ R hR
  refine Br.mk (fun e => ?_) (fun e => ?_)
  · have e : k < s.size := by have := of_decide_eq_true e; omega
    refine IdxStr.get (by omega) (by omega) fun c hc => ?_
    simp only [Int.toNat_natCast] at hc
    refine Join.cut (fun b w2 => w2 = w' ∧ (b = true ↔ ¬ ChOK k c)) ?_ ?_
    · rintro b w2 ⟨rfl, hb⟩
      refine Br.mk (fun e2 => hK _ ⟨fun h => (by cases h), fun h => absurd (h.2.2 k c hc) (hb.1 e2)⟩) (fun e2 => ?_)
      have hch : ChOK k c := Classical.byContradiction fun hn => by rw [hb.2 hn] at e2; cases e2
      rw [w64_eq (by omega)]
      refine hR _ _ ⟨rfl, k + 1, by omega, by omega, fun i c' hi hc' => ?_⟩ (by omega)
      by_cases hik : i = k
      · subst hik; rw [hc] at hc'; cases hc'; exact hch
      · exact hp i c' (by omega) hc'
    · intro j hj
      refine Br.mk (fun e1 => Br.mk (fun e2 => ?_) (fun e2 => Br.mk (fun e3 => Br.mk (fun e4 => ?_) (fun e4 => ?_)) (fun e3 => ?_))) (fun e1 => Br.mk (fun e3 => Br.mk (fun e4 => ?_) (fun e4 => ?_)) (fun e3 => ?_))
      all_goals
        refine hj _ _ ⟨rfl, ?_⟩
        unfold ChOK
        simp only [decide_eq_true_eq, decide_eq_false_iff_not, Bool.not_eq_true', Bool.false_eq_true, false_iff, true_iff, Classical.not_not] at *
        omega
  · have e : k = s.size := by have := of_decide_eq_false e; omega
    subst e
    have hall : ∀ i c, (bs s)[i]? = some c → ChOK i c := fun i c h => hp i c (by have := (List.getElem?_eq_some_iff.1 h).1; omega) h
    have hne : (s.toList == (⟨#[]⟩ : ByteArray).toList) = true ↔ (bs s).length = 0 := by
      rw [strEq_bs]
      exact ⟨fun h => by rw [h]; rfl, fun h => List.eq_nil_of_length_eq_zero h⟩
    refine Br.mk (fun e2 => hK _ ?_) (fun e2 => hK _ ?_)
    · have : ¬ (bs s).length = 0 := fun h => by rw [hne.2 h] at e2; cases e2
      simp only [decide_eq_true_eq]
      exact ⟨fun h => ⟨by omega, by omega, hall⟩, fun h => by have := h.2.1; omega⟩
    · have : (bs s).length = 0 := hne.1 (by simpa using e2)
      exact ⟨fun h => (by cases h), fun h => by have := h.1; omega⟩

theorem ref09_Named_spec {w : World} {s : ByteArray} (hs : s.size ≤ maxLen) {K : Bool → World → Prop} (hK : ∀ b, (b = true ↔ NameOK (bs s)) → K b w) : frisketref09_Named.C s w K := by
  have hsz := size_bs s
  have hmx : maxLen = 9223372036854775807 := rfl
  refine frisketref09_Named.ok _ _ _ ?_
  simp only [frisketref09_Named.M]
  refine Loop.mk (fun t w' => w' = w ∧ ∃ k : Nat, t = k ∧ k ≤ s.size ∧ ∀ i c, i < k → (bs s)[i]? = some c → ChOK i c) (fun t => s.size - t.toNat) ⟨rfl, 0, rfl, by omega, fun i c h => by omega⟩ ?_
  rintro t w' ⟨rfl, k, rfl, hk, hp⟩ R hR
  refine Br.mk (fun e => ?_) (fun e => ?_)
  · have e : k < s.size := by have := of_decide_eq_true e; omega
    obtain ⟨c, hc⟩ : ∃ c, (bs s)[k]? = some c := ⟨_, List.getElem?_eq_getElem (by omega)⟩
    have get : ∀ {Q : UInt8 → Prop}, Q c → IdxStr s (k : Int) Q := fun {Q} h => IdxStr.get (by omega) (by omega) fun c' hc' => by
      simp only [Int.toNat_natCast] at hc'
      rw [hc] at hc'; cases hc'; exact h
    refine Join.cut (fun b w2 => w2 = w' ∧ (b = true ↔ (97 ≤ c.toNat ∧ c.toNat ≤ 122))) ?_ ?_
    · rintro b1 w2 ⟨rfl, hb1⟩
      refine Join.cut (fun b w3 => w3 = w2 ∧ (b = true ↔ (48 ≤ c.toNat ∧ c.toNat ≤ 57))) ?_ ?_
      · rintro b2 w3 ⟨rfl, hb2⟩
        refine Join.cut (fun b w4 => w4 = w3 ∧ (b = true ↔ ¬ ChOK k c)) ?_ ?_
        · rintro b w4 ⟨rfl, hb⟩
          refine Br.mk (fun e2 => hK _ ⟨fun h => (by cases h), fun h => absurd (h.2.2 k c hc) (hb.1 e2)⟩) (fun e2 => ?_)
          have hch : ChOK k c := Classical.byContradiction fun hn => by rw [hb.2 hn] at e2; cases e2
          rw [w64_eq (by omega)]
          refine hR _ _ ⟨rfl, k + 1, by omega, by omega, fun i c' hi hc' => ?_⟩ (by omega)
          by_cases hik : i = k
          · subst hik; rw [hc] at hc'; cases hc'; exact hch
          · exact hp i c' (by omega) hc'
        · intro j hj
          cases b1 <;> cases b2 <;> simp only [Bool.not_true, Bool.not_false, Br_true, Br_false] <;> refine hj _ _ ⟨rfl, ?_⟩ <;> unfold ChOK <;> simp only [Bool.false_eq_true, false_iff, true_iff, Classical.not_not, beq_iff_eq] at * <;> omega
      · intro j hj
        refine get (Br.mk (fun e1 => get (hj _ _ ⟨rfl, ?_⟩)) (fun e1 => hj _ _ ⟨rfl, ?_⟩))
        · simp only [decide_eq_true_eq] at *; omega
        · simp only [decide_eq_false_iff_not, Bool.false_eq_true, false_iff] at *; omega
    · intro j hj
      refine get (Br.mk (fun e1 => get (hj _ _ ⟨rfl, ?_⟩)) (fun e1 => hj _ _ ⟨rfl, ?_⟩))
      · simp only [decide_eq_true_eq] at *; omega
      · simp only [decide_eq_false_iff_not, Bool.false_eq_true, false_iff] at *; omega
  · have e : k = s.size := by have := of_decide_eq_false e; omega
    subst e
    have hall : ∀ i c, (bs s)[i]? = some c → ChOK i c := fun i c h => hp i c (by have := (List.getElem?_eq_some_iff.1 h).1; omega) h
    refine Br.mk (fun e2 => hK _ ?_) (fun e2 => hK _ ?_)
    · have e2 := of_decide_eq_true e2
      simp only [decide_eq_true_eq]
      exact ⟨fun h => ⟨by omega, by omega, hall⟩, fun h => by have := h.2.1; omega⟩
    · have e2 := of_decide_eq_false e2
      exact ⟨fun h => (by cases h), fun h => by have := h.1; omega⟩

/-! ## Does an expression mean something that isn't empty, and not the empty text? -/

/-- Its automaton would be too large. -/
def Over (ys : List Re) : Prop := 2000 < mCnt ys ∨ TooMany (mFs 0 ys) (mFol 0 ys) (mKs 0 ys)
def MeansP (y : Re) : Prop := y.emp = false ∧ (y.sub ∨ Over [y])

theorem scan_means_spec {w : World} {p : Option Addr} {y : Re} (hN : Nd (V No w) p y) (hsz : y.size < 1000000) {K : Bool → World → Prop} (hK : ∀ b w', Keeps No w w' → (b = true ↔ MeansP y) → K b w') : scan_means.C p w K := by
  refine scan_means.ok _ _ _ ?_
  simp only [scan_means.M]
  refine regex_Nullable_spec y hN fun w1 k1 => Br.mk (fun e => hK _ w1 k1 ⟨fun h => (by cases h), fun h => by rw [h.1] at e; cases e⟩) (fun he => ?_)
  refine Al.mk fun b1 w2 n2 => ?_
  have k02 := k1.trans n2.keeps
  refine nfa_New_spec (M := No) (fun _ h => h.elim) (row1 ⟨id, n2.at_⟩) (.cons (hN.mono (V.keeps0 k02)) .nil) (by simp) (by simp) (fun x hx => by simp at hx; subst hx; omega) fun m e w3 k3 g1 g2 => ?_
  have k03 := k02.trans k3
  by_cases hc : mCnt [y] ≤ 2000
  · obtain ⟨rfl, hm⟩ := g1 hc
    have hmn : m ≠ none := by
      obtain ⟨bm, _, _, _, _, rfl, _⟩ := hm.ex
      simp
    show Br ((0 : Int) != 0) _ _
    rw [bne_self_eq_false, Br_false]
    refine dfa_New_spec (.inr hm) hmn (by rw [mKs_len]; simp) (fun d svs cl nc w4 k4 hd hok => ?_) (fun w4 k4 hg => ?_)
    · show Br ((0 : Int) != 0) _ _
      rw [bne_self_eq_false, Br_false]
      have hdo : DfaO (V No w4) d svs cl nc := .inr hd
      have k04 := k03.trans k4
      have hfew := hok.few
      refine dfa_States_spec hdo ?_
      refine Loop.mk (fun t w' => w' = w4 ∧ ∃ k : Nat, t = k ∧ k ≤ svs.length ∧ ∀ v : Nat, v < k → accOf svs v = -1) (fun t => svs.length - t.toNat) ⟨rfl, 0, rfl, by omega, fun v h => by omega⟩ ?_
      rintro t w' ⟨rfl, k, rfl, hk, hp⟩ R hR
      refine Br.mk (fun e => ?_) (fun e => ?_)
      · have e : k < svs.length := by have := of_decide_eq_true e; omega
        refine dfa_Accept_spec hdo (Br.mk (fun e2 => ?_) (fun e2 => ?_))
        · have e2 : accOf svs k ≠ -1 := by simpa using e2
          exact hK _ w' k04 ⟨fun _ => ⟨he, .inl ((accepts_iff hok).1 ⟨k, e, e2⟩)⟩, fun _ => rfl⟩
        · have e2 : accOf svs k = -1 := by simpa using e2
          rw [w64_eq (by omega)]
          refine hR _ _ ⟨rfl, k + 1, by omega, by omega, fun v hv => ?_⟩ (by omega)
          by_cases hvk : v = k
          · subst hvk; exact e2
          · exact hp v (by omega)
      · have e : k = svs.length := by have := of_decide_eq_false e; omega
        subst e
        refine hK _ w' k04 ⟨fun h => (by cases h), fun h => ?_⟩
        rcases h.2 with h | h | h
        · obtain ⟨v, hv, ha⟩ := (accepts_iff hok).2 h
          exact absurd (hp v hv) ha
        · omega
        · exact (TooMany.up (i := 0) (ys := [y]) rfl hok h).elim
    · show Br ((3 : Int) != 0) _ _
      exact hK _ w4 (k03.trans k4) ⟨fun _ => ⟨he, .inr (.inr hg)⟩, fun _ => rfl⟩
  · obtain ⟨rfl, rfl⟩ := g2 (by omega)
    show Br ((3 : Int) != 0) _ _
    exact hK _ w3 k03 ⟨fun _ => ⟨he, .inr (.inl (by omega))⟩, fun _ => rfl⟩
end Go.Fk
end

section
set_option linter.unusedVariables false
namespace Go.Fk
open Go Go.MapKept

theorem Draw.kpm {w : World} (M : Nat → Prop) {F : (World → Prop) → World → Prop} (h : ∀ w', w'.heap = w.heap → Keeps No w w' → F (fun x => Keeps M w' x) w') : Draw w F :=
  ⟨fun x => Keeps M w.drew x, Keeps.refl, h _ rfl Keeps.drew⟩

/-! ## Which classes can be there -/

def reOf (c : Cls) : Re := (parseF (bs c.rx)).1
def ysOf (cs : List Cls) : List Re := cs.map reOf
def ClsOK (cs : List Cls) (i : Nat) : Prop := ∃ c, cs[i]? = some c ∧ NameOK (bs c.n) ∧ (∀ (j : Nat) c', j < i → cs[j]? = some c' → c'.n ≠ c.n) ∧ (parseF (bs c.rx)).2.2 = 0 ∧ MeansP (reOf c)
def BadAt (cs : List Cls) (i : Nat) (e : Int) : Prop := ∃ c, cs[i]? = some c ∧ ((e = 9 ∧ (¬ NameOK (bs c.n) ∨ ∃ (j : Nat) (c' : Cls), j < i ∧ cs[j]? = some c' ∧ c'.n = c.n)) ∨ ((parseF (bs c.rx)).2.2 ≠ 0 ∧ e = (parseF (bs c.rx)).2.2) ∨ (e = 11 ∧ (parseF (bs c.rx)).2.2 = 0 ∧ ¬ MeansP (reOf c)))
structure Sound (cs : List Cls) (ms : List LSt) : Prop where
  ne : cs ≠ []
  cls : ∀ i, i < cs.length → ClsOK cs i
  auto : ∃ svs cl nc lv kd fs of_, DfaOK (mFs 0 (ysOf cs)) (mFol 0 (ysOf cs)) (mKs 0 (ysOf cs)) svs cl nc ∧ Aut svs ∧ LeastOK svs lv kd fs ms of_
def ScanW (H : View) (s : Option Addr) (cs : List Cls) (ms : List LSt) : Prop := ∃ N of_, ScanV H s cs N ms of_
theorem ScanW.keep {w w' : World} {s : Option Addr} {cs : List Cls} {ms : List LSt} (h : ScanW (V No w) s cs ms) (k : Keeps No w w') : ScanW (V No w') s cs ms := by
  obtain ⟨N, of_, h⟩ := h
  exact ⟨N, of_, h.keep k⟩

theorem scan_class_spec {w : World} {M : Nat → Prop} {b mm : Nat} {lp : Option Addr} {l : Sl} {R : ByteArray → Int → Prop} (hb : w.heap[b]? = some (scObj lp l mm)) (hm : MapAt P T.string .str (.int .i64) (V M w) mm R) {i : Int} (hi : i < 40) {c : Cls} (hc : c.n.size ≤ maxLen) (hrx : Small c.rx) {K : (Option Addr × Int) → World → Prop}
    (k9 : ∀ w', Keeps No w w' → (¬ NameOK (bs c.n) ∨ ∃ v, R c.n v) → K (none, 9) w')
    (kp : ∀ w', Keeps No w w' → NameOK (bs c.n) → (∀ v, ¬ R c.n v) → (parseF (bs c.rx)).2.2 ≠ 0 → K (none, ((parseF (bs c.rx)).2.2 : Int)) w')
    (k11 : ∀ w', Keeps No w w' → NameOK (bs c.n) → (∀ v, ¬ R c.n v) → (parseF (bs c.rx)).2.2 = 0 → ¬ MeansP (reOf c) → K (none, 11) w')
    (k0 : ∀ p w', Keeps No w w' → NameOK (bs c.n) → (∀ v, ¬ R c.n v) → (parseF (bs c.rx)).2.2 = 0 → MeansP (reOf c) → Nd (V (Lt w.heap.size) w') p (reOf c) → K (p, 0) w') : scan_Scanner_class.C (some ⟨b, 0, none⟩) i (c.n, c.rx, c.lay) w K := by
  refine scan_Scanner_class.ok _ _ _ _ _ ?_
  simp only [scan_Scanner_class.M]
  refine Al.mk fun b1 w1 n1 => Draw.kp fun w2 e2 k2 => ?_
  have k02 : Keeps No w w2 := n1.keeps.trans k2
  have z1 := n1.size; have z2 := k2.size
  simp only [NilC_some, add_eq]
  refine LdK.map (cell_of (k02.blk0 hb) rfl) (LdK.str (cell_of (k2.blk0 n1.at_) rfl) ?_)
  have hm2 : MapO P T.string .str (.int .i64) (V M w2) (some mm) R := MapAt.mono hm (V.keeps0 k02)
  have fin : ∀ (bt : Bool), (bt = true ↔ ∃ v, R c.n v) → ∀ z : Int, (Keeps No w2 w2 ∧ Br (decide ((40 : Int) ≤ i)) (K (none, 3) w2) (Join (fun (s3 : Bool) w4 => Br s3 (K (none, 9) w4) (Ld .str (⟨b1, 1, none⟩) w4 fun x36 => regex_Parse.C x36 w4 fun x37 w5 => Br (x37.2.2 != (0 : Int)) (K (none, x37.2.2) w5) (scan_means.C x37.1 w5 fun x45 w6 => Br (!x45) (K (none, 11) w6) (K (x37.1, 0) w6)))) fun j4 => Ld .str (⟨b1, 0, none⟩) w2 fun x28 => scan_named.C x28 w2 fun x29 w7 => Br (!x29) (j4 true w7) (j4 (z, bt).2 w7))) := by
    intro bt hbt z
    refine ⟨.refl, Br.mk (fun e => by have := of_decide_eq_true e; omega) fun _ => ?_⟩
    refine Join.cut (fun s3 w4 => w4 = w2 ∧ (s3 = true ↔ (¬ NameOK (bs c.n) ∨ ∃ v, R c.n v))) ?_ ?_
    · rintro s3 w4 ⟨rfl, hs3⟩
      refine Br.mk (fun e => k9 _ k02 (hs3.1 e)) (fun e => ?_)
      have hno : ¬ (¬ NameOK (bs c.n) ∨ ∃ v, R c.n v) := fun h => by rw [hs3.2 h] at e; cases e
      have hnm : NameOK (bs c.n) := Classical.byContradiction fun h => hno (.inl h)
      have hnr : ∀ v, ¬ R c.n v := fun v h => hno (.inr ⟨v, h⟩)
      refine Ld.str (cell_of (k2.blk0 n1.at_) rfl) (regex_Parse_spec hrx fun p w5 k5 hN hnil => ?_)
      have k05 := k02.trans k5
      by_cases h0 : (parseF (bs c.rx)).2.2 = 0
      · have hN := hN h0
        rw [h0]
        show Br ((0 : Int) != 0) _ _
        rw [bne_self_eq_false, Br_false]
        refine scan_means_spec (hN.mono (V.sub fun _ _ h => h.elim)) (by have := parse_small h0; unfold reOf at *; omega) fun x w6 k6 hx => ?_
        refine Br.mk (fun e => ?_) (fun e => ?_)
        · exact k11 w6 (k05.trans k6) hnm hnr h0 fun h => by have h : x = true := hx.2 h; subst h; cases e
        · have hxt : x = true := by simpa using e
          exact k0 p w6 (k05.trans k6) hnm hnr h0 (hx.1 hxt) (hN.mono ((V.keeps0 k6).trans (V.sub fun b _ h => by have : b < w.heap.size := h; show b < _; omega)))
      · have : ((((parseF (bs c.rx)).2.2 : Nat) : Int) != 0) = true := by simp; omega
        rw [this, Br_true]
        have hp := hnil h0
        exact kp w5 k05 hnm hnr h0
    · intro j hj
      refine Ld.str (cell_of (k2.blk0 n1.at_) rfl) (scan_named_spec hc fun bn hbn => ?_)
      refine Br.mk (fun e => hj _ _ ⟨rfl, ?_⟩) (fun e => hj _ _ ⟨rfl, ?_⟩)
      · have e : bn = false := by simpa using e
        exact ⟨fun _ => .inl fun h => (by rw [hbn.2 h] at e; cases e), fun _ => rfl⟩
      · have e : bn = true := by simpa using e
        have hnm := hbn.1 e
        dsimp only
        rw [hbt]
        exact ⟨.inr, fun h => h.resolve_left fun h => h hnm⟩
  refine App.look2 (kt := .str) (vt := .int .i64) (x := c.n) (z := (0 : Int)) strIntTy (run_zeroInt w2) hm2 (strKey hc) (fun v hv => fin true ⟨fun _ => ⟨v, hv⟩, fun _ => rfl⟩ v) (fun hno => fin false ⟨fun h => (by cases h), fun ⟨v, hv⟩ => absurd hv (hno v)⟩ 0)

theorem LeastV.away {w : World} {b2 mm : Nat} {lp : Option Addr} {l : Sl} {p : Option Addr} {N : Nat} {ms : List LSt} {of_ : Nat → Int} (hb : w.heap[b2]? = some (scObj lp l mm)) (h : LeastV (V No w) p N ms of_) : LeastV (V (· = b2) w) p N ms of_ := by
  obtain ⟨b, l1, o, h1, h2, h3, h4⟩ := h
  refine ⟨b, l1, o, h1, ⟨?_, h2.2⟩, ?_, ?_⟩
  · rintro rfl
    have := h2.2
    rw [hb] at this
    simp at this
  · refine ⟨h3.1, ?_⟩
    rcases h3.2 with h | ⟨c, off, cs, E, fr, g1, g2, g3⟩
    · exact .inl h
    · by_cases hm : ms.map LSt.cells = []
      · exact .inl hm
      · refine .inr ⟨c, off, cs, E, fr, g1, ⟨?_, g2.2⟩, g3⟩
        rintro rfl
        have := g2.2
        rw [hb] at this
        simp only [Option.some.injEq, Obj.cells.injEq] at this
        obtain ⟨rfl, _, _⟩ := this
        cases ms with
        | nil => exact hm rfl
        | cons m ms =>
          have hl : m.cells.length = 257 := LSt.lens (ms := m :: ms) _ (by simp)
          have := g3 0 m.cells rfl 5 _ (List.getElem?_eq_getElem (by omega))
          simp at this
  · refine ⟨h4.1, ?_⟩
    rcases h4.2 with h | ⟨c, off, cs, E, fr, g1, g2, g3⟩
    · exact .inl h
    · by_cases hm : rowG N of_ = []
      · exact .inl hm
      · refine .inr ⟨c, off, cs, E, fr, g1, ⟨?_, g2.2⟩, g3⟩
        rintro rfl
        have := g2.2
        rw [hb] at this
        simp only [Option.some.injEq, Obj.cells.injEq] at this
        obtain ⟨rfl, _, _⟩ := this
        cases hr : rowG N of_ with
        | nil => exact hm hr
        | cons x xs =>
          have := g3 0 x (by rw [hr]; rfl)
          rcases off with _ | _ | _ | off <;> simp [Ty.enc] at this

theorem NameR.snoc {cs : List Cls} {i : Nat} {c : Cls} (hc : cs[i]? = some c) (hno : ∀ v, ¬ NameR (cs.take i) c.n v) (a : ByteArray) (v : Int) : ((a = c.n ∧ v = (i : Int)) ∨ (a ≠ c.n ∧ NameR (cs.take i) a v)) ↔ NameR (cs.take (i + 1)) a v := by
  have hl : i < cs.length := (List.getElem?_eq_some_iff.1 hc).1
  have htk : cs.take (i + 1) = cs.take i ++ [c] := by rw [List.take_add_one, hc]; rfl
  have hlt : (cs.take i).length = i := by simp; omega
  constructor
  · rintro (⟨rfl, rfl⟩ | ⟨_, j, c', h1, h2, h3⟩)
    · exact ⟨i, c, by rw [htk, List.getElem?_append_right (by omega)]; simp [hlt], rfl, rfl⟩
    · exact ⟨j, c', by rw [htk, List.getElem?_append_left (List.getElem?_eq_some_iff.1 h1).1]; exact h1, h2, h3⟩
  · rintro ⟨j, c', h1, h2, h3⟩
    rw [htk] at h1
    by_cases hj : j < i
    · rw [List.getElem?_append_left (by omega)] at h1
      refine .inr ⟨fun e => ?_, j, c', h1, h2, h3⟩
      subst e
      exact hno v ⟨j, c', h1, h2, h3⟩
    · rw [List.getElem?_append_right (by omega)] at h1
      have : j - (cs.take i).length = 0 := by
        have := (List.getElem?_eq_some_iff.1 h1).1
        simp at this ⊢; omega
      rw [this] at h1
      simp at h1
      subst h1
      exact .inl ⟨h2.symm, by omega⟩

theorem NameR.look {cs : List Cls} {i : Nat} {n : ByteArray} : (∃ v, NameR (cs.take i) n v) ↔ ∃ (j : Nat) (c' : Cls), j < i ∧ cs[j]? = some c' ∧ c'.n = n := by
  constructor
  · rintro ⟨v, j, c', h1, h2, h3⟩
    rw [List.getElem?_take] at h1
    split at h1
    · exact ⟨j, c', by assumption, h1, h2⟩
    · cases h1
  · rintro ⟨j, c', h1, h2, h3⟩
    exact ⟨j, j, c', by rw [List.getElem?_take, if_pos h1]; exact h2, h3, rfl⟩

theorem scan_New_spec {M : Nat → Prop} {w : World} {l : Sl} {cs : List Cls} (hl : SlCls (V M w) l cs) (hlen : cs.length ≤ 40) (hsm : ∀ c ∈ cs, Small c.rx ∧ c.n.size ≤ maxLen) {K : (Option Addr × Int × Int) → World → Prop}
    (hnil : cs = [] → K (none, 0, 12) w)
    (hbad : ∀ (i : Nat) e w', Keeps No w w' → i < cs.length → (∀ j, j < i → ClsOK cs j) → BadAt cs i e → K (none, i, e) w')
    (hbig : ∀ w', Keeps No w w' → cs ≠ [] → (∀ j, j < cs.length → ClsOK cs j) → Over (ysOf cs) → K (none, 0, 3) w')
    (hok : ∀ s ms w', Keeps No w w' → ScanW (V No w') s cs ms → Sound cs ms → K (s, cs.length, 0) w') : scan_New.C l w K := by
  have hn := hl.1
  simp only [List.length_map] at hn
  refine scan_New.ok _ _ _ ?_
  simp only [scan_New.M]
  refine Br.mk (fun e => hnil (List.eq_nil_of_length_eq_zero (by have h0 : (l.n : Int) = 0 := (by simpa using e); omega))) (fun e => ?_)
  have hne : cs ≠ [] := by
    rintro rfl
    rw [hn] at e; cases e
  refine Clone_cls hl (by omega) fun l1 w1 k1 ho1 => ?_
  refine Al.mk fun m1 w2 n2 => Al.mk fun b2 w3 n3 => ?_
  have e2 := n2.eq; have z2 := n2.size; have e3 := n3.eq; have z3 := n3.size; have z1 := k1.size
  have k03 : Keeps No w w3 := (k1.trans n2.keeps).trans n3.keeps
  have hl1 : ∀ c, l1.blk c → w.heap.size ≤ c ∧ c ≠ m1 ∧ c ≠ b2 := fun c hc => by have := ho1.ge hc; omega
  refine Loop.mk (fun t w' => Keeps No w w' ∧ ∃ (i : Nat) (ps : List (Option Addr)), t.2 = (i : Int) ∧ i ≤ cs.length ∧ ps.length = i ∧ w'.heap[b2]? = some (scObj none l1 m1) ∧ Own w' w.heap.size T.scan_Class 3 l1 (cs.map Cls.cells).flatten ∧
      MapAt P T.string .str (.int .i64) (V No w') m1 (NameR (cs.take i)) ∧ Own w' w.heap.size T.p_regex_Node 1 t.1 (ps.map (Ty.enc .ptr)) ∧ (¬ t.1.blk b2 ∧ ¬ t.1.blk m1 ∧ ∀ c, t.1.blk c → ¬ l1.blk c) ∧
      All2 (Nd (V (fun c => t.1.blk c ∨ c = b2 ∨ c = m1) w')) ps (ysOf (cs.take i)) ∧ ∀ j, j < i → ClsOK cs j)
    (fun t => cs.length - t.2.toNat) ⟨k03, 0, [], rfl, by omega, rfl, n3.at_, (ho1.keep0 n2.keeps).keep0 n3.keeps, ?_, by simpa using Own.nil _ _ _ _, ⟨fun ⟨a, h, _⟩ => (by cases h), fun ⟨a, h, _⟩ => (by cases h), fun c ⟨a, h, _⟩ => (by cases h)⟩, .nil, fun j hj => by omega⟩ ?_
  · exact (MapAt.empty (kt := .str) (vt := .int .i64) ⟨id, n3.keeps.blk0 n2.at_⟩).congr fun k v => ⟨fun h => h.elim, fun ⟨i, c, h, _⟩ => by simp at h⟩
  rintro ⟨a, ti⟩ w4 ⟨k4, i, ps, hti, hi, hpl, hb2, ho4, hmap, ha, ⟨f1, f2, f3⟩, hN, hcl⟩ R hR
  dsimp only at hti ha f1 f2 f3 hN ⊢
  subst hti
  have han : a.n = ps.length := by have := ha.len; simp at this; omega
  have hb2lt := lt_of_some hb2
  have hm1lt := hmap.lt
  refine Br.mk (fun e => ?_) (fun e => ?_)
  · have hlt : i < cs.length := by have := of_decide_eq_true e; omega
    have hci : cs[i]? = some cs[i] := List.getElem?_eq_getElem hlt
    generalize cs[i] = c at hci
    have hcm := hsm c (List.mem_of_getElem? hci)
    refine IdxS.cls (hl.mono (V.keeps0 k4)) (by omega) (by omega) fun c' q hc' hq => ?_
    simp only [Int.toNat_natCast] at hc'
    rw [hci] at hc'; cases hc'
    refine Ld.str hq.n (Ld.str hq.rx (Ld.bool hq.lay ?_))
    refine AlSt3 fun b5 w5 n5 => ?_
    have e5 := n5.eq; have z5 := n5.size
    refine Ld.str (cell_of n5.at_ rfl) (Ld.str (cell_of n5.at_ rfl) (Ld.bool (cell_of n5.at_ rfl) ?_))
    refine scan_class_spec (M := No) (n5.keeps.blk0 hb2) (hmap.mono (V.keeps0 n5.keeps)) (by omega) hcm.2 hcm.1 ?_ ?_ ?_ ?_
    · intro w6 k6 h6
      show Br ((9 : Int) != 0) _ _
      exact hbad i 9 w6 ((k4.trans n5.keeps).trans k6) hlt hcl ⟨c, hci, .inl ⟨rfl, h6.imp id NameR.look.1⟩⟩
    · intro w6 k6 h6 h7 h8
      have : ((((parseF (bs c.rx)).2.2 : Nat) : Int) != 0) = true := by simp; omega
      dsimp only
      rw [this, Br_true]
      exact hbad i _ w6 ((k4.trans n5.keeps).trans k6) hlt hcl ⟨c, hci, .inr (.inl ⟨h8, rfl⟩)⟩
    · intro w6 k6 h6 h7 h8 h9
      show Br ((11 : Int) != 0) _ _
      exact hbad i 11 w6 ((k4.trans n5.keeps).trans k6) hlt hcl ⟨c, hci, .inr (.inr ⟨rfl, h8, h9⟩)⟩
    · intro p w6 k6 h6 h7 h8 h9 hNp
      dsimp only
      rw [bne_self_eq_false, Br_false]
      have hcok : ClsOK cs i := ⟨c, hci, h6, fun j c' hj hc' he => h7 _ (NameR.look.2 ⟨j, c', hj, hc', he⟩).choose_spec, h8, h9⟩
      refine Draw.kpm (· = m1) fun w7 e7 k7 => ?_
      have k47 : Keeps No w4 w7 := (n5.keeps.trans k6).trans k7
      have k07 := k4.trans k47
      have z7 := k47.size; have z6 := k6.size
      refine LdS.of (t := .map) (v := some m1) (fun w' hw' => cell_of (hw'.blk (k47.blk0 hb2) (by omega)) rfl) (LdS.of (t := .str) (v := c.n) (fun w' hw' => cell_of (hw'.blk ((k6.trans k7).blk0 n5.at_) (by omega)) rfl) ?_)
      refine App0.put (M := No) (kt := .str) (vt := .int .i64) (x := c.n) (y := (i : Int)) strIntTy (hmap.mono (V.keeps0 k47)) (strKey hcm.2) fun w8 k8 z8 hm8 => ⟨k8, ?_⟩
      have ha8 : Own w8 w.heap.size T.p_regex_Node 1 a (ps.map (Ty.enc .ptr)) := (ha.keep0 k47).keep k8 fun b hb => by subst hb; exact f2
      refine append1 (t := .ptr) (x := p) E_pNode ha8 rfl (by omega) (by omega) (by have := k07.size; omega) fun a' w9 o9 m9 k9 g9 => ?_
      obtain ⟨ga, hga, hga2⟩ := g9
      have s9 := k9.size
      have hA : ∀ c, a'.blk c → a.blk c ∨ w8.heap.size ≤ c := fun c hc => by rw [blk_one hga hc]; exact hga2
      have k48 : Keeps (· = m1) w4 w8 := (k47.no).trans k8
      have v9 : Vle (V (fun c => a.blk c ∨ c = b2 ∨ c = m1) w8) (V (fun c => a'.blk c ∨ c = b2 ∨ c = m1) w9) := V.move k9 (fun c _ hc => .inl hc) fun c hlt hc => by
        rcases hc with h1 | h1
        · exact .inl ((hA c h1).resolve_right (by omega))
        · exact .inr h1
      have hNp8 : Nd (V (fun c => a.blk c ∨ c = b2 ∨ c = m1) w8) p (reOf c) := hNp.mono ((V.move (k7.no.then k8 (M := fun c => a.blk c ∨ c = b2 ∨ c = m1) fun _ _ h => .inr (.inr h)) (fun b hb h => ?_) fun b hb h => ?_))
      rotate_left
      · rcases h with h | h | h
        · have := (ha.ge h).2; show b < _; omega
        · show b < _; omega
        · show b < _; omega
      · rcases h with h | h | h
        · have := (ha.ge h).2; show b < _; omega
        · show b < _; omega
        · show b < _; omega
      have hN8 : All2 (Nd (V (fun c => a.blk c ∨ c = b2 ∨ c = m1) w8)) ps (ysOf (cs.take i)) := hN.mono fun _ _ x => x.mono (V.move k48 (fun _ _ h => .inr (.inr h)) fun _ _ h => h)
      have ew : w64 ((i : Int) + 1) = ((i + 1 : Nat) : Int) := by rw [w64_eq (by omega)]; omega
      have htk : cs.take (i + 1) = cs.take i ++ [c] := by rw [List.take_add_one, hci]; rfl
      rw [ew]
      have k89 : Keeps (fun c => a.blk c ∨ c = m1) w7 w9 := (k8.mono fun _ _ h => .inr h).trans (k9.mono fun _ _ h => .inl h)
      refine hR _ _ ⟨(k07.no (M := No)).then k89 fun c hc h => ?_, i + 1, ps ++ [p], rfl, by omega, by simp [hpl], ?_, ?_, ?_, o9, ⟨?_, ?_, ?_⟩, ?_, ?_⟩ (by dsimp only; omega)
      · rcases h with h | h
        · have := (ha.ge h).1; omega
        · have := k1.size; omega
      · exact k9.blk (k8.blk (k47.blk0 hb2) (by omega)) f1
      · exact ((ho4.keep0 k47).keep k8 fun b hb h => (hl1 b h).2.1 hb).keep k9 fun b hb h => f3 b hb h
      · refine (hm8.congr fun x v => NameR.snoc hci h7 x v).keep k9 f2 id
      · exact fun h => (hA _ h).elim f1 fun h => by omega
      · exact fun h => (hA _ h).elim f2 fun h => by omega
      · exact fun b h => (hA _ h).elim (f3 b) fun h hb => by have := (ho4.ge hb).2; omega
      · rw [htk]
        unfold ysOf
        rw [List.map_append]
        exact (hN8.append (.cons hNp8 .nil)).mono fun _ _ x => x.mono v9
      · intro j hj
        by_cases hji : j = i
        · subst hji; exact hcok
        · exact hcl j (by omega)
  · have e : i = cs.length := by have := of_decide_eq_false e; omega
    subst e
    rw [List.take_length] at hN
    rw [List.take_length] at hmap
    have hyl : (ysOf cs).length = cs.length := by simp [ysOf]
    refine nfa_New_spec (M := No) (fun _ h => h.elim) (ha.reads fun _ _ h => h) (hN.mono fun _ _ x => x.mono (V.sub fun _ _ h => h.elim)) (fun h => hne (List.eq_nil_of_length_eq_zero (by rw [← hpl, h]; rfl))) (by omega) (fun x hx => ?_) fun m e w5 k5 g1 g2 => ?_
    · obtain ⟨c, hc, rfl⟩ := List.mem_map.1 hx
      obtain ⟨j, hj⟩ := List.getElem?_of_mem hc
      obtain ⟨c', hc', _, _, h0, _⟩ := hcl j (List.getElem?_eq_some_iff.1 hj).1
      rw [hj] at hc'; cases hc'
      have := parse_small h0
      unfold reOf; omega
    have k05 := k4.trans k5
    by_cases hc : mCnt (ysOf cs) ≤ 2000
    · obtain ⟨rfl, hm⟩ := g1 hc
      have hmn : m ≠ none := by
        obtain ⟨bm, _, _, _, _, rfl, _⟩ := hm.ex
        simp
      dsimp only
      rw [bne_self_eq_false, Br_false]
      refine dfa_New_spec (.inr hm) hmn (by rw [mKs_len]; omega) (fun d svs cl nc w6 k6 hd hok6 => ?_) (fun w6 k6 hg => ?_)
      · dsimp only
        rw [bne_self_eq_false, Br_false]
        have hsome : d.isNone = false := by obtain ⟨bd, p, l, rfl, _⟩ := hd; rfl
        have A := Aut.of hok6 (by omega)
        refine least_New_spec (.inr hd) hsome A fun p lv kd fs ms of_ w7 k7 hlv L => ?_
        have k47 := (k5.trans k6).trans k7
        have k07 := k4.trans k47
        have hb7 := k47.blk0 hb2
        have hlv2 := hlv.away hb7
        dsimp only
        refine St.blk hb7 (by simp) fun w8 u8 => ?_
        have hl1b : ∀ b, l1.blk b → ¬ b = b2 := fun b hb => (hl1 b hb).2.2
        have hn' : (l.n : Int) = (cs.length : Int) := by omega
        rw [hn']
        refine hok _ ms w8 ((k07.no (M := No)).then u8.keeps fun b hb h => by have : b = b2 := h; omega) ⟨svs.length, of_, b2, p, l1, m1, rfl, ⟨id, u8.at_⟩, hlv2.mono (V.move u8.keeps (fun _ _ h => h) fun _ _ h => h.elim), ?_, ?_⟩ ⟨hne, hcl, svs, cl, nc, lv, kd, fs, of_, hok6, A, L⟩
        · exact (((ho4.keep0 k47).keep u8.keeps fun b hb h => hl1b b h hb).readsC (by omega) Cls.lens fun _ _ h => h)
        · exact (hmap.keep k47 id id (M' := No)).keep u8.keeps (by omega) id
      · dsimp only
        exact hbig w6 (k05.trans k6) hne hcl (.inr hg)
    · obtain ⟨rfl, rfl⟩ := g2 (by omega)
      dsimp only
      exact hbig w5 k05 hne hcl (.inl (by omega))
end Go.Fk
end

section
set_option linter.unusedVariables false
namespace Go.Fk
open Go Go.MapKept

/-! ## What a scanner's tokens are -/

theorem Re.emp_norm (x : Re) : x.norm.emp = x.emp := by
  rw [Bool.eq_iff_iff, ← Re.m_self (s := []) (i := 0), ← Re.m_self (s := []) (i := 0), Re.m_norm]

def RuleOK (cs : List Cls) (i : Nat) : Prop := ∃ c, cs[i]? = some c ∧ NameOK (bs c.n) ∧ (∀ (j : Nat) c', j < i → cs[j]? = some c' → c'.n ≠ c.n) ∧ (parseF (bs c.rx)).2.2 = 0 ∧ (reOf c).emp = false ∧ (reOf c).sub

section
variable {cs : List Cls} {ms : List LSt}
theorem Sound.rule (h : Sound cs ms) : ∀ i, i < cs.length → RuleOK cs i := by
  intro i hi
  obtain ⟨c, h1, h2, h3, h4, h5, h6⟩ := h.cls i hi
  refine ⟨c, h1, h2, h3, h4, h5, ?_⟩
  rcases h6 with h6 | h6 | h6
  · exact h6
  · have := parse_small h4
    have := Re.cnt_size (reOf c)
    simp [mCnt] at h6
    unfold reOf at *
    omega
  · obtain ⟨svs, cl, nc, lv, kd, fs, of_, hok, _, _⟩ := h.auto
    exact (TooMany.up (ys := ysOf cs) (i := i) (by simp [ysOf, h1]) hok h6).elim

theorem Sound.best (h : Sound cs ms) (s : List UInt8) {i : Nat} (hi : i ≤ s.length) : ∃ (F : Nat) (r z : Int), TokAt ms (s.drop i) F r z ∧ tokF ms s i = ⟨r, i, i + (if r = -1 then 1 else z), i + F + 1⟩ ∧ LawBest (Means (ysOf cs) (s.drop i)) cs.length (s.drop i).length r z := by
  obtain ⟨F, r, z, h1, h2, _⟩ := tok_law (ms := ms) hi
  obtain ⟨svs, cl, nc, lv, kd, fs, of_, hok, A, L⟩ := h.auto
  have := L.best A hok h1.le h1.all h1.no h1.best
  have e : (ysOf cs).length = cs.length := by simp [ysOf]
  rw [e] at this
  exact ⟨F, r, z, h1, h2, this⟩
end

/-! ## The document's answer -/

set_option maxRecDepth 20000 in
theorem some_spec (x : Re) : ∀ {w : World} {v : NV} {K : Bool → World → Prop} (h : RNd (V No w) v x) (hK : ∀ w', Keeps No w w' → K x.sm w'), frisketlaw09_some.C v.cells.toArray w K := by
  induction x with
  | set f =>
    intro w v K h hK
    cases h with | set
    refine frisketlaw09_some.ok _ _ _ ?_
    simp only [frisketlaw09_some.M]
    refine Al.mk fun b1 w1 n1 => Ld.int (cell_of n1.at_ (by rw [List.getElem?_toArray]; exact NV.get0 _)) ?_
    dsimp only
    rw [beq_self_eq_true, Br_true]
    refine Loop.mk (fun t w' => w' = w1 ∧ ∃ k : Nat, t = k ∧ k ≤ 256 ∧ ∀ i, i < k → f i = false) (fun t => 256 - t.toNat) ⟨rfl, 0, rfl, by omega, fun i hi => by omega⟩ ?_
    rintro t w' ⟨rfl, k, rfl, hk, hp⟩ R hR
    refine Br.mk (fun e => ?_) (fun e => ?_)
    · have e : k < 256 := by have := of_decide_eq_true e; omega
      have hkb : (UInt8.ofNat k).toNat = k := by simp [UInt8.toNat_ofNat']; omega
      have := IdxA.bit (w := w') (b := b1) (v := ⟨0, f, nil3⟩) (c := UInt8.ofNat k) (k := fun x => Br x (K true w') (R (w64 ((k : Int) + 1)) w')) n1.at_ (by
        rw [hkb]
        refine Br.mk (fun e2 => ?_) (fun e2 => ?_)
        · have := hK w' n1.keeps
          have hs : (Re.set f).sm = true := by simp only [Re.sm, List.any_eq_true, List.mem_range]; exact ⟨k, e, e2⟩
          rw [hs] at this; exact this
        · rw [w64_eq (by omega)]
          refine hR _ _ ⟨rfl, k + 1, by omega, by omega, fun i hi => ?_⟩ (by omega)
          by_cases hik : i = k
          · subst hik; exact e2
          · exact hp i (by omega))
      rw [hkb] at this
      exact this
    · have e : k = 256 := by have := of_decide_eq_false e; omega
      subst e
      have := hK w' n1.keeps
      have hs : (Re.set f).sm = false := by
        simp only [Re.sm, List.any_eq_false, List.mem_range]
        intro i hi
        rw [hp i hi]; simp
      rw [hs] at this; exact this
  | empty =>
    intro w v K h hK
    cases h with | empty
    refine frisketlaw09_some.ok _ _ _ ?_
    simp only [frisketlaw09_some.M]
    refine Al.mk fun b1 w1 n1 => Ld.int (cell_of n1.at_ (by rw [List.getElem?_toArray]; exact NV.get0 _)) ?_
    exact hK w1 n1.keeps
  | star a ih =>
    intro w v K h hK
    cases h with | star h' hv
    refine frisketlaw09_some.ok _ _ _ ?_
    simp only [frisketlaw09_some.M]
    refine Al.mk fun b1 w1 n1 => Ld.int (cell_of n1.at_ (by rw [List.getElem?_toArray]; exact NV.get0 _)) ?_
    exact hK w1 n1.keeps
  | cat a b iha ihb =>
    intro w v K h hK
    obtain ⟨hvk, vs, hl, ha⟩ := h.out
    cases ha; rename_i u1 vs1 ha ha1
    cases ha1; rename_i u2 vs2 hb' ha2
    cases ha2
    refine frisketlaw09_some.ok _ _ _ ?_
    simp only [frisketlaw09_some.M]
    refine Al.mk fun b1 w1 n1 => Ld.int (cell_of n1.at_ (by rw [List.getElem?_toArray]; exact v.get0)) ?_
    rw [hvk]
    simp only [Re.kind, show ((2 : Int) == 0) = false from rfl, show ((2 : Int) == 2) = true from rfl, Br_true, Br_false]
    have hl1 := hl.mono (V.keeps0 n1.keeps)
    refine Ld.slv (l := v.l) (cell_of n1.at_ (by rw [List.getElem?_toArray]; exact v.getL)) (IdxS.node hl1 (by omega) (by simp) fun u hu => ?_)
    have hu : u1 = u := by simpa using hu
    subst hu
    refine iha (ha.mono (V.keeps0 n1.keeps)) fun w2 k2 => Br.mk (fun e => ?_) (fun e => ?_)
    · refine Ld.slv (l := v.l) (cell_of (k2.blk0 n1.at_) (by rw [List.getElem?_toArray]; exact v.getL)) (IdxS.node (hl1.mono (V.keeps0 k2)) (by omega) (by simp) fun u hu => ?_)
      have hu : u2 = u := by simpa using hu
      subst hu
      refine ihb (hb'.mono (V.keeps0 (n1.keeps.trans k2))) fun w3 k3 => ?_
      have := hK w3 ((n1.keeps.trans k2).trans k3)
      simp only [Re.sm, e, Bool.true_and] at this
      exact this
    · have := hK w2 (n1.keeps.trans k2)
      simp only [Re.sm, e, Bool.false_and] at this
      exact this
  | or a b iha ihb =>
    intro w v K h hK
    obtain ⟨hvk, vs, hl, ha⟩ := h.out
    cases ha; rename_i u1 vs1 ha ha1
    cases ha1; rename_i u2 vs2 hb' ha2
    cases ha2
    refine frisketlaw09_some.ok _ _ _ ?_
    simp only [frisketlaw09_some.M]
    refine Al.mk fun b1 w1 n1 => Ld.int (cell_of n1.at_ (by rw [List.getElem?_toArray]; exact v.get0)) ?_
    rw [hvk]
    simp only [Re.kind, show ((3 : Int) == 0) = false from rfl, show ((3 : Int) == 2) = false from rfl, show ((3 : Int) == 3) = true from rfl, Br_true, Br_false]
    have hl1 := hl.mono (V.keeps0 n1.keeps)
    refine Ld.slv (l := v.l) (cell_of n1.at_ (by rw [List.getElem?_toArray]; exact v.getL)) (IdxS.node hl1 (by omega) (by simp) fun u hu => ?_)
    have hu : u1 = u := by simpa using hu
    subst hu
    refine iha (ha.mono (V.keeps0 n1.keeps)) fun w2 k2 => Br.mk (fun e => ?_) (fun e => ?_)
    · have := hK w2 (n1.keeps.trans k2)
      simp only [Re.sm, e, Bool.true_or] at this
      exact this
    · refine Ld.slv (l := v.l) (cell_of (k2.blk0 n1.at_) (by rw [List.getElem?_toArray]; exact v.getL)) (IdxS.node (hl1.mono (V.keeps0 k2)) (by omega) (by simp) fun u hu => ?_)
      have hu : u2 = u := by simpa using hu
      subst hu
      refine ihb (hb'.mono (V.keeps0 (n1.keeps.trans k2))) fun w3 k3 => ?_
      have := hK w3 ((n1.keeps.trans k2).trans k3)
      simp only [Re.sm, e, Bool.false_or] at this
      exact this

theorem Rules09_spec {M : Nat → Prop} {w : World} {l : Sl} {cs : List Cls} (hl : SlCls (V M w) l cs) (hlen : cs.length ≤ 40) (hsm : ∀ c ∈ cs, Small c.rx ∧ c.n.size ≤ maxLen) {K : (Sl × Int × Int) → World → Prop}
    (hbad : ∀ a n no w', Keeps No w w' → no ≠ 0 → (cs = [] ∨ ∃ i, i < cs.length ∧ ¬ RuleOK cs i) → K (a, n, no) w')
    (hok : ∀ a vs xs w', Keeps No w w' → SlC (V No w') a 258 (vs.map NV.cells) → All2 (RNd (V No w')) vs xs → xs.map Re.norm = (ysOf cs).map Re.norm → (∀ i, i < cs.length → RuleOK cs i) → cs ≠ [] → K (a, cs.length, 0) w') : frisketlaw09_Rules.C l w K := by
  have hn := hl.1
  simp only [List.length_map] at hn
  refine frisketlaw09_Rules.ok _ _ _ ?_
  simp only [frisketlaw09_Rules.M, zero_cells]
  refine Loop.mk (fun t w' => Keeps No w w' ∧ ∃ (i : Nat) (vs : List NV) (xs : List Re), t.2 = (i : Int) ∧ i ≤ cs.length ∧ vs.length = i ∧ Own w' w.heap.size T.frisketref05_Node 258 t.1 (vs.map NV.cells).flatten ∧ All2 (RNd (V (fun c => t.1.blk c) w')) vs xs ∧ xs.map Re.norm = (ysOf (cs.take i)).map Re.norm ∧ ∀ j, j < i → RuleOK cs j)
    (fun t => cs.length - t.2.toNat) ⟨.refl, 0, [], [], rfl, by omega, rfl, by simpa using Own.nil _ _ _ _, .nil, rfl, fun j hj => by omega⟩ ?_
  rintro ⟨a, ti⟩ w1 ⟨k1, i, vs, xs, hti, hi, hvl, ha, hN, hnorm, hcl⟩ R hR
  dsimp only at hti ha hN ⊢
  subst hti
  refine Br.mk (fun e => ?_) (fun e => ?_)
  · have hlt : i < cs.length := by have := of_decide_eq_true e; omega
    have hci : cs[i]? = some cs[i] := List.getElem?_eq_getElem hlt
    generalize cs[i] = c at hci
    have hcm := hsm c (List.mem_of_getElem? hci)
    have hone : ∀ {c' : Cls}, cs[(i : Int).toNat]? = some c' → c' = c := fun {c'} h => by rw [Int.toNat_natCast, hci] at h; cases h; rfl
    refine IdxS.cls (hl.mono (V.keeps0 k1)) (by omega) (by omega) fun c' q hc' hq => ?_
    rw [hone hc'] at hq
    refine Ld.str hq.n (ref09_Named_spec hcm.2 fun bn hbn => ?_)
    refine Br.mk (fun e2 => ?_) (fun e2 => ?_)
    · refine hbad _ _ _ w1 k1 (by omega) (.inr ⟨i, hlt, fun ⟨c', h1, h2, _⟩ => ?_⟩)
      rw [hci] at h1; cases h1
      rw [hbn.2 h2] at e2; cases e2
    have hname : NameOK (bs c.n) := hbn.1 (by simpa using e2)
    refine Loop.mk (fun t w' => Keeps No w1 w' ∧ ∃ k : Nat, t = k ∧ k ≤ i ∧ ∀ (j : Nat) c', j < k → cs[j]? = some c' → c'.n ≠ c.n) (fun t => i - t.toNat) ⟨.refl, 0, rfl, by omega, fun j c' h => by omega⟩ ?_
    rintro t w2 ⟨k2, k, rfl, hk, hdist⟩ R2 hR2
    refine Br.mk (fun e3 => ?_) (fun e3 => ?_)
    · have hki : k < i := by have := of_decide_eq_true e3; omega
      refine Draw.kp fun w3 e4 k3 => ?_
      have k13 := k2.trans k3
      refine IdxS.cls (hl.mono (V.keeps0 (k1.trans k13))) (by omega) (by omega) fun ck q1 hck hq1 => LdK.str hq1.n ?_
      simp only [Int.toNat_natCast] at hck
      refine IdxS.cls (hl.mono (V.keeps0 (k1.trans k13))) (by omega) (by omega) fun c' q2 hc' hq2 => ?_
      rw [hone hc'] at hq2
      refine LdK.str hq2.n (Br.mk (fun e5 => ?_) (fun e5 => ?_))
      · refine hbad _ _ _ w3 (k1.trans k13) (by omega) (.inr ⟨i, hlt, fun ⟨c', h1, _, h3, _⟩ => ?_⟩)
        rw [hci] at h1; cases h1
        exact h3 k ck hki hck (strEq.1 e5)
      · rw [w64_eq (by omega)]
        refine hR2 _ _ ⟨k13, k + 1, by omega, by omega, fun j c' hj hc' he => ?_⟩ (by omega)
        by_cases hjk : j = k
        · subst hjk
          rw [hck] at hc'; cases hc'
          rw [strEq.2 he] at e5; cases e5
        · exact hdist j c' (by omega) hc' he
    have hki : k = i := by have := of_decide_eq_false e3; omega
    subst hki
    refine IdxS.cls (hl.mono (V.keeps0 (k1.trans k2))) (by omega) (by omega) fun c' q hc' hq => ?_
    rw [hone hc'] at hq
    refine Ld.str hq.rx (ref05_Parse_spec hcm.1 fun v x at_ great w4 k4 hR4 hp1 hp2 => ?_)
    refine Al.mk fun b6 w5 n5 => StA.node n5.at_ fun w6 u6 => ?_
    have e5 := n5.eq; have z5 := n5.size; have z4 := k4.size; have z2 := k2.size
    have k46 : Keeps No w4 w6 := u6.keeps0 n5.keeps (by omega)
    have k16 : Keeps No w1 w6 := (k2.trans k4).trans k46
    have k06 := k1.trans k16
    have notOK : (parseF (bs c.rx)).2.2 ≠ 0 ∨ (reOf c).emp = true ∨ (reOf c).sm = false → ¬ RuleOK cs k := by
      rintro h ⟨c', h1, _, _, h4, h5, h6⟩
      rw [hci] at h1; cases h1
      rcases h with h | h | h
      · exact h h4
      · rw [h5] at h; cases h
      · rw [(Re.sub_iff h5).1 h6] at h; cases h
    dsimp only
    refine Br.mk (fun e6 => ?_) (fun e6 => ?_)
    · exact hbad _ _ _ w6 k06 (by omega) (.inr ⟨k, hlt, notOK (.inl fun h => by have := (hp2 h).2; rw [e6] at this; cases this)⟩)
    refine Br.mk (fun e7 => ?_) (fun e7 => ?_)
    · have e7 := of_decide_eq_true e7
      exact hbad _ _ _ w6 k06 (by omega) (.inr ⟨k, hlt, notOK (.inl fun h => by have := (hp2 h).1; omega)⟩)
    have e7 := of_decide_eq_false e7
    obtain ⟨hp0, hpn⟩ := hp1 (by omega) e6
    have hemp : x.emp = (reOf c).emp := by rw [← Re.emp_norm, ← hpn, Re.emp_norm]; rfl
    have hsmx : x.sm = (reOf c).sm := by rw [← Re.sm_norm, ← hpn, Re.sm_norm]; rfl
    have hb6 := u6.at_
    have hRx : RNd (V (LtV w2.heap.size) w4) v x := hR4
    have hRx6 : RNd (V No w6) v x := hRx.mono (V.move k46 (fun _ _ h => h.elim) fun _ _ h => h.elim)
    refine Join.cut (fun bb w' => Keeps No w6 w' ∧ (bb = true ↔ ((reOf c).emp = true ∨ (reOf c).sm = false))) ?_ ?_
    · rintro bb w7 ⟨k7, hbb⟩
      refine Br.mk (fun e8 => hbad _ _ _ w7 (k06.trans k7) (by omega) (.inr ⟨k, hlt, notOK (.inr (hbb.1 e8))⟩)) (fun e8 => ?_)
      have hno : ¬ ((reOf c).emp = true ∨ (reOf c).sm = false) := fun h => by rw [hbb.2 h] at e8; cases e8
      have hemp0 : (reOf c).emp = false := by cases h : (reOf c).emp with | true => exact absurd (.inl h) hno | false => rfl
      have hsm0 : (reOf c).sm = true := by cases h : (reOf c).sm with | true => rfl | false => exact absurd (.inr h) hno
      have hrk : RuleOK cs k := ⟨c, hci, hname, hdist, hp0, hemp0, (Re.sub_iff hemp0).2 hsm0⟩
      refine LdA.node (k7.blk0 hb6) (App.slice1 fun b9 w8 n8 => ?_)
      have e8 := n8.eq; have z8 := n8.size; have z7 := k7.size; have z6 := k46.size
      have k18 : Keeps No w1 w8 := (k16.trans k7).trans n8.keeps
      have han : a.n = vs.length := by have := ha.len; rw [flatten_len cellsN_len] at this; simp at this; omega
      refine appendC (c := v.cells) elNode (ha.keep0 k18) v.len n8.at_ v.one (by omega) (by omega) (by have := (k1.trans k18).size; omega) fun a' w9 o9 m9 k9 g9 => ?_
      obtain ⟨ga, hga, hga2⟩ := g9
      have hA : ∀ c, a'.blk c → a.blk c ∨ w8.heap.size ≤ c := fun c hc => by rw [blk_one hga hc]; exact hga2
      have v9 : Vle (V (fun c => a.blk c) w8) (V (fun c => a'.blk c) w9) := V.move k9 (fun _ _ h => h) fun c hlt hc => (hA c hc).resolve_right (by omega)
      have hRx8 : RNd (V (fun c => a.blk c) w8) v x := hRx.mono (V.move ((k46.trans k7).trans n8.keeps) (fun _ _ h => h.elim) fun b hb h => by have := (ha.ge h).2; show b < _; omega)
      have ew : w64 ((k : Int) + 1) = ((k + 1 : Nat) : Int) := by rw [w64_eq (by omega)]; omega
      have htk : cs.take (k + 1) = cs.take k ++ [c] := by rw [List.take_add_one, hci]; rfl
      rw [ew]
      refine hR _ _ ⟨((k1.trans k18).no (M := No)).then k9 fun c _ h => by have := (ha.ge h).1; omega, k + 1, vs ++ [v], xs ++ [x], rfl, by omega, by simp [hvl], by simpa using o9, ?_, ?_, ?_⟩ (by dsimp only; omega)
      · exact ((hN.mono fun _ _ x => x.mono (V.keeps0 k18)).append (.cons hRx8 .nil)).mono fun _ _ x => x.mono v9
      · rw [htk, List.map_append, hnorm]
        simp [ysOf, ← hpn, reOf]
      · intro j hj
        by_cases hjk : j = k
        · subst hjk; exact hrk
        · exact hcl j (by omega)
    · intro j hj
      refine LdA.node hb6 (Matches_spec (by decide) hRx6 fun r w7 k7 hr => ?_)
      have hr' : r = true ↔ (reOf c).emp = true := by
        rw [hr, ← hemp]
        exact x.m_self
      refine Br.mk (fun e8 => hj _ _ ⟨k7, ⟨fun _ => .inl (hr'.1 e8), fun _ => rfl⟩⟩) (fun e8 => ?_)
      refine LdA.node (k7.blk0 hb6) (some_spec x (hRx6.mono (V.keeps0 k7)) fun w8 k8 => hj _ _ ⟨k7.trans k8, ?_⟩)
      rw [hsmx]
      have he : (reOf c).emp = false := by cases h : (reOf c).emp with | true => rw [hr'.2 h] at e8; cases e8 | false => rfl
      rw [he]
      cases (reOf c).sm <;> simp
  · have e : i = cs.length := by have := of_decide_eq_false e; omega
    subst e
    have hn' : (l.n : Int) = (cs.length : Int) := by omega
    rw [hn']
    refine Br.mk (fun e2 => ?_) (fun e2 => ?_)
    · have h0 : cs.length = 0 := by have : (cs.length : Int) = 0 := (by simpa using e2); omega
      exact hbad _ _ _ w1 k1 (by omega) (.inl (List.eq_nil_of_length_eq_zero h0))
    · have hne : cs ≠ [] := by rintro rfl; cases e2
      rw [List.take_length] at hnorm
      exact hok a vs xs w1 k1 (ha.readsC (by omega) cellsN_len fun _ _ h => h) (hN.mono fun _ _ x => x.mono (V.sub fun _ _ h => h.elim)) hnorm hcl hne

theorem Means.congr {xs ys : List Re} (h : xs.map Re.norm = ys.map Re.norm) {s : List UInt8} {t i : Nat} : Means ys s t i ↔ Means xs s t i := by
  have hg := congrArg (fun l => l[i]?) h
  simp only [List.getElem?_map] at hg
  constructor
  · rintro ⟨y, hy, hmy⟩
    rw [hy] at hg
    cases hx : xs[i]? with
    | none => rw [hx] at hg; cases hg
    | some x => rw [hx] at hg; exact ⟨x, hx, (m_of_norm (Option.some.inj hg.symm)).1 hmy⟩
  · rintro ⟨x, hx, hmx⟩
    rw [hx] at hg
    cases hy : ys[i]? with
    | none => rw [hy] at hg; cases hg
    | some y => rw [hy] at hg; exact ⟨y, hy, (m_of_norm (Option.some.inj hg.symm)).2 hmx⟩

theorem refNext_spec {w : World} {l : Sl} {vs : List NV} {xs : List Re} {text : ByteArray} {i : Nat} (hl : SlC (V No w) l 258 (vs.map NV.cells)) (hN : All2 (RNd (V No w)) vs xs) (hlen : vs.length ≤ 1000) (hi : i ≤ text.size) (hs : text.size ≤ 1000000) {r z : Int} (hb : LawBest (Means xs ((bs text).drop i)) xs.length ((bs text).drop i).length r z) {K : (Int × Int × Int) → World → Prop}
    (hK : ∀ w', Keeps No w w' → K (r, i, i + (if r = -1 then 1 else z)) w') : frisketref09_Next.C l text i w K := by
  have hn := hl.1
  simp only [List.length_map] at hn
  have hsz := size_bs text
  have hvx := hN.length
  have hdl : ((bs text).drop i).length = text.size - i := by simp
  refine frisketref09_Next.ok _ _ _ _ _ ?_
  simp only [frisketref09_Next.M]
  refine Al.mk fun b1 w1 n1 => AlSt3 fun b2 w2 n2 => ?_
  have e1 := n1.eq; have z1 := n1.size; have e2 := n2.eq; have z2 := n2.size
  have k02 : Keeps No w w2 := n1.keeps.trans n2.keeps
  rw [w64_eq (by omega)] at n2
  refine Loop.mk (fun t w' => Keeps (· = b2) w2 w' ∧ ∃ (k : Nat) (r' : Int), t.2 = (k : Int) ∧ k ≤ vs.length ∧ LawBest (Means xs ((bs text).drop i)) k ((bs text).drop i).length r' t.1 ∧ w'.heap[b2]? = some (.cells #[.int .i64 r', .int .i64 i, .int .i64 (i + (if r' = -1 then 1 else t.1))] T.frisketref09_Token (0, 0)))
    (fun t => vs.length - t.2.toNat) ⟨.refl, 0, -1, rfl, by omega, .inl ⟨rfl, rfl, fun j t hj => by omega⟩, by simpa using n2.at_⟩ ?_
  rintro ⟨best, tk⟩ w3 ⟨k3, k, r', hti, hk, hlb, hb2⟩ R hR
  dsimp only at hti hlb hb2 ⊢
  subst hti
  have k03 : Keeps No w w3 := (k02.no (M := No)).then k3 fun b hb h => by have : b = b2 := h; omega
  refine Br.mk (fun e => ?_) (fun e => ?_)
  · have hlt : k < vs.length := by have := of_decide_eq_true e; omega
    refine Draw.kp fun w4 e4 k4 => ?_
    have k04 := k03.trans k4
    refine IdxS.nodeS (M := No) (hl.mono (V.keeps0 k04)) (fun w' h => V.keeps0 h) (by omega) (by omega) fun v hv => ?_
    simp only [Int.toNat_natCast] at hv
    obtain ⟨x, hx, hRx⟩ := hN.get _ _ hv
    refine App.suffix hi ⟨.refl, ?_⟩
    have hsx : (text.extract i text.size).size ≤ 1000000 := by
      have := size_bs (text.extract i text.size)
      rw [bs_from] at this; omega
    refine refLongest_spec hsx (hRx.mono (V.keeps0 k04)) fun v1 w5 k5 hv1 => ⟨k5, ?_⟩
    rw [bs_from] at hv1
    have hmk : ∀ j, Means xs ((bs text).drop i) j k ↔ x.m ((bs text).drop i) 0 j := fun j => ⟨fun ⟨x', hx', h⟩ => by rw [hx] at hx'; cases hx'; exact h, fun h => ⟨x, hx, h⟩⟩
    have hst := hlb.step (v := v1) (by
      rcases hv1 with ⟨g1, g2⟩ | ⟨j, g1, g2, g3, g4⟩
      · exact .inl ⟨g1, fun j hj h => g2 j hj ((hmk j).1 h)⟩
      · exact .inr ⟨j, g1, g2, (hmk j).2 g3, fun j' hj' h => g4 j' hj' ((hmk j').1 h)⟩)
    have ew : w64 ((k : Int) + 1) = ((k + 1 : Nat) : Int) := by rw [w64_eq (by omega)]; omega
    rw [ew]
    have k35 : Keeps No w3 w5 := k4.trans k5
    have hv1r : -1 ≤ v1 ∧ v1 ≤ 1000000 := by
      rcases hv1 with ⟨g1, g2⟩ | ⟨j, g1, g2, g3, g4⟩ <;> omega
    refine Br.mk (fun hlt2 => ?_) (fun hlt2 => ?_)
    · have hlt2 := of_decide_eq_true hlt2
      refine St3 (k35.blk0 hb2) fun w6 u6 => ?_
      rw [w64_eq (by omega)] at u6
      refine hR _ _ ⟨(k3.trans k35.no).trans u6.keeps, k + 1, k, rfl, by omega, hst.1 hlt2, ?_⟩ (by dsimp only; omega)
      have hk1 : ¬ (k : Int) = -1 := by omega
      rw [u6.at_, if_neg hk1]
    · exact hR _ _ ⟨k3.trans k35.no, k + 1, r', rfl, by omega, hst.2 (of_decide_eq_false hlt2), k35.blk0 hb2⟩ (by dsimp only; omega)
  · have hf : k = vs.length := by have := of_decide_eq_false e; omega
    subst hf
    rw [hvx] at hlb
    obtain ⟨rfl, rfl⟩ := hlb.one hb
    refine Ld3i hb2 (St3 (k3.blk (n2.keeps.blk0 n1.at_) (by omega)) fun w6 u6 => Ld3i u6.at_ ?_)
    exact hK w6 (u6.keeps0 k03 (by omega))

def Tok.rc (x : Tok) : List Value := [.int .i64 x.c, .int .i64 x.f, .int .i64 x.t]
theorem Tok.rlens {xs : List Tok} : ∀ c ∈ xs.map Tok.rc, c.length = 3 := fun c hc => by obtain ⟨m, _, rfl⟩ := List.mem_map.1 hc; rfl
theorem elRTok : Elem P T.sl_frisketref09_Token T.frisketref09_Token (.agg #[.int .i64 0, .int .i64 0, .int .i64 0]) 3 24 := ⟨by kernel_rfl, by kernel_rfl, rfl, by decide⟩

theorem refScan_spec {w : World} {l : Sl} {vs : List NV} {xs : List Re} {text : ByteArray} {cs : List Cls} {ms : List LSt} (hl : SlC (V No w) l 258 (vs.map NV.cells)) (hN : All2 (RNd (V No w)) vs xs) (hlen : vs.length ≤ 1000) (hs : text.size ≤ 1000000) (hS : Sound cs ms) (hnorm : xs.map Re.norm = (ysOf cs).map Re.norm) {K : Sl → World → Prop}
    (hK : ∀ l' w', Keeps No w w' → SlC (V No w') l' 3 ((toksOf ms (bs text)).map Tok.rc) → K l' w') : frisketref09_Scan.C l text w K := by
  have hsz := size_bs text
  have hxl : xs.length = cs.length := by have := congrArg List.length hnorm; simpa [ysOf] using this
  refine frisketref09_Scan.ok _ _ _ _ ?_
  simp only [frisketref09_Scan.M]
  refine Loop.mk (fun t w' => Keeps No w w' ∧ ∃ (i : Nat) (ts : List Tok), t.2 = i ∧ i ≤ text.size ∧ ts.length ≤ i ∧ Own w' w.heap.size T.frisketref09_Token 3 t.1 (ts.map Tok.rc).flatten ∧ ts ++ toks (tokF ms (bs text)) (bs text).length i = toksOf ms (bs text))
    (fun t => text.size - t.2.toNat) ⟨.refl, 0, [], rfl, by omega, by simp, Own.nil _ _ _ _, rfl⟩ ?_
  rintro ⟨a, t⟩ w1 ⟨k1, i, ts, hti, hi, htl, ho, hx⟩ R hR
  dsimp only at hti ho ⊢
  subst hti
  have han : a.n = ts.length := by have := ho.len; rw [flatten_len Tok.rlens] at this; simp at this; omega
  refine Br.mk (fun e => ?_) (fun e => ?_)
  · have hlt : i < text.size := by have := of_decide_eq_true e; omega
    obtain ⟨F, r, z, h1, h2, h3⟩ := hS.best (bs text) (i := i) (by omega)
    have hbd := tok_bounds (ms := ms) (s := bs text) (i := i) (by omega)
    rw [← hxl] at h3
    refine refNext_spec (hl.mono (V.keeps0 k1)) (hN.mono fun _ _ x => x.mono (V.keeps0 k1)) hlen hi hs (h3.congr fun t j => Means.congr hnorm) fun w2 k2 => ?_
    generalize hX : tokF ms (bs text) i = X
    rw [hX] at hbd h2
    have hc1 : r = X.c := by rw [h2]
    have hc2 : (i : Int) = X.f := by rw [h2]
    have hc3 : (i : Int) + (if r = -1 then 1 else z) = X.t := by rw [h2]
    dsimp only
    rw [hc3, hc1]
    refine AlSt3 fun b3 w3 n3 => Ld3i n3.at_ (Al.mk fun b4 w4 n4 => ?_)
    have e3 := n3.eq; have z3 := n3.size; have e4 := n4.eq; have z4 := n4.size
    have k24 := n3.keeps.trans n4.keeps
    have k14 := k2.trans k24
    have k04 := k1.trans k14
    refine appendC (c := X.rc) elRTok (ho.keep0 k14) rfl (by rw [n4.at_, hc2]; rfl) (fun u hu => ?_) (by omega) (by omega) (by have := k04.size; omega) fun l' w5 ho' m5 k5 g5 => ?_
    · simp only [Tok.rc, List.mem_cons, List.not_mem_nil, or_false] at hu
      rcases hu with rfl | rfl | rfl <;> rfl
    · have hge : ∀ c, a.blk c → w.heap.size ≤ c ∧ c ≠ b3 := fun c hc => by have := (ho.keep0 k2).ge hc; omega
      refine Ld.int (cell_of (k5.blk (n4.keeps.blk0 n3.at_) fun hb => (hge _ hb).2 rfl) rfl) ?_
      refine hR _ _ ⟨(k04.no (M := No)).then k5 fun c hc hb => by have := (hge c hb).1; omega, X.t.toNat, ts ++ [X], by dsimp only; omega, by omega, by simp; omega, by simpa using ho', ?_⟩ (by dsimp only; omega)
      rw [← hx, toks_step (goes_tok (ms := ms) (s := bs text)) (by omega : i < (bs text).length), hX]
      simp
  · have hge : i = text.size := by have := of_decide_eq_false e; omega
    rw [toks_end (by omega), List.append_nil] at hx
    rw [hx] at ho
    exact hK a w1 k1 (ho.readsC (by omega) Tok.rlens fun _ _ h => h)
end Go.Fk
end

section
set_option linter.unusedVariables false
namespace Go.Fk
open Go Go.MapKept

theorem App.maxI {P : Program} {ts : Array TypeId} {t : TypeId} {k k' : IntKind} {x y : Int} {w : World} {K : Int → World → Prop} (hK : K (if y > x then y else x) w) : App P (Builtin.max_ ts t #[.int k x, .int k' y]) (.one (.int k)) w K :=
  ⟨_, w, run_max_int2 w ts t k k' x y, hK⟩

/-- What is asked of classes that aren't too great. -/
def Few (cs : List Cls) : Prop := cs.length ≤ 6 ∧ ∀ c ∈ cs, c.rx.size ≤ 40 ∧ c.n.size ≤ 40
theorem Few.small {cs : List Cls} (h : Few cs) : ∀ c ∈ cs, Small c.rx ∧ c.n.size ≤ maxLen := fun c hc => by
  have := h.2 c hc
  have hmx : maxLen = 9223372036854775807 := rfl
  exact ⟨by unfold Small; omega, by omega⟩

theorem Great09_spec {M : Nat → Prop} {w : World} {l : Sl} {cs : List Cls} {K : Int → World → Prop} (hl : SlCls (V M w) l cs) (hlen : cs.length ≤ 1048576) (hsz : ∀ c ∈ cs, c.rx.size ≤ 1048576 ∧ c.n.size ≤ 1048576)
    (hK : ∀ n w', Keeps No w w' → (¬ 0 < n → Few cs) → K n w') : frisketlaw09_Great.C l w K := by
  have hn := hl.1
  simp only [List.length_map] at hn
  refine frisketlaw09_Great.ok _ _ _ ?_
  simp only [frisketlaw09_Great.M]
  refine App.maxI ?_
  refine Loop.mk (fun t w' => Keeps No w w' ∧ ∃ k : Nat, k ≤ cs.length ∧ t.2 = (k : Int) ∧ 0 ≤ t.1 ∧ t.1 ≤ 1048576 + k * 2097152 ∧ (¬ 0 < t.1 → cs.length ≤ 6 ∧ ∀ c ∈ cs.take k, c.rx.size ≤ 40 ∧ c.n.size ≤ 40)) (fun t => cs.length - t.2.toNat) ⟨.refl, 0, by omega, rfl, ?_, ?_, ?_⟩ ?_
  · dsimp only; rw [w64_eq (by omega)]; split <;> omega
  · dsimp only; rw [w64_eq (by omega)]; split <;> omega
  · intro h
    have h : ¬ 0 < (if (0 : Int) > w64 ((l.n : Int) - 6) then (0 : Int) else w64 ((l.n : Int) - 6)) := h
    rw [w64_eq (by omega)] at h
    refine ⟨?_, by simp⟩
    split at h <;> omega
  rintro ⟨n, kk⟩ w1 ⟨k1, k, hk, hkk, h0, h1, h2⟩ R hR
  dsimp only at hkk h0 h1 h2 ⊢
  subst hkk
  refine Br.mk (fun ht => ?_) (fun hf => ?_)
  · have ht : k < cs.length := by have := of_decide_eq_true ht; omega
    refine Draw.kp fun w2 e2 k2 => ?_
    have k02 := k1.trans k2
    refine IdxS.cls (hl.mono (V.keeps0 k02)) (by omega) (by omega) fun c q hc hq => LdK.str hq.rx ?_
    refine IdxS.cls (hl.mono (V.keeps0 k02)) (by omega) (by omega) fun c' q' hc' hq' => ?_
    rw [hc] at hc'; cases hc'
    refine LdK.str hq'.n ?_
    simp only [Int.toNat_natCast] at hc
    have hcs := hsz c (List.mem_of_getElem? hc)
    have hmx : ∀ (x : Nat), x ≤ 1048576 → 0 ≤ (if (0 : Int) > w64 ((x : Int) - 40) then (0 : Int) else w64 ((x : Int) - 40)) ∧ (if (0 : Int) > w64 ((x : Int) - 40) then (0 : Int) else w64 ((x : Int) - 40)) ≤ 1048576 ∧ (¬ 0 < (if (0 : Int) > w64 ((x : Int) - 40) then (0 : Int) else w64 ((x : Int) - 40)) → x ≤ 40) := by
      intro x hx
      rw [w64_eq (by omega)]
      split <;> refine ⟨by omega, by omega, fun h => by omega⟩
    obtain ⟨a0, a1, a2⟩ := hmx c.rx.size hcs.1
    obtain ⟨b0, b1, b2⟩ := hmx c.n.size hcs.2
    have fin : ∀ w', Keeps No w2 w' → R (w64 (w64 (n + (if (0 : Int) > w64 ((c.rx.size : Int) - 40) then (0 : Int) else w64 ((c.rx.size : Int) - 40))) + (if (0 : Int) > w64 ((c.n.size : Int) - 40) then (0 : Int) else w64 ((c.n.size : Int) - 40))), w64 ((k : Int) + 1)) w' := by
      intro w' kw
      generalize (if (0 : Int) > w64 ((c.rx.size : Int) - 40) then (0 : Int) else w64 ((c.rx.size : Int) - 40)) = a at *
      generalize (if (0 : Int) > w64 ((c.n.size : Int) - 40) then (0 : Int) else w64 ((c.n.size : Int) - 40)) = b at *
      rw [w64_eq (x := n + a) (by omega), w64_eq (x := n + a + b) (by omega), w64_eq (x := (k : Int) + 1) (by omega)]
      refine hR _ _ ⟨k02.trans kw, k + 1, by omega, by simp, by dsimp only; omega, by dsimp only; omega, fun h => ?_⟩ (by dsimp only; omega)
      have h : ¬ 0 < n + a + b := h
      obtain ⟨g1, g2⟩ := h2 (by omega)
      refine ⟨g1, fun c' hc' => ?_⟩
      rw [List.take_add_one, hc] at hc'
      rcases List.mem_append.1 hc' with hc' | hc'
      · exact g2 c' hc'
      · simp at hc'; subst hc'; exact ⟨a2 (by omega), b2 (by omega)⟩
    exact ⟨App.maxI ⟨.refl, App.maxI ⟨.refl, fin w2 .refl⟩⟩, App.maxI ⟨.refl, App.maxI ⟨.refl, fin w2 .refl⟩⟩⟩
  · have hf : k = cs.length := by have := of_decide_eq_false hf; omega
    subst hf
    rw [List.take_length] at h2
    exact hK n w1 k1 h2

/-! ## Expressions of the form x+ -/

def plusR (f : Nat → Bool) : Re := .cat (.set f) (.star (.set f))
theorem star_m {f : Nat → Bool} {s : List UInt8} {i j : Nat} : (Re.star (.set f)).m s i j ↔ i ≤ j ∧ ∀ k, i ≤ k → k < j → ∃ c, s[k]? = some c ∧ f c.toNat = true := by
  constructor
  · intro h
    change Clo ((Re.set f).m s) i j at h
    induction h with
    | refl => exact ⟨Nat.le_refl _, fun k h1 h2 => by omega⟩
    | snoc _ r ih =>
      obtain ⟨rfl, c, hc, hf⟩ := r
      refine ⟨by omega, fun k h1 h2 => ?_⟩
      rename_i j' _
      by_cases hk : k = j'
      · subst hk; exact ⟨c, hc, hf⟩
      · exact ih.2 k h1 (by omega)
  · rintro ⟨h1, h2⟩
    obtain ⟨n, rfl⟩ : ∃ n, j = i + n := ⟨j - i, by omega⟩
    clear h1
    show Clo ((Re.set f).m s) i (i + n)
    induction n with
    | zero => exact .refl
    | succ n ih =>
      obtain ⟨c, hc, hf⟩ := h2 (i + n) (by omega) (by omega)
      exact .snoc (ih fun k h1 h3 => h2 k h1 (by omega)) ⟨rfl, c, hc, hf⟩
theorem plus_m {f : Nat → Bool} {s : List UInt8} {t : Nat} : (plusR f).m s 0 t ↔ 1 ≤ t ∧ ∀ k, k < t → ∃ c, s[k]? = some c ∧ f c.toNat = true := by
  constructor
  · rintro ⟨k, ⟨rfl, c, hc, hf⟩, h⟩
    obtain ⟨h1, h2⟩ := star_m.1 h
    refine ⟨h1, fun k hk => ?_⟩
    by_cases h0 : k = 0
    · subst h0; exact ⟨c, hc, hf⟩
    · exact h2 k (by omega) hk
  · rintro ⟨h1, h2⟩
    obtain ⟨c, hc, hf⟩ := h2 0 (by omega)
    exact ⟨1, ⟨rfl, c, hc, hf⟩, star_m.2 ⟨h1, fun k _ hk => h2 k hk⟩⟩

/-- Whether the first t letters are meant, reckoned. -/
def plusB (g : Nat → Bool) (s : List UInt8) (t : Nat) : Bool := decide (1 ≤ t) && (List.range t).all fun k => match s[k]? with | some c => g c.toNat | none => false
theorem plus_B {f g : Nat → Bool} (h : ∀ c, c < 256 → f c = g c) {s : List UInt8} {t : Nat} : (plusR f).m s 0 t ↔ plusB g s t = true := by
  rw [plus_m]
  unfold plusB
  simp only [Bool.and_eq_true, decide_eq_true_eq, List.all_eq_true, List.mem_range]
  refine and_congr_right fun _ => forall_congr' fun k => imp_congr_right fun _ => ?_
  cases s[k]? with
  | none => simp
  | some c => simp [h c.toNat c.toNat_lt]
def plusAt (gs : List (Nat → Bool)) (s : List UInt8) (t i : Nat) : Bool := match gs[i]? with
  | some g => plusB g s t
  | none => false
theorem means_plus {ys : List Re} {gs : List (Nat → Bool)} (h : All2 (fun y g => ∃ f, y = plusR f ∧ ∀ c, c < 256 → f c = g c) ys gs) {s : List UInt8} {t i : Nat} : Means ys s t i ↔ plusAt gs s t i = true := by
  unfold plusAt
  constructor
  · rintro ⟨y, hy, hm⟩
    obtain ⟨g, hg, f, rfl, hf⟩ := h.get _ _ hy
    rw [hg]
    exact (plus_B hf).1 hm
  · intro hp
    cases hg : gs[i]? with
    | none => rw [hg] at hp; cases hp
    | some g =>
      rw [hg] at hp
      obtain ⟨y, hy, f, rfl, hf⟩ := h.get2 _ _ hg
      exact ⟨_, hy, (plus_B hf).2 hp⟩

theorem LawBest.of {M : Nat → Nat → Prop} {B : Nat → Nat → Bool} (h : ∀ t i, M t i ↔ B t i = true) {n N t i : Nat} (h0 : 0 < t ∧ t ≤ N ∧ i < n ∧ B t i = true) (h1 : ∀ j, j < i → B t j = false) (h2 : ∀ j, j < n → ∀ t', t' < N + 1 → t < t' → B t' j = false) : LawBest M n N i t :=
  .inr ⟨t, i, h0.1, h0.2.1, h0.2.2.1, rfl, rfl, (h t i).2 h0.2.2.2, fun j hj hm => (by have := h1 j hj; rw [(h t j).1 hm] at this; cases this), fun j t' hj ht ht' hm => by have := h2 j hj t' (by omega) ht; rw [(h t' j).1 hm] at this; cases this⟩

theorem Sound.tok_is {cs : List Cls} {ms : List LSt} (h : Sound cs ms) {s : List UInt8} {i : Nat} (hi : i ≤ s.length) {r z : Int} (hb : LawBest (Means (ysOf cs) (s.drop i)) cs.length (s.drop i).length r z) : (tokF ms s i).c = r ∧ (tokF ms s i).t = i + (if r = -1 then 1 else z) := by
  obtain ⟨F, r', z', h1, h2, h3⟩ := h.best s hi
  obtain ⟨rfl, rfl⟩ := h3.one hb
  rw [h2]
  exact ⟨rfl, rfl⟩

theorem RuleOK.ok {cs : List Cls} {i : Nat} (h : RuleOK cs i) : ClsOK cs i := by
  obtain ⟨c, h1, h2, h3, h4, h5, h6⟩ := h
  exact ⟨c, h1, h2, h3, h4, h5, .inl h6⟩
theorem ClsOK.notBad {cs : List Cls} {i : Nat} {e : Int} (h : ClsOK cs i) (hb : BadAt cs i e) : False := by
  obtain ⟨c, h1, h2, h3, h4, h5⟩ := h
  obtain ⟨c', g1, g⟩ := hb
  rw [h1] at g1; cases g1
  rcases g with ⟨_, g | ⟨j, c', g2, g3, g4⟩⟩ | ⟨g, _⟩ | ⟨_, _, g⟩
  · exact g h2
  · exact h3 j c' g2 g3 g4
  · exact g h4
  · exact g h5
theorem rule_plus {cs : List Cls} {i : Nat} {c : Cls} (hc : cs[i]? = some c) (hname : NameOK (bs c.n)) (hd : ∀ (j : Nat) c', j < i → cs[j]? = some c' → c'.n ≠ c.n) {f : Nat → Bool} (hp : parseF (bs c.rx) = (plusR f, 0, 0)) {b : UInt8} (hf : f b.toNat = true) : RuleOK cs i := by
  refine ⟨c, hc, hname, hd, by rw [hp], by unfold reOf; rw [hp]; rfl, ?_⟩
  unfold reOf; rw [hp]
  refine ⟨[b], by simp, plus_m.2 ⟨by simp, fun k hk => ?_⟩⟩
  have : k = 0 := by simpa using hk
  subst this
  exact ⟨b, rfl, hf⟩
theorem over_plus {ys : List Re} (h : mCnt ys ≤ 10) : ¬ Over ys := by
  rintro (h1 | h1)
  · omega
  · obtain ⟨svs, h2, h3⟩ := h1.sts
    have hf := h2.few
    have hl : (mFs 0 ys).length = mCnt ys := by have := mFs_len' ys 0; omega
    rw [hl] at hf
    have : 2 ^ mCnt ys ≤ 2 ^ 10 := Nat.pow_le_pow_right (by omega) h
    omega
theorem nameOK_of {s : List UInt8} (h1 : 1 ≤ s.length) (h2 : s.length ≤ 20) (h3 : ∀ c ∈ s, 97 ≤ c.toNat ∧ c.toNat ≤ 122) : NameOK s := ⟨h1, h2, fun i c hc => .inl (h3 c (List.mem_of_getElem? hc))⟩

/-! ## The document's example -/

def cId : Cls := ⟨⟨#[105, 100]⟩, ⟨#[91, 97, 45, 122, 93, 43]⟩, false⟩
def cNum : Cls := ⟨⟨#[110, 117, 109]⟩, ⟨#[91, 48, 45, 57, 93, 43]⟩, false⟩
def cWs : Cls := ⟨⟨#[119, 115]⟩, ⟨#[92, 115, 43]⟩, true⟩
def exCs : List Cls := [cId, cNum, cWs]
def gId (c : Nat) : Bool := decide (97 ≤ c) && decide (c ≤ 122)
def gNum (c : Nat) : Bool := decide (48 ≤ c) && decide (c ≤ 57)
def gWs (c : Nat) : Bool := decide (c = 32)
theorem pId : ∃ f, parseF (bs cId.rx) = (plusR f, 0, 0) ∧ ∀ c, c < 256 → f c = gId c := ⟨_, rfl, by decide +kernel⟩
theorem pNum : ∃ f, parseF (bs cNum.rx) = (plusR f, 0, 0) ∧ ∀ c, c < 256 → f c = gNum c := ⟨_, rfl, by decide +kernel⟩
theorem pWs : ∃ f, parseF (bs cWs.rx) = (plusR f, 0, 0) ∧ ∀ c, c < 256 → f c = gWs c := ⟨_, rfl, by decide +kernel⟩
end Go.Fk
end

section
set_option linter.unusedVariables false
namespace Go.Fk
open Go Go.MapKept

theorem cells_cls {H : View} {b : Nat} {cs : List Cls} {n : Nat} (hn : n = cs.length) (h : H b (.cells (cs.map Cls.cells).flatten.toArray T.scan_Class (0, 0))) : SlCls H ⟨some ⟨b, 0, none⟩, n, n⟩ cs := by
  refine ⟨by simp [hn], .inr ⟨b, 0, _, _, _, rfl, h, fun i c hc j u hu => ?_⟩⟩
  rw [Nat.zero_add, List.getElem?_toArray]
  exact flatten_get Cls.lens hc hu

theorem rules_ex : ∀ i, i < exCs.length → RuleOK exCs i := by
  obtain ⟨f0, p0, h0⟩ := pId
  obtain ⟨f1, p1, h1⟩ := pNum
  obtain ⟨f2, p2, h2⟩ := pWs
  intro i hi
  rcases i with _ | _ | _ | i
  · exact rule_plus (c := cId) rfl (nameOK_of (by decide) (by decide) (by decide)) (fun j c' hj => by omega) p0 (b := 97) (h0 97 (by omega))
  · refine rule_plus (c := cNum) rfl (nameOK_of (by decide) (by decide) (by decide)) (fun j c' hj hc' => ?_) p1 (b := 48) (h1 48 (by omega))
    rcases j with _ | j
    · cases hc'; decide
    · omega
  · refine rule_plus (c := cWs) rfl (nameOK_of (by decide) (by decide) (by decide)) (fun j c' hj hc' => ?_) p2 (b := 32) (h2 32 (by omega))
    rcases j with _ | _ | j
    · cases hc'; decide
    · cases hc'; decide
    · omega
  · simp [exCs] at hi; omega

theorem ys_ex : All2 (fun y g => ∃ f, y = plusR f ∧ ∀ c, c < 256 → f c = g c) (ysOf exCs) [gId, gNum, gWs] := by
  obtain ⟨f0, p0, h0⟩ := pId
  obtain ⟨f1, p1, h1⟩ := pNum
  obtain ⟨f2, p2, h2⟩ := pWs
  refine .cons ⟨f0, ?_, h0⟩ (.cons ⟨f1, ?_, h1⟩ (.cons ⟨f2, ?_, h2⟩ .nil))
  · unfold reOf; rw [p0]
  · unfold reOf; rw [p1]
  · unfold reOf; rw [p2]

theorem cnt_plus {ys : List Re} {gs : List (Nat → Bool)} (h : All2 (fun y g => ∃ f, y = plusR f ∧ ∀ c, c < 256 → f c = g c) ys gs) : mCnt ys = 2 * gs.length := by
  induction h with
  | nil => rfl
  | cons h _ ih =>
    obtain ⟨f, rfl, _⟩ := h
    simp only [mCnt, List.map_cons, List.sum_cons, List.length_cons] at ih ⊢
    rw [ih]
    simp [plusR, Re.cnt]; omega

/-- Of classes that all can be there, whose automaton isn't large, there is a scanner. -/
theorem New_ok {M : Nat → Prop} {w : World} {l : Sl} {cs : List Cls} (hl : SlCls (V M w) l cs) (hlen : cs.length ≤ 5) (hne : cs ≠ []) (hsm : ∀ c ∈ cs, Small c.rx ∧ c.n.size ≤ maxLen) (hr : ∀ i, i < cs.length → RuleOK cs i) (hc : mCnt (ysOf cs) ≤ 10) {K : (Option Addr × Int × Int) → World → Prop}
    (hok : ∀ s ms w', Keeps No w w' → ScanW (V No w') s cs ms → Sound cs ms → K (s, cs.length, 0) w') : scan_New.C l w K :=
  scan_New_spec hl (by omega) hsm (fun h => absurd h hne) (fun i e w' k hi _ hb => ((hr i hi).ok.notBad hb).elim) (fun w' _ _ _ ho => absurd ho (over_plus hc)) hok

theorem small_ex : ∀ c ∈ exCs, Small c.rx ∧ c.n.size ≤ maxLen := by
  intro c hc
  simp only [exCs, List.mem_cons, List.not_mem_nil, or_false] at hc
  rcases hc with rfl | rfl | rfl <;> exact ⟨by unfold Small; decide, by decide⟩

theorem New_ex {w : World} {b : Nat} (hb : w.heap[b]? = some (.cells (exCs.map Cls.cells).flatten.toArray T.scan_Class (0, 0))) {K : (Option Addr × Int × Int) → World → Prop}
    (hok : ∀ s ms w', Keeps No w w' → ScanW (V No w') s exCs ms → Sound exCs ms → K (s, 3, 0) w') : scan_New.C ⟨some ⟨b, 0, none⟩, 3, 3⟩ w K :=
  New_ok (M := No) (cells_cls rfl ⟨id, hb⟩) (by decide) (by simp [exCs]) small_ex rules_ex (by rw [cnt_plus ys_ex]; decide) hok

/-- 'ab 1'. -/
def exT : List UInt8 := [97, 98, 32, 49]
theorem exTok {ms : List LSt} (h : Sound exCs ms) : ((tokF ms exT 0).c = 0 ∧ (tokF ms exT 0).t = 2) ∧ ((tokF ms exT 2).c = 2 ∧ (tokF ms exT 2).t = 3) ∧ ((tokF ms exT 3).c = 1 ∧ (tokF ms exT 3).t = 4) := by
  have hm : ∀ s t i, Means (ysOf exCs) s t i ↔ plusAt [gId, gNum, gWs] s t i = true := fun s t i => means_plus ys_ex
  refine ⟨h.tok_is (i := 0) (by decide) (r := 0) (z := 2) (LawBest.of (t := 2) (i := 0) (hm _) (by decide) (by decide) (by decide)),
    h.tok_is (i := 2) (by decide) (r := 2) (z := 1) (LawBest.of (t := 1) (i := 2) (hm _) (by decide) (by decide) (by decide)),
    h.tok_is (i := 3) (by decide) (r := 1) (z := 1) (LawBest.of (t := 1) (i := 1) (hm _) (by decide) (by decide) (by decide))⟩

theorem toks_ex {ms : List LSt} (h : Sound exCs ms) : toksOf ms exT = [tokF ms exT 0, tokF ms exT 2, tokF ms exT 3] := by
  obtain ⟨⟨_, h1⟩, ⟨_, h2⟩, _, h3⟩ := exTok h
  have g := goes_tok (ms := ms) (s := exT)
  unfold toksOf
  rw [toks_step g (by decide), h1, show ((2 : Int)).toNat = 2 from rfl, toks_step g (by decide), h2, show ((3 : Int)).toNat = 3 from rfl, toks_step g (by decide), h3, toks_end (by decide)]

end Go.Fk
end

section
set_option linter.unusedVariables false
namespace Go.Fk
open Go Go.MapKept

theorem IdxS.rtok {M : Nat → Prop} {w : World} {l : Sl} {xs : List Tok} {i : Int} {K : Addr → Prop} (h : SlC (V M w) l 3 (xs.map Tok.rc)) (h0 : 0 ≤ i) (h1 : i < xs.length)
    (hk : ∀ x p, xs[i.toNat]? = some x → (w.cell? p = some (.int .i64 x.c) ∧ w.cell? (p.add 1) = some (.int .i64 x.f) ∧ w.cell? (p.add 2) = some (.int .i64 x.t)) → K p) : IdxS l i 3 K := by
  refine IdxS.recd (M := M) h h0 (by simpa using h1) fun g off c hc hcell => ?_
  rw [List.getElem?_map] at hc
  obtain ⟨x, hx, rfl⟩ := Option.map_eq_some_iff.1 hc
  refine hk x _ hx ⟨?_, ?_, ?_⟩
  · exact hcell 0 _ rfl
  · rw [add_eq]; exact hcell 1 _ rfl
  · rw [add_eq]; exact hcell 2 _ rfl

theorem Sound.cls_in {cs : List Cls} {ms : List LSt} (h : Sound cs ms) {s : List UInt8} {i : Nat} (hi : i ≤ s.length) : (tokF ms s i).c = -1 ∨ (0 ≤ (tokF ms s i).c ∧ (tokF ms s i).c < cs.length) := by
  obtain ⟨F, r, z, h1, h2, h3⟩ := h.best s hi
  rw [h2]
  rcases h3 with ⟨h, _⟩ | ⟨t, j, _, _, h4, _, h5, _⟩
  · exact .inl h
  · right; show 0 ≤ r ∧ r < _; omega

theorem toks_get {ms : List LSt} {s : List UInt8} {i : Nat} {x : Tok} (h : (toksOf ms s)[i]? = some x) : ∃ b, b < s.length ∧ x = tokF ms s b := by
  obtain ⟨b, _, h2, h3⟩ := toks_mem (goes_tok (ms := ms) (s := s)) s.length 0 (by omega) x (List.mem_of_getElem? h)
  exact ⟨b, h2, h3⟩

theorem filter_at {α : Type} {l : List α} {p : α → Bool} {i : Nat} {x : α} (h : l[i]? = some x) : (p x = true → (l.filter p)[((l.take i).filter p).length]? = some x ∧ ((l.take (i + 1)).filter p).length = ((l.take i).filter p).length + 1) ∧ (p x = false → ((l.take (i + 1)).filter p).length = ((l.take i).filter p).length) := by
  have ht : l.take (i + 1) = l.take i ++ [x] := by rw [List.take_add_one, h]; rfl
  refine ⟨fun hp => ⟨?_, ?_⟩, fun hp => ?_⟩
  · have : l.filter p = (l.take (i + 1)).filter p ++ (l.drop (i + 1)).filter p := by rw [← List.filter_append, List.take_append_drop]
    rw [this, ht, List.filter_append, List.append_assoc, List.getElem?_append_right (Nat.le_refl _)]
    simp [hp]
  · rw [ht, List.filter_append]; simp [hp]
  · rw [ht, List.filter_append]; simp [hp]

theorem toks_len {ms : List LSt} {s : List UInt8} : (toksOf ms s).length ≤ s.length := by
  have : ∀ n a, s.length - a ≤ n → a ≤ s.length → (toks (tokF ms s) s.length a).length + a ≤ s.length := by
    intro n
    induction n with
    | zero => intro a h1 h2; rw [toks_end (by omega)]; simp; omega
    | succ n ih =>
      intro a h1 h2
      by_cases hlt : a < s.length
      · have g := goes_tok (ms := ms) (s := s) a hlt
        rw [toks_step goes_tok hlt]
        have := ih (tokF ms s a).t.toNat (by omega) (by omega)
        simp only [List.length_cons]
        omega
      · rw [toks_end (by omega)]; simp; omega
  have := this s.length 0 (by omega) (by omega)
  simpa using this

end Go.Fk
end

section
set_option linter.unusedVariables false
namespace Go.Fk
open Go

/-! ## Parts of a text -/

variable {w : World} {s : Option Addr} {cs : List Cls} {N : Nat} {ms : List LSt} {of_ : Nat → Int}

theorem scan_Next_none {text : ByteArray} {i : Int} {K : ((Int × Int × Int × Int) × Int) → World → Prop} (hK : ∀ w', Keeps No w w' → K ((0, 0, 0, 0), 1) w') : scan_Scanner_Next.C none text i w K := by
  refine scan_Scanner_Next.ok _ _ _ _ _ ?_
  simp only [scan_Scanner_Next.M]
  refine Al.mk fun b1 w1 n1 => ?_
  rw [Option.isNone_none, Br_true]
  exact St4 n1.at_ fun w4 u => Ld4i u.at_ (hK w4 (u.keeps0 n1.keeps (by have := n1.eq; omega)))
theorem scan_Next_spec (h : ScanV (V No w) s cs N ms of_) {text : ByteArray} {i : Int} (hs : text.size ≤ 1000000) {K : ((Int × Int × Int × Int) × Int) → World → Prop}
    (h0 : ¬ (0 ≤ i ∧ i < text.size) → ∀ w', Keeps No w w' → K ((0, 0, 0, 0), 2) w')
    (h1 : ∀ n : Nat, i = n → n < text.size → ∀ w', Keeps No w w' → K (((tokF ms (bs text) n).c, (tokF ms (bs text) n).f, (tokF ms (bs text) n).t, (tokF ms (bs text) n).l), 0) w') : scan_Scanner_Next.C s text i w K := by
  refine scan_Scanner_Next.ok _ _ _ _ _ ?_
  simp only [scan_Scanner_Next.M]
  refine Al.mk fun b1 w1 n1 => ?_
  rw [h.some_, Br_false]
  refine Join.cut (fun b w' => w' = w1 ∧ (b = true ↔ ¬ (0 ≤ i ∧ i < text.size))) ?_ ?_
  · rintro b w' ⟨rfl, hb⟩
    refine Br.mk (fun e => ?_) (fun e => ?_)
    · exact St4 n1.at_ fun w4 u => Ld4i u.at_ (h0 (hb.1 e) w4 (u.keeps0 n1.keeps (by have := n1.eq; omega)))
    · have hin : 0 ≤ i ∧ i < text.size := Classical.byContradiction fun hn => by rw [hb.2 hn] at e; cases e
      obtain ⟨n, rfl⟩ : ∃ n : Nat, i = n := ⟨i.toNat, by omega⟩
      refine scan_next_spec (h.keep n1.keeps) (by omega) hs fun w2 k2 => ?_
      have k02 := n1.keeps.trans k2
      exact St4 (k2.blk0 n1.at_) fun w4 u => Ld4i u.at_ (h1 n rfl (by omega) w4 (u.keeps0 k02 (by have := n1.eq; omega)))
  · intro j hj
    refine Br.mk (fun e => hj _ _ ⟨rfl, ?_⟩) (fun e => hj _ _ ⟨rfl, ?_⟩)
    · have := of_decide_eq_true e; simp; omega
    · have := of_decide_eq_false e; simp; omega

theorem scan_Find_none {name : ByteArray} {K : (Int × Bool) → World → Prop} (hK : K (0, false) w) : scan_Scanner_Find.C none name w K := by
  refine scan_Scanner_Find.ok _ _ _ _ ?_
  simp only [scan_Scanner_Find.M]
  exact hK
end Go.Fk
end

section
set_option linter.unusedVariables false
namespace Go.Fk
open Go Go.MapKept

theorem example_spec {w : World} {K : Sl → World → Prop} (hK : ∀ b w', New b (.cells (exCs.map Cls.cells).flatten.toArray T.scan_Class (0, 0)) w w' → K ⟨some ⟨b, 0, none⟩, 3, 3⟩ w') : frisketlaw09_example.C w K := by
  refine frisketlaw09_example.ok _ _ ?_
  simp only [frisketlaw09_example.M]
  exact Al.mk fun b w1 n1 => hK b w1 n1

theorem awake09_spec {w : World} {K : Bool → World → Prop} (hK : ∀ w', Keeps No w w' → K true w') : frisketlaw09_awake.C w K := by
  refine frisketlaw09_awake.ok _ _ ?_
  simp only [frisketlaw09_awake.M]
  refine example_spec fun b1 w1 n1 => New_ex n1.at_ fun s ms w2 k2 ⟨N, of_, hs⟩ hS => ?_
  have hbs : bs (⟨#[97, 98, 32, 49]⟩ : ByteArray) = exT := rfl
  refine scan_Scan_spec hs (by decide) fun l w3 k3 ho => ?_
  rw [hbs, toks_ex hS] at ho
  obtain ⟨⟨c1, _⟩, ⟨c2, _⟩, c3, _⟩ := exTok hS
  have hsl : SlTok (V No w3) l [tokF ms exT 0, tokF ms exT 2, tokF ms exT 3] := ho.readsC (by omega) Tok.lens fun _ _ h => h
  have hn : l.n = 3 := hsl.1
  dsimp only
  rw [hn]
  simp only [beq_self_eq_true, Br_true, show (((3 : Nat) : Int) == 3) = true from rfl]
  refine IdxS.tok hsl (by omega) (by simp) fun x p hx hp => ?_
  have hx : tokF ms exT 2 = x := by simpa using hx
  subst hx
  refine Ld.int hp.c ?_
  rw [c2]
  simp only [beq_self_eq_true, Br_true]
  refine IdxS.tok hsl (by omega) (by simp) fun x p hx hp => ?_
  have hx : tokF ms exT 3 = x := by simpa using hx
  subst hx
  refine Ld.int hp.c ?_
  rw [c3]
  simp only [beq_self_eq_true, Br_true]
  refine scan_Solid_spec (hs.keep k3) hsl (by simp) fun l2 w4 k4 ho4 => ?_
  have e0 : layF exCs (tokF ms exT 0) = false := by unfold layF; rw [c1]; rfl
  have e1 : layF exCs (tokF ms exT 2) = true := by unfold layF; rw [c2]; rfl
  have e2 : layF exCs (tokF ms exT 3) = false := by unfold layF; rw [c3]; rfl
  have hl2 := ho4.len
  simp only [List.filter_cons, e0, e1, e2, Bool.not_false, Bool.not_true, if_true, Bool.false_eq_true, if_false, List.filter_nil, List.map_cons, List.map_nil, List.flatten_cons, List.flatten_nil] at hl2
  have hn2 : l2.n = 2 := by simp [Tok.cells] at hl2; omega
  rw [hn2]
  exact hK w4 (((n1.keeps.trans k2).trans k3).trans k4)

def cA1 : Cls := ⟨⟨#[97]⟩, ⟨#[97]⟩, false⟩
def cA2 : Cls := ⟨⟨#[97]⟩, ⟨#[98]⟩, false⟩
theorem ruleA : ClsOK [cA1, cA2] 0 := by
  refine ⟨cA1, rfl, nameOK_of (by decide) (by decide) (by decide), fun j c' hj => by omega, rfl, rfl, .inl ⟨[97], by simp, ?_⟩⟩
  exact ⟨rfl, 97, rfl, rfl⟩

theorem ScanNone_spec {w : World} {text : ByteArray} {n : Int} {K : Bool → World → Prop} (hK : ∀ w', Keeps No w w' → K true w') : frisketlaw09_ScanNone.C text n w K := by
  refine frisketlaw09_ScanNone.ok _ _ _ _ ?_
  simp only [frisketlaw09_ScanNone.M]
  refine Join.cut (fun b w1 => Keeps No w w1) ?_ ?_
  · rintro b w1 k1
    refine Br.mk (fun _ => awake09_spec fun w2 k2 => hK w2 (k1.trans k2)) (fun _ => ?_)
    refine scan_Scan_none (scan_Next_none fun w2 k2 => ?_)
    refine AlSt4 fun b2 w3 n3 => scan_Find_none (example_spec fun b4 w4 n4 => New_ex n4.at_ fun s ms w5 k5 ⟨N, of_, hs⟩ hS => ?_)
    dsimp only
    have k15 : Keeps No w w5 := (((k1.trans k2).trans n3.keeps).trans n4.keeps).trans k5
    refine App.make1 (n := 1048577) (t := .int .u8) (z := (0 : Int)) elU8 rfl (by omega) (by omega) fun b6 w6 n6 => ?_
    have hz : strOfNums (List.replicate 1048577 (0 : Int)) = strOfNums (List.replicate 1048577 (0 : Int)) := rfl
    refine ⟨strOfNums (List.replicate 1048577 (0 : Int)), w6, ?_, ?_⟩
    · refine run_convert_bytes_arg (P := P) w6 T.sl_uint8 T.uint8 elU8.sl u8Ty b6 0 1048577 1048577 (List.replicate 1048577 (0 : Int)) (by rw [List.length_replicate]) (fun i hi => ?_) T.string strTy
      have hg : (List.replicate 1048577 (0 : Int))[i]? = some 0 := by rw [List.getElem?_replicate, if_pos hi]
      rw [List.getD_eq_getElem?_getD, hg]
      refine cell_of n6.at_ ?_
      rw [List.getElem?_toArray, List.getElem?_map, Nat.zero_add, List.getElem?_replicate, if_pos hi]
      rfl
    refine scan_Scan_long hs.some_ (by rw [strOfNums_size, List.length_replicate]; omega) ?_
    refine scan_New_spec (M := No) (cs := []) SlC.nil (by simp) (by simp) (fun _ => ?_) (fun i e w' _ hi => by simp at hi) (fun w' _ h => absurd rfl h) (fun s ms w' _ _ h => absurd rfl h.ne)
    refine Al.mk fun b7 w7 n7 => ?_
    have k17 : Keeps No w w7 := (k15.trans n6.keeps).trans n7.keeps
    have fin : ∀ (s' : Option Addr) w8, Keeps No w7 w8 → ∀ a : Option Addr, Br (((⟨none, 0, 0⟩ : Sl).n : Int) == (0 : Int)) (Br ((1 : Int) == (1 : Int)) (Br ((1 : Int) == (1 : Int)) (Br (!false) (scan_Scanner_Classes.C none w8 fun x93 w19 => Br ((x93.n : Int) == (0 : Int)) (scan_Scanner_Solid.C none (⟨none, 0, 0⟩) w19 fun x99 w20 => Br ((x99.n : Int) == (0 : Int)) (Br ((3 : Int) == (3 : Int)) (Br ((0 : Int) == (0 : Int)) (Br ((12 : Int) == (12 : Int)) (Br ((1 : Int) == (1 : Int)) (K ((9 : Int) == (9 : Int)) w20) (K false w20)) (K false w20)) (K false w20)) (K false w20)) (K false w20)) (K false w19)) (K false w8)) (K false w8)) (K false w8)) (K false w8) := by
      intro s' w8 k8 a
      refine scan_Classes_none (scan_Solid_none ?_)
      exact hK w8 (k17.trans k8)
    refine scan_New_spec (M := No) (cs := [cA1, cA2]) (cells_cls rfl ⟨id, n7.at_⟩) (by simp) (fun c hc => ?_) (fun h => by cases h) (fun i e w8 k8 hi hb hbad => ?_) (fun w8 k8 _ hall => ?_) (fun s' ms' w8 k8 _ hS' => ?_)
    · simp only [List.mem_cons, List.not_mem_nil, or_false] at hc
      rcases hc with rfl | rfl <;> exact ⟨by unfold Small; decide, by decide⟩
    · have hi1 : i = 1 := by
        rcases i with _ | _ | i
        · exact (ruleA.notBad hbad).elim
        · rfl
        · simp at hi; omega
      subst hi1
      have he : e = 9 := by
        obtain ⟨c, hc, h⟩ := hbad
        cases hc
        rcases h with ⟨h, _⟩ | ⟨h, _⟩ | ⟨_, _, h⟩
        · exact h
        · exact absurd rfl h
        · refine absurd ?_ h
          exact ⟨rfl, .inl ⟨[98], by simp, rfl, 98, rfl, rfl⟩⟩
      subst he
      exact fin none w8 k8 none
    · obtain ⟨c, hc, _, h, _⟩ := hall 1 (by simp)
      cases hc
      exact absurd rfl (h 0 cA1 (by omega) rfl)
    · obtain ⟨c, hc, _, h, _⟩ := hS'.cls 1 (by simp)
      cases hc
      exact absurd rfl (h 0 cA1 (by omega) rfl)
  · intro j hj
    exact Br.mk (fun _ => hj _ _ .refl) (fun _ => awake09_spec fun w1 k1 => hj _ _ k1)
end Go.Fk
end

section
set_option linter.unusedVariables false
namespace Go.Fk
open Go Go.MapKept

set_option maxRecDepth 20000 in
theorem ScanTexts_spec {M : Nat → Prop} {w : World} {l : Sl} {cs : List Cls} {text : ByteArray} {at_ : Int} {K : Bool → World → Prop} (hl : SlCls (V M w) l cs) (hlen : cs.length ≤ 1048576) (hsz : ∀ c ∈ cs, c.rx.size ≤ 1048576 ∧ c.n.size ≤ 1048576)
    (hK : ∀ w', Keeps No w w' → K true w') : frisketlaw09_ScanTexts.C l text at_ w K := by
  have hbs := size_bs text
  refine frisketlaw09_ScanTexts.ok _ _ _ _ _ ?_
  simp only [frisketlaw09_ScanTexts.M]
  refine Join.cut (fun b w1 => Keeps No w w1 ∧ (b = false → Few cs ∧ text.size ≤ 24)) ?_ ?_
  · rintro b w1 ⟨k1, hb⟩
    refine Br.mk (fun _ => awake09_spec fun w2 k2 => hK w2 (k1.trans k2)) (fun hbf => ?_)
    obtain ⟨hfew, h24⟩ := hb hbf
    have hfl := hfew.1
    refine Rules09_spec (hl.mono (V.keeps0 k1)) (by omega) hfew.small (fun a n no w3 k3 hno hbad => ?_) (fun a vs xs w3 k3 hvs hxs hnorm hrules hne => ?_)
    · -- there is none; then there is no scanner
      dsimp only
      have go : ∀ (s : Option Addr) (w4 : World), Keeps No w3 w4 → s = none → K (s.isNone) w4 := fun s w4 k4 hs => by subst hs; exact hK w4 ((k1.trans k3).trans k4)
      have hnz : (no != (0 : Int)) = true := by simpa using hno
      refine scan_New_spec (hl.mono (V.keeps0 (k1.trans k3))) (by omega) hfew.small (fun _ => ?_) (fun i e w4 k4 _ _ _ => ?_) (fun w4 k4 _ _ _ => ?_) (fun s ms w4 k4 _ hS => ?_)
      · dsimp only; simp only [hnz, Br_true]; exact go none w3 .refl rfl
      · dsimp only; simp only [hnz, Br_true]; exact go none w4 k4 rfl
      · dsimp only; simp only [hnz, Br_true]; exact go none w4 k4 rfl
      · exfalso
        rcases hbad with h | ⟨i, hi, h⟩
        · exact hS.ne h
        · exact h (hS.rule i hi)
    · dsimp only
      simp only [bne_self_eq_false, Br_false]
      have k13 := k1.trans k3
      refine scan_New_spec (hl.mono (V.keeps0 k13)) (by omega) hfew.small (fun _ => ?_) (fun i e w4 k4 hi _ hb' => ?_) (fun w4 k4 _ _ _ => ?_) (fun s ms w4 k4 ⟨N, of_, hs⟩ hS => ?_)
      · exact hK w3 k13
      · exact ((hrules i hi).ok.notBad hb').elim
      · exact hK w4 (k13.trans k4)
      · have hxl : xs.length = cs.length := by have := congrArg List.length hnorm; simpa [ysOf] using this
        have hvx := hxs.length
        refine Join.cut (fun b w' => w' = w4 ∧ b = false) ?_ fun j hj => hj _ _ ⟨rfl, rfl⟩
        rintro b w4 ⟨rfl, rfl⟩
        rw [Br_false]
        refine scan_Scan_spec hs (by omega) fun got w6 k6 hgot => ?_
        have k46 := k4.trans k6
        refine refScan_spec (hvs.mono (V.keeps0 k46)) (hxs.mono fun _ _ x => x.mono (V.keeps0 k46)) (by omega) (by omega) hS hnorm fun want w7 k7 hwant => ?_
        generalize hts : toksOf ms (bs text) = ts at hgot hwant
        have htl : ts.length ≤ text.size := by rw [← hts, hbs]; exact toks_len
        have hget : ∀ {i x}, ts[i]? = some x → ∃ b, b < (bs text).length ∧ x = tokF ms (bs text) b := fun {i x} h => toks_get (by rw [hts]; exact h)
        have hg7 : SlTok (V No w7) got ts := (hgot.keep0 k7).readsC (by omega) Tok.lens fun _ _ h => h
        have hgn : got.n = ts.length := by have := hg7.1; simpa using this
        have hwn : want.n = ts.length := by have := hwant.1; simpa using this
        dsimp only
        have e1 : ((got.n : Int) != (want.n : Int)) = false := by rw [hgn, hwn]; simp
        refine Join.cut (fun b w' => w' = w7 ∧ b = false) ?_ fun j hj => (by simp only [bne_self_eq_false, Br_false, e1]; exact hj _ _ ⟨rfl, rfl⟩)
        rintro b w7 ⟨rfl, rfl⟩
        rw [Br_false]
        refine scan_Solid_spec (hs.keep (k6.trans k7)) hg7 (by omega) fun sol w9 k9 hsol => ?_
        have k09 : Keeps No w w9 := ((k13.trans k46).trans k7).trans k9
        generalize hss : (ts.filter fun x => !layF cs x) = ss at hsol
        have hsl : SlTok (V No w9) sol ss := hsol.readsC (by omega) Tok.lens fun _ _ h => h
        have hsn : sol.n = ss.length := by have := hsl.1; simpa using this
        refine Loop.mk (fun t w' => Keeps No w9 w' ∧ ∃ (i : Nat), t.2 = (i : Int) ∧ i ≤ ts.length ∧ t.1 = (((ts.take i).filter fun x => !layF cs x).length : Nat)) (fun t => ts.length - t.2.toNat) ⟨.refl, 0, rfl, by omega, by simp⟩ ?_
        rintro ⟨tk, ti⟩ w10 ⟨k10, i, hti, hi, htk⟩ R hR
        dsimp only at hti htk ⊢
        subst hti; subst htk
        have kc : ((ts.take i).filter fun x => !layF cs x).length ≤ i := Nat.le_trans (List.length_filter_le _ _) (List.length_take_le _ _)
        have k010 := k09.trans k10
        refine Br.mk (fun e => ?_) (fun e => ?_)
        · have hlt : i < ts.length := by have := of_decide_eq_true e; omega
          have hxi : ts[i]? = some ts[i] := List.getElem?_eq_getElem hlt
          generalize ts[i] = x at hxi
          obtain ⟨b, hbl, hxb⟩ := hget hxi
          have hbd := tok_bounds (ms := ms) hbl
          rw [← hxb] at hbd
          have hcin := hS.cls_in (s := bs text) (i := b) (by omega)
          rw [← hxb] at hcin
          have one : ∀ {y : Tok}, ts[(i : Int).toNat]? = some y → y = x := fun {y} h => by rw [Int.toNat_natCast, hxi] at h; cases h; rfl
          have ew : w64 ((i : Int) + 1) = ((i + 1 : Nat) : Int) := by rw [w64_eq (by omega)]; omega
          have hfa := filter_at (p := fun x => !layF cs x) hxi
          rw [hss] at hfa
          refine Join.cut (fun b w' => Keeps No w10 w' ∧ b = false) ?_ ?_
          · rintro b' w11 ⟨k11, rfl⟩
            rw [Br_false]
            have hw11 : SlC (V No w11) want 3 (ts.map Tok.rc) := hwant.mono (V.keeps0 ((k9.trans k10).trans k11))
            refine Join.cut (fun b w' => w' = w11 ∧ b = !layF cs x) ?_ ?_
            · rintro b2 w12 ⟨rfl, rfl⟩
              refine Br.mk (fun e2 => ?_) (fun e2 => ?_)
              · obtain ⟨f1, f2⟩ := hfa.1 e2
                have hkl := (List.getElem?_eq_some_iff.1 f1).1
                refine Join.cut (fun b w' => Keeps No w12 w' ∧ b = false) ?_ ?_
                · rintro b3 w13 ⟨k13', rfl⟩
                  rw [Br_false, ew, w64_eq (by omega)]
                  exact hR _ _ ⟨(k10.trans k11).trans k13', i + 1, rfl, by omega, by dsimp only; rw [f2]; omega⟩ (by dsimp only; omega)
                · intro j9 hj9
                  refine Draw.kp fun w14 e14 k14 => ?_
                  have k914 := (k10.trans k11).trans k14
                  refine Br.mk (fun e3 => by have := of_decide_eq_true e3; omega) (fun _ => ?_)
                  refine IdxS.tok (hsl.mono (V.keeps0 k914)) (by omega) (by omega) fun y p hy hp => hp.ldK ?_
                  rw [Int.toNat_natCast, f1] at hy; cases hy
                  refine IdxS.tok (hg7.mono (V.keeps0 (k9.trans k914))) (by omega) (by omega) fun y q hy hq => hq.ldK ?_
                  rw [one hy]
                  simp only [beq_self_eq_true, Bool.and_self, Bool.not_true]
                  exact hj9 _ _ ⟨k14, rfl⟩
              · have e2 : (!layF cs x) = false := e2
                have f2 := hfa.2 e2
                rw [ew]
                exact hR _ _ ⟨k10.trans k11, i + 1, rfl, by omega, by dsimp only; rw [f2]⟩ (by dsimp only; omega)
            · intro j11 hj11
              refine IdxS.rtok hw11 (by omega) (by omega) fun y p hy hp => Ld.int hp.1 ?_
              rw [one hy]
              refine Br.mk (fun e2 => hj11 _ _ ⟨rfl, ?_⟩) (fun e2 => ?_)
              · have e2 : x.c < 0 := of_decide_eq_true e2
                unfold layF
                rw [if_neg (by omega)]; rfl
              · have e2 : ¬ x.c < 0 := of_decide_eq_false e2
                refine IdxS.rtok hw11 (by omega) (by omega) fun y p hy hp => Ld.int hp.1 ?_
                rw [one hy]
                refine IdxS.cls (hl.mono (V.keeps0 (k010.trans k11))) (by omega) (by omega) fun c q hc hq => Ld.bool hq.lay (hj11 _ _ ⟨rfl, ?_⟩)
                unfold layF
                rw [if_pos (by omega), hc]; rfl
          · intro j12 hj12
            refine Draw.kp fun w15 e15 k15 => ?_
            have hg15 : SlTok (V No w15) got ts := hg7.mono (V.keeps0 ((k9.trans k10).trans k15))
            have hw15 : SlC (V No w15) want 3 (ts.map Tok.rc) := hwant.mono (V.keeps0 ((k9.trans k10).trans k15))
            have gg : ∀ {Q : Addr → Prop}, (∀ p, TokC w15 p x → Q p) → IdxS got (i : Int) 4 Q := fun {Q} h => IdxS.tok hg15 (by omega) (by omega) fun y p hy hp => h p (by rw [one hy] at hp; exact hp)
            have gw : ∀ {Q : Addr → Prop}, (∀ p, (w15.cell? p = some (.int .i64 x.c) ∧ w15.cell? (p.add 1) = some (.int .i64 x.f) ∧ w15.cell? (p.add 2) = some (.int .i64 x.t)) → Q p) → IdxS want (i : Int) 3 Q := fun {Q} h => IdxS.rtok hw15 (by omega) (by omega) fun y p hy hp => h p (by rw [one hy] at hp; exact hp)
            refine gg fun p hp => LdK.int hp.c (gw fun q hq => LdK.int hq.1 ?_)
            rw [bne_self_eq_false, Br_false]
            refine gg fun p hp => LdK.int hp.f (gw fun q hq => LdK.int hq.2.1 ?_)
            rw [bne_self_eq_false, Br_false]
            refine gg fun p hp => LdK.int hp.t (gw fun q hq => LdK.int hq.2.2 ?_)
            rw [bne_self_eq_false, Br_false]
            refine gg fun p hp => LdK.int hp.l (gg fun q hq => LdK.int hq.t ?_)
            refine Br.mk (fun e3 => by have e3 : x.l < x.t := of_decide_eq_true e3; omega) (fun _ => ?_)
            refine gg fun p hp => LdK.int hp.l (hj12 _ _ ⟨k15, ?_⟩)
            rw [w64_eq (by omega), decide_eq_false_iff_not]
            omega
        · have hf : i = ts.length := by have := of_decide_eq_false e; omega
          subst hf
          rw [List.take_length, hss]
          have hks : ((ss.length : Nat) : Int) = (sol.n : Int) := by omega
          rw [hks]
          have hs10 := hs.keep (((k6.trans k7).trans k9).trans k10)
          refine scan_Next_spec hs10 (by omega) (fun hout w16 k16 => ?_) (fun n hn hnl w16 k16 => ?_)
          · refine AlSt4 fun b14 w21 n14 => Join.cut (fun b w' => w' = w21 ∧ b = true) ?_ ?_
            · rintro b' w22 ⟨rfl, rfl⟩
              rw [Br_true, beq_self_eq_true, Br_true]
              exact Ld4i n14.at_ (hK w22 ((k010.trans k16).trans n14.keeps))
            · intro j hj
              refine Br.mk (fun e => hj _ _ ⟨rfl, rfl⟩) (fun e => hj _ _ ⟨rfl, ?_⟩)
              have e := of_decide_eq_false e
              rw [decide_eq_true_eq]; omega
          · subst hn
            refine AlSt4 fun b14 w21 n14 => Join.cut (fun b w' => w' = w21 ∧ b = false) ?_ ?_
            · rintro b' w22 ⟨rfl, rfl⟩
              rw [Br_false]
              have k922 := (k10.trans k16).trans n14.keeps
              have k422 := ((k6.trans k7).trans k9).trans k922
              obtain ⟨F, r, z, h1, h2, h3⟩ := hS.best (bs text) (i := n) (by omega)
              rw [← hxl] at h3
              refine refNext_spec (hvs.mono (V.keeps0 (k4.trans k422))) (hxs.mono fun _ _ x => x.mono (V.keeps0 (k4.trans k422))) (by omega) (by omega) (by omega) (h3.congr fun t j => Means.congr hnorm) fun w23 k23 => ?_
              refine AlSt3 fun b16 w27 n16 => ?_
              rw [beq_self_eq_true, Br_true]
              have hb14 := (k23.trans n16.keeps).blk0 n14.at_
              dsimp only
              rw [beq_self_eq_true, Br_true]
              refine Ld.int (cell_of hb14 rfl) (Ld.int (cell_of n16.at_ rfl) ?_)
              rw [h2]
              dsimp only
              rw [beq_self_eq_true, Br_true]
              refine Ld.int (cell_of hb14 rfl) ?_
              rw [h2]
              dsimp only
              rw [beq_self_eq_true, Br_true]
              refine Ld.int (cell_of hb14 rfl) (Ld.int (cell_of n16.at_ rfl) ?_)
              rw [h2]
              dsimp only
              rw [beq_self_eq_true]
              exact hK w27 ((k09.trans k922).trans (k23.trans n16.keeps))
            · intro j hj
              refine Br.mk (fun e => by have := of_decide_eq_true e; omega) (fun e => hj _ _ ⟨rfl, ?_⟩)
              rw [decide_eq_false_iff_not]; omega
  · intro j hj
    refine Great09_spec hl hlen hsz fun n w1 k1 hn => ?_
    refine Br.mk (fun _ => hj _ _ ⟨k1, fun e => (by cases e)⟩) (fun hf => Br.mk (fun _ => hj _ _ ⟨k1, fun e => (by cases e)⟩) (fun hf2 => ?_))
    refine awake09_spec fun w2 k2 => hj _ _ ⟨k1.trans k2, fun _ => ⟨hn (of_decide_eq_false hf), ?_⟩⟩
    have := of_decide_eq_false hf2
    omega
end Go.Fk
end

section
set_option linter.unusedVariables false
namespace Go.Fk
open Go Go.MapKept

/-! ## An append that finds no room -/

theorem SlC.flat {M : Nat → Prop} {w : World} {l : Sl} {sz : Nat} {xs : List (List Value)} (h : SlC (V M w) l sz xs) (hsz : 0 < sz) (hx : ∀ c ∈ xs, c.length = sz) {a : Addr} (ha : l.a = some a) : ∀ j u, xs.flatten[j]? = some u → w.cell? (a.add j) = some u := by
  intro j u hu
  rcases h.2 with rfl | ⟨b, off, cs, E', fr, h6, h7, h8⟩
  · simp at hu
  · rw [ha] at h6; cases h6
    have hj : j < xs.length * sz := by rw [← flatten_len hx]; exact (List.getElem?_eq_some_iff.1 hu).1
    have hq : j / sz < xs.length := by rw [Nat.div_lt_iff_lt_mul hsz]; exact hj
    have hc : xs[j / sz]? = some xs[j / sz] := List.getElem?_eq_getElem hq
    have hcl := hx _ (List.mem_of_getElem? hc)
    have hr : j % sz < (xs[j / sz]).length := by rw [hcl]; exact Nat.mod_lt _ hsz
    have hcu : (xs[j / sz])[j % sz]? = some (xs[j / sz])[j % sz] := List.getElem?_eq_getElem hr
    have hfg := flatten_get hx hc hcu
    have hdm : j / sz * sz + j % sz = j := by rw [Nat.mul_comm]; exact Nat.div_add_mod j sz
    rw [hdm, hu] at hfg
    cases hfg
    have := h8 _ _ hc _ _ hcu
    rw [Nat.add_assoc, hdm] at this
    rw [add_eq]
    exact cell_of h7.2 this

/-- What may be appended to: a slice without room, or one of the call's own. -/
def Grow (w : World) (base : Nat) (M : Nat → Prop) (E sz : Nat) (l : Sl) (xs : List (List Value)) : Prop := (SlC (V M w) l sz xs ∧ l.n = l.c ∧ (l.a = none → l.n = 0) ∧ ∀ c, l.blk c → c < base) ∨ Own w base E sz l xs.flatten

theorem append_grow {P : Program} {T T' E sz bytes base : Nat} {z : Value} {M M' : Nat → Prop} {w : World} {l l2 : Sl} {xs ys : List (List Value)} {k : Sl → World → Prop} (hE : Elem P T E z sz bytes) (h : Grow w base M E sz l xs) (hx : ∀ c ∈ xs, c.length = sz) (hy : ∀ c ∈ ys, c.length = sz) (h2 : SlC (V M' w) l2 sz ys) (hne : ys ≠ [])
    (h1 : ∀ c ∈ ys, ∀ u ∈ c, u.oneCell' = true) (hbytes : (xs.length + ys.length) * bytes ≤ 140737488355328) (h63 : xs.length + ys.length ≤ 9223372036854775807) (hbase : base ≤ w.heap.size)
    (hk : ∀ l' w', (∀ N : Nat → Prop, (∀ b, b < w.heap.size → l.blk b → base ≤ b → N b) → Keeps N w w') → Own w' base E sz l' (xs ++ ys).flatten → (∀ c, l'.blk c → (l.blk c ∧ base ≤ c) ∨ w.heap.size ≤ c) → k l' w') :
    App P (Builtin.append_ #[T, T] T' #[.slice l.a l.n l.c, .slice l2.a l2.n l2.c]) (.one .sl) w k := by
  obtain ⟨i, hi, hzz⟩ := Option.map_eq_some_iff.1 hE.inf
  simp only [Prod.mk.injEq] at hzz
  obtain ⟨hz, hs, hb⟩ := hzz
  have hfx := flatten_len hx
  have hfy := flatten_len hy
  have h2n := h2.1
  have hylen : 0 < ys.length := List.length_pos_iff.2 hne
  obtain ⟨a2, ha2⟩ : ∃ a2, l2.a = some a2 := by
    rcases h2.2 with h | ⟨b, off, cs, E, fr, h, _⟩
    · exact absurd h hne
    · exact ⟨_, h⟩
  have hnews := h2.flat hE.pos hy ha2
  have hones : ∀ u ∈ ys.flatten, u.oneCell' = true := fun u hu => by
    obtain ⟨c, hc, hu⟩ := List.mem_flatten.1 hu
    exact h1 c hc u hu
  rw [ha2, h2n]
  have own : Own w base E sz l xs.flatten → App P (Builtin.append_ #[T, T] T' #[.slice l.a l.n l.c, .slice (some a2) ys.length l2.c]) (.one .sl) w k := by
    intro ho
    have hn : l.n = xs.length := by have := ho.1; rw [hfx] at this; exact (Nat.eq_of_mul_eq_mul_right hE.pos this).symm
    refine append_own2 hE ho hfy hnews hones (by rw [hn]; exact hbytes) (by omega) hbase fun l' w' o1 m1 k1 g1 => hk l' w' (fun N hN => k1.mono fun b hb h => hN b hb h (ho.ge h).1) (by simpa using o1) fun c hc => ?_
    rcases g1 with ⟨h, _⟩ | ⟨g, hg, hg2⟩
    · obtain ⟨a, ha, _⟩ := hc; rw [h] at ha; cases ha
    · have hcg : c = g := blk_one hg hc
      subst hcg
      exact hg2.imp (fun h => ⟨h, (ho.ge h).1⟩) id
  rcases h with ⟨hl, hfull, hnil, _⟩ | ho
  · cases ha : l.a with
    | none =>
      have h0 := hnil ha
      have hx0 : xs = [] := List.eq_nil_of_length_eq_zero (by rw [← hl.1]; exact h0)
      subst hx0
      have e : l = ⟨none, 0, 0⟩ := by
        obtain ⟨a, n, c⟩ := l
        simp only at ha h0 hfull
        subst ha; subst h0; subst hfull; rfl
      rw [← ha]
      exact own (by rw [e]; exact Own.nil _ _ _ _)
    | some a =>
      have hn : l.n = xs.length := hl.1
      have holds := hl.flat hE.pos hx ha
      have hr := run_append_grow (P := P) w T T' E i z hE.sl hi hz a l.n l.c xs.flatten (by rw [hfx, hn, hs]) (by simpa using holds) a2 ys.length l2.c ys.flatten (by rw [hfy, hs]) (by simpa using hnews) (by omega) (by omega) (growslice_fits (by omega) (by rw [hb, hn]; exact hbytes))
      refine ⟨⟨some ⟨w.heap.size, 0, none⟩, l.n + ys.length, _⟩, _, hr, hk _ _ (fun N _ => ?_) ?_ fun c hc => ?_⟩
      · refine ⟨rfl, rfl, rfl, by simp, fun b hb _ => ?_⟩
        show (w.heap.push _)[b]? = _
        rw [Array.getElem?_push, if_neg (by omega)]
      · have hge := grownCap_ge w (l.n + ys.length) l.c E
        have hmx : maxLen = 9223372036854775807 := rfl
        have hcm : grownCap w (l.n + ys.length) l.c E ≤ maxLen := grownCap_le_maxLen w (l.n + ys.length) l.c E (by omega)
        have hlen : (xs.flatten ++ ys.flatten).length = (l.n + ys.length) * sz := by rw [List.length_append, hfx, hfy, hn, Nat.add_mul]
        refine ⟨by rw [List.flatten_append]; exact hlen, .inr ⟨w.heap.size, _, _, rfl, hbase, heap_alloc_new w.drew _, hge, hcm, ?_, ?_⟩⟩
        · simp only [Array.size_append, List.size_toArray, size_zeroCells, hE.cells, hfx, hfy, ← Nat.add_mul]
          congr 1
          rw [hn] at hge ⊢
          exact Nat.add_sub_of_le hge
        · simp only [Array.toList_append, List.append_assoc, List.flatten_append]
          rw [← List.append_assoc, ← hlen]
          exact List.take_left
      · right
        obtain ⟨a', ha', rfl⟩ := hc
        cases ha'
        exact Nat.le_refl _
  · exact own ho

/-! ## sort.Search -/

theorem half_u64 {a b : Nat} (h : a + b ≤ 4000000000) : w64 (Int.fdiv (IntKind.wrap .u64 (w64 ((a : Int) + b))) (2 ^ min (Int.toNat (1 : Int)) (IntKind.bits .u64))) = (((a + b) / 2 : Nat) : Int) := by
  have e1 : w64 ((a : Int) + b) = ((a + b : Nat) : Int) := by rw [w64_eq (by omega)]; omega
  have e2 : IntKind.wrap .u64 ((a + b : Nat) : Int) = ((a + b : Nat) : Int) := by
    show ((a + b : Nat) : Int) % (18446744073709551616 : Int) = _
    omega
  have e3 : (2 : Int) ^ min (Int.toNat (1 : Int)) (IntKind.bits .u64) = 2 := by decide
  rw [e1, e2, e3, Int.fdiv_eq_ediv_of_nonneg _ (by omega), w64_eq (by omega)]
  omega

theorem Search_spec {M : Nat → Prop} {w : World} {n : Nat} {f : Value} {q : Nat → Bool} (hn : n ≤ 1000000000) (hmono : ∀ i j, i ≤ j → j < n → q i = true → q j = true)
    (hf : ∀ i : Nat, i < n → ∀ w1, Keeps M w w1 → ∀ k : Bool → World → Prop, (∀ w2, Keeps No w1 w2 → k (q i) w2) → CallV P f [.int .i64 i] (.one .bool) w1 k) {K : Int → World → Prop}
    (hK : ∀ (i : Nat) w', Keeps No w w' → i ≤ n → (∀ j, j < i → q j = false) → (∀ j, i ≤ j → j < n → q j = true) → K i w') : sort_Search.C n f w K := by
  refine sort_Search.ok _ _ _ _ ?_
  simp only [sort_Search.M]
  refine Loop.mk (fun t w' => Keeps No w w' ∧ ∃ a b : Nat, t = ((a : Int), (b : Int)) ∧ a ≤ b ∧ b ≤ n ∧ (∀ j, j < a → q j = false) ∧ ∀ j, b ≤ j → j < n → q j = true) (fun t => (t.2 - t.1).toNat) ⟨.refl, 0, n, rfl, by omega, by omega, fun j h => by omega, fun j h1 h2 => by omega⟩ ?_
  rintro t w1 ⟨k1, a, b, rfl, hab, hbn, h1, h2⟩ R hR
  dsimp only
  refine Br.mk (fun e => ?_) (fun e => ?_)
  · have hlt : a < b := by have := of_decide_eq_true e; omega
    refine ⟨by omega, ?_⟩
    rw [half_u64 (by omega)]
    generalize hm : (a + b) / 2 = m
    have hm1 : a ≤ m ∧ m < b := by omega
    refine hf m (by omega) w1 k1.no _ fun w2 k2 => Br.mk (fun e2 => ?_) (fun e2 => ?_)
    · have e2 : q m = false := by simpa using e2
      have ew : w64 ((m : Int) + 1) = ((m + 1 : Nat) : Int) := by rw [w64_eq (by omega)]; omega
      rw [ew]
      refine hR _ _ ⟨k1.trans k2, m + 1, b, rfl, by omega, hbn, fun j hj => ?_, h2⟩ (by dsimp only; omega)
      cases hq : q j with
      | false => rfl
      | true => rw [hmono j m (by omega) (by omega) hq] at e2; cases e2
    · have e2 : q m = true := by simpa using e2
      exact hR _ _ ⟨k1.trans k2, a, m, rfl, by omega, by omega, h1, fun j hj hjn => hmono m j hj hjn e2⟩ (by dsimp only; omega)
  · have he : a = b := by have := of_decide_eq_false e; omega
    subst he
    exact hK a w1 k1 hbn h1 h2

/-! ## A tape -/

abbrev tpObj (s : Option Addr) (text : ByteArray) (l : Sl) (n : Int) : Obj := .cells #[.pointer s, .string text, .slice l.a l.n l.c, .int .i64 n] T.relex_Tape (0, 0)
structure TapeAt (w : World) (bt : Nat) (s : Option Addr) (text : ByteArray) (l : Sl) (ts : List Tok) (n : Int) : Prop where
  obj : w.heap[bt]? = some (tpObj s text l n)
  toks : SlTok (V (· = bt) w) l ts
  cap : l.n ≤ l.c
  nil : l.a = none → l.n = 0 ∧ l.c = 0
  old : ∀ c, l.blk c → c < w.heap.size

section
variable {w : World} {bt : Nat} {s : Option Addr} {text : ByteArray} {l : Sl} {ts : List Tok} {n : Int}

theorem TapeAt.keep {w' : World} (h : TapeAt w bt s text l ts n) (k : Keeps No w w') : TapeAt w' bt s text l ts n := ⟨k.blk0 h.obj, h.toks.mono (V.keeps0 k), h.cap, h.nil, fun c hc => Nat.lt_of_lt_of_le (h.old c hc) k.size⟩
theorem TapeAt.len (h : TapeAt w bt s text l ts n) : l.n = ts.length := by have := h.toks.1; simpa using this
theorem TapeAt.free (h : TapeAt w bt s text l ts n) : SlTok (V No w) l ts := h.toks.mono (V.sub fun _ _ h => h.elim)

theorem relex_New_none {K : (Option Addr × Int) → World → Prop} (hK : K (none, 1) w) : relex_New.C none text w K := by
  refine relex_New.ok _ _ _ _ ?_
  simp only [relex_New.M]
  exact hK
theorem own_nil {base E sz : Nat} {xs : List Value} (h : Own w base E sz l xs) : l.a = none → l.n = 0 ∧ l.c = 0 := by
  intro ha
  rcases h.2 with ⟨hv, _⟩ | ⟨g, cap, cur, hv, _⟩
  · simp only [Sl.val, Value.slice.injEq] at hv
    exact hv.2
  · simp only [Sl.val, Value.slice.injEq] at hv
    rw [ha] at hv; cases hv.1
theorem relex_New_spec {cs : List Cls} {N : Nat} {ms : List LSt} {of_ : Nat → Int} (h : ScanV (V No w) s cs N ms of_) (hs : text.size ≤ 1000000) {K : (Option Addr × Int) → World → Prop}
    (hK : ∀ bt l w', Keeps No w w' → w.heap.size ≤ bt → TapeAt w' bt s text l (toksOf ms (bs text)) (toksOf ms (bs text)).length → K (some ⟨bt, 0, none⟩, 0) w') : relex_New.C s text w K := by
  refine relex_New.ok _ _ _ _ ?_
  simp only [relex_New.M]
  rw [h.some_, Br_false]
  refine scan_Scan_spec h hs fun l w1 k1 ho => ?_
  dsimp only
  rw [bne_self_eq_false, Br_false]
  refine Al.mk fun b1 w2 n2 => ?_
  have e2 := n2.eq
  have hl : SlTok (V No w1) l (toksOf ms (bs text)) := ho.readsC (by omega) Tok.lens fun _ _ h => h
  have hn : l.n = (toksOf ms (bs text)).length := by have := hl.1; simpa using this
  have hni : (l.n : Int) = ((toksOf ms (bs text)).length : Int) := by rw [hn]
  refine hK b1 l w2 (k1.trans n2.keeps) (by have := k1.size; omega) ⟨by have h := n2.at_; rw [hni] at h; exact h, hl.mono (V.move n2.keeps (fun _ _ h => h.elim) fun b hb h => by have : b = b1 := h; omega), ho.cap, own_nil ho, fun c hc => by have := (ho.ge hc).2; have := n2.size; omega⟩

theorem relex_Tokens_none {K : Sl → World → Prop} (hK : K ⟨none, 0, 0⟩ w) : relex_Tape_Tokens.C none w K := by
  refine relex_Tape_Tokens.ok _ _ _ ?_
  simp only [relex_Tape_Tokens.M]
  exact hK
theorem relex_Tokens_spec (h : TapeAt w bt s text l ts n) (hlen : ts.length ≤ 100000000) {K : Sl → World → Prop} (hK : ∀ l' w', Keeps No w w' → Own w' w.heap.size T.scan_Token 4 l' (ts.map Tok.cells).flatten → K l' w') : relex_Tape_Tokens.C (some ⟨bt, 0, none⟩) w K := by
  refine relex_Tape_Tokens.ok _ _ _ ?_
  simp only [relex_Tape_Tokens.M, Option.isNone_some, Br_false, NilC_some, add_eq]
  exact Ld.slv (cell_of h.obj rfl) (Clone_tok h.toks hlen hK)
theorem relex_Text_none {K : ByteArray → World → Prop} (hK : K ⟨#[]⟩ w) : relex_Tape_Text.C none w K := by
  refine relex_Tape_Text.ok _ _ _ ?_
  simp only [relex_Tape_Text.M]
  exact hK
theorem relex_Text_spec (h : TapeAt w bt s text l ts n) {K : ByteArray → World → Prop} (hK : K text w) : relex_Tape_Text.C (some ⟨bt, 0, none⟩) w K := by
  refine relex_Tape_Text.ok _ _ _ ?_
  simp only [relex_Tape_Text.M, Option.isNone_some, Br_false, NilC_some, add_eq]
  exact Ld.str (cell_of h.obj rfl) hK
theorem relex_Scanned_none {K : Int → World → Prop} (hK : K 0 w) : relex_Tape_Scanned.C none w K := by
  refine relex_Tape_Scanned.ok _ _ _ ?_
  simp only [relex_Tape_Scanned.M]
  exact hK
theorem relex_Scanned_spec (h : TapeAt w bt s text l ts n) {K : Int → World → Prop} (hK : K n w) : relex_Tape_Scanned.C (some ⟨bt, 0, none⟩) w K := by
  refine relex_Tape_Scanned.ok _ _ _ ?_
  simp only [relex_Tape_Scanned.M, Option.isNone_some, Br_false, NilC_some, add_eq]
  exact Ld.int (cell_of h.obj rfl) hK

theorem relex_ahead_spec (h : TapeAt w bt s text l ts n) (hlen : ts.length ≤ 100000000) {place : Int} {K : Int → World → Prop} (hK : ∀ k : Nat, k ≤ ts.length → (∀ x ∈ ts.take k, x.l ≤ place) → K k w) : relex_Tape_ahead.C (some ⟨bt, 0, none⟩) place w K := by
  have hn := h.len
  refine relex_Tape_ahead.ok _ _ _ _ ?_
  simp only [relex_Tape_ahead.M]
  refine Loop.mk (fun t w' => w' = w ∧ ∃ k : Nat, t = k ∧ k ≤ ts.length ∧ ∀ x ∈ ts.take k, x.l ≤ place) (fun t => ts.length - t.toNat) ⟨rfl, 0, rfl, by omega, by simp⟩ ?_
  rintro t w' ⟨rfl, k, rfl, hk, hp⟩ R hR
  refine Join.cut (fun b w2 => w2 = w' ∧ (b = true → ∃ x, ts[k]? = some x ∧ x.l ≤ place)) ?_ ?_
  · rintro b w2 ⟨rfl, hb⟩
    refine Br.mk (fun e => ?_) (fun e => hK k hk hp)
    obtain ⟨x, hx, hxl⟩ := hb e
    have := (List.getElem?_eq_some_iff.1 hx).1
    rw [w64_eq (by omega)]
    refine hR _ _ ⟨rfl, k + 1, by omega, by omega, fun y hy => ?_⟩ (by omega)
    rw [List.take_add_one, hx] at hy
    rcases List.mem_append.1 hy with hy | hy
    · exact hp y hy
    · simp at hy; subst hy; exact hxl
  · intro j hj
    simp only [NilC_some, add_eq]
    refine Ld.slv (l := l) (cell_of h.obj rfl) (Br.mk (fun e => ?_) (fun e => hj _ _ ⟨rfl, fun e => (by cases e)⟩))
    have e : k < ts.length := by have := of_decide_eq_true e; omega
    refine Ld.slv (l := l) (cell_of h.obj rfl) (IdxS.tok h.toks (by omega) (by omega) fun x p hx hp => Ld.int hp.l (hj _ _ ⟨rfl, fun e => ⟨x, by simpa using hx, of_decide_eq_true e⟩⟩))

theorem relex_moved_spec {M : Nat → Prop} {a : Sl} {xs : List Tok} {d : Int} (hl : SlTok (V M w) a xs) (hlen : xs.length ≤ 10000000) (hd : -10000000000 ≤ d ∧ d ≤ 10000000000) (hx : ∀ x ∈ xs, (-10000000000 ≤ x.f ∧ x.f ≤ 10000000000) ∧ (-10000000000 ≤ x.t ∧ x.t ≤ 10000000000) ∧ (-10000000000 ≤ x.l ∧ x.l ≤ 10000000000)) {K : Sl → World → Prop}
    (hK : ∀ l' w', Keeps No w w' → Own w' w.heap.size T.scan_Token 4 l' ((xs.map fun x => x.mv d).map Tok.cells).flatten → K l' w') : relex_moved.C a d w K := by
  have hn := hl.1
  simp only [List.length_map] at hn
  refine relex_moved.ok _ _ _ _ ?_
  simp only [relex_moved.M]
  -- a slice with room
  have hmk : ∀ {k : Sl → World → Prop}, (∀ l' w', Keeps No w w' → Own w' w.heap.size T.scan_Token 4 l' ([] : List Value) → k l' w') → App P (Instr.makeSlice T.sl_scan_Token (.int .i64 0) (.int .i64 (a.n : Int))) (.one .sl) w k := by
    intro k hk
    obtain ⟨i, hi, hzz⟩ := Option.map_eq_some_iff.1 elTok.inf
    simp only [Prod.mk.injEq] at hzz
    have hmx : maxLen = 9223372036854775807 := rfl
    obtain ⟨w1, hr1, ho1, hg1⟩ := run_make_own (P := P) w w.heap.size T.sl_scan_Token T.scan_Token i _ 4 elTok.sl hi hzz.1 hzz.2.1 .i64 .i64 a.n (by rw [hzz.2.2]; omega) (by omega) (Nat.le_refl _)
    exact ⟨⟨some ⟨w.heap.size, 0, none⟩, 0, a.n⟩, w1, by simpa [RTy.enc, Ty.enc] using hr1, hk _ w1 ((Keeps.of_grown hg1).mono fun b _ h => by cases h) ho1⟩
  refine hmk fun l0 w1 k1 ho1 => ?_
  refine Loop.mk (fun t w' => Keeps No w w' ∧ ∃ k : Nat, t.2 = k ∧ k ≤ xs.length ∧ Own w' w.heap.size T.scan_Token 4 t.1 (((xs.take k).map fun x => x.mv d).map Tok.cells).flatten) (fun t => xs.length - t.2.toNat) ⟨k1, 0, rfl, by omega, by simpa using ho1⟩ ?_
  rintro ⟨b, t⟩ w2 ⟨k2, k, ht, hk, ho⟩ R hR
  dsimp only at ht ho ⊢
  subst ht
  refine Br.mk (fun e => ?_) (fun e => ?_)
  · have e : k < xs.length := by have := of_decide_eq_true e; omega
    refine IdxS.tok (hl.mono (V.keeps0 k2)) (by omega) (by omega) fun x p hxx hp => hp.ld ?_
    rw [Int.toNat_natCast] at hxx
    have hxb := hx x (List.mem_of_getElem? hxx)
    refine AlSt4 fun b3 w3 n3 => Ld.int (cell_of n3.at_ rfl) (Ld.int (cell_of n3.at_ rfl) (Ld.int (cell_of n3.at_ rfl) (Ld.int (cell_of n3.at_ rfl) ?_)))
    rw [w64_eq (x := x.f + d) (by omega), w64_eq (x := x.t + d) (by omega), w64_eq (x := x.l + d) (by omega)]
    refine appendTok (x := x.mv d) (ho.keep0 n3.keeps) (by simp; omega) (by have := (k2.trans n3.keeps).size; omega) fun l' w4 ho' k4 _ => ?_
    have ew : w64 ((k : Int) + 1) = ((k + 1 : Nat) : Int) := by rw [w64_eq (by omega)]; omega
    rw [ew]
    refine hR _ _ ⟨((k2.trans n3.keeps).no (M := No)).then k4 fun c _ hc => by have := (ho.ge hc).1; omega, k + 1, rfl, by omega, ?_⟩ (by dsimp only; omega)
    have htk : xs.take (k + 1) = xs.take k ++ [x] := by rw [List.take_add_one, hxx]; rfl
    rw [htk, List.map_append]
    exact ho'
  · have e : k = xs.length := by have := of_decide_eq_false e; omega
    subst e
    rw [List.take_length] at ho
    exact hK b w2 k2 ho
end
end Go.Fk
end

section
set_option linter.unusedVariables false
namespace Go.Fk
open Go Go.MapKept

theorem bs_append (a b : ByteArray) : bs (a ++ b) = bs a ++ bs b := by simp [bs]

theorem ScanLooks_spec {M : Nat → Prop} {w : World} {l : Sl} {cs : List Cls} {text more : ByteArray} {K : Bool → World → Prop} (hl : SlCls (V M w) l cs) (hlen : cs.length ≤ 1048576) (hsz : ∀ c ∈ cs, c.rx.size ≤ 1048576 ∧ c.n.size ≤ 1048576)
    (hK : ∀ w', Keeps No w w' → K true w') : frisketlaw09_ScanLooks.C l text more w K := by
  have hbs := size_bs text
  have hbm := size_bs more
  refine frisketlaw09_ScanLooks.ok _ _ _ _ _ ?_
  simp only [frisketlaw09_ScanLooks.M]
  refine Join.cut (fun b w1 => Keeps No w w1 ∧ (b = false → Few cs ∧ text.size ≤ 24 ∧ more.size ≤ 12)) ?_ ?_
  · rintro b w1 ⟨k1, hb⟩
    refine Br.mk (fun _ => awake09_spec fun w2 k2 => hK w2 (k1.trans k2)) (fun hbf => ?_)
    obtain ⟨hfew, h24, h12⟩ := hb hbf
    have hfl := hfew.1
    refine scan_New_spec (hl.mono (V.keeps0 k1)) (by omega) hfew.small (fun _ => hK w1 k1) (fun i e w4 k4 hi _ hb' => ?_) (fun w4 k4 _ _ _ => hK w4 (k1.trans k4)) (fun s ms w3 k3 ⟨N, of_, hs⟩ hS => ?_)
    · have he : (e != (0 : Int)) = true := by
        obtain ⟨c, _, h⟩ := hb'
        rcases h with ⟨rfl, _⟩ | ⟨h1, rfl⟩ | ⟨rfl, _⟩
        · rfl
        · simp; omega
        · rfl
      dsimp only
      rw [he, Br_true]
      exact hK w4 (k1.trans k4)
    · dsimp only
      rw [bne_self_eq_false, Br_false]
      refine scan_Scan_spec hs (by omega) fun got w4 k4 hgot => ?_
      generalize hts : toksOf ms (bs text) = ts at hgot
      have hget : ∀ {i x}, ts[i]? = some x → ∃ b, b < (bs text).length ∧ x = tokF ms (bs text) b := fun {i x} h => toks_get (by rw [hts]; exact h)
      have hg4 : SlTok (V No w4) got ts := hgot.readsC (by omega) Tok.lens fun _ _ h => h
      have hgn : got.n = ts.length := by have := hg4.1; simpa using this
      have htl : ts.length ≤ text.size := by rw [← hts, hbs]; exact toks_len
      have k04 := (k1.trans k3).trans k4
      dsimp only
      refine Loop.mk (fun t w' => Keeps No w4 w' ∧ ∃ (i : Nat), t = (i : Int) ∧ i ≤ ts.length) (fun t => ts.length - t.toNat) ⟨.refl, 0, rfl, by omega⟩ ?_
      rintro t w5 ⟨k5, i, rfl, hi⟩ R hR
      refine Br.mk (fun e => ?_) (fun e => hK w5 (k04.trans k5))
      have hlt : i < ts.length := by have := of_decide_eq_true e; omega
      have ew : w64 ((i : Int) + 1) = ((i + 1 : Nat) : Int) := by rw [w64_eq (by omega)]; omega
      have hnext : ∀ w', Keeps No w5 w' → R (w64 ((i : Int) + 1)) w' := fun w' k' => by
        rw [ew]
        exact hR _ _ ⟨k5.trans k', i + 1, rfl, by omega⟩ (by omega)
      refine IdxS.tok (hg4.mono (V.keeps0 k5)) (by omega) (by omega) fun x p hx hp => hp.ld ?_
      rw [Int.toNat_natCast] at hx
      obtain ⟨b, hbl, hxb⟩ := hget hx
      have hbd := tok_bounds (ms := ms) hbl
      rw [← hxb] at hbd
      refine AlSt4 fun b4 w10 n4 => Ld.int (cell_of n4.at_ rfl) ?_
      have hs10 := hs.keep ((k4.trans k5).trans n4.keeps)
      refine Br.mk (fun e2 => ?_) (fun e2 => ?_)
      · have e2 : (text.size : Int) < x.l := of_decide_eq_true e2
        refine Ld.int (cell_of n4.at_ rfl) ?_
        rw [hbd.1]
        refine App.suffix (by omega) ?_
        have hsx : (text.extract b text.size).size = text.size - b := by
          have := size_bs (text.extract b text.size)
          rw [bs_from, List.length_drop] at this; omega
        refine scan_Next_spec hs10 (by omega) (fun h => by omega) (fun n hn hnl w12 k12 => ?_)
        have hn0 : n = 0 := by omega
        subst hn0
        refine AlSt4 fun b5 w17 n5 => ?_
        have hb4 := (k12.trans n5.keeps).blk0 n4.at_
        have hmv := tok_moved (ms := ms) (s := bs text) (s' := bs (text.extract b text.size)) (i := b) (i' := 0) (by omega) (by omega) (by rw [bs_from]; rfl)
        rw [← hxb] at hmv
        refine Join.cut (fun b w' => w' = w17 ∧ b = false) ?_ ?_
        · rintro b' w' ⟨rfl, rfl⟩
          rw [Br_false]
          exact hnext _ ((n4.keeps.trans k12).trans n5.keeps)
        · intro j7 hj7
          dsimp only
          rw [bne_self_eq_false, Br_false]
          refine Ld.int (cell_of n5.at_ rfl) (Ld.int (cell_of hb4 rfl) ?_)
          rw [hmv]
          simp only [Tok.mv]
          rw [bne_self_eq_false, Br_false]
          refine Ld.int (cell_of n5.at_ rfl) (Ld.int (cell_of hb4 rfl) (Ld.int (cell_of hb4 rfl) (hj7 _ _ ⟨rfl, ?_⟩)))
          rw [hmv]
          simp only [Tok.mv]
          rw [w64_eq (by omega)]
          rw [bne_eq_false_iff_eq]
          show x.t + (((0 : Nat) : Int) - (b : Int)) = x.t - x.f
          omega
      · have e2 : ¬ (text.size : Int) < x.l := of_decide_eq_false e2
        obtain ⟨lk, hlk⟩ : ∃ lk : Nat, x.l = lk := ⟨x.l.toNat, by omega⟩
        -- the text with other bytes behind where the token looks
        have hsx : (text.extract 0 lk).size = lk := by
          have := size_bs (text.extract 0 lk)
          rw [bs_take, List.length_take] at this; omega
        have hst : (text.extract 0 lk ++ more).size = lk + more.size := by rw [size_bs, bs_append, List.length_append, ← size_bs, ← size_bs, hsx]
        have hsame : tokF ms (bs (text.extract 0 lk ++ more)) b = x := by
          rw [hxb]
          refine tok_same (n := lk) (by omega) (by omega) (by rw [← hxb]; omega) ?_
          rw [bs_append, bs_take, List.take_append_of_le_length (by rw [List.length_take]; omega), List.take_take, Nat.min_self]
        have hneed : (((text.extract 0 lk).size + more.size : Nat) : Int) ≤ IntKind.i64.max := by
          have : IntKind.i64.max = 9223372036854775807 := rfl
          omega
        refine Join.cut (fun (q : Addr × Int) w' => Keeps No w10 w' ∧ ∃ b5, q = (⟨b5, 0, none⟩, 0) ∧ w'.heap[b5]? = some (tokObj x)) ?_ ?_
        · rintro q w19 ⟨k19, b5, rfl, hb5⟩
          refine Join.cut (fun b w' => w' = w19 ∧ b = false) ?_ ?_
          · rintro b' w' ⟨rfl, rfl⟩
            rw [Br_false]
            exact hnext _ (n4.keeps.trans k19)
          · intro j10 hj10
            dsimp only
            rw [bne_self_eq_false, Br_false]
            simp only [add_eq]
            refine Ld4i hb5 (Ld4i (k19.blk0 n4.at_) ?_)
            simp only [beq_self_eq_true, Bool.and_self, Bool.not_true]
            exact hj10 _ _ ⟨rfl, rfl⟩
        · intro j11 hj11
          refine Draw.kp fun w21 e21 k21 => LdK.int (cell_of (k21.blk0 n4.at_) rfl) (LdK.int (cell_of (k21.blk0 n4.at_) rfl) ?_)
          rw [hbd.1, hlk]
          have nx : ∀ {w' : World} {Q : ((Int × Int × Int × Int) × Int) → World → Prop}, Keeps No w21 w' → (∀ w'', Keeps No w' w'' → Q ((x.c, x.f, x.t, x.l), 0) w'') → scan_Scanner_Next.C s (text.extract 0 lk ++ more) b w' Q := by
            intro w' Q k' hQ
            refine scan_Next_spec (hs10.keep (k21.trans k')) (by omega) (fun h => by omega) (fun n hn hnl w12 k12 => ?_)
            have hn0 : n = b := by omega
            subst hn0
            rw [hsame]
            exact hQ w12 k12
          refine ⟨App.prefix (by omega) ⟨.refl, hneed, nx .refl fun w23 k23 => ⟨k23, Al.mk fun b13 w24 n13 => ⟨k23.trans n13.keeps, St4 n13.at_ fun w28 u => ?_⟩⟩, Al.mk fun b14 w29 n14 => ⟨n14.keeps, nx n14.keeps fun w30 k30 => ⟨n14.keeps.trans k30, St4 (k30.blk0 n14.at_) fun w34 u => ?_⟩⟩⟩, Al.mk fun b15 w35 n15 => ⟨n15.keeps, App.prefix (by omega) ⟨n15.keeps, hneed, nx n15.keeps fun w37 k37 => ⟨n15.keeps.trans k37, St4 (k37.blk0 n15.at_) fun w41 u => ?_⟩⟩⟩⟩
          · have k := u.keeps0 (k23.trans n13.keeps) (by have := n13.eq; have := k23.size; omega)
            exact ⟨k, hj11 _ _ ⟨k21.trans k, b13, rfl, u.at_⟩⟩
          · have k := u.keeps0 (n14.keeps.trans k30) (by have := n14.eq; omega)
            exact ⟨k, hj11 _ _ ⟨k21.trans k, b14, rfl, u.at_⟩⟩
          · have k := u.keeps0 (n15.keeps.trans k37) (by have := n15.eq; omega)
            exact ⟨k, hj11 _ _ ⟨k21.trans k, b15, rfl, u.at_⟩⟩
  · intro j hj
    refine Great09_spec hl hlen hsz fun n w1 k1 hn => ?_
    refine Br.mk (fun _ => hj _ _ ⟨k1, fun e => (by cases e)⟩) (fun hf => Br.mk (fun _ => hj _ _ ⟨k1, fun e => (by cases e)⟩) (fun hf2 => Br.mk (fun _ => hj _ _ ⟨k1, fun e => (by cases e)⟩) (fun hf3 => ?_)))
    refine awake09_spec fun w2 k2 => hj _ _ ⟨k1.trans k2, fun _ => ⟨hn (of_decide_eq_false hf), ?_, ?_⟩⟩
    · have := of_decide_eq_false hf2; omega
    · have := of_decide_eq_false hf3; omega
end Go.Fk
end
