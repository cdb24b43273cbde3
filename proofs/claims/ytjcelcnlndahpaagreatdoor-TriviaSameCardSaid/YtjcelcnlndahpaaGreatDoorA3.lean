/-
  A part of the proof: what the functions of the program come to, read off the model: no premise of its own, no axiom. By an AI agent.
-/
import Derived.Test.YtjcelcnlndahpaaGreatDoorA2
import Derived.Test.YtjcelcnlndahpaaGreatDoorA1
import Derived.Maps.RangeRun
import Derived.Maps.Keyed
set_option linter.all false
section
set_option maxRecDepth 100000
set_option linter.unusedVariables false
namespace Go.Fk
open Go

/-- frisket/frisketlaw09.Great -/
def frisketlaw09_Great.M (l_0 : Sl) (K : Int → World → Prop) (w : World) : Prop :=
  App P (Builtin.max_ #[T.int, T.int] T.int #[.int .i64 (w64 ((l_0.n : Int) - (6 : Int))), .int .i64 0]) (.one (.int .i64)) w fun x8 w1 => Loop (fun (s1 : Int × Int) w2 again2 => Br (decide (s1.2 < (l_0.n : Int))) (Draw w2 fun S3 w3 => IdxS l_0 s1.2 3 fun p18 => LdS S3 .str (p18.add 1) fun x20 => IdxS l_0 s1.2 3 fun p27 => LdS S3 .str p27 fun x29 => (App P (Builtin.max_ #[T.int, T.int] T.int #[.int .i64 (w64 ((x20.size : Int) - (40 : Int))), .int .i64 0]) (.one (.int .i64)) w3 fun x23 w4 => (S3 w4 ∧ App P (Builtin.max_ #[T.int, T.int] T.int #[.int .i64 (w64 ((x29.size : Int) - (40 : Int))), .int .i64 0]) (.one (.int .i64)) w4 fun x32 w5 => (S3 w5 ∧ again2 ((w64 ((w64 (s1.1 + x23)) + x32)), (w64 (s1.2 + (1 : Int)))) w5))) ∧ (App P (Builtin.max_ #[T.int, T.int] T.int #[.int .i64 (w64 ((x29.size : Int) - (40 : Int))), .int .i64 0]) (.one (.int .i64)) w3 fun x32 w6 => (S3 w6 ∧ App P (Builtin.max_ #[T.int, T.int] T.int #[.int .i64 (w64 ((x20.size : Int) - (40 : Int))), .int .i64 0]) (.one (.int .i64)) w6 fun x23 w7 => (S3 w7 ∧ again2 ((w64 ((w64 (s1.1 + x23)) + x32)), (w64 (s1.2 + (1 : Int)))) w7)))) (K s1.1 w2)) (x8, 0) w1
theorem frisketlaw09_Great.ok (l_0 : Sl) (K : Int → World → Prop) (w : World) (h : frisketlaw09_Great.M l_0 K w) : frisketlaw09_Great.C l_0 w K :=
  calls_of_sem (P := P) (H := [(8, .one (.int .i64)), (20, .one .str), (23, .one (.int .i64)), (29, .one .str), (32, .one (.int .i64))]) (ann := (.n .z (.n .z (.n (.n .z (.l [(3, .one (.int .i64)), (4, .one (.int .i64))] [0] .z)) .z)))) (args := [.slice l_0.a l_0.n l_0.c]) (rt := .one (.int .i64)) P_mixed rfl rfl (by kernel_rfl) (by kernel_rfl)
    ((show _ = frisketlaw09_Great.M l_0 K w by kernel_rfl).mpr h)

/-- frisket/frisketlaw09.Rules -/
def frisketlaw09_Rules.M (l_0 : Sl) (K : (Sl × Int × Int) → World → Prop) (w : World) : Prop :=
  Loop (fun (s1 : Sl × Int) w1 again2 => Br (decide (s1.2 < (l_0.n : Int))) (IdxS l_0 s1.2 3 fun p19 => Ld .str p19 w1 fun x21 => frisketref09_Named.C x21 w1 fun x22 w2 => Br (!x22) (K (⟨none, 0, 0⟩, s1.2, 9) w2) (Loop (fun (s3 : Int) w3 again4 => Br (decide (s3 < s1.2)) (Draw w3 fun S5 w4 => IdxS l_0 s3 3 fun p32 => LdS S5 .str p32 fun x34 => IdxS l_0 s1.2 3 fun p37 => LdS S5 .str p37 fun x39 => Br (x34.toList == x39.toList) (K (⟨none, 0, 0⟩, s1.2, 9) w4) (again4 (w64 (s3 + (1 : Int))) w4)) (IdxS l_0 s1.2 3 fun p45 => Ld .str (p45.add 1) w3 fun x47 => frisketref05_Parse.C x47 w3 fun x48 w5 => Al (.cells (#[(.int .i64 0 : Value)] ++ Array.replicate 256 (.bool false : Value) ++ #[(.slice none 0 0 : Value)]) T.frisketref05_Node (0, 0)) w5 fun b6 w6 => StA P T.frisketref05_Node (⟨b6, 0, none⟩) x48.1 w6 fun w7 => Br x48.2.2 (K (⟨none, 0, 0⟩, s1.2, 3) w7) (Br (decide ((0 : Int) ≤ x48.2.1)) (K (⟨none, 0, 0⟩, s1.2, 4) w7) (Join (fun (s7 : Bool) w8 => Br s7 (K (⟨none, 0, 0⟩, s1.2, 11) w8) (LdA 258 (⟨b6, 0, none⟩) w8 fun x66 => App P (Instr.buildSlice T.sl_frisketref05_Node 1 #[(0, .agg x66)]) (.one .sl) w8 fun x67 w9 => App P (Builtin.append_ #[T.sl_frisketref05_Node, T.sl_frisketref05_Node] T.sl_frisketref05_Node #[.slice s1.1.a s1.1.n s1.1.c, .slice x67.a x67.n x67.c]) (.one .sl) w9 fun x68 w10 => again2 (x68, (w64 (s1.2 + (1 : Int)))) w10)) fun j8 => LdA 258 (⟨b6, 0, none⟩) w7 fun x57 => frisketref05_Matches.C x57 (⟨#[]⟩) w7 fun x58 w11 => Br x58 (j8 true w11) (LdA 258 (⟨b6, 0, none⟩) w11 fun x60 => frisketlaw09_some.C x60 w11 fun x61 w12 => j8 (!x61) w12))))) 0 w2)) (Br ((l_0.n : Int) == (0 : Int)) (K (⟨none, 0, 0⟩, 0, 12) w1) (K (s1.1, (l_0.n : Int), 0) w1))) (⟨none, 0, 0⟩, 0) w
theorem frisketlaw09_Rules.ok (l_0 : Sl) (K : (Sl × Int × Int) → World → Prop) (w : World) (h : frisketlaw09_Rules.M l_0 K w) : frisketlaw09_Rules.C l_0 w K :=
  calls_of_sem (P := P) (H := [(21, .one .str), (22, .one .bool), (34, .one .str), (39, .one .str), (47, .one .str), (48, .tup [.big, .one (.int .i64), .one .bool]), (49, .big), (57, .big), (58, .one .bool), (60, .big), (61, .one .bool), (66, .big), (67, .one .sl)]) (ann := (.n .z (.n .z (.n (.n .z (.l [(5, .one .sl), (6, .one (.int .i64))] [0] (.n .z (.n (.n .z (.n (.n .z (.l [(7, .one (.int .i64))] [0, 5, 6] .z)) (.n .z (.n .z (.n .z (.n (.j [(63, .one .bool)] [0, 5, 6, 8] .z .z) .z)))))) .z)))) .z)))) (args := [.slice l_0.a l_0.n l_0.c]) (rt := .tup [.one .sl, .one (.int .i64), .one (.int .i64)]) P_mixed rfl rfl (by kernel_rfl) (by kernel_rfl)
    ((show _ = frisketlaw09_Rules.M l_0 K w by kernel_rfl).mpr h)

/-- frisket/scan.New -/
def scan_New.M (l_0 : Sl) (K : (Option Addr × Int × Int) → World → Prop) (w : World) : Prop :=
  Br ((l_0.n : Int) == (0 : Int)) (K (none, 0, 12) w) (slices_Clone_scan_Class.C l_0 w fun x18 w1 => Al (.map #[] 0) w1 fun m1 w2 => Al (.cells #[.pointer none, .slice x18.a x18.n x18.c, .map (some m1)] T.scan_Scanner (0, 0)) w2 fun b2 w3 => Loop (fun (s3 : Sl × Int) w4 again4 => Br (decide (s3.2 < (l_0.n : Int))) (IdxS l_0 s3.2 3 fun p27 => Ld .str p27 w4 fun x28_0 => Ld .str (p27.add 1) w4 fun x28_1 => Ld .bool (p27.add 2) w4 fun x28_2 => Al (.cells #[.string (⟨#[]⟩), .string (⟨#[]⟩), .bool false] T.scan_Class (0, 0)) w4 fun b5 w5 => St (⟨b5, 0, none⟩) (.string x28_0) w5 fun w6 => St (⟨b5, 1, none⟩) (.string x28_1) w6 fun w7 => St (⟨b5, 2, none⟩) (.bool x28_2) w7 fun w8 => Ld .str (⟨b5, 0, none⟩) w8 fun x32_0 => Ld .str (⟨b5, 1, none⟩) w8 fun x32_1 => Ld .bool (⟨b5, 2, none⟩) w8 fun x32_2 => scan_Scanner_class.C (some (⟨b2, 0, none⟩)) s3.2 (x32_0, x32_1, x32_2) w8 fun x33 w9 => Br (x33.2 != (0 : Int)) (K (none, s3.2, x33.2) w9) (Draw w9 fun S6 w10 => LdS S6 .map (⟨b2, 2, none⟩) fun x43 => LdS S6 .str (⟨b5, 0, none⟩) fun x45 => App0 P (Instr.mapUpdate T.map_string_int (.map x43) (.string x45) (.int .i64 s3.2)) w10 fun w11 => (S6 w11 ∧ Al (.cells #[.pointer x33.1] T.p_regex_Node (0, 0)) w11 fun b7 w12 => App P (Builtin.append_ #[T.sl_p_regex_Node, T.sl_p_regex_Node] T.sl_p_regex_Node #[.slice s3.1.a s3.1.n s3.1.c, .slice (some ⟨b7, 0, none⟩) 1 1]) (.one .sl) w12 fun x50 w13 => again4 (x50, (w64 (s3.2 + (1 : Int)))) w13))) (nfa_New.C s3.1 w4 fun x54 w14 => Br (x54.2 != (0 : Int)) (K (none, 0, x54.2) w14) (dfa_New.C x54.1 w14 fun x62 w15 => Br (x62.2 != (0 : Int)) (K (none, 0, x62.2) w15) (least_New.C x62.1 w15 fun x71 w16 => St (⟨b2, 0, none⟩) (.pointer x71.1) w16 fun w17 => K ((some (⟨b2, 0, none⟩)), (l_0.n : Int), x71.2) w17)))) (⟨none, 0, 0⟩, 0) w3)
theorem scan_New.ok (l_0 : Sl) (K : (Option Addr × Int × Int) → World → Prop) (w : World) (h : scan_New.M l_0 K w) : scan_New.C l_0 w K :=
  calls_of_sem (P := P) (H := [(18, .one .sl), (28, .agg [.str, .str, .bool]), (32, .agg [.str, .str, .bool]), (33, .tup [.one .ptr, .one (.int .i64)]), (43, .one .map), (45, .one .str), (54, .tup [.one .ptr, .one (.int .i64)]), (62, .tup [.one .ptr, .one (.int .i64)]), (71, .tup [.one .ptr, .one (.int .i64)])]) (ann := (.n .z (.n .z (.n .z (.n .z (.n (.n .z (.l [(6, .one .sl), (24, .one (.int .i64))] [0, 5, 22, 23] .z)) .z)))))) (args := [.slice l_0.a l_0.n l_0.c]) (rt := .tup [.one .ptr, .one (.int .i64), .one (.int .i64)]) P_mixed rfl rfl (by kernel_rfl) (by kernel_rfl)
    ((show _ = scan_New.M l_0 K w by kernel_rfl).mpr h)

/-- frisket/frisketref09.Scan -/
def frisketref09_Scan.M (rules_0 : Sl) (text_1 : ByteArray) (K : Sl → World → Prop) (w : World) : Prop :=
  Loop (fun (s1 : Sl × Int) w1 again2 => Br (decide (s1.2 < (text_1.size : Int))) (frisketref09_Next.C rules_0 text_1 s1.2 w1 fun x15 w2 => Al (.cells #[.int .i64 0, .int .i64 0, .int .i64 0] T.frisketref09_Token (0, 0)) w2 fun b3 w3 => St (⟨b3, 0, none⟩) (.int .i64 x15.1) w3 fun w4 => St (⟨b3, 1, none⟩) (.int .i64 x15.2.1) w4 fun w5 => St (⟨b3, 2, none⟩) (.int .i64 x15.2.2) w5 fun w6 => Ld (.int .i64) (⟨b3, 0, none⟩) w6 fun x17_0 => Ld (.int .i64) (⟨b3, 1, none⟩) w6 fun x17_1 => Ld (.int .i64) (⟨b3, 2, none⟩) w6 fun x17_2 => Al (.cells #[.int .i64 x17_0, .int .i64 x17_1, .int .i64 x17_2] T.frisketref09_Token (0, 0)) w6 fun b4 w7 => App P (Builtin.append_ #[T.sl_frisketref09_Token, T.sl_frisketref09_Token] T.sl_frisketref09_Token #[.slice s1.1.a s1.1.n s1.1.c, .slice (some ⟨b4, 0, none⟩) 1 1]) (.one .sl) w7 fun x19 w8 => Ld (.int .i64) (⟨b3, 2, none⟩) w8 fun x21 => again2 (x19, x21) w8) (K s1.1 w1)) (⟨none, 0, 0⟩, 0) w
theorem frisketref09_Scan.ok (rules_0 : Sl) (text_1 : ByteArray) (K : Sl → World → Prop) (w : World) (h : frisketref09_Scan.M rules_0 text_1 K w) : frisketref09_Scan.C rules_0 text_1 w K :=
  calls_of_sem (P := P) (H := [(15, .agg [(.int .i64), (.int .i64), (.int .i64)]), (17, .agg [(.int .i64), (.int .i64), (.int .i64)]), (21, .one (.int .i64))]) (ann := (.n .z (.n .z (.n (.n .z (.l [(5, .one .sl), (6, .one (.int .i64))] [0, 1] .z)) .z)))) (args := [.slice rules_0.a rules_0.n rules_0.c, .string text_1]) (rt := .one .sl) P_mixed rfl rfl (by kernel_rfl) (by kernel_rfl)
    ((show _ = frisketref09_Scan.M rules_0 text_1 K w by kernel_rfl).mpr h)

/-- (*frisket/scan.Scanner).Scan -/
def scan_Scanner_Scan.M (s_0 : Option Addr) (text_1 : ByteArray) (K : (Sl × Int) → World → Prop) (w : World) : Prop :=
  Br (s_0.isNone) (K (⟨none, 0, 0⟩, 1) w) (Br (decide ((1048576 : Int) < (text_1.size : Int))) (K (⟨none, 0, 0⟩, 3) w) (Loop (fun (s1 : Sl × Int) w1 again2 => Br (decide (s1.2 < (text_1.size : Int))) (scan_Scanner_next.C s_0 text_1 s1.2 w1 fun x23 w2 => Al (.cells #[.int .i64 0, .int .i64 0, .int .i64 0, .int .i64 0] T.scan_Token (0, 0)) w2 fun b3 w3 => St (⟨b3, 0, none⟩) (.int .i64 x23.1) w3 fun w4 => St (⟨b3, 1, none⟩) (.int .i64 x23.2.1) w4 fun w5 => St (⟨b3, 2, none⟩) (.int .i64 x23.2.2.1) w5 fun w6 => St (⟨b3, 3, none⟩) (.int .i64 x23.2.2.2) w6 fun w7 => Ld (.int .i64) (⟨b3, 0, none⟩) w7 fun x25_0 => Ld (.int .i64) (⟨b3, 1, none⟩) w7 fun x25_1 => Ld (.int .i64) (⟨b3, 2, none⟩) w7 fun x25_2 => Ld (.int .i64) (⟨b3, 3, none⟩) w7 fun x25_3 => Al (.cells #[.int .i64 x25_0, .int .i64 x25_1, .int .i64 x25_2, .int .i64 x25_3] T.scan_Token (0, 0)) w7 fun b4 w8 => App P (Builtin.append_ #[T.sl_scan_Token, T.sl_scan_Token] T.sl_scan_Token #[.slice s1.1.a s1.1.n s1.1.c, .slice (some ⟨b4, 0, none⟩) 1 1]) (.one .sl) w8 fun x27 w9 => Ld (.int .i64) (⟨b3, 2, none⟩) w9 fun x29 => again2 (x27, x29) w9) (K (s1.1, 0) w1)) (⟨none, 0, 0⟩, 0) w))
theorem scan_Scanner_Scan.ok (s_0 : Option Addr) (text_1 : ByteArray) (K : (Sl × Int) → World → Prop) (w : World) (h : scan_Scanner_Scan.M s_0 text_1 K w) : scan_Scanner_Scan.C s_0 text_1 w K :=
  calls_of_sem (P := P) (H := [(23, .agg [(.int .i64), (.int .i64), (.int .i64), (.int .i64)]), (25, .agg [(.int .i64), (.int .i64), (.int .i64), (.int .i64)]), (29, .one (.int .i64))]) (ann := (.n .z (.n .z (.n .z (.n (.n .z (.l [(6, .one .sl), (7, .one (.int .i64))] [0, 1] .z)) .z))))) (args := [.pointer s_0, .string text_1]) (rt := .tup [.one .sl, .one (.int .i64)]) P_mixed rfl rfl (by kernel_rfl) (by kernel_rfl)
    ((show _ = scan_Scanner_Scan.M s_0 text_1 K w by kernel_rfl).mpr h)

/-- (*frisket/scan.Scanner).Solid -/
def scan_Scanner_Solid.M (s_0 : Option Addr) (l_1 : Sl) (K : Sl → World → Prop) (w : World) : Prop :=
  Br (s_0.isNone) (K (⟨none, 0, 0⟩) w) (slices_Clone_scan_Token.C l_1 w fun x8 w1 => slices_DeleteFunc_scan_Token.C x8 (.func (.func FN.scan_Scanner_layout) #[.pointer s_0] #[] : Value) w1 fun x11 w2 => K x11 w2)
theorem scan_Scanner_Solid.ok (s_0 : Option Addr) (l_1 : Sl) (K : Sl → World → Prop) (w : World) (h : scan_Scanner_Solid.M s_0 l_1 K w) : scan_Scanner_Solid.C s_0 l_1 w K :=
  calls_of_sem (P := P) (H := [(8, .one .sl), (11, .one .sl)]) (ann := .z) (args := [.pointer s_0, .slice l_1.a l_1.n l_1.c]) (rt := .one .sl) P_mixed rfl rfl (by kernel_rfl) (by kernel_rfl)
    ((show _ = scan_Scanner_Solid.M s_0 l_1 K w by kernel_rfl).mpr h)

/-- frisket/frisketref09.Named -/
def frisketref09_Named.M (s_0 : ByteArray) (K : Bool → World → Prop) (w : World) : Prop :=
  Loop (fun (s1 : Int) w1 again2 => Br (decide (s1 < (s_0.size : Int))) (Join (fun (s3 : Bool) w2 => Join (fun (s4 : Bool) w3 => Join (fun (s5 : Bool) w4 => Br s5 (K false w4) (again2 (w64 (s1 + (1 : Int))) w4)) fun j6 => Br (!s3) (Br (!s4) (j6 true w3) (j6 (s1 == (0 : Int)) w3)) (j6 false w3)) fun j7 => IdxStr s_0 s1 fun x24 => Br (decide ((48 : Int) ≤ (x24.toNat : Int))) (IdxStr s_0 s1 fun x29 => j7 (decide ((x29.toNat : Int) ≤ (57 : Int))) w2) (j7 false w2)) fun j8 => IdxStr s_0 s1 fun x14 => Br (decide ((97 : Int) ≤ (x14.toNat : Int))) (IdxStr s_0 s1 fun x19 => j8 (decide ((x19.toNat : Int) ≤ (122 : Int))) w1) (j8 false w1)) (Br (decide ((1 : Int) ≤ (s_0.size : Int))) (K (decide ((s_0.size : Int) ≤ (20 : Int))) w1) (K false w1))) 0 w
theorem frisketref09_Named.ok (s_0 : ByteArray) (K : Bool → World → Prop) (w : World) (h : frisketref09_Named.M s_0 K w) : frisketref09_Named.C s_0 w K :=
  calls_of_sem (P := P) (H := []) (ann := (.n .z (.n (.n .z (.l [(3, .one (.int .i64))] [0] (.n .z (.n (.j [(4, .one .bool)] [0, 3] .z (.j [(5, .one .bool)] [0, 3, 4] .z (.j [(41, .one .bool)] [0, 3] .z .z))) .z)))) .z))) (args := [.string s_0]) (rt := .one .bool) P_mixed rfl rfl (by kernel_rfl) (by kernel_rfl)
    ((show _ = frisketref09_Named.M s_0 K w by kernel_rfl).mpr h)

/-- frisket/frisketlaw09.some -/
def frisketlaw09_some.M (n_0 : Array Value) (K : Bool → World → Prop) (w : World) : Prop :=
  Al (.cells n_0 T.frisketref05_Node (0, 0)) w fun b1 w1 => Ld (.int .i64) (⟨b1, 0, none⟩) w1 fun x5 => Br (x5 == (0 : Int)) (Loop (fun (s2 : Int) w2 again3 => Br (decide (s2 < (256 : Int))) (IdxA 256 (⟨b1, 1, none⟩) s2 1 fun p14 => Ld .bool p14 w2 fun x15 => Br x15 (K true w2) (again3 (w64 (s2 + (1 : Int))) w2)) (K false w2)) 0 w1) (Br (x5 == (2 : Int)) (Ld .sl (⟨b1, 257, none⟩) w1 fun x19 => IdxS x19 0 258 fun p20 => LdA 258 p20 w1 fun x21 => frisketlaw09_some.C x21 w1 fun x22 w3 => Br x22 (Ld .sl (⟨b1, 257, none⟩) w3 fun x25 => IdxS x25 1 258 fun p26 => LdA 258 p26 w3 fun x27 => frisketlaw09_some.C x27 w3 fun x28 w4 => K x28 w4) (K false w3)) (Br (x5 == (3 : Int)) (Ld .sl (⟨b1, 257, none⟩) w1 fun x33 => IdxS x33 0 258 fun p34 => LdA 258 p34 w1 fun x35 => frisketlaw09_some.C x35 w1 fun x36 w5 => Br x36 (K true w5) (Ld .sl (⟨b1, 257, none⟩) w5 fun x39 => IdxS x39 1 258 fun p40 => LdA 258 p40 w5 fun x41 => frisketlaw09_some.C x41 w5 fun x42 w6 => K x42 w6)) (K true w1)))
theorem frisketlaw09_some.ok (n_0 : Array Value) (K : Bool → World → Prop) (w : World) (h : frisketlaw09_some.M n_0 K w) : frisketlaw09_some.C n_0 w K :=
  calls_of_sem (P := P) (H := [(5, .one (.int .i64)), (15, .one .bool), (19, .one .sl), (21, .big), (22, .one .bool), (25, .one .sl), (27, .big), (28, .one .bool), (33, .one .sl), (35, .big), (36, .one .bool), (39, .one .sl), (41, .big), (42, .one .bool)]) (ann := (.n .z (.n (.n .z (.n .z (.n (.n (.n .z (.l [(3, .one (.int .i64))] [1] .z)) .z) .z))) .z))) (args := [.agg n_0]) (rt := .one .bool) P_mixed rfl rfl (by kernel_rfl) (by kernel_rfl)
    ((show _ = frisketlaw09_some.M n_0 K w by kernel_rfl).mpr h)

/-- (*frisket/scan.Scanner).class -/
def scan_Scanner_class.M (s_0 : Option Addr) (i_1 : Int) (c_2 : ByteArray × ByteArray × Bool) (K : (Option Addr × Int) → World → Prop) (w : World) : Prop :=
  Al (.cells #[.string c_2.1, .string c_2.2.1, .bool c_2.2.2] T.scan_Class (0, 0)) w fun b1 w1 => Draw w1 fun S2 w2 => NilC s_0 fun a15 => LdS S2 .map (a15.add 2) fun x17 => LdS S2 .str (⟨b1, 0, none⟩) fun x19 => App P (Instr.lookup T.map_string_int (.map x17) (.string x19) true) (.tup [.one (.int .i64), .one .bool]) w2 fun x20 w3 => (S2 w3 ∧ Br (decide ((40 : Int) ≤ i_1)) (K (none, 3) w3) (Join (fun (s3 : Bool) w4 => Br s3 (K (none, 9) w4) (Ld .str (⟨b1, 1, none⟩) w4 fun x36 => regex_Parse.C x36 w4 fun x37 w5 => Br (x37.2.2 != (0 : Int)) (K (none, x37.2.2) w5) (scan_means.C x37.1 w5 fun x45 w6 => Br (!x45) (K (none, 11) w6) (K (x37.1, 0) w6)))) fun j4 => Ld .str (⟨b1, 0, none⟩) w3 fun x28 => scan_named.C x28 w3 fun x29 w7 => Br (!x29) (j4 true w7) (j4 x20.2 w7)))
theorem scan_Scanner_class.ok (s_0 : Option Addr) (i_1 : Int) (c_2 : ByteArray × ByteArray × Bool) (K : (Option Addr × Int) → World → Prop) (w : World) (h : scan_Scanner_class.M s_0 i_1 c_2 K w) : scan_Scanner_class.C s_0 i_1 c_2 w K :=
  calls_of_sem (P := P) (H := [(17, .one .map), (19, .one .str), (20, .tup [.one (.int .i64), .one .bool]), (28, .one .str), (29, .one .bool), (36, .one .str), (37, .tup [.one .ptr, .one (.int .i64), .one (.int .i64)]), (45, .one .bool)]) (ann := (.n .z (.n .z (.n (.n .z (.n .z (.j [(26, .one .bool)] [5] .z .z))) .z)))) (args := [.pointer s_0, .int .i64 i_1, .agg #[.string c_2.1, .string c_2.2.1, .bool c_2.2.2]]) (rt := .tup [.one .ptr, .one (.int .i64)]) P_mixed rfl rfl (by kernel_rfl) (by kernel_rfl)
    ((show _ = scan_Scanner_class.M s_0 i_1 c_2 K w by kernel_rfl).mpr h)

/-- (*frisket/scan.Scanner).Classes -/
def scan_Scanner_Classes.M (s_0 : Option Addr) (K : Sl → World → Prop) (w : World) : Prop :=
  Br (s_0.isNone) (K (⟨none, 0, 0⟩) w) (NilC s_0 fun a6 => Ld .sl (a6.add 1) w fun x8 => slices_Clone_scan_Class.C x8 w fun x9 w1 => K x9 w1)
theorem scan_Scanner_Classes.ok (s_0 : Option Addr) (K : Sl → World → Prop) (w : World) (h : scan_Scanner_Classes.M s_0 K w) : scan_Scanner_Classes.C s_0 w K :=
  calls_of_sem (P := P) (H := [(8, .one .sl), (9, .one .sl)]) (ann := .z) (args := [.pointer s_0]) (rt := .one .sl) P_mixed rfl rfl (by kernel_rfl) (by kernel_rfl)
    ((show _ = scan_Scanner_Classes.M s_0 K w by kernel_rfl).mpr h)

/-- frisket/frisketref09.Next -/
def frisketref09_Next.M (rules_0 : Sl) (text_1 : ByteArray) (at_2 : Int) (K : (Int × Int × Int) → World → Prop) (w : World) : Prop :=
  Al (.cells #[.int .i64 0, .int .i64 0, .int .i64 0] T.frisketref09_Token (0, 0)) w fun b1 w1 => Al (.cells #[.int .i64 0, .int .i64 0, .int .i64 0] T.frisketref09_Token (0, 0)) w1 fun b2 w2 => St (⟨b2, 0, none⟩) (.int .i64 (-1)) w2 fun w3 => St (⟨b2, 1, none⟩) (.int .i64 at_2) w3 fun w4 => St (⟨b2, 2, none⟩) (.int .i64 (w64 (at_2 + (1 : Int)))) w4 fun w5 => Loop (fun (s3 : Int × Int) w6 again4 => Br (decide (s3.2 < (rules_0.n : Int))) (Draw w6 fun S5 w7 => IdxS rules_0 s3.2 258 fun p23 => LdSA S5 258 p23 fun x24 => App P (Instr.sliceAt T.string (.string text_1) (some (.int .i64 at_2)) none none) (.one .str) w7 fun x27 w8 => (S5 w8 ∧ frisketref05_Longest.C x24 x27 w8 fun x28 w9 => (S5 w9 ∧ Br (decide (s3.1 < x28)) (St (⟨b2, 0, none⟩) (.int .i64 s3.2) w9 fun w10 => St (⟨b2, 1, none⟩) (.int .i64 at_2) w10 fun w11 => St (⟨b2, 2, none⟩) (.int .i64 (w64 (at_2 + x28))) w11 fun w12 => again4 (x28, (w64 (s3.2 + (1 : Int)))) w12) (again4 (s3.1, (w64 (s3.2 + (1 : Int)))) w9)))) (Ld (.int .i64) (⟨b2, 0, none⟩) w6 fun x39_0 => Ld (.int .i64) (⟨b2, 1, none⟩) w6 fun x39_1 => Ld (.int .i64) (⟨b2, 2, none⟩) w6 fun x39_2 => St (⟨b1, 0, none⟩) (.int .i64 x39_0) w6 fun w13 => St (⟨b1, 1, none⟩) (.int .i64 x39_1) w13 fun w14 => St (⟨b1, 2, none⟩) (.int .i64 x39_2) w14 fun w15 => Ld (.int .i64) (⟨b1, 0, none⟩) w15 fun r0_0 => Ld (.int .i64) (⟨b1, 1, none⟩) w15 fun r0_1 => Ld (.int .i64) (⟨b1, 2, none⟩) w15 fun r0_2 => K (r0_0, r0_1, r0_2) w15)) (0, 0) w5
theorem frisketref09_Next.ok (rules_0 : Sl) (text_1 : ByteArray) (at_2 : Int) (K : (Int × Int × Int) → World → Prop) (w : World) (h : frisketref09_Next.M rules_0 text_1 at_2 K w) : frisketref09_Next.C rules_0 text_1 at_2 w K :=
  calls_of_sem (P := P) (H := [(6, .agg [(.int .i64), (.int .i64), (.int .i64)]), (24, .big), (27, .one .str), (28, .one (.int .i64)), (39, .agg [(.int .i64), (.int .i64), (.int .i64)])]) (ann := (.n .z (.n .z (.n .z (.n (.n .z (.l [(8, .one (.int .i64)), (9, .one (.int .i64))] [0, 1, 2, 6, 7] .z)) .z))))) (args := [.slice rules_0.a rules_0.n rules_0.c, .string text_1, .int .i64 at_2]) (rt := .agg [(.int .i64), (.int .i64), (.int .i64)]) P_mixed rfl rfl (by kernel_rfl) (by kernel_rfl)
    ((show _ = frisketref09_Next.M rules_0 text_1 at_2 K w by kernel_rfl).mpr h)

/-- (*frisket/scan.Scanner).next -/
def scan_Scanner_next.M (s_0 : Option Addr) (text_1 : ByteArray) (at_2 : Int) (K : (Int × Int × Int × Int) → World → Prop) (w : World) : Prop :=
  Al (.cells #[.int .i64 0, .int .i64 0, .int .i64 0, .int .i64 0] T.scan_Token (0, 0)) w fun b1 w1 => Draw w1 fun S2 w2 => NilC s_0 fun a15 => LdS S2 .ptr a15 fun x17 => App P (Instr.sliceAt T.string (.string text_1) (some (.int .i64 at_2)) none none) (.one .str) w2 fun x20 w3 => (S2 w3 ∧ least_Least_Longest.C x17 x20 w3 fun x21 w4 => (S2 w4 ∧ Join (fun (s3 : Int) w5 => Join (fun (s4 : Int) w6 => St (⟨b1, 0, none⟩) (.int .i64 x21.1) w6 fun w7 => St (⟨b1, 1, none⟩) (.int .i64 at_2) w7 fun w8 => St (⟨b1, 2, none⟩) (.int .i64 (w64 (at_2 + s4))) w8 fun w9 => St (⟨b1, 3, none⟩) (.int .i64 s3) w9 fun w10 => Ld (.int .i64) (⟨b1, 0, none⟩) w10 fun r0_0 => Ld (.int .i64) (⟨b1, 1, none⟩) w10 fun r0_1 => Ld (.int .i64) (⟨b1, 2, none⟩) w10 fun r0_2 => Ld (.int .i64) (⟨b1, 3, none⟩) w10 fun r0_3 => K (r0_0, r0_1, r0_2, r0_3) w10) fun j5 => Br (x21.1 == (-1 : Int)) (j5 1 w5) (j5 x21.2.1 w5)) fun j6 => Draw w4 fun S7 w11 => NilC s_0 fun a30 => LdS S7 .ptr a30 fun x32 => App P (Instr.sliceAt T.string (.string text_1) (some (.int .i64 at_2)) (some (.int .i64 (w64 (at_2 + x21.2.2)))) none) (.one .str) w11 fun x36 w12 => (S7 w12 ∧ least_Least_Run.C x32 x36 w12 fun x37 w13 => (S7 w13 ∧ Join (fun (s8 : Bool) w14 => Br s8 (j6 (w64 ((w64 (at_2 + x21.2.2)) + (1 : Int))) w14) (j6 (w64 (at_2 + x21.2.2)) w14)) fun j9 => Br x37.2 (j9 ((w64 (at_2 + x21.2.2)) == (text_1.size : Int)) w13) (j9 false w13)))))
theorem scan_Scanner_next.ok (s_0 : Option Addr) (text_1 : ByteArray) (at_2 : Int) (K : (Int × Int × Int × Int) → World → Prop) (w : World) (h : scan_Scanner_next.M s_0 text_1 at_2 K w) : scan_Scanner_next.C s_0 text_1 at_2 w K :=
  calls_of_sem (P := P) (H := [(6, .agg [(.int .i64), (.int .i64), (.int .i64), (.int .i64)]), (17, .one .ptr), (20, .one .str), (21, .tup [.one (.int .i64), .one (.int .i64), .one (.int .i64)]), (32, .one .ptr), (36, .one .str), (37, .tup [.one (.int .i64), .one .bool])]) (ann := (.n .z (.n .z (.n .z (.j [(10, .one (.int .i64))] [2, 6, 7, 8] (.n .z (.j [(46, .one .bool)] [2, 6, 7, 8, 10] .z .z)) (.j [(8, .one (.int .i64))] [2, 6, 7, 10] .z .z)))))) (args := [.pointer s_0, .string text_1, .int .i64 at_2]) (rt := .agg [(.int .i64), (.int .i64), (.int .i64), (.int .i64)]) P_mixed rfl rfl (by kernel_rfl) (by kernel_rfl)
    ((show _ = scan_Scanner_next.M s_0 text_1 at_2 K w by kernel_rfl).mpr h)

/-- (*frisket/scan.Scanner).layout -/
def scan_Scanner_layout.M (s_0 : Option Addr) (t_1 : Int × Int × Int × Int) (K : Bool → World → Prop) (w : World) : Prop :=
  Al (.cells #[.int .i64 t_1.1, .int .i64 t_1.2.1, .int .i64 t_1.2.2.1, .int .i64 t_1.2.2.2] T.scan_Token (0, 0)) w fun b1 w1 => Draw w1 fun S2 w2 => LdS S2 (.int .i64) (⟨b1, 0, none⟩) fun x6 => Br (decide ((0 : Int) ≤ x6)) (LdS S2 (.int .i64) (⟨b1, 0, none⟩) fun x10 => NilC s_0 fun a12 => LdS S2 .sl (a12.add 1) fun x14 => Br (decide (x10 < (x14.n : Int))) (NilC s_0 fun a20 => LdS S2 .sl (a20.add 1) fun x22 => LdS S2 (.int .i64) (⟨b1, 0, none⟩) fun x24 => IdxS x22 x24 3 fun p25 => LdS S2 .bool (p25.add 2) fun x27 => K x27 w2) (K false w2)) (K false w2)
theorem scan_Scanner_layout.ok (s_0 : Option Addr) (t_1 : Int × Int × Int × Int) (K : Bool → World → Prop) (w : World) (h : scan_Scanner_layout.M s_0 t_1 K w) : scan_Scanner_layout.C s_0 t_1 w K :=
  calls_of_sem (P := P) (H := [(6, .one (.int .i64)), (10, .one (.int .i64)), (14, .one .sl), (22, .one .sl), (24, .one (.int .i64)), (27, .one .bool)]) (ann := .z) (args := [.pointer s_0, .agg #[.int .i64 t_1.1, .int .i64 t_1.2.1, .int .i64 t_1.2.2.1, .int .i64 t_1.2.2.2]]) (rt := .one .bool) P_mixed rfl rfl (by kernel_rfl) (by kernel_rfl)
    ((show _ = scan_Scanner_layout.M s_0 t_1 K w by kernel_rfl).mpr h)

/-- frisket/scan.named -/
def scan_named.M (s_0 : ByteArray) (K : Bool → World → Prop) (w : World) : Prop :=
  Loop (fun (s1 : Int) w1 again2 => Br (decide (s1 < (s_0.size : Int))) (IdxStr s_0 s1 fun x12 => Join (fun (s3 : Bool) w2 => Br s3 (K false w2) (again2 (w64 (s1 + (1 : Int))) w2)) fun j4 => Br (decide ((97 : Int) ≤ (x12.toNat : Int))) (Br (decide ((x12.toNat : Int) ≤ (122 : Int))) (j4 false w1) (Br (decide ((0 : Int) < s1)) (Br (decide ((48 : Int) ≤ (x12.toNat : Int))) (j4 (!(decide ((x12.toNat : Int) ≤ (57 : Int)))) w1) (j4 true w1)) (j4 true w1))) (Br (decide ((0 : Int) < s1)) (Br (decide ((48 : Int) ≤ (x12.toNat : Int))) (j4 (!(decide ((x12.toNat : Int) ≤ (57 : Int)))) w1) (j4 true w1)) (j4 true w1))) (Br (!(s_0.toList == ((⟨#[]⟩) : ByteArray).toList)) (K (decide ((s_0.size : Int) ≤ (20 : Int))) w1) (K false w1))) 0 w
theorem scan_named.ok (s_0 : ByteArray) (K : Bool → World → Prop) (w : World) (h : scan_named.M s_0 K w) : scan_named.C s_0 w K :=
  calls_of_sem (P := P) (H := []) (ann := (.n .z (.n (.n .z (.l [(7, .one (.int .i64))] [0, 6] (.n .z (.n .z (.n (.n .z (.n .z (.j [(31, .one .bool)] [0, 6, 7] .z .z))) .z))))) .z))) (args := [.string s_0]) (rt := .one .bool) P_mixed rfl rfl (by kernel_rfl) (by kernel_rfl)
    ((show _ = scan_named.M s_0 K w by kernel_rfl).mpr h)

/-- frisket/scan.means -/
def scan_means.M (n_0 : Option Addr) (K : Bool → World → Prop) (w : World) : Prop :=
  regex_Nullable.C n_0 w fun x8 w1 => Br x8 (K false w1) (Al (.cells #[.pointer n_0] T.p_regex_Node (0, 0)) w1 fun b1 w2 => nfa_New.C (⟨(some ⟨b1, 0, none⟩), 1, 1⟩) w2 fun x12 w3 => Br (x12.2 != (0 : Int)) (K (x12.2 == (3 : Int)) w3) (dfa_New.C x12.1 w3 fun x21 w4 => Br (x21.2 != (0 : Int)) (K true w4) (dfa_Dfa_States.C x21.1 w4 fun x27 w5 => Loop (fun (s2 : Int) w6 again3 => Br (decide (s2 < x27)) (dfa_Dfa_Accept.C x21.1 s2 w6 fun x33 w7 => Br (x33 != (-1 : Int)) (K true w7) (again3 (w64 (s2 + (1 : Int))) w7)) (K false w6)) 0 w5)))
theorem scan_means.ok (n_0 : Option Addr) (K : Bool → World → Prop) (w : World) (h : scan_means.M n_0 K w) : scan_means.C n_0 w K :=
  calls_of_sem (P := P) (H := [(8, .one .bool), (12, .tup [.one .ptr, .one (.int .i64)]), (21, .tup [.one .ptr, .one (.int .i64)]), (27, .one (.int .i64)), (33, .one (.int .i64))]) (ann := (.n .z (.n .z (.n .z (.n .z (.n .z (.n .z (.n (.n .z (.l [(28, .one (.int .i64))] [5, 27] .z)) .z)))))))) (args := [.pointer n_0]) (rt := .one .bool) P_mixed rfl rfl (by kernel_rfl) (by kernel_rfl)
    ((show _ = scan_means.M n_0 K w by kernel_rfl).mpr h)

end Go.Fk
end

section
set_option maxRecDepth 100000
set_option linter.unusedVariables false
namespace Go.Fk
open Go

/-- frisket/dfa.New -/
def dfa_New.M (m_0 : Option Addr) (K : (Option Addr × Int) → World → Prop) (w : World) : Prop :=
  Br (m_0.isNone) (K (none, 1) w) (App P (Instr.build T.dfa_state #[(2, .int .i64 (-1))]) .big w fun x10 w1 => App P (Instr.buildSlice T.sl_dfa_state 1 #[(0, .agg x10)]) (.one .sl) w1 fun x11 w2 => App P (Instr.build T.dfa_Dfa #[(0, .pointer m_0), (1, .slice x11.a x11.n x11.c)]) .big w2 fun x12 w3 => Al (.cells x12 T.dfa_Dfa (0, 0)) w3 fun b1 w4 => Al (.map #[] 0) w4 fun m2 w5 => Al (.cells #[.pointer (some (⟨b1, 0, none⟩)), .map (some m2)] T.dfa_build (0, 0)) w5 fun b3 w6 => Loop (fun (s4 : Int) w7 again5 => Ld .sl (⟨b1, 1, none⟩) w7 fun x22 => Br (decide (s4 < (x22.n : Int))) (dfa_build_fill.C (some (⟨b3, 0, none⟩)) s4 w7 fun x29 w8 => Ld .sl (⟨b1, 1, none⟩) w8 fun x33 => Br (decide ((2000 : Int) < (x33.n : Int))) (K (none, 3) w8) (again5 (w64 (s4 + (1 : Int))) w8)) (dfa_Dfa_group.C (some (⟨b1, 0, none⟩)) w7 fun x37 w9 => K ((some (⟨b1, 0, none⟩)), 0) w9)) 0 w6)
theorem dfa_New.ok (m_0 : Option Addr) (K : (Option Addr × Int) → World → Prop) (w : World) (h : dfa_New.M m_0 K w) : dfa_New.C m_0 w K :=
  calls_of_sem (P := P) (H := [(10, .big), (11, .one .sl), (12, .big), (22, .one .sl), (29, .tup []), (33, .one .sl), (37, .tup [])]) (ann := (.n .z (.n .z (.n .z (.n .z (.n (.n .z (.l [(6, .one (.int .i64))] [4, 5] .z)) .z)))))) (args := [.pointer m_0]) (rt := .tup [.one .ptr, .one (.int .i64)]) P_mixed rfl rfl (by kernel_rfl) (by kernel_rfl)
    ((show _ = dfa_New.M m_0 K w by kernel_rfl).mpr h)

/-- (*frisket/dfa.build).fill -/
def dfa_build_fill.M (b_0 : Option Addr) (n_1 : Int) (K : Unit → World → Prop) (w : World) : Prop :=
  Draw w fun S1 w1 => NilC b_0 fun a11 => LdS S1 .ptr a11 fun x13 => NilC x13 fun a14 => LdS S1 .ptr a14 fun x16 => NilC b_0 fun a18 => LdS S1 .ptr a18 fun x20 => NilC x20 fun a21 => LdS S1 .sl (a21.add 1) fun x23 => IdxS x23 n_1 258 fun p25 => LdS S1 .sl p25 fun x27 => dfa_behind.C x16 x27 w1 fun x28 w2 => (S1 w2 ∧ Loop (fun (s2 : Int) w3 again3 => Br (decide (s2 < (256 : Int))) (Loop (fun (s4 : Sl × Int) w4 again5 => Br (decide (s4.2 < (x28.n : Int))) (IdxS x28 s4.2 1 fun p36 => Ld (.int .i64) p36 w4 fun x37 => NilC b_0 fun a39 => Ld .ptr a39 w4 fun x41 => NilC x41 fun a42 => Ld .ptr a42 w4 fun x44 => nfa_Machine_Has.C x44 x37 (IntKind.wrap .u8 (s2)) w4 fun x48 w5 => Br x48 (Al (.cells #[.int .i64 x37] T.int (0, 0)) w5 fun b6 w6 => App P (Builtin.append_ #[T.sl_int, T.sl_int] T.sl_int #[.slice s4.1.a s4.1.n s4.1.c, .slice (some ⟨b6, 0, none⟩) 1 1]) (.one .sl) w6 fun x52 w7 => again5 (x52, (w64 (s4.2 + (1 : Int)))) w7) (again5 (s4.1, (w64 (s4.2 + (1 : Int)))) w5)) (dfa_build_place.C b_0 s4.1 w4 fun x56 w8 => NilC b_0 fun a58 => Ld .ptr a58 w8 fun x60 => NilC x60 fun a61 => Ld .sl (a61.add 1) w8 fun x63 => IdxS x63 n_1 258 fun p67 => IdxA 256 (p67.add 1) s2 1 fun p69 => St p69 (.int .i64 x56) w8 fun w9 => again3 (w64 (s2 + (1 : Int))) w9)) (⟨none, 0, 0⟩, 0) w3) (K () w3)) 0 w2)
theorem dfa_build_fill.ok (b_0 : Option Addr) (n_1 : Int) (K : Unit → World → Prop) (w : World) (h : dfa_build_fill.M b_0 n_1 K w) : dfa_build_fill.C b_0 n_1 w K :=
  calls_of_sem (P := P) (H := [(13, .one .ptr), (16, .one .ptr), (20, .one .ptr), (23, .one .sl), (27, .one .sl), (28, .one .sl), (37, .one (.int .i64)), (41, .one .ptr), (44, .one .ptr), (48, .one .bool), (56, .one (.int .i64)), (60, .one .ptr), (63, .one .sl)]) (ann := (.n .z (.n .z (.l [(29, .one (.int .i64))] [0, 1, 4] (.n .z (.n .z (.n (.n .z (.n .z (.n (.n .z (.l [(6, .one .sl), (34, .one (.int .i64))] [0, 1, 4, 5, 29, 32, 33] .z)) .z))) .z))))))) (args := [.pointer b_0, .int .i64 n_1]) (rt := .tup []) P_mixed rfl rfl (by kernel_rfl) (by kernel_rfl)
    ((show _ = dfa_build_fill.M b_0 n_1 K w by kernel_rfl).mpr h)

/-- (*frisket/dfa.Dfa).group -/
def dfa_Dfa_group.M (d_0 : Option Addr) (K : Unit → World → Prop) (w : World) : Prop :=
  Al (.map #[] 0) w fun m1 w1 => Loop (fun (s2 : Int) w2 again3 => Br (decide (s2 < (256 : Int))) (NilC d_0 fun a15 => Ld .sl (a15.add 1) w2 fun x17 => App P (Instr.makeSlice T.sl_int (.int .i64 0) (.int .i64 (x17.n : Int))) (.one .sl) w2 fun x19 w3 => NilC d_0 fun a21 => Ld .sl (a21.add 1) w3 fun x23 => Loop (fun (s4 : Sl × Int) w4 again5 => Br (decide (s4.2 < (x23.n : Int))) (IdxS x23 s4.2 258 fun p27 => LdA 258 p27 w4 fun x28 => Al (.cells (#[(.slice none 0 0 : Value)] ++ Array.replicate 257 (.int .i64 0 : Value)) T.dfa_state (0, 0)) w4 fun b6 w5 => StA P T.dfa_state (⟨b6, 0, none⟩) x28 w5 fun w6 => IdxA 256 (⟨b6, 1, none⟩) s2 1 fun p32 => Ld (.int .i64) p32 w6 fun x33 => Al (.cells #[.int .i64 (w64 (x33 + (1 : Int)))] T.int (0, 0)) w6 fun b7 w7 => App P (Builtin.append_ #[T.sl_int, T.sl_int] T.sl_int #[.slice s4.1.a s4.1.n s4.1.c, .slice (some ⟨b7, 0, none⟩) 1 1]) (.one .sl) w7 fun x36 w8 => again5 (x36, (w64 (s4.2 + (1 : Int)))) w8) (dfa_text.C s4.1 w4 fun x39 w9 => App P (Instr.lookup T.map_string_int (.map (some m1)) (.string x39) true) (.tup [.one (.int .i64), .one .bool]) w9 fun x43 w10 => Join (fun (s8 : Int) w11 => NilC d_0 fun a56 => IdxA 256 (a56.add 2) s2 1 fun p58 => St p58 (.int .i64 s8) w11 fun w12 => again3 (w64 (s2 + (1 : Int))) w12) fun j9 => Br (!x43.2) (App P (Builtin.len_ #[T.map_string_int] T.int #[.map (some m1)]) (.one (.int .i64)) w10 fun x49 w13 => App0 P (Instr.mapUpdate T.map_string_int (.map (some m1)) (.string x39) (.int .i64 x49)) w13 fun w14 => j9 x49 w14) (j9 x43.1 w10))) (x19, 0) w3) (App P (Builtin.len_ #[T.map_string_int] T.int #[.map (some m1)]) (.one (.int .i64)) w2 fun x62 w15 => NilC d_0 fun a63 => St (a63.add 258) (.int .i64 x62) w15 fun w16 => K () w16)) 0 w1
theorem dfa_Dfa_group.ok (d_0 : Option Addr) (K : Unit → World → Prop) (w : World) (h : dfa_Dfa_group.M d_0 K w) : dfa_Dfa_group.C d_0 w K :=
  calls_of_sem (P := P) (H := [(17, .one .sl), (19, .one .sl), (23, .one .sl), (28, .big), (33, .one (.int .i64)), (39, .one .str), (43, .tup [.one (.int .i64), .one .bool])]) (ann := (.n .z (.n (.n .z (.l [(11, .one (.int .i64))] [0, 2] (.n .z (.n .z (.n (.n .z (.n .z (.n (.n .z (.l [(4, .one .sl), (25, .one (.int .i64))] [0, 2, 3, 11, 23, 24] .z)) (.n .z (.n .z (.j [(8, .one (.int .i64))] [0, 2, 3, 11] .z .z)))))) .z))))) .z))) (args := [.pointer d_0]) (rt := .tup []) P_mixed rfl rfl (by kernel_rfl) (by kernel_rfl)
    ((show _ = dfa_Dfa_group.M d_0 K w by kernel_rfl).mpr h)

/-- (*frisket/dfa.Dfa).States -/
def dfa_Dfa_States.M (d_0 : Option Addr) (K : Int → World → Prop) (w : World) : Prop :=
  Br (d_0.isNone) (K 0 w) (NilC d_0 fun a6 => Ld .sl (a6.add 1) w fun x8 => K (x8.n : Int) w)
theorem dfa_Dfa_States.ok (d_0 : Option Addr) (K : Int → World → Prop) (w : World) (h : dfa_Dfa_States.M d_0 K w) : dfa_Dfa_States.C d_0 w K :=
  calls_of_sem (P := P) (H := [(8, .one .sl)]) (ann := .z) (args := [.pointer d_0]) (rt := .one (.int .i64)) P_mixed rfl rfl (by kernel_rfl) (by kernel_rfl)
    ((show _ = dfa_Dfa_States.M d_0 K w by kernel_rfl).mpr h)

/-- (*frisket/dfa.Dfa).Accept -/
def dfa_Dfa_Accept.M (d_0 : Option Addr) (n_1 : Int) (K : Int → World → Prop) (w : World) : Prop :=
  dfa_Dfa_has.C d_0 n_1 w fun x7 w1 => Br (!x7) (K (-1) w1) (NilC d_0 fun a10 => Ld .sl (a10.add 1) w1 fun x12 => IdxS x12 n_1 258 fun p14 => Ld (.int .i64) (p14.add 257) w1 fun x16 => K x16 w1)
theorem dfa_Dfa_Accept.ok (d_0 : Option Addr) (n_1 : Int) (K : Int → World → Prop) (w : World) (h : dfa_Dfa_Accept.M d_0 n_1 K w) : dfa_Dfa_Accept.C d_0 n_1 w K :=
  calls_of_sem (P := P) (H := [(7, .one .bool), (12, .one .sl), (16, .one (.int .i64))]) (ann := .z) (args := [.pointer d_0, .int .i64 n_1]) (rt := .one (.int .i64)) P_mixed rfl rfl (by kernel_rfl) (by kernel_rfl)
    ((show _ = dfa_Dfa_Accept.M d_0 n_1 K w by kernel_rfl).mpr h)

/-- (*frisket/dfa.Dfa).Next -/
def dfa_Dfa_Next.M (d_0 : Option Addr) (n_1 : Int) (b_2 : Int) (K : (Int × Bool) → World → Prop) (w : World) : Prop :=
  Join (fun (s1 : Bool) w1 => Br s1 (K (0, false) w1) (NilC d_0 fun a26 => Ld .sl (a26.add 1) w1 fun x28 => IdxS x28 n_1 258 fun p31 => IdxA 256 (p31.add 1) b_2 1 fun p33 => Ld (.int .i64) p33 w1 fun x34 => K (x34, true) w1)) fun j2 => dfa_Dfa_has.C d_0 n_1 w fun x10 w2 => Br (!x10) (j2 true w2) (NilC d_0 fun a14 => Ld .sl (a14.add 1) w2 fun x16 => IdxS x16 n_1 258 fun p19 => IdxA 256 (p19.add 1) b_2 1 fun p21 => Ld (.int .i64) p21 w2 fun x22 => j2 (x22 == (-1 : Int)) w2)
theorem dfa_Dfa_Next.ok (d_0 : Option Addr) (n_1 : Int) (b_2 : Int) (K : (Int × Bool) → World → Prop) (w : World) (h : dfa_Dfa_Next.M d_0 n_1 b_2 K w) : dfa_Dfa_Next.C d_0 n_1 b_2 w K :=
  calls_of_sem (P := P) (H := [(10, .one .bool), (16, .one .sl), (22, .one (.int .i64)), (28, .one .sl), (34, .one (.int .i64))]) (ann := (.n .z (.n (.j [(24, .one .bool)] [0, 1, 2] .z .z) .z))) (args := [.pointer d_0, .int .i64 n_1, .int .u8 b_2]) (rt := .tup [.one (.int .i64), .one .bool]) P_mixed rfl rfl (by kernel_rfl) (by kernel_rfl)
    ((show _ = dfa_Dfa_Next.M d_0 n_1 b_2 K w by kernel_rfl).mpr h)

/-- frisket/dfa.behind -/
def dfa_behind.M (m_0 : Option Addr) (at_1 : Sl) (K : Sl → World → Prop) (w : World) : Prop :=
  Join (fun (s1 : Sl) w1 => Loop (fun (s2 : Sl × Int) w2 again3 => Br (decide (s2.2 < (at_1.n : Int))) (IdxS at_1 s2.2 1 fun p26 => Ld (.int .i64) p26 w2 fun x27 => nfa_Machine_Follow.C m_0 x27 w2 fun x31 w3 => App P (Builtin.append_ #[T.sl_int, T.sl_int] T.sl_int #[.slice s2.1.a s2.1.n s2.1.c, .slice x31.a x31.n x31.c]) (.one .sl) w3 fun x32 w4 => again3 (x32, (w64 (s2.2 + (1 : Int)))) w4) (slices_Sort.C s2.1 w2 fun x35 w5 => slices_Compact_int.C s2.1 w5 fun x37 w6 => K x37 w6)) (s1, 0) w1) fun j4 => Br (at_1.a.isNone) (nfa_Machine_Rules.C m_0 w fun x12 w7 => Loop (fun (s5 : Sl × Int) w8 again6 => Br (decide (s5.2 < x12)) (nfa_Machine_First.C m_0 s5.2 w8 fun x19 w9 => App P (Builtin.append_ #[T.sl_int, T.sl_int] T.sl_int #[.slice s5.1.a s5.1.n s5.1.c, .slice x19.a x19.n x19.c]) (.one .sl) w9 fun x20 w10 => again6 (x20, (w64 (s5.2 + (1 : Int)))) w10) (j4 s5.1 w8)) (⟨none, 0, 0⟩, 0) w7) (j4 (⟨none, 0, 0⟩) w)
theorem dfa_behind.ok (m_0 : Option Addr) (at_1 : Sl) (K : Sl → World → Prop) (w : World) (h : dfa_behind.M m_0 at_1 K w) : dfa_behind.C m_0 at_1 w K :=
  calls_of_sem (P := P) (H := [(12, .one (.int .i64)), (19, .one .sl), (27, .one (.int .i64)), (31, .one .sl), (35, .tup []), (37, .one .sl)]) (ann := (.n .z (.n .z (.j [(5, .one .sl)] [0, 1] (.n .z (.n (.n .z (.l [(5, .one .sl), (13, .one (.int .i64))] [0, 1, 12] .z)) .z)) (.n (.n .z (.l [(5, .one .sl), (24, .one (.int .i64))] [0, 22, 23] .z)) .z))))) (args := [.pointer m_0, .slice at_1.a at_1.n at_1.c]) (rt := .one .sl) P_mixed rfl rfl (by kernel_rfl) (by kernel_rfl)
    ((show _ = dfa_behind.M m_0 at_1 K w by kernel_rfl).mpr h)

/-- (*frisket/dfa.build).place -/
def dfa_build_place.M (b_0 : Option Addr) (at_1 : Sl) (K : Int → World → Prop) (w : World) : Prop :=
  Br ((at_1.n : Int) == (0 : Int)) (K (-1) w) (dfa_text.C at_1 w fun x12 w1 => NilC b_0 fun a15 => Ld .map (a15.add 1) w1 fun x17 => App P (Instr.lookup T.map_string_int (.map x17) (.string x12) true) (.tup [.one (.int .i64), .one .bool]) w1 fun x19 w2 => Br (!x19.2) (NilC b_0 fun a25 => Ld .ptr a25 w2 fun x27 => NilC x27 fun a28 => Ld .sl (a28.add 1) w2 fun x30 => NilC b_0 fun a33 => Ld .map (a33.add 1) w2 fun x35 => App0 P (Instr.mapUpdate T.map_string_int (.map x35) (.string x12) (.int .i64 (x30.n : Int))) w2 fun w3 => Draw w3 fun S1 w4 => NilC b_0 fun a39 => LdS S1 .ptr a39 fun x41 => NilC b_0 fun a43 => LdS S1 .ptr a43 fun x45 => NilC x45 fun a46 => NilC b_0 fun a51 => LdS S1 .ptr a51 fun x53 => NilC x53 fun a54 => LdS S1 .ptr a54 fun x56 => (Ld .sl (a46.add 1) w4 fun x48 => (S1 w4 ∧ dfa_accept.C x56 at_1 w4 fun x58 w5 => (S1 w5 ∧ AppS P S1 (Instr.build T.dfa_state #[(0, .slice at_1.a at_1.n at_1.c), (2, .int .i64 x58)]) .big fun x59 => App P (Instr.buildSlice T.sl_dfa_state 1 #[(0, .agg x59)]) (.one .sl) w5 fun x60 w6 => (S1 w6 ∧ App P (Builtin.append_ #[T.sl_dfa_state, T.sl_dfa_state] T.sl_dfa_state #[.slice x48.a x48.n x48.c, .slice x60.a x60.n x60.c]) (.one .sl) w6 fun x61 w7 => (S1 w7 ∧ NilC x41 fun a62 => St (a62.add 1) (.slice x61.a x61.n x61.c) w7 fun w8 => (S1 w8 ∧ K (x30.n : Int) w8)))))) ∧ (dfa_accept.C x56 at_1 w4 fun x58 w9 => (S1 w9 ∧ AppS P S1 (Instr.build T.dfa_state #[(0, .slice at_1.a at_1.n at_1.c), (2, .int .i64 x58)]) .big fun x59 => (Ld .sl (a46.add 1) w9 fun x48 => (S1 w9 ∧ App P (Instr.buildSlice T.sl_dfa_state 1 #[(0, .agg x59)]) (.one .sl) w9 fun x60 w10 => (S1 w10 ∧ App P (Builtin.append_ #[T.sl_dfa_state, T.sl_dfa_state] T.sl_dfa_state #[.slice x48.a x48.n x48.c, .slice x60.a x60.n x60.c]) (.one .sl) w10 fun x61 w11 => (S1 w11 ∧ NilC x41 fun a62 => St (a62.add 1) (.slice x61.a x61.n x61.c) w11 fun w12 => (S1 w12 ∧ K (x30.n : Int) w12))))) ∧ (App P (Instr.buildSlice T.sl_dfa_state 1 #[(0, .agg x59)]) (.one .sl) w9 fun x60 w13 => (S1 w13 ∧ Ld .sl (a46.add 1) w13 fun x48 => (S1 w13 ∧ App P (Builtin.append_ #[T.sl_dfa_state, T.sl_dfa_state] T.sl_dfa_state #[.slice x48.a x48.n x48.c, .slice x60.a x60.n x60.c]) (.one .sl) w13 fun x61 w14 => (S1 w14 ∧ NilC x41 fun a62 => St (a62.add 1) (.slice x61.a x61.n x61.c) w14 fun w15 => (S1 w15 ∧ K (x30.n : Int) w15)))))))) (K x19.1 w2))
theorem dfa_build_place.ok (b_0 : Option Addr) (at_1 : Sl) (K : Int → World → Prop) (w : World) (h : dfa_build_place.M b_0 at_1 K w) : dfa_build_place.C b_0 at_1 w K :=
  calls_of_sem (P := P) (H := [(12, .one .str), (17, .one .map), (19, .tup [.one (.int .i64), .one .bool]), (27, .one .ptr), (30, .one .sl), (35, .one .map), (41, .one .ptr), (45, .one .ptr), (48, .one .sl), (53, .one .ptr), (56, .one .ptr), (58, .one (.int .i64)), (59, .big), (60, .one .sl)]) (ann := (.n .z (.n .z (.n .z (.n .z (.n (.n .z (.n (.n .z (.n .z (.e [10]))) .z)) .z)))))) (args := [.pointer b_0, .slice at_1.a at_1.n at_1.c]) (rt := .one (.int .i64)) P_mixed rfl rfl (by kernel_rfl) (by kernel_rfl)
    ((show _ = dfa_build_place.M b_0 at_1 K w by kernel_rfl).mpr h)

/-- frisket/dfa.text -/
def dfa_text.M (l_0 : Sl) (K : ByteArray → World → Prop) (w : World) : Prop :=
  App P (Instr.makeSlice T.sl_uint8 (.int .i64 0) (.int .i64 (w64 ((2 : Int) * (l_0.n : Int))))) (.one .sl) w fun x9 w1 => Loop (fun (s1 : Sl × Int) w2 again2 => Br (decide (s1.2 < (l_0.n : Int))) (IdxS l_0 s1.2 1 fun p14 => Ld (.int .i64) p14 w2 fun x15 => Need (0 ≤ (8 : Int)) (Al (.cells #[.int .u8 (IntKind.wrap .u8 (x15)), .int .u8 (IntKind.wrap .u8 ((Int.fdiv x15 (2 ^ min (Int.toNat (8 : Int)) (IntKind.bits .i64)))))] T.uint8 (0, 0)) w2 fun b3 w3 => App P (Builtin.append_ #[T.sl_uint8, T.sl_uint8] T.sl_uint8 #[.slice s1.1.a s1.1.n s1.1.c, .slice (some ⟨b3, 0, none⟩) 2 2]) (.one .sl) w3 fun x23 w4 => again2 (x23, (w64 (s1.2 + (1 : Int)))) w4)) (App P (convert T.sl_uint8 T.string (.slice s1.1.a s1.1.n s1.1.c)) (.one .str) w2 fun x26 w5 => K x26 w5)) (x9, 0) w1
theorem dfa_text.ok (l_0 : Sl) (K : ByteArray → World → Prop) (w : World) (h : dfa_text.M l_0 K w) : dfa_text.C l_0 w K :=
  calls_of_sem (P := P) (H := [(9, .one .sl), (15, .one (.int .i64)), (26, .one .str)]) (ann := (.n .z (.n .z (.n (.n .z (.l [(3, .one .sl), (12, .one (.int .i64))] [10, 11] .z)) .z)))) (args := [.slice l_0.a l_0.n l_0.c]) (rt := .one .str) P_mixed rfl rfl (by kernel_rfl) (by kernel_rfl)
    ((show _ = dfa_text.M l_0 K w by kernel_rfl).mpr h)

/-- (*frisket/dfa.Dfa).has -/
def dfa_Dfa_has.M (d_0 : Option Addr) (n_1 : Int) (K : Bool → World → Prop) (w : World) : Prop :=
  Br (decide ((0 : Int) ≤ n_1)) (dfa_Dfa_States.C d_0 w fun x10 w1 => K (decide (n_1 < x10)) w1) (K false w)
theorem dfa_Dfa_has.ok (d_0 : Option Addr) (n_1 : Int) (K : Bool → World → Prop) (w : World) (h : dfa_Dfa_has.M d_0 n_1 K w) : dfa_Dfa_has.C d_0 n_1 w K :=
  calls_of_sem (P := P) (H := [(10, .one (.int .i64))]) (ann := .z) (args := [.pointer d_0, .int .i64 n_1]) (rt := .one .bool) P_mixed rfl rfl (by kernel_rfl) (by kernel_rfl)
    ((show _ = dfa_Dfa_has.M d_0 n_1 K w by kernel_rfl).mpr h)

/-- frisket/dfa.accept -/
def dfa_accept.M (m_0 : Option Addr) (at_1 : Sl) (K : Int → World → Prop) (w : World) : Prop :=
  Loop (fun (s1 : Int × Int) w1 again2 => Br (decide (s1.2 < (at_1.n : Int))) (IdxS at_1 s1.2 1 fun p13 => Ld (.int .i64) p13 w1 fun x14 => nfa_Machine_Rule.C m_0 x14 w1 fun x17 w2 => Join (fun (s3 : Bool) w3 => Br s3 (again2 (x17, (w64 (s1.2 + (1 : Int)))) w3) (again2 (s1.1, (w64 (s1.2 + (1 : Int)))) w3)) fun j4 => Br (s1.1 == (-1 : Int)) (nfa_Machine_Last.C m_0 x17 w2 fun x28 w4 => slices_Contains_int.C x28 x14 w4 fun x30 w5 => j4 x30 w5) (Br (decide (x17 < s1.1)) (nfa_Machine_Last.C m_0 x17 w2 fun x28 w6 => slices_Contains_int.C x28 x14 w6 fun x30 w7 => j4 x30 w7) (j4 false w2))) (K s1.1 w1)) ((-1), 0) w
theorem dfa_accept.ok (m_0 : Option Addr) (at_1 : Sl) (K : Int → World → Prop) (w : World) (h : dfa_accept.M m_0 at_1 K w) : dfa_accept.C m_0 at_1 w K :=
  calls_of_sem (P := P) (H := [(14, .one (.int .i64)), (17, .one (.int .i64)), (28, .one .sl), (30, .one .bool)]) (ann := (.n .z (.n .z (.n (.n .z (.l [(5, .one (.int .i64)), (11, .one (.int .i64))] [0, 9, 10] (.n .z (.n .z (.n (.n .z (.n .z (.j [(31, .one .bool)] [0, 5, 8, 9, 10, 11] .z .z))) .z))))) .z)))) (args := [.pointer m_0, .slice at_1.a at_1.n at_1.c]) (rt := .one (.int .i64)) P_mixed rfl rfl (by kernel_rfl) (by kernel_rfl)
    ((show _ = dfa_accept.M m_0 at_1 K w by kernel_rfl).mpr h)

/-- slices.Contains[[]int,int] -/
def slices_Contains_int.M (s_0 : Sl) (v_1 : Int) (K : Bool → World → Prop) (w : World) : Prop :=
  slices_Index_int.C s_0 v_1 w fun x7 w1 => K (decide ((0 : Int) ≤ x7)) w1
theorem slices_Contains_int.ok (s_0 : Sl) (v_1 : Int) (K : Bool → World → Prop) (w : World) (h : slices_Contains_int.M s_0 v_1 K w) : slices_Contains_int.C s_0 v_1 w K :=
  calls_of_sem (P := P) (H := [(7, .one (.int .i64))]) (ann := .z) (args := [.slice s_0.a s_0.n s_0.c, .int .i64 v_1]) (rt := .one .bool) P_mixed rfl rfl (by kernel_rfl) (by kernel_rfl)
    ((show _ = slices_Contains_int.M s_0 v_1 K w by kernel_rfl).mpr h)

/-- slices.Index[[]int,int] -/
def slices_Index_int.M (s_0 : Sl) (v_1 : Int) (K : Int → World → Prop) (w : World) : Prop :=
  Loop (fun (s1 : Int) w1 again2 => Br (decide (s1 < (s_0.n : Int))) (IdxS s_0 s1 1 fun p14 => Ld (.int .i64) p14 w1 fun x15 => Br (v_1 == x15) (K s1 w1) (again2 (w64 (s1 + (1 : Int))) w1)) (K (-1) w1)) 0 w
theorem slices_Index_int.ok (s_0 : Sl) (v_1 : Int) (K : Int → World → Prop) (w : World) (h : slices_Index_int.M s_0 v_1 K w) : slices_Index_int.C s_0 v_1 w K :=
  calls_of_sem (P := P) (H := [(15, .one (.int .i64))]) (ann := (.n .z (.n (.n .z (.l [(8, .one (.int .i64))] [0, 1, 7] .z)) .z))) (args := [.slice s_0.a s_0.n s_0.c, .int .i64 v_1]) (rt := .one (.int .i64)) P_mixed rfl rfl (by kernel_rfl) (by kernel_rfl)
    ((show _ = slices_Index_int.M s_0 v_1 K w by kernel_rfl).mpr h)

end Go.Fk
end

section
set_option linter.unusedVariables false
namespace Go.Fk
open Go

/-! ## Regular expressions -/

inductive Re where
  | set (f : Nat → Bool) | empty | cat (a b : Re) | or (a b : Re) | star (a : Re)

def Word (f : Nat → Bool) (k n : Nat) : Prop := n < 2 ^ 64 ∧ ∀ i, i < 64 → n.testBit i = f (64 * k + i)
def Words (f : Nat → Bool) (n0 n1 n2 n3 : Nat) : Prop := Word f 0 n0 ∧ Word f 1 n1 ∧ Word f 2 n2 ∧ Word f 3 n3

def nobj (kind : Int) (n0 n1 n2 n3 : Nat) (l : Sl) : Obj :=
  .cells #[.int .i64 kind, .int .u64 n0, .int .u64 n1, .int .u64 n2, .int .u64 n3, .slice l.a l.n l.c] T.regex_Node (0, 0)

inductive Nd (H : View) : Option Addr → Re → Prop
  | set {b n0 n1 n2 n3 : Nat} {f : Nat → Bool} (h : H b (nobj 0 n0 n1 n2 n3 ⟨none, 0, 0⟩)) (hw : Words f n0 n1 n2 n3) : Nd H (some ⟨b, 0, none⟩) (.set f)
  | empty {b : Nat} (h : H b (nobj 1 0 0 0 0 ⟨none, 0, 0⟩)) : Nd H (some ⟨b, 0, none⟩) .empty
  | cat {b c : Nat} {p q : Option Addr} {x y : Re} (h : H b (nobj 2 0 0 0 0 ⟨some ⟨c, 0, none⟩, 2, 2⟩)) (h' : H c (.cells #[.pointer p, .pointer q] T.p_regex_Node (0, 0))) (hp : Nd H p x) (hq : Nd H q y) : Nd H (some ⟨b, 0, none⟩) (.cat x y)
  | or {b c : Nat} {p q : Option Addr} {x y : Re} (h : H b (nobj 3 0 0 0 0 ⟨some ⟨c, 0, none⟩, 2, 2⟩)) (h' : H c (.cells #[.pointer p, .pointer q] T.p_regex_Node (0, 0))) (hp : Nd H p x) (hq : Nd H q y) : Nd H (some ⟨b, 0, none⟩) (.or x y)
  | star {b c : Nat} {p : Option Addr} {x : Re} (h : H b (nobj 4 0 0 0 0 ⟨some ⟨c, 0, none⟩, 1, 1⟩)) (h' : H c (.cells #[.pointer p] T.p_regex_Node (0, 0))) (hp : Nd H p x) : Nd H (some ⟨b, 0, none⟩) (.star x)

theorem Nd.mono {H H' : View} {p : Option Addr} {x : Re} (h : Nd H p x) (hv : Vle H H') : Nd H' p x := by
  induction h with
  | set h hw => exact .set (hv _ _ h) hw
  | empty h => exact .empty (hv _ _ h)
  | cat h h' _ _ ih1 ih2 => exact .cat (hv _ _ h) (hv _ _ h') ih1 ih2
  | or h h' _ _ ih1 ih2 => exact .or (hv _ _ h) (hv _ _ h') ih1 ih2
  | star h h' _ ih => exact .star (hv _ _ h) (hv _ _ h') ih

def Re.kind : Re → Int
  | .set _ => 0 | .empty => 1 | .cat _ _ => 2 | .or _ _ => 3 | .star _ => 4
def Re.parts : Re → List Re
  | .cat a b => [a, b] | .or a b => [a, b] | .star a => [a] | _ => []
def Re.size : Re → Nat
  | .set _ => 1 | .empty => 1 | .cat a b => 1 + a.size + b.size | .or a b => 1 + a.size + b.size | .star a => 1 + a.size

theorem row1 {H : View} {c : Nat} {p : Option Addr} {E : Nat} (h : H c (.cells #[.pointer p] E (0, 0))) : SlT .ptr H ⟨some ⟨c, 0, none⟩, 1, 1⟩ [p] :=
  ⟨rfl, .inr ⟨c, 0, _, _, _, rfl, h, fun i x hx => by
    rcases i with _ | i
    · simp at hx; subst hx; rfl
    · simp at hx⟩⟩
theorem row2 {H : View} {c : Nat} {p q : Option Addr} {E : Nat} (h : H c (.cells #[.pointer p, .pointer q] E (0, 0))) : SlT .ptr H ⟨some ⟨c, 0, none⟩, 2, 2⟩ [p, q] :=
  ⟨rfl, .inr ⟨c, 0, _, _, _, rfl, h, fun i x hx => by
    rcases i with _ | _ | i
    · simp at hx; subst hx; rfl
    · simp at hx; subst hx; rfl
    · simp at hx⟩⟩

/-- What is known of a node at large. -/
theorem Nd.out {H : View} {p : Option Addr} {x : Re} (h : Nd H p x) : ∃ b n0 n1 n2 n3 l ps, p = some ⟨b, 0, none⟩ ∧ H b (nobj x.kind n0 n1 n2 n3 l) ∧ SlT .ptr H l ps ∧ All2 (Nd H) ps x.parts := by
  cases h with
  | set h hw => exact ⟨_, _, _, _, _, _, [], rfl, h, SlT.nil, .nil⟩
  | empty h => exact ⟨_, 0, 0, 0, 0, _, [], rfl, h, SlT.nil, .nil⟩
  | cat h h' hp hq => exact ⟨_, 0, 0, 0, 0, _, [_, _], rfl, h, row2 h', .cons hp (.cons hq .nil)⟩
  | or h h' hp hq => exact ⟨_, 0, 0, 0, 0, _, [_, _], rfl, h, row2 h', .cons hp (.cons hq .nil)⟩
  | star h h' hp => exact ⟨_, 0, 0, 0, 0, _, [_], rfl, h, row1 h', .cons hp .nil⟩

theorem Re.size_parts (x : Re) : x.size = 1 + (x.parts.map Re.size).sum := by cases x <;> simp [Re.size, Re.parts] <;> omega

/-- Blocks that are there. -/
def Old (M : Nat → Prop) (w : World) : Prop := ∀ b, M b → b < w.heap.size
theorem Old.keeps {M N : Nat → Prop} {w w' : World} (h : Old M w) (hk : Keeps N w w') : Old M w' := fun b hb => Nat.lt_of_lt_of_le (h b hb) hk.size

theorem regex_Kind_spec {M : Nat → Prop} {w : World} {p : Option Addr} {x : Re} {K : Int → World → Prop} (h : Nd (V M w) p x) (hk : K x.kind w) : regex_Kind.C p w K := by
  obtain ⟨b, n0, n1, n2, n3, l, ps, rfl, hb, -⟩ := h.out
  refine regex_Kind.ok _ _ _ ?_
  unfold regex_Kind.M
  exact Ld.int (cell_of hb.2 rfl) hk

theorem size_pos (x : Re) : 1 ≤ x.size := by rw [Re.size_parts]; omega

theorem sum_take_succ (l : List Nat) (i : Nat) (x : Nat) (h : l[i]? = some x) : (l.take (i + 1)).sum = (l.take i).sum + x := by
  rw [List.take_add_one, h]; simp
theorem sum_take_le (l : List Nat) (i : Nat) : (l.take i).sum ≤ l.sum := by
  have h := congrArg List.sum (List.take_append_drop i l)
  rw [List.sum_append] at h; omega

theorem regex_Size_spec : ∀ (n : Nat) (x : Re), x.size ≤ n → ∀ {M : Nat → Prop} {w : World} {p : Option Addr} {K : Int → World → Prop} (hs : x.size < 1000000000000) (h : Nd (V M w) p x) (hk : ∀ w', Keeps No w w' → K x.size w'), regex_Size.C p w K := by
  intro n
  induction n with
  | zero => intro x hx; have := size_pos x; omega
  | succ n ih =>
    intro x hx M w p K hs h hk
    obtain ⟨b, n0, n1, n2, n3, l, ps, rfl, hb, hl, ha⟩ := h.out
    have hsz := Re.size_parts x
    have hp2 : x.parts.length ≤ 2 := by cases x <;> simp [Re.parts]
    refine regex_Size.ok _ _ _ ?_
    unfold regex_Size.M
    refine Ld.sl (cell_of hb.2 rfl) ?_
    have hlen := hl.1; have hal := ha.length
    refine Loop.mk (fun s w' => Keeps No w w' ∧ ∃ k : Nat, k ≤ ps.length ∧ s = (((1 + ((x.parts.map Re.size).take k).sum : Nat) : Int), (k : Int))) (fun s => (ps.length : Nat) - s.2.toNat) ⟨Keeps.refl, 0, by omega, by simp⟩ ?_
    rintro s w1 ⟨hk1, k, hkl, rfl⟩ R hR
    refine Br.mk (fun ht => ?_) (fun hf => ?_)
    · have ht : k < ps.length := by simpa [hlen] using ht
      refine IdxS.get (M := M) (hl.mono (V.keeps0 hk1)) (by simp) (by simp; omega) fun q hq => ?_
      simp at hq
      obtain ⟨y, hy, hN⟩ := ha.get _ _ hq
      have hy' : (x.parts.map Re.size)[k]? = some y.size := by simp [hy]
      have h2 := sum_take_succ _ _ _ hy'
      have h3 := sum_take_le (x.parts.map Re.size) (k + 1)
      refine ih y (by omega) (by omega) (hN.mono (V.keeps0 hk1)) fun w2 hk2 => ?_
      refine hR _ _ ⟨hk1.trans hk2, k + 1, by omega, ?_⟩ ?_
      · rw [w64_eq (by simp; omega), w64_eq (by simp; omega), h2]
        simp; omega
      · dsimp only; rw [w64_eq (by omega)]; omega
    · have hf : ps.length ≤ k := by simpa [hlen] using hf
      have : k = x.parts.length := by omega
      subst this
      have := hk w1 hk1
      rw [hsz] at this
      simpa [List.take_of_length_le] using this

theorem regex_Set_spec {w : World} {f : Nat → Bool} {n0 n1 n2 n3 : Nat} {K : Option Addr → World → Prop} (hw : Words f n0 n1 n2 n3)
    (hk : ∀ p w', Keeps No w w' → (∀ M : Nat → Prop, Old M w → Nd (V M w') p (.set f)) → K p w') : regex_Set.C (n0, n1, n2, n3) w K := by
  refine regex_Set.ok _ _ _ ?_
  unfold regex_Set.M
  refine Al.mk fun b1 w1 h1 => ?_
  refine Ld.int (cell_of h1.at_ rfl) (Ld.int (cell_of h1.at_ rfl) (Ld.int (cell_of h1.at_ rfl) (Ld.int (cell_of h1.at_ rfl) ?_)))
  refine Al.mk fun b2 w2 h2 => ?_
  refine hk _ _ (h1.keeps.trans h2.keeps) fun M hM => ?_
  refine .set (n0 := n0) (n1 := n1) (n2 := n2) (n3 := n3) ⟨fun hm => ?_, h2.at_⟩ hw
  have := hM _ hm; have := h1.size; have := h2.eq; omega

theorem regex_Empty_spec {w : World} {K : Option Addr → World → Prop}
    (hk : ∀ p w', Keeps No w w' → (∀ M : Nat → Prop, Old M w → Nd (V M w') p .empty) → K p w') : regex_Empty.C w K := by
  refine regex_Empty.ok _ _ ?_
  unfold regex_Empty.M
  refine Al.mk fun b1 w1 h1 => ?_
  exact hk _ _ h1.keeps fun M hM => .empty ⟨fun hm => by have := hM _ hm; have := h1.eq; omega, h1.at_⟩

/-- What 'two' makes of several. -/
def twoOf (f : Re → Re → Re) (none : Re) : List Re → Re
  | [] => none
  | [a] => a
  | a :: b :: l => f a (twoOf f none (b :: l))

theorem twoOf_cons (f : Re → Re → Re) (none a : Re) {l : List Re} (h : l ≠ []) : twoOf f none (a :: l) = f a (twoOf f none l) := by
  cases l with
  | nil => exact absurd rfl h
  | cons b l => rfl

theorem regex_two_spec {kind : Int} {f : Re → Re → Re} {M : Nat → Prop} {w : World} {none : Option Addr} {nx : Re} {l : Sl} {ps : List (Option Addr)} {xs : List Re} {K : Option Addr → World → Prop}
    (hkf : (kind = 2 ∧ f = .cat) ∨ (kind = 3 ∧ f = .or)) (hM : Old M w) (hl : SlT .ptr (V M w) l ps) (ha : All2 (Nd (V M w)) ps xs) (hn : Nd (V M w) none nx) (hlen : ps.length < 1000000000)
    (hk : ∀ p w', Keeps No w w' → Nd (V M w') p (twoOf f nx xs) → K p w') : regex_two.C kind none l w K := by
  refine regex_two.ok _ _ _ _ _ ?_
  unfold regex_two.M
  have hln := hl.1; have hal := ha.length
  refine Loop.mk (fun s w' => w' = w ∧ 0 ≤ s ∧ s ≤ ps.length) (fun s => (ps.length : Nat) - s.toNat) ⟨rfl, by omega, by omega⟩ ?_
  rintro s w1 ⟨rfl, h0, h1⟩ R hR
  refine Br.mk (fun ht => ?_) (fun hf => ?_)
  · have ht : s < ps.length := by simpa [hln] using ht
    refine IdxS.get (M := M) hl h0 ht fun q hq => ?_
    obtain ⟨y, hy, hN⟩ := ha.get _ _ hq
    obtain ⟨b, _, _, _, _, _, _, rfl, -⟩ := hN.out
    refine hR _ _ ⟨rfl, ?_, ?_⟩ ?_ <;> rw [w64_eq (by omega)] <;> omega
  · refine Br.mk (fun ht => ?_) (fun hf => ?_)
    · have : ps.length = 0 := by simpa [hln] using ht
      have hx : xs = [] := List.eq_nil_of_length_eq_zero (by omega)
      subst hx
      exact hk _ _ Keeps.refl hn
    · have hpos : 0 < ps.length := by
        have : ¬ ps.length = 0 := by simpa [hln] using hf
        omega
      rw [w64_eq (by omega), w64_eq (by omega)]
      refine IdxS.get (M := M) hl (by omega) (by omega) fun q hq => ?_
      obtain ⟨y, hy, hN⟩ := ha.get _ _ hq
      refine Loop.mk (fun s w' => Keeps No w1 w' ∧ ∃ k : Nat, k < ps.length ∧ s.2 = (k : Int) - 1 ∧ Nd (V M w') s.1 (twoOf f nx (xs.drop k))) (fun s => (s.2 + 1).toNat) ?_ ?_
      · refine ⟨Keeps.refl, ps.length - 1, by omega, by simp only []; omega, ?_⟩
        have e : ((l.n : Int) - 1).toNat = ps.length - 1 := by omega
        rw [e] at hy
        have h2 : xs.drop (ps.length - 1) = [y] := by
          rw [List.drop_eq_getElem_cons (by omega), List.drop_of_length_le (by omega)]
          rw [List.getElem?_eq_getElem (by omega)] at hy
          simpa using hy
        rw [h2]; exact hN
      · rintro ⟨o, i⟩ w2 ⟨hk2, k, hkl, hi, hNo⟩ R hR
        simp only [] at hi hNo ⊢
        refine Br.mk (fun ht => ?_) (fun hf2 => ?_)
        · have ht : 0 ≤ i := by simpa using ht
          refine IdxS.get (M := M) (hl.mono (V.keeps0 hk2)) (by omega) (by omega) fun q hq => ?_
          obtain ⟨y, hy, hN⟩ := ha.get _ _ hq
          refine Al.mk fun b1 w3 h3 => Al.mk fun b2 w4 h4 => ?_
          have hk4 := hk2.trans (h3.keeps.trans h4.keeps)
          have e : i.toNat = k - 1 := by omega
          rw [e] at hy
          have hd : xs.drop (k - 1) = y :: xs.drop k := by
            have hy2 := hy
            rw [List.getElem?_eq_getElem (by omega)] at hy2
            rw [List.drop_eq_getElem_cons (by omega), show k - 1 + 1 = k from by omega]
            simp at hy2; rw [hy2]
          have hne : xs.drop k ≠ [] := by
            intro h; have := congrArg List.length h; simp at this; omega
          have hs3 := h3.size; have hs4 := h4.size; have he3 := h3.eq; have he4 := h4.eq; have hs2 := hk2.size
          have hb2 : V M w4 b2 (nobj kind 0 0 0 0 ⟨some ⟨b1, 0, Option.none⟩, 2, 2⟩) := ⟨fun hm => by have := hM _ hm; omega, h4.at_⟩
          have hb1 : V M w4 b1 (.cells #[.pointer q, .pointer o] T.p_regex_Node (0, 0)) := ⟨fun hm => by have := hM _ hm; omega, h4.keeps.blk0 h3.at_⟩
          have hNq := hN.mono (V.keeps0 hk4)
          have hNo' := hNo.mono (V.keeps0 (h3.keeps.trans h4.keeps))
          refine hR _ _ ⟨hk4, k - 1, by omega, ?_, ?_⟩ ?_
          · simp only []; rw [w64_eq (by omega)]; omega
          · simp only []
            rw [hd, twoOf_cons _ _ _ hne]
            rcases hkf with ⟨rfl, rfl⟩ | ⟨rfl, rfl⟩
            · exact .cat hb2 hb1 hNq hNo'
            · exact .or hb2 hb1 hNq hNo'
          · simp only []; rw [w64_eq (by omega)]; omega
        · have : k = 0 := by simp at hf2; omega
          subst this
          exact hk _ _ hk2 (by simpa using hNo)

end Go.Fk
end

section
set_option linter.unusedVariables false
namespace Go.Fk

/-! ## Positions, as they are by definition -/

def Re.cnt : Re → Nat
  | .set _ => 1 | .empty => 0 | .cat a b => a.cnt + b.cnt | .or a b => a.cnt + b.cnt | .star a => a.cnt
def Re.emp : Re → Bool
  | .set _ => false | .empty => true | .cat a b => a.emp && b.emp | .or a b => a.emp || b.emp | .star _ => true
def Re.first : Re → Int → Int → Prop
  | .set _, n, p => p = n
  | .empty, _, _ => False
  | .cat a b, n, p => a.first n p ∨ (a.emp = true ∧ b.first (n + a.cnt) p)
  | .or a b, n, p => a.first n p ∨ b.first (n + a.cnt) p
  | .star a, n, p => a.first n p
def Re.last : Re → Int → Int → Prop
  | .set _, n, p => p = n
  | .empty, _, _ => False
  | .cat a b, n, p => b.last (n + a.cnt) p ∨ (b.emp = true ∧ a.last n p)
  | .or a b, n, p => a.last n p ∨ b.last (n + a.cnt) p
  | .star a, n, p => a.last n p
def Re.fol : Re → Int → Int → Int → Prop
  | .set _, _, _, _ => False
  | .empty, _, _, _ => False
  | .cat a b, n, p, q => (a.fol n p q ∨ b.fol (n + a.cnt) p q) ∨ (a.last n p ∧ b.first (n + a.cnt) q)
  | .or a b, n, p, q => a.fol n p q ∨ b.fol (n + a.cnt) p q
  | .star a, n, p, q => a.fol n p q ∨ (a.last n p ∧ a.first n q)
def Re.poss : Re → List (Nat → Bool)
  | .set f => [f] | .empty => [] | .cat a b => a.poss ++ b.poss | .or a b => a.poss ++ b.poss | .star a => a.poss

theorem Re.poss_len (x : Re) : x.poss.length = x.cnt := by
  induction x <;> simp [Re.poss, Re.cnt, *]

theorem Re.first_in {x : Re} {n p : Int} (h : x.first n p) : n ≤ p ∧ p < n + x.cnt := by
  induction x generalizing n with
  | set f => simp [Re.first, Re.cnt] at *; omega
  | empty => exact h.elim
  | cat a b iha ihb =>
    simp only [Re.cnt]
    rcases h with h | ⟨_, h⟩
    · have := iha h; omega
    · have := ihb h; omega
  | or a b iha ihb =>
    simp only [Re.cnt]
    rcases h with h | h
    · have := iha h; omega
    · have := ihb h; omega
  | star a ih => exact ih h
theorem Re.last_in {x : Re} {n p : Int} (h : x.last n p) : n ≤ p ∧ p < n + x.cnt := by
  induction x generalizing n with
  | set f => simp [Re.last, Re.cnt] at *; omega
  | empty => exact h.elim
  | cat a b iha ihb =>
    simp only [Re.cnt]
    rcases h with h | ⟨_, h⟩
    · have := ihb h; omega
    · have := iha h; omega
  | or a b iha ihb =>
    simp only [Re.cnt]
    rcases h with h | h
    · have := iha h; omega
    · have := ihb h; omega
  | star a ih => exact ih h
theorem Re.fol_in {x : Re} {n p q : Int} (h : x.fol n p q) : (n ≤ p ∧ p < n + x.cnt) ∧ n ≤ q ∧ q < n + x.cnt := by
  induction x generalizing n with
  | set f => exact h.elim
  | empty => exact h.elim
  | cat a b iha ihb =>
    simp only [Re.cnt]
    rcases h with (h | h) | ⟨h1, h2⟩
    · have := iha h; omega
    · have := ihb h; omega
    · have := a.last_in h1; have := b.first_in h2; omega
  | or a b iha ihb =>
    simp only [Re.cnt]
    rcases h with h | h
    · have := iha h; omega
    · have := ihb h; omega
  | star a ih =>
    simp only [Re.cnt]
    rcases h with h | ⟨h1, h2⟩
    · exact ih h
    · have := a.last_in h1; have := a.first_in h2; omega
theorem Re.cnt_size (x : Re) : x.cnt ≤ x.size := by
  induction x <;> simp only [Re.cnt, Re.size] <;> omega

end Go.Fk
end

section
set_option linter.unusedVariables false
namespace Go.Fk
open Go Go.MapKept Go.Maps
open Go.ChangeMaps (setBlock)

/-! ## Maps -/

theorem Ty.enc_inj {t : Ty} {x y : t.T} (h : t.enc x = t.enc y) : x = y := by
  cases t <;> simp only [Ty.enc] at h
  case int => cases h; rfl
  case bool => cases h; rfl
  case str => cases h; rfl
  case ptr => cases h; rfl
  case addr => cases h; rfl
  case sl =>
    cases x; cases y; cases h; rfl
  case map => cases h; rfl
  case raw => exact h

/-- What is known of a map's type. -/
structure MapTy (P : Program) (T kT vT : TypeId) (kt vt : Ty) : Prop where
  ty : P.underlying T = some (.map kT vT)
  keyed : Keyed P kT

/-- The keys that may be. -/
def OkKey (P : Program) (kT : TypeId) (v : Value) : Prop := ∃ l, keyOf P kT v = some l

/-- The block is a map that relates keys to values. -/
def MapAt (P : Program) (kT : TypeId) (kt vt : Ty) (H : View) (m : Nat) (R : kt.T → vt.T → Prop) : Prop :=
  ∃ es clock, H m (.map es clock) ∧ Stamped es clock ∧ (∀ e ∈ es.toList, OkKey P kT e.key ∧ ∃ x y, e.key = kt.enc x ∧ e.val = vt.enc y ∧ R x y) ∧
    ∀ x y, R x y → ∃ e ∈ es.toList, e.key = kt.enc x ∧ e.val = vt.enc y

/-- A map that may be nil. -/
def MapO (P : Program) (kT : TypeId) (kt vt : Ty) (H : View) : Option Nat → (kt.T → vt.T → Prop) → Prop
  | none, R => ∀ x y, ¬ R x y
  | some m, R => MapAt P kT kt vt H m R

section
variable {P : Program} {T kT vT : TypeId} {kt vt : Ty} {H H' : View} {m : Nat} {R R' : kt.T → vt.T → Prop}

theorem MapAt.mono (h : MapAt P kT kt vt H m R) (hv : Vle H H') : MapAt P kT kt vt H' m R := by
  obtain ⟨es, clock, h1, h2⟩ := h
  exact ⟨es, clock, hv _ _ h1, h2⟩
theorem MapO.mono {mo : Option Nat} (h : MapO P kT kt vt H mo R) (hv : Vle H H') : MapO P kT kt vt H' mo R := by
  cases mo with
  | none => exact h
  | some m => exact MapAt.mono h hv
theorem MapAt.congr (h : MapAt P kT kt vt H m R) (hr : ∀ x y, R x y ↔ R' x y) : MapAt P kT kt vt H m R' := by
  have : R = R' := funext fun x => funext fun y => propext (hr x y)
  exact this ▸ h
theorem MapO.congr {mo : Option Nat} (h : MapO P kT kt vt H mo R) (hr : ∀ x y, R x y ↔ R' x y) : MapO P kT kt vt H mo R' := by
  have : R = R' := funext fun x => funext fun y => propext (hr x y)
  exact this ▸ h

theorem MapAt.keep {M M' N : Nat → Prop} {w w' : World} (h : MapAt P kT kt vt (V M w) m R) (hk : Keeps N w w') (hn : ¬ N m) (hM : ¬ M' m) : MapAt P kT kt vt (V M' w') m R := by
  obtain ⟨es, clock, ⟨_, h1⟩, h2⟩ := h
  exact ⟨es, clock, ⟨hM, hk.blk h1 hn⟩, h2⟩
theorem MapO.keep {M M' N : Nat → Prop} {w w' : World} {mo : Option Nat} (h : MapO P kT kt vt (V M w) mo R) (hk : Keeps N w w') (hn : ∀ m, mo = some m → ¬ N m) (hM : ∀ m, mo = some m → ¬ M' m) : MapO P kT kt vt (V M' w') mo R := by
  cases mo with
  | none => exact h
  | some m => exact MapAt.keep h hk (hn m rfl) (hM m rfl)
theorem MapAt.lt {M : Nat → Prop} {w : World} (h : MapAt P kT kt vt (V M w) m R) : m < w.heap.size := by
  obtain ⟨es, clock, ⟨_, h1⟩, h2⟩ := h
  exact lt_of_some h1
theorem MapAt.out {M : Nat → Prop} {w : World} (h : MapAt P kT kt vt (V M w) m R) : ¬ M m := by
  obtain ⟨es, clock, ⟨h0, h1⟩, h2⟩ := h
  exact h0

theorem MapAt.empty {b : Nat} (h : H b (.map #[] 0)) : MapAt P kT kt vt H b fun _ _ => False :=
  ⟨#[], 0, h, stamped_empty 0, by simp, fun _ _ h => h.elim⟩

theorem MapAt.ok (h : MapAt P kT kt vt H m R) {x : kt.T} {y : vt.T} (hr : R x y) : OkKey P kT (kt.enc x) := by
  obtain ⟨es, clock, h1, h2, h3, h4⟩ := h
  obtain ⟨e, he, h5, h6⟩ := h4 x y hr
  exact h5 ▸ (h3 e he).1

theorem key_once {es : Array MapEntry} {clock : Nat} (h : Stamped es clock) {e e' : MapEntry} (he : e ∈ es.toList) (he' : e' ∈ es.toList) (hk : e.key = e'.key) : e = e' := by
  have h2 := ((stamped_iff es clock).1 h).2.2
  obtain ⟨i, hi⟩ := List.getElem?_of_mem he
  obtain ⟨j, hj⟩ := List.getElem?_of_mem he'
  rw [List.getElem?_eq_some_iff] at hi hj
  obtain ⟨hi1, hi2⟩ := hi
  obtain ⟨hj1, hj2⟩ := hj
  rw [List.pairwise_iff_getElem] at h2
  rcases Nat.lt_trichotomy i j with h | h | h
  · exact absurd (by rw [hi2, hj2]; exact hk) (h2 i j hi1 hj1 h)
  · subst h; rw [← hi2, ← hj2]
  · exact absurd (by rw [hi2, hj2]; exact hk.symm) (h2 j i hj1 hi1 h)

theorem born_once {es : Array MapEntry} {clock : Nat} (h : Stamped es clock) {e e' : MapEntry} (he : e ∈ es.toList) (he' : e' ∈ es.toList) (hk : e.born = e'.born) : e = e' := by
  have h2 := ((stamped_iff es clock).1 h).2.1
  rw [List.Nodup, List.pairwise_map] at h2
  obtain ⟨i, hi⟩ := List.getElem?_of_mem he
  obtain ⟨j, hj⟩ := List.getElem?_of_mem he'
  rw [List.getElem?_eq_some_iff] at hi hj
  obtain ⟨hi1, hi2⟩ := hi
  obtain ⟨hj1, hj2⟩ := hj
  rw [List.pairwise_iff_getElem] at h2
  rcases Nat.lt_trichotomy i j with h | h | h
  · exact absurd (by rw [hi2, hj2]; exact hk) (h2 i j hi1 hj1 h)
  · subst h; rw [← hi2, ← hj2]
  · exact absurd (by rw [hi2, hj2]; exact hk.symm) (h2 j i hj1 hi1 h)

/-- Of one key there is one value. -/
theorem MapAt.one (h : MapAt P kT kt vt H m R) {x : kt.T} {y y' : vt.T} (h1 : R x y) (h2 : R x y') : y = y' := by
  obtain ⟨es, clock, _, hs, _, h4⟩ := h
  obtain ⟨e, he, e1, e2⟩ := h4 x y h1
  obtain ⟨e', he', e1', e2'⟩ := h4 x y' h2
  have := key_once hs he he' (e1.trans e1'.symm)
  subst this
  exact Ty.enc_inj (e2.symm.trans e2')

theorem keepsSetBlock {w : World} {b : Nat} {es : Array MapEntry} {clock : Nat} (hb : w.heap[b]? = some (.map es clock)) (o : Obj) : Upd b o w (setBlock w b o) :=
  ⟨Go.ChangeMaps.heap_setBlock_same hb o, ⟨rfl, rfl, rfl, by simp [setBlock], fun i _ hi => Go.ChangeMaps.heap_setBlock_other hb o hi⟩, by simp [setBlock]⟩

/-- 'm[k] = v'. -/
theorem App0.put (hT : MapTy P T kT vT kt vt) {w : World} {x : kt.T} {y : vt.T} {K : World → Prop} {M : Nat → Prop} (h : MapAt P kT kt vt (V M w) m R) (hk : OkKey P kT (kt.enc x))
    (hK : ∀ w', Keeps (· = m) w w' → w'.heap.size = w.heap.size → MapAt P kT kt vt (V M w') m (fun a b => (a = x ∧ b = y) ∨ (a ≠ x ∧ R a b)) → K w') :
    App0 P (Instr.mapUpdate T (.map (some m)) (kt.enc x) (vt.enc y)) w K := by
  obtain ⟨es, clock, ⟨hM, hb⟩, hs, h3, h4⟩ := h
  obtain ⟨lx, hlx⟩ := hk
  rcases hT.keyed.find w hlx es.toList (fun e he => (h3 e he).1) with ⟨h1, h2⟩ | ⟨j, e0, h1, h2, h5⟩
  · have hu := keepsSetBlock hb (.map (es.push ⟨kt.enc x, vt.enc y, clock⟩) (clock + 1))
    refine ⟨setBlock w m (.map (es.push ⟨kt.enc x, vt.enc y, clock⟩) (clock + 1)), ?_, hK _ hu.keeps hu.size ?_⟩
    · simp [Instr.mapUpdate, run_underlying hT.ty, MapKept.run_getObj_map hb, hT.keyed.check w false hlx, h1, MapKept.run_setObj_map _ hb, Result.andThen, setBlock]
    · refine ⟨_, _, ⟨hM, hu.at_⟩, stamped_push hs h2, ?_, ?_⟩
      · intro e he
        simp only [Array.toList_push, List.mem_append, List.mem_singleton] at he
        rcases he with he | rfl
        · obtain ⟨h6, x', y', h7, h8, h9⟩ := h3 e he
          exact ⟨h6, x', y', h7, h8, .inr ⟨fun e1 => h2 e he (by rw [h7, e1]), h9⟩⟩
        · exact ⟨⟨lx, hlx⟩, x, y, rfl, rfl, .inl ⟨rfl, rfl⟩⟩
      · rintro a b (⟨rfl, rfl⟩ | ⟨ha, hr⟩)
        · exact ⟨⟨kt.enc a, vt.enc b, clock⟩, by simp, rfl, rfl⟩
        · obtain ⟨e, he, h6, h7⟩ := h4 a b hr
          exact ⟨e, by simp; exact .inl (by simpa using he), h6, h7⟩
  · have hj : es[j]? = some e0 := by simpa using h2
    have hlist : (es.modify j (fun e' => { e' with key := kt.enc x, val := vt.enc y })).toList = es.toList.set j { e0 with key := kt.enc x, val := vt.enc y } := by rw [Array.toList_modify, Go.ChangeMaps.modify_eq_set _ _ _ _ h2]
    have hu := keepsSetBlock hb (.map (es.modify j (fun e' => { e' with key := kt.enc x, val := vt.enc y })) clock)
    refine ⟨setBlock w m (.map (es.modify j (fun e' => { e' with key := kt.enc x, val := vt.enc y })) clock), ?_, hK _ hu.keeps hu.size ?_⟩
    · simp [Instr.mapUpdate, run_underlying hT.ty, MapKept.run_getObj_map hb, hT.keyed.check w false hlx, h1, hj, h5, hT.keyed.stays w hlx, MapKept.run_setObj_map _ hb, Result.andThen, setBlock]
    · have he0 : e0 ∈ es.toList := List.mem_of_getElem? h2
      have hset : ∀ e, e ∈ es.toList.set j { e0 with key := kt.enc x, val := vt.enc y } ↔ e = { e0 with key := kt.enc x, val := vt.enc y } ∨ (e ∈ es.toList ∧ e.key ≠ kt.enc x) := by
        intro e
        have hjl : j < es.toList.length := (List.getElem?_eq_some_iff.1 h2).1
        constructor
        · intro he
          obtain ⟨i, hi⟩ := List.getElem?_of_mem he
          rw [List.getElem?_set] at hi
          split at hi
          · simp at hi; exact .inl hi.symm
          · rename_i hne
            refine .inr ⟨List.mem_of_getElem? hi, fun e1 => ?_⟩
            have := key_once hs (List.mem_of_getElem? hi) he0 (e1.trans h5.symm)
            subst this
            have hb2 := hs.2.1
            rw [List.Nodup, List.pairwise_map, List.pairwise_iff_getElem] at hb2
            rw [List.getElem?_eq_some_iff] at hi h2
            obtain ⟨hi1, hi2⟩ := hi
            obtain ⟨hj1, hj2⟩ := h2
            rcases Nat.lt_trichotomy i j with h | h | h
            · exact hb2 i j hi1 hj1 h (by rw [hi2, hj2])
            · exact hne h.symm
            · exact hb2 j i hj1 hi1 h (by rw [hi2, hj2])
        · rintro (rfl | ⟨he, hk⟩)
          · exact List.mem_set hjl _
          · obtain ⟨i, hi⟩ := List.getElem?_of_mem he
            refine List.mem_of_getElem? (i := i) ?_
            rw [List.getElem?_set, if_neg, hi]
            rintro rfl
            rw [h2] at hi
            cases hi
            exact hk h5
      refine ⟨_, _, ⟨hM, hu.at_⟩, stamped_modify hs _ _ (fun _ _ => rfl) (fun e' _ he' => by rw [hj] at he'; cases he'; exact h5.symm), ?_, ?_⟩
      · intro e he
        rw [hlist, hset] at he
        rcases he with rfl | ⟨he, hk⟩
        · exact ⟨⟨lx, hlx⟩, x, y, rfl, rfl, .inl ⟨rfl, rfl⟩⟩
        · obtain ⟨h6, x', y', h7, h8, h9⟩ := h3 e he
          exact ⟨h6, x', y', h7, h8, .inr ⟨fun e1 => hk (by rw [h7, e1]), h9⟩⟩
      · rw [hlist]
        rintro a b (⟨rfl, rfl⟩ | ⟨ha, hr⟩)
        · exact ⟨_, (hset _).2 (.inl rfl), rfl, rfl⟩
        · obtain ⟨e, he, h6, h7⟩ := h4 a b hr
          exact ⟨e, (hset _).2 (.inr ⟨he, fun e1 => ha (Ty.enc_inj (h6.symm.trans e1))⟩), h6, h7⟩

/-- 'm[k]'. -/
theorem App.look (hT : MapTy P T kT vT kt vt) {w : World} {M : Nat → Prop} {mo : Option Nat} {x : kt.T} {z : vt.T} {K : vt.T → World → Prop} (hz : (zeroValue vT).run P w = .ok (vt.enc z) w)
    (h : MapO P kT kt vt (V M w) mo R) (hk : OkKey P kT (kt.enc x)) (hK : ∀ y, (R x y ∨ ((∀ y', ¬ R x y') ∧ y = z)) → K y w) :
    App P (Instr.lookup T (.map mo) (kt.enc x) false) (.one vt) w K := by
  obtain ⟨lx, hlx⟩ := hk
  cases mo with
  | none =>
    refine ⟨z, w, ?_, hK z (.inr ⟨fun y' => h x y', rfl⟩)⟩
    rcases hT.keyed.find w hlx [] (by simp) with ⟨h1, _⟩ | ⟨j, e0, _, h2, _⟩
    · simp [Instr.lookup, run_underlying hT.ty, hT.keyed.check w true hlx, h1, hz, Result.andThen, RTy.enc]
    · simp at h2
  | some m =>
    obtain ⟨es, clock, ⟨_, hb⟩, hs, h3, h4⟩ := h
    rcases hT.keyed.find w hlx es.toList (fun e he => (h3 e he).1) with ⟨h1, h2⟩ | ⟨j, e0, h1, h2, h5⟩
    · refine ⟨z, w, ?_, hK z (.inr ⟨fun y' hr => ?_, rfl⟩)⟩
      · simp [Instr.lookup, run_underlying hT.ty, MapKept.run_getObj_map hb, hT.keyed.check w _ hlx, h1, hz, Result.andThen, RTy.enc]
      · obtain ⟨e, he, h6, _⟩ := h4 x y' hr
        exact h2 e he h6
    · obtain ⟨_, x', y', h7, h8, h9⟩ := h3 e0 (List.mem_of_getElem? h2)
      have hx : x' = x := Ty.enc_inj (h7.symm.trans h5)
      subst hx
      refine ⟨y', w, ?_, hK y' (.inl h9)⟩
      simp [Instr.lookup, run_underlying hT.ty, MapKept.run_getObj_map hb, hT.keyed.check w _ hlx, h1, Result.andThen, RTy.enc, h8]

/-- 'for k, v := range m', the map standing. -/
theorem range_map (hT : P.underlying T = some (.map kT vT)) {σ : Type} {w : World} {M : Nat → Prop} {mo : Option Nat} {s0 : σ} {body : σ → kt.T × vt.T → World → (σ → World → Prop) → Prop} {exit : σ → World → Prop}
    (h : MapO P kT kt vt (V M w) mo R) (I : Nat → (kt.T → Prop) → σ → World → Prop)
    (h0 : ∀ r w', r = w.heap.size → Keeps No w w' → I r (fun _ => False) s0 w')
    (hst : ∀ r d s w1 w2, r = w.heap.size → I r d s w1 → Keeps (· = r) w1 w2 → I r d s w2)
    (hbody : ∀ r d s w2 x y, r = w.heap.size → r < w2.heap.size → I r d s w2 → R x y → ¬ d x → (∀ m, mo = some m → w2.heap[m]? = w.heap[m]?) → ∀ again : σ → World → Prop,
      (∀ s' w', I r (fun q => d q ∨ q = x) s' w' → w'.heap[r]? = w2.heap[r]? → (∀ m, mo = some m → w'.heap[m]? = w2.heap[m]?) → again s' w') → body s (x, y) w2 again)
    (hexit : ∀ r d s w2, r = w.heap.size → I r d s w2 → (∀ x, d x ↔ ∃ y, R x y) → exit s w2) :
    App P (Instr.range T (.map mo)) (.one .ptr) w fun it w1 => Loop (fun (s : σ) w2 again => Join (fun (b : Bool) w3 => Br b (App P (Instr.entry (.pointer it)) (.tup [.one kt, .one vt]) w3 fun x w4 => body s x w4 again) (exit s w3)) fun j =>
      Nxt P (Instr.next (.pointer it) false 0) kt vt w2 (fun w6 => j false w6) (fun _ _ w7 => j true w7)) s0 w1 := by
  cases mo with
  | none =>
    refine ⟨some ⟨w.heap.size, 0, none⟩, w.alloc (.mapIter none 0 #[] 0), ?_, ?_⟩
    · simp [Instr.range, run_underlying hT, newObj, Result.andThen, RTy.enc, Ty.enc, Sem.run]
    · refine Al.mk (o := .mapIter none 0 #[] 0) (w := w) (k := fun b w' => b = w.heap.size → Loop _ s0 w') (fun b w' hn hb => ?_) rfl
      subst hb
      refine Loop.mk (fun s w2 => w2.heap[w.heap.size]? = some (.mapIter none 0 #[] 0) ∧ I w.heap.size (fun _ => False) s w2) (fun _ => 0) ⟨hn.at_, h0 _ _ rfl hn.keeps⟩ fun s w2 ⟨hi1, hi2⟩ again hagain => ?_
      dsimp only [Join]
      refine ⟨w2, .inl ⟨?_, ?_⟩⟩
      · simp [Instr.next, getObj, hi1, Result.andThen, Sem.run]
      · exact hexit _ _ s w2 rfl hi2 fun x => ⟨fun h => h.elim, fun ⟨y, hr⟩ => h x y hr⟩
  | some m =>
    obtain ⟨es, clock, ⟨hM, hb⟩, hs, h3, h4⟩ := h
    have hst2 := (stamped_iff es clock).1 hs
    refine ⟨some ⟨w.heap.size, 0, none⟩, w.alloc (.mapIter (some m) clock #[] clock), ?_, ?_⟩
    · simp [Instr.range, run_underlying hT, newObj, MapKept.run_getObj_map hb, Result.andThen, RTy.enc, Ty.enc, Sem.run]
    · refine Al.mk (o := .mapIter (some m) clock #[] clock) (w := w) (k := fun b w' => b = w.heap.size → Loop _ s0 w') (fun b w' hn hb0 => ?_) rfl
      subst hb0
      have hne : m ≠ w.heap.size := fun e => by have := lt_of_some hb; omega
      refine Loop.mkn (fun n s w2 => ∃ seen d, w2.heap[w.heap.size]? = some (.mapIter (some m) clock seen clock) ∧ w2.heap[m]? = some (.map es clock) ∧ (leftOf es seen).size = n ∧ I w.heap.size d s w2 ∧
        ∀ x, d x ↔ ∃ e ∈ es.toList, e.key = kt.enc x ∧ seen.contains e.born = true) (leftOf es #[]).size ⟨#[], fun _ => False, hn.at_, hn.keeps.blk0 hb, rfl, h0 _ _ rfl hn.keeps, fun x => ⟨fun h => h.elim, by rintro ⟨e, _, _, h⟩; simp at h⟩⟩ ?_
      rintro n s w2 ⟨seen, d, i1, i2, i3, i4, i5⟩ again hagain
      dsimp only [Join]
      rcases run_next_at (P := P) w2 0 w.heap.size m clock clock seen es clock i1 i2 hst2.1 (Nat.le_refl _) with ⟨hz, hrun⟩ | ⟨e, he, w1, hal, hrun⟩
      · refine ⟨w2, .inl ⟨hrun, hexit _ d s w2 rfl i4 fun x => ⟨fun hd => ?_, fun ⟨y, hr⟩ => ?_⟩⟩⟩
        · obtain ⟨e, he, hk, _⟩ := (i5 x).1 hd
          obtain ⟨_, x', y', h7, h8, h9⟩ := h3 e he
          have hx : x' = x := Ty.enc_inj (h7.symm.trans hk)
          subst hx
          exact ⟨y', h9⟩
        · obtain ⟨e, he, h6, h7⟩ := h4 x y hr
          exact (i5 x).2 ⟨e, he, h6, all_seen es seen hz e he⟩
      · obtain ⟨hem, hes⟩ := mem_left he
        obtain ⟨_, x, y, h7, h8, h9⟩ := h3 e hem
        have i1' : w1.heap[w.heap.size]? = some (.mapIter (some m) clock seen clock) := by rcases hal with rfl | rfl <;> exact i1
        have hk1 : Keeps (· = w.heap.size) w2 (setBlock w1 w.heap.size (.mapIter (some m) clock (seen.push e.born) clock)) := by
          have : Keeps No w2 w1 := by rcases hal with rfl | rfl; { exact .refl }; { exact .drew }
          refine this.no.trans ⟨rfl, rfl, rfl, by simp [setBlock], fun i _ hi => ?_⟩
          simp only [setBlock]
          rw [Array.getElem?_setIfInBounds]
          simp [Ne.symm hi]
        have hat : (setBlock w1 w.heap.size (.mapIter (some m) clock (seen.push e.born) clock)).heap[w.heap.size]? = some (.mapIter (some m) clock (seen.push e.born) clock) := by
          simp only [setBlock]
          have := lt_of_some i1'
          simp [this]
        have hmt : (setBlock w1 w.heap.size (.mapIter (some m) clock (seen.push e.born) clock)).heap[m]? = some (.map es clock) := hk1.blk i2 hne
        refine ⟨_, .inr ⟨x, y, by rw [← h7, ← h8]; exact hrun, ?_⟩⟩
        refine ⟨(x, y), setBlock w1 w.heap.size (.mapIter (some m) clock (seen.push e.born) clock), ?_, ?_⟩
        · have := run_entry_at (P := P) _ w.heap.size m clock seen es clock e hat hmt hem hst2.2.1
          rw [h7, h8] at this
          exact this
        · refine hbody _ d s _ x y rfl (lt_of_some hat) (hst _ _ _ _ _ rfl i4 hk1) h9 ?_ ?_ again fun s' w' hI hr hm => ?_
          · intro hd
            obtain ⟨e', he', hk', hc⟩ := (i5 x).1 hd
            have := key_once hs he' hem (hk'.trans h7.symm)
            subst this
            rw [hes] at hc
            cases hc
          · rintro _ ⟨⟩
            rw [hmt, hb]
          · refine hagain _ s' w' (i3 ▸ left_shrinks es seen e he) ⟨seen.push e.born, _, hr.trans hat, (hm m rfl).trans hmt, rfl, hI, fun q => ?_⟩
            rw [i5 q]
            constructor
            · rintro (⟨e', he', hk', hc⟩ | rfl)
              · exact ⟨e', he', hk', by rw [contains_push, hc]; rfl⟩
              · exact ⟨e, hem, h7, by rw [contains_push]; simp⟩
            · rintro ⟨e', he', hk', hc⟩
              rw [contains_push] at hc
              rcases Bool.or_eq_true _ _ ▸ hc with hc | hc
              · exact .inl ⟨e', he', hk', hc⟩
              · have : e'.born = e.born := by simpa using hc
                have := born_once hs he' hem this
                subst this
                exact .inr (Ty.enc_inj (hk'.symm.trans h7))

end
end Go.Fk
end
