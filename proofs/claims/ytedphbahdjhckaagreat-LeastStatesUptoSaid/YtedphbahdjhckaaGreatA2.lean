/-
  A part of the proof: what the functions of the program come to, read off the model: no premise of its own, no axiom. By an AI agent.
-/
import Derived.Test.YtedphbahdjhckaaGreatA1
import Derived.Test.YtedphbahdjhckaaGreatProg
import Derived.Maps.RangeRun
import Derived.Maps.Keyed
set_option linter.all false
section
set_option maxRecDepth 100000
set_option linter.unusedVariables false
namespace Go.Fk
open Go

noncomputable abbrev P : Program := Go.Proofs.Tryz.prog
theorem P_mixed : P.follows .mixedOrders = true := by kernel_rfl

abbrev T.int : Nat := 3
abbrev T.bool : Nat := 4
abbrev T.uint8 : Nat := 5
abbrev T.string : Nat := 9
abbrev T.sl_string : Nat := 22
abbrev T.sl_frisketref05_Node : Nat := 26
abbrev T.frisketref05_Node : Nat := 32
abbrev T.sl_p_regex_Node : Nat := 41
abbrev T.sl_int : Nat := 50
abbrev T.sl_sl_bool : Nat := 60
abbrev T.sl_bool : Nat := 63
abbrev T.dfa_state : Nat := 72
abbrev T.sl_dfa_state : Nat := 73
abbrev T.dfa_Dfa : Nat := 75
abbrev T.p_regex_Node : Nat := 76
abbrev T.sl_nfa_position : Nat := 83
abbrev T.sl_nfa_known : Nat := 84
abbrev T.nfa_Machine : Nat := 86
abbrev T.map_int_bool : Nat := 87
abbrev T.nfa_set : Nat := 88
abbrev T.nfa_known : Nat := 90
abbrev T.map_string_int : Nat := 93
abbrev T.dfa_build : Nat := 95
abbrev T.uint64 : Nat := 98
abbrev T.a4_uint64 : Nat := 99
abbrev T.nfa_position : Nat := 101
abbrev T.sl_least_state : Nat := 108
abbrev T.least_Least : Nat := 110
abbrev T.map_int_int : Nat := 111
abbrev T.least_state : Nat := 113
abbrev T.regex_parser : Nat := 118
abbrev T.frisketref05_Text : Nat := 123
abbrev T.least_rounds : Nat := 141
abbrev T.regex_Node : Nat := 145
abbrev T.sl_uint8 : Nat := 149
abbrev T.map_least_row_int : Nat := 151
abbrev T.least_row : Nat := 153
abbrev FN.maps_Keys_S1 : Nat := 88

def frisketlaw07_DfaRuns.C (x0 : Sl) (x1 : ByteArray) (w : World) (k : Bool → World → Prop) : Prop := CallF P 3 #[.slice x0.a x0.n x0.c, .string x1] (.one .bool) w k
def frisketlaw07_DfaClasses.C (x0 : Sl) (x1 : Int) (x2 : Int) (w : World) (k : Bool → World → Prop) : Prop := CallF P 4 #[.slice x0.a x0.n x0.c, .int .u8 x1, .int .u8 x2] (.one .bool) w k
def frisketlaw07_DfaStates.C (x0 : Sl) (x1 : Int) (w : World) (k : Bool → World → Prop) : Prop := CallF P 5 #[.slice x0.a x0.n x0.c, .int .u8 x1] (.one .bool) w k
def frisketlaw07_DfaNone.C (x0 : Int) (x1 : Int) (x2 : ByteArray) (w : World) (k : Bool → World → Prop) : Prop := CallF P 6 #[.int .i64 x0, .int .u8 x1, .string x2] (.one .bool) w k
def frisketlaw08_LeastStates.C (x0 : Sl) (w : World) (k : Bool → World → Prop) : Prop := CallF P 7 #[.slice x0.a x0.n x0.c] (.one .bool) w k
def frisketlaw08_LeastRuns.C (x0 : Sl) (x1 : ByteArray) (w : World) (k : Bool → World → Prop) : Prop := CallF P 8 #[.slice x0.a x0.n x0.c, .string x1] (.one .bool) w k
def frisketlaw08_LeastLongest.C (x0 : Sl) (x1 : ByteArray) (w : World) (k : Bool → World → Prop) : Prop := CallF P 9 #[.slice x0.a x0.n x0.c, .string x1] (.one .bool) w k
def frisketlaw08_LeastNone.C (x0 : Int) (x1 : Int) (x2 : ByteArray) (w : World) (k : Bool → World → Prop) : Prop := CallF P 10 #[.int .i64 x0, .int .u8 x1, .string x2] (.one .bool) w k
def frisketlaw07_Great.C (x0 : Sl) (w : World) (k : Int → World → Prop) : Prop := CallF P 11 #[.slice x0.a x0.n x0.c] (.one (.int .i64)) w k
def frisketlaw07_awake.C  (w : World) (k : Bool → World → Prop) : Prop := CallF P 12 #[] (.one .bool) w k
def frisketlaw07_Make.C (x0 : Sl) (w : World) (k : (Option Addr × Sl) → World → Prop) : Prop := CallF P 13 #[.slice x0.a x0.n x0.c] (.tup [.one .ptr, .one .sl]) w k
def frisketref05_Matches.C (x0 : Array Value) (x1 : ByteArray) (w : World) (k : Bool → World → Prop) : Prop := CallF P 14 #[.agg x0, .string x1] (.one .bool) w k
def dfa_Dfa_Run.C (x0 : Option Addr) (x1 : ByteArray) (w : World) (k : (Int × Bool) → World → Prop) : Prop := CallF P 15 #[.pointer x0, .string x1] (.tup [.one (.int .i64), .one .bool]) w k
def dfa_Dfa_Accept.C (x0 : Option Addr) (x1 : Int) (w : World) (k : Int → World → Prop) : Prop := CallF P 16 #[.pointer x0, .int .i64 x1] (.one (.int .i64)) w k
def dfa_Dfa_States.C (x0 : Option Addr) (w : World) (k : Int → World → Prop) : Prop := CallF P 17 #[.pointer x0] (.one (.int .i64)) w k
def dfa_Dfa_Next.C (x0 : Option Addr) (x1 : Int) (x2 : Int) (w : World) (k : (Int × Bool) → World → Prop) : Prop := CallF P 18 #[.pointer x0, .int .i64 x1, .int .u8 x2] (.tup [.one (.int .i64), .one .bool]) w k
def dfa_Dfa_Class.C (x0 : Option Addr) (x1 : Int) (w : World) (k : Int → World → Prop) : Prop := CallF P 19 #[.pointer x0, .int .u8 x1] (.one (.int .i64)) w k
def dfa_Dfa_Classes.C (x0 : Option Addr) (w : World) (k : Int → World → Prop) : Prop := CallF P 20 #[.pointer x0] (.one (.int .i64)) w k
def frisketlaw06_Rules.C (x0 : Sl) (w : World) (k : (Sl × Sl × Int) → World → Prop) : Prop := CallF P 21 #[.slice x0.a x0.n x0.c] (.tup [.one .sl, .one .sl, .one (.int .i64)]) w k
def nfa_New.C (x0 : Sl) (w : World) (k : (Option Addr × Int) → World → Prop) : Prop := CallF P 22 #[.slice x0.a x0.n x0.c] (.tup [.one .ptr, .one (.int .i64)]) w k
def dfa_New.C (x0 : Option Addr) (w : World) (k : (Option Addr × Int) → World → Prop) : Prop := CallF P 23 #[.pointer x0] (.tup [.one .ptr, .one (.int .i64)]) w k
def dfa_Dfa_Positions.C (x0 : Option Addr) (x1 : Int) (w : World) (k : Sl → World → Prop) : Prop := CallF P 24 #[.pointer x0, .int .i64 x1] (.one .sl) w k
def nfa_Machine_Len.C (x0 : Option Addr) (w : World) (k : Int → World → Prop) : Prop := CallF P 25 #[.pointer x0] (.one (.int .i64)) w k
def frisketlaw07_has.C (x0 : Sl) (x1 : Int) (w : World) (k : Bool → World → Prop) : Prop := CallF P 26 #[.slice x0.a x0.n x0.c, .int .i64 x1] (.one .bool) w k
def nfa_Machine_Follow.C (x0 : Option Addr) (x1 : Int) (w : World) (k : Sl → World → Prop) : Prop := CallF P 27 #[.pointer x0, .int .i64 x1] (.one .sl) w k
def nfa_Machine_First.C (x0 : Option Addr) (x1 : Int) (w : World) (k : Sl → World → Prop) : Prop := CallF P 28 #[.pointer x0, .int .i64 x1] (.one .sl) w k
def nfa_Machine_Rule.C (x0 : Option Addr) (x1 : Int) (w : World) (k : Int → World → Prop) : Prop := CallF P 29 #[.pointer x0, .int .i64 x1] (.one (.int .i64)) w k
def nfa_Machine_Has.C (x0 : Option Addr) (x1 : Int) (x2 : Int) (w : World) (k : Bool → World → Prop) : Prop := CallF P 30 #[.pointer x0, .int .i64 x1, .int .u8 x2] (.one .bool) w k
def frisketlaw07_same.C (x0 : Sl) (x1 : Sl) (w : World) (k : Bool → World → Prop) : Prop := CallF P 31 #[.slice x0.a x0.n x0.c, .slice x1.a x1.n x1.c] (.one .bool) w k
def frisketlaw08_awake.C  (w : World) (k : Bool → World → Prop) : Prop := CallF P 32 #[] (.one .bool) w k
def least_New.C (x0 : Option Addr) (w : World) (k : (Option Addr × Int) → World → Prop) : Prop := CallF P 33 #[.pointer x0] (.tup [.one .ptr, .one (.int .i64)]) w k
def least_Least_States.C (x0 : Option Addr) (w : World) (k : Int → World → Prop) : Prop := CallF P 34 #[.pointer x0] (.one (.int .i64)) w k
def frisketlaw08_alike.C (x0 : Option Addr) (w : World) (k : Sl → World → Prop) : Prop := CallF P 35 #[.pointer x0] (.one .sl) w k
def least_Least_Of.C (x0 : Option Addr) (x1 : Int) (w : World) (k : (Int × Bool) → World → Prop) : Prop := CallF P 36 #[.pointer x0, .int .i64 x1] (.tup [.one (.int .i64), .one .bool]) w k
def least_Least_Accept.C (x0 : Option Addr) (x1 : Int) (w : World) (k : Int → World → Prop) : Prop := CallF P 37 #[.pointer x0, .int .i64 x1] (.one (.int .i64)) w k
def least_Least_Next.C (x0 : Option Addr) (x1 : Int) (x2 : Int) (w : World) (k : (Int × Bool) → World → Prop) : Prop := CallF P 38 #[.pointer x0, .int .i64 x1, .int .u8 x2] (.tup [.one (.int .i64), .one .bool]) w k
def least_Least_Run.C (x0 : Option Addr) (x1 : ByteArray) (w : World) (k : (Int × Bool) → World → Prop) : Prop := CallF P 39 #[.pointer x0, .string x1] (.tup [.one (.int .i64), .one .bool]) w k
def least_Least_Longest.C (x0 : Option Addr) (x1 : ByteArray) (w : World) (k : (Int × Int × Int) → World → Prop) : Prop := CallF P 40 #[.pointer x0, .string x1] (.tup [.one (.int .i64), .one (.int .i64), .one (.int .i64)]) w k
def frisketref05_Longest.C (x0 : Array Value) (x1 : ByteArray) (w : World) (k : Int → World → Prop) : Prop := CallF P 41 #[.agg x0, .string x1] (.one (.int .i64)) w k
def frisketref05_Ends.C (x0 : Array Value) (x1 : ByteArray) (x2 : Sl) (w : World) (k : Sl → World → Prop) : Prop := CallF P 42 #[.agg x0, .string x1, .slice x2.a x2.n x2.c] (.one .sl) w k
def dfa_Dfa_has.C (x0 : Option Addr) (x1 : Int) (w : World) (k : Bool → World → Prop) : Prop := CallF P 43 #[.pointer x0, .int .i64 x1] (.one .bool) w k
def regex_Parse.C (x0 : ByteArray) (w : World) (k : (Option Addr × Int × Int) → World → Prop) : Prop := CallF P 44 #[.string x0] (.tup [.one .ptr, .one (.int .i64), .one (.int .i64)]) w k
def frisketref05_Parse.C (x0 : ByteArray) (w : World) (k : (Array Value × Int × Bool) → World → Prop) : Prop := CallF P 45 #[.string x0] (.tup [.big, .one (.int .i64), .one .bool]) w k
def slices_Contains.C (x0 : Sl) (x1 : Option Addr) (w : World) (k : Bool → World → Prop) : Prop := CallF P 46 #[.slice x0.a x0.n x0.c, .pointer x1] (.one .bool) w k
def nfa_count.C (x0 : Option Addr) (x1 : Int) (w : World) (k : Int → World → Prop) : Prop := CallF P 47 #[.pointer x0, .int .i64 x1] (.one (.int .i64)) w k
def nfa_Machine_add.C (x0 : Option Addr) (x1 : Int) (x2 : Option Addr) (w : World) (k : (Option Nat × Option Nat × Bool) → World → Prop) : Prop := CallF P 48 #[.pointer x0, .int .i64 x1, .pointer x2] (.agg [.map, .map, .bool]) w k
def dfa_build_fill.C (x0 : Option Addr) (x1 : Int) (w : World) (k : Unit → World → Prop) : Prop := CallF P 49 #[.pointer x0, .int .i64 x1] (.tup []) w k
def dfa_Dfa_group.C (x0 : Option Addr) (w : World) (k : Unit → World → Prop) : Prop := CallF P 50 #[.pointer x0] (.tup []) w k
def slices_Clone_int.C (x0 : Sl) (w : World) (k : Sl → World → Prop) : Prop := CallF P 51 #[.slice x0.a x0.n x0.c] (.one .sl) w k
def nfa_Machine_at.C (x0 : Option Addr) (x1 : Int) (w : World) (k : ((Int × Int × Int × Int × Int × Option Nat) × Bool) → World → Prop) : Prop := CallF P 52 #[.pointer x0, .int .i64 x1] (.tup [.agg [(.int .u64), (.int .u64), (.int .u64), (.int .u64), (.int .i64), .map], .one .bool]) w k
def nfa_set_sorted.C (x0 : Option Nat) (w : World) (k : Sl → World → Prop) : Prop := CallF P 53 #[.map x0] (.one .sl) w k
def nfa_Machine_rule.C (x0 : Option Addr) (x1 : Int) (w : World) (k : (Option Nat × Option Nat × Bool) → World → Prop) : Prop := CallF P 54 #[.pointer x0, .int .i64 x1] (.agg [.map, .map, .bool]) w k
def least_live.C (x0 : Option Addr) (w : World) (k : Sl → World → Prop) : Prop := CallF P 55 #[.pointer x0] (.one .sl) w k
def least_kinds.C (x0 : Option Addr) (x1 : Sl) (w : World) (k : Sl → World → Prop) : Prop := CallF P 56 #[.pointer x0, .slice x1.a x1.n x1.c] (.one .sl) w k
def least_Least_has.C (x0 : Option Addr) (x1 : Int) (w : World) (k : Bool → World → Prop) : Prop := CallF P 57 #[.pointer x0, .int .i64 x1] (.one .bool) w k
def regex_parser_or.C (x0 : Option Addr) (w : World) (k : Option Addr → World → Prop) : Prop := CallF P 58 #[.pointer x0] (.one .ptr) w k
def regex_Size.C (x0 : Option Addr) (w : World) (k : Int → World → Prop) : Prop := CallF P 59 #[.pointer x0] (.one (.int .i64)) w k
def frisketref05_Text_or.C (x0 : Option Addr) (w : World) (k : Array Value → World → Prop) : Prop := CallF P 60 #[.pointer x0] (.big) w k
def frisketref05_Size.C (x0 : Array Value) (w : World) (k : Int → World → Prop) : Prop := CallF P 61 #[.agg x0] (.one (.int .i64)) w k
def slices_Index.C (x0 : Sl) (x1 : Option Addr) (w : World) (k : Int → World → Prop) : Prop := CallF P 62 #[.slice x0.a x0.n x0.c, .pointer x1] (.one (.int .i64)) w k
def regex_Kind.C (x0 : Option Addr) (w : World) (k : Int → World → Prop) : Prop := CallF P 63 #[.pointer x0] (.one (.int .i64)) w k
def regex_Parts.C (x0 : Option Addr) (w : World) (k : Sl → World → Prop) : Prop := CallF P 64 #[.pointer x0] (.one .sl) w k
def regex_Bytes.C (x0 : Option Addr) (w : World) (k : (Int × Int × Int × Int) → World → Prop) : Prop := CallF P 65 #[.pointer x0] (.agg [(.int .u64), (.int .u64), (.int .u64), (.int .u64)]) w k
def nfa_Machine_cat.C (x0 : Option Addr) (x1 : Option Nat × Option Nat × Bool) (x2 : Option Nat × Option Nat × Bool) (w : World) (k : (Option Nat × Option Nat × Bool) → World → Prop) : Prop := CallF P 66 #[.pointer x0, .agg #[.map x1.1, .map x1.2.1, .bool x1.2.2], .agg #[.map x2.1, .map x2.2.1, .bool x2.2.2]] (.agg [.map, .map, .bool]) w k
def nfa_set_with.C (x0 : Option Nat) (x1 : Option Nat) (w : World) (k : Option Nat → World → Prop) : Prop := CallF P 67 #[.map x0, .map x1] (.one .map) w k
def nfa_Machine_link.C (x0 : Option Addr) (x1 : Option Nat) (x2 : Option Nat) (w : World) (k : Unit → World → Prop) : Prop := CallF P 68 #[.pointer x0, .map x1, .map x2] (.tup []) w k
def dfa_behind.C (x0 : Option Addr) (x1 : Sl) (w : World) (k : Sl → World → Prop) : Prop := CallF P 69 #[.pointer x0, .slice x1.a x1.n x1.c] (.one .sl) w k
def dfa_build_place.C (x0 : Option Addr) (x1 : Sl) (w : World) (k : Int → World → Prop) : Prop := CallF P 70 #[.pointer x0, .slice x1.a x1.n x1.c] (.one (.int .i64)) w k
def dfa_text.C (x0 : Sl) (w : World) (k : ByteArray → World → Prop) : Prop := CallF P 71 #[.slice x0.a x0.n x0.c] (.one .str) w k
def slices_Sorted.C (x0 : Value) (w : World) (k : Sl → World → Prop) : Prop := CallF P 72 #[x0] (.one .sl) w k
def maps_Keys.C (x0 : Option Nat) (w : World) (k : Value → World → Prop) : Prop := CallF P 73 #[.map x0] (.one .raw) w k
def nfa_Machine_Rules.C (x0 : Option Addr) (w : World) (k : Int → World → Prop) : Prop := CallF P 74 #[.pointer x0] (.one (.int .i64)) w k
def least_rounds_again.C (x0 : Option Addr) (w : World) (k : Bool → World → Prop) : Prop := CallF P 75 #[.pointer x0] (.one .bool) w k
def regex_parser_cat.C (x0 : Option Addr) (w : World) (k : Option Addr → World → Prop) : Prop := CallF P 76 #[.pointer x0] (.one .ptr) w k
def regex_reader_is.C (x0 : Option Addr) (x1 : Int) (w : World) (k : Bool → World → Prop) : Prop := CallF P 77 #[.pointer x0, .int .u8 x1] (.one .bool) w k
def regex_Or.C (x0 : Sl) (w : World) (k : Option Addr → World → Prop) : Prop := CallF P 78 #[.slice x0.a x0.n x0.c] (.one .ptr) w k
def frisketref05_Text_sees.C (x0 : Option Addr) (x1 : Int) (w : World) (k : Bool → World → Prop) : Prop := CallF P 79 #[.pointer x0, .int .u8 x1] (.one .bool) w k
def frisketref05_Text_factor.C (x0 : Option Addr) (w : World) (k : Array Value → World → Prop) : Prop := CallF P 80 #[.pointer x0] (.big) w k
def frisketref05_pair.C (x0 : Int) (x1 : Sl) (w : World) (k : Array Value → World → Prop) : Prop := CallF P 81 #[.int .i64 x0, .slice x1.a x1.n x1.c] (.big) w k
def maps_Clone.C (x0 : Option Nat) (w : World) (k : Option Nat → World → Prop) : Prop := CallF P 82 #[.map x0] (.one .map) w k
def maps_Copy.C (x0 : Option Nat) (x1 : Option Nat) (w : World) (k : Unit → World → Prop) : Prop := CallF P 83 #[.map x0, .map x1] (.tup []) w k
def slices_Sort.C (x0 : Sl) (w : World) (k : Unit → World → Prop) : Prop := CallF P 84 #[.slice x0.a x0.n x0.c] (.tup []) w k
def slices_Compact_int.C (x0 : Sl) (w : World) (k : Sl → World → Prop) : Prop := CallF P 85 #[.slice x0.a x0.n x0.c] (.one .sl) w k
def dfa_accept.C (x0 : Option Addr) (x1 : Sl) (w : World) (k : Int → World → Prop) : Prop := CallF P 86 #[.pointer x0, .slice x1.a x1.n x1.c] (.one (.int .i64)) w k
def least_rounds_row.C (x0 : Option Addr) (x1 : Int) (w : World) (k : Array Value → World → Prop) : Prop := CallF P 89 #[.pointer x0, .int .i64 x1] (.big) w k
def regex_reader_peek.C (x0 : Option Addr) (w : World) (k : (Int × Bool) → World → Prop) : Prop := CallF P 90 #[.pointer x0] (.tup [.one (.int .u8), .one .bool]) w k
def regex_parser_factor.C (x0 : Option Addr) (w : World) (k : Option Addr → World → Prop) : Prop := CallF P 91 #[.pointer x0] (.one .ptr) w k
def regex_Cat.C (x0 : Sl) (w : World) (k : Option Addr → World → Prop) : Prop := CallF P 92 #[.slice x0.a x0.n x0.c] (.one .ptr) w k
def regex_two.C (x0 : Int) (x1 : Option Addr) (x2 : Sl) (w : World) (k : Option Addr → World → Prop) : Prop := CallF P 93 #[.int .i64 x0, .pointer x1, .slice x2.a x2.n x2.c] (.one .ptr) w k
def regex_Set.C (x0 : Int × Int × Int × Int) (w : World) (k : Option Addr → World → Prop) : Prop := CallF P 94 #[.agg #[.int .u64 x0.1, .int .u64 x0.2.1, .int .u64 x0.2.2.1, .int .u64 x0.2.2.2]] (.one .ptr) w k
def frisketref05_Text_class.C (x0 : Option Addr) (w : World) (k : Array Value → World → Prop) : Prop := CallF P 95 #[.pointer x0] (.big) w k
def frisketref05_Text_letter.C (x0 : Option Addr) (x1 : ByteArray) (w : World) (k : Int → World → Prop) : Prop := CallF P 96 #[.pointer x0, .string x1] (.one (.int .i64)) w k
def frisketref05_in.C (x0 : ByteArray) (x1 : Int) (w : World) (k : Bool → World → Prop) : Prop := CallF P 97 #[.string x0, .int .u8 x1] (.one .bool) w k
def slices_Contains_int.C (x0 : Sl) (x1 : Int) (w : World) (k : Bool → World → Prop) : Prop := CallF P 101 #[.slice x0.a x0.n x0.c, .int .i64 x1] (.one .bool) w k
def nfa_Machine_Last.C (x0 : Option Addr) (x1 : Int) (w : World) (k : Sl → World → Prop) : Prop := CallF P 102 #[.pointer x0, .int .i64 x1] (.one .sl) w k
def regex_parser_atom.C (x0 : Option Addr) (w : World) (k : Option Addr → World → Prop) : Prop := CallF P 104 #[.pointer x0] (.one .ptr) w k
def regex_Star.C (x0 : Option Addr) (w : World) (k : Option Addr → World → Prop) : Prop := CallF P 105 #[.pointer x0] (.one .ptr) w k
def regex_Empty.C  (w : World) (k : Option Addr → World → Prop) : Prop := CallF P 106 #[] (.one .ptr) w k
def regex_parser_fail.C (x0 : Option Addr) (w : World) (k : Option Addr → World → Prop) : Prop := CallF P 107 #[.pointer x0] (.one .ptr) w k
def frisketref05_hex.C (x0 : Int) (w : World) (k : Int → World → Prop) : Prop := CallF P 108 #[.int .u8 x0] (.one (.int .i64)) w k
def slices_Index_int.C (x0 : Sl) (x1 : Int) (w : World) (k : Int → World → Prop) : Prop := CallF P 120 #[.slice x0.a x0.n x0.c, .int .i64 x1] (.one (.int .i64)) w k
def regex_one.C (x0 : Int) (w : World) (k : (Int × Int × Int × Int) → World → Prop) : Prop := CallF P 121 #[.int .u8 x0] (.agg [(.int .u64), (.int .u64), (.int .u64), (.int .u64)]) w k
def regex_parser_class.C (x0 : Option Addr) (w : World) (k : Option Addr → World → Prop) : Prop := CallF P 122 #[.pointer x0] (.one .ptr) w k
def regex_parser_letter.C (x0 : Option Addr) (x1 : ByteArray) (w : World) (k : Int → World → Prop) : Prop := CallF P 123 #[.pointer x0, .string x1] (.one (.int .u8)) w k
def regex_parser_span.C (x0 : Option Addr) (x1 : Option Addr) (w : World) (k : Unit → World → Prop) : Prop := CallF P 130 #[.pointer x0, .pointer x1] (.tup []) w k
def regex_parser_escaped.C (x0 : Option Addr) (x1 : ByteArray) (w : World) (k : Int → World → Prop) : Prop := CallF P 131 #[.pointer x0, .string x1] (.one (.int .u8)) w k
def strings_IndexByte.C (x0 : ByteArray) (x1 : Int) (w : World) (k : Int → World → Prop) : Prop := CallF P 132 #[.string x0, .int .u8 x1] (.one (.int .i64)) w k
def regex_parser_digit.C (x0 : Option Addr) (w : World) (k : Int → World → Prop) : Prop := CallF P 134 #[.pointer x0] (.one (.int .u8)) w k

/-- frisket/frisketref05.Matches -/
def frisketref05_Matches.M (n_0 : Array Value) (s_1 : ByteArray) (K : Bool → World → Prop) (w : World) : Prop :=
  Al (.cells n_0 T.frisketref05_Node (0, 0)) w fun b1 w1 => App P (Instr.makeSlice T.sl_bool (.int .i64 (w64 ((s_1.size : Int) + (1 : Int)))) (.int .i64 (w64 ((s_1.size : Int) + (1 : Int))))) (.one .sl) w1 fun x9 w2 => IdxS x9 0 1 fun p11 => St p11 (.bool true) w2 fun w3 => LdA 258 (⟨b1, 0, none⟩) w3 fun x12 => frisketref05_Ends.C x12 s_1 x9 w3 fun x15 w4 => IdxS x15 (s_1.size : Int) 1 fun p18 => Ld .bool p18 w4 fun x19 => K x19 w4
theorem frisketref05_Matches.ok (n_0 : Array Value) (s_1 : ByteArray) (K : Bool → World → Prop) (w : World) (h : frisketref05_Matches.M n_0 s_1 K w) : frisketref05_Matches.C n_0 s_1 w K :=
  calls_of_sem (P := P) (H := [(9, .one .sl), (12, .big), (15, .one .sl), (19, .one .bool)]) (ann := .z) (args := [.agg n_0, .string s_1]) (rt := .one .bool) P_mixed rfl rfl (by kernel_rfl) (by kernel_rfl)
    ((show _ = frisketref05_Matches.M n_0 s_1 K w by kernel_rfl).mpr h)

/-- frisket/frisketlaw06.Rules -/
def frisketlaw06_Rules.M (l_0 : Sl) (K : (Sl × Sl × Int) → World → Prop) (w : World) : Prop :=
  Loop (fun (s1 : Sl × Sl × Int × Int) w1 again2 => Br (decide (s1.2.2.2 < (l_0.n : Int))) (IdxS l_0 s1.2.2.2 1 fun p24 => Ld .str p24 w1 fun x25 => regex_Parse.C x25 w1 fun x26 w2 => IdxS l_0 s1.2.2.2 1 fun p33 => Ld .str p33 w2 fun x34 => frisketref05_Parse.C x34 w2 fun x35 w3 => Al (.cells (#[(.int .i64 0 : Value)] ++ Array.replicate 256 (.bool false : Value) ++ #[(.slice none 0 0 : Value)]) T.frisketref05_Node (0, 0)) w3 fun b3 w4 => StA P T.frisketref05_Node (⟨b3, 0, none⟩) x35.1 w4 fun w5 => Join (fun (s4 : Bool) w6 => Br s4 (again2 (s1.1, s1.2.1, (w64 (s1.2.2.1 + (1 : Int))), (w64 (s1.2.2.2 + (1 : Int)))) w6) (Al (.cells #[.pointer x26.1] T.p_regex_Node (0, 0)) w6 fun b5 w7 => App P (Builtin.append_ #[T.sl_p_regex_Node, T.sl_p_regex_Node] T.sl_p_regex_Node #[.slice s1.1.a s1.1.n s1.1.c, .slice (some ⟨b5, 0, none⟩) 1 1]) (.one .sl) w7 fun x53 w8 => LdA 258 (⟨b3, 0, none⟩) w8 fun x55 => App P (Instr.buildSlice T.sl_frisketref05_Node 1 #[(0, .agg x55)]) (.one .sl) w8 fun x56 w9 => App P (Builtin.append_ #[T.sl_frisketref05_Node, T.sl_frisketref05_Node] T.sl_frisketref05_Node #[.slice s1.2.1.a s1.2.1.n s1.2.1.c, .slice x56.a x56.n x56.c]) (.one .sl) w9 fun x57 w10 => again2 (x53, x57, s1.2.2.1, (w64 (s1.2.2.2 + (1 : Int)))) w10)) fun j6 => Br (x26.2.2 != (0 : Int)) (j6 true w5) (Br (decide ((0 : Int) ≤ x35.2.1)) (j6 true w5) (j6 x35.2.2 w5))) (K (s1.1, s1.2.1, s1.2.2.1) w1)) (⟨none, 0, 0⟩, ⟨none, 0, 0⟩, 0, 0) w
theorem frisketlaw06_Rules.ok (l_0 : Sl) (K : (Sl × Sl × Int) → World → Prop) (w : World) (h : frisketlaw06_Rules.M l_0 K w) : frisketlaw06_Rules.C l_0 w K :=
  calls_of_sem (P := P) (H := [(25, .one .str), (26, .tup [.one .ptr, .one (.int .i64), .one (.int .i64)]), (34, .one .str), (35, .tup [.big, .one (.int .i64), .one .bool]), (36, .big), (55, .big), (56, .one .sl)]) (ann := (.n .z (.n .z (.n .z (.n .z (.n (.n .z (.l [(5, .one .sl), (6, .one .sl), (7, .one (.int .i64)), (8, .one (.int .i64))] [0] (.n .z (.n (.n .z (.n .z (.n (.j [(47, .one .bool)] [0, 5, 6, 7, 8, 9, 12] .z .z) .z))) .z)))) .z)))))) (args := [.slice l_0.a l_0.n l_0.c]) (rt := .tup [.one .sl, .one .sl, .one (.int .i64)]) P_mixed rfl rfl (by kernel_rfl) (by kernel_rfl)
    ((show _ = frisketlaw06_Rules.M l_0 K w by kernel_rfl).mpr h)

/-- frisket/nfa.New -/
def nfa_New.M (l_0 : Sl) (K : (Option Addr × Int) → World → Prop) (w : World) : Prop :=
  Join (fun (s1 : Bool) w1 => Br s1 (K (none, 1) w1) (Loop (fun (s2 : Int × Int) w2 again3 => Br (decide (s2.2 < (l_0.n : Int))) (IdxS l_0 s2.2 1 fun p21 => Ld .ptr p21 w2 fun x22 => nfa_count.C x22 2000 w2 fun x25 w3 => Br (decide ((2000 : Int) < (w64 (s2.1 + x25)))) (K (none, 3) w3) (again3 ((w64 (s2.1 + x25)), (w64 (s2.2 + (1 : Int)))) w3)) (Al (.cells #[.slice none 0 0, .slice none 0 0] T.nfa_Machine (0, 0)) w2 fun b4 w4 => Loop (fun (s5 : Int) w5 again6 => Br (decide (s5 < (l_0.n : Int))) (IdxS l_0 s5 1 fun p37 => Ld .ptr p37 w5 fun x38 => DrawN w5 fun S7 w6 => (Ld .sl (⟨b4, 1, none⟩) w6 fun x43 => (S7 w6 ∧ nfa_Machine_add.C (some (⟨b4, 0, none⟩)) s5 x38 w6 fun x47 w7 => (S7 w7 ∧ Al (.cells #[.map x47.1, .map x47.2.1, .bool x47.2.2] T.nfa_known (0, 0)) w7 fun b8 w8 => (S7 w8 ∧ App P (Builtin.append_ #[T.sl_nfa_known, T.sl_nfa_known] T.sl_nfa_known #[.slice x43.a x43.n x43.c, .slice (some ⟨b8, 0, none⟩) 1 1]) (.one .sl) w8 fun x49 w9 => (S7 w9 ∧ St (⟨b4, 1, none⟩) (.slice x49.a x49.n x49.c) w9 fun w10 => (S7 w10 ∧ again6 (w64 (s5 + (1 : Int))) w10)))))) ∧ (nfa_Machine_add.C (some (⟨b4, 0, none⟩)) s5 x38 w6 fun x47 w11 => (S7 w11 ∧ (Ld .sl (⟨b4, 1, none⟩) w11 fun x43 => (S7 w11 ∧ Al (.cells #[.map x47.1, .map x47.2.1, .bool x47.2.2] T.nfa_known (0, 0)) w11 fun b9 w12 => (S7 w12 ∧ App P (Builtin.append_ #[T.sl_nfa_known, T.sl_nfa_known] T.sl_nfa_known #[.slice x43.a x43.n x43.c, .slice (some ⟨b9, 0, none⟩) 1 1]) (.one .sl) w12 fun x49 w13 => (S7 w13 ∧ St (⟨b4, 1, none⟩) (.slice x49.a x49.n x49.c) w13 fun w14 => (S7 w14 ∧ again6 (w64 (s5 + (1 : Int))) w14))))) ∧ (Al (.cells #[.map x47.1, .map x47.2.1, .bool x47.2.2] T.nfa_known (0, 0)) w11 fun b10 w15 => (S7 w15 ∧ Ld .sl (⟨b4, 1, none⟩) w15 fun x43 => (S7 w15 ∧ App P (Builtin.append_ #[T.sl_nfa_known, T.sl_nfa_known] T.sl_nfa_known #[.slice x43.a x43.n x43.c, .slice (some ⟨b10, 0, none⟩) 1 1]) (.one .sl) w15 fun x49 w16 => (S7 w16 ∧ St (⟨b4, 1, none⟩) (.slice x49.a x49.n x49.c) w16 fun w17 => (S7 w17 ∧ again6 (w64 (s5 + (1 : Int))) w17)))))))) (K ((some (⟨b4, 0, none⟩)), 0) w5)) 0 w4)) (0, 0) w1)) fun j11 => Br ((l_0.n : Int) == (0 : Int)) (j11 true w) (slices_Contains.C l_0 none w fun x15 w18 => j11 x15 w18)
theorem nfa_New.ok (l_0 : Sl) (K : (Option Addr × Int) → World → Prop) (w : World) (h : nfa_New.M l_0 K w) : nfa_New.C l_0 w K :=
  calls_of_sem (P := P) (H := [(15, .one .bool), (22, .one .ptr), (25, .one (.int .i64)), (38, .one .ptr), (43, .one .sl), (47, .agg [.map, .map, .bool])]) (ann := (.n .z (.n (.j [(16, .one .bool)] [0] .z .z) (.n .z (.n (.n .z (.l [(4, .one (.int .i64)), (19, .one (.int .i64))] [0, 17, 18] .z)) (.n .z (.n (.n .z (.l [(34, .one (.int .i64))] [7, 32, 33] (.n .z (.n .z (.n (.n .z .d) .z))))) .z))))))) (args := [.slice l_0.a l_0.n l_0.c]) (rt := .tup [.one .ptr, .one (.int .i64)]) P_mixed rfl rfl (by kernel_rfl) (by kernel_rfl)
    ((show _ = nfa_New.M l_0 K w by kernel_rfl).mpr h)

/-- (*frisket/nfa.Machine).Len -/
def nfa_Machine_Len.M (m_0 : Option Addr) (K : Int → World → Prop) (w : World) : Prop :=
  Br (m_0.isNone) (K 0 w) (NilC m_0 fun a6 => Ld .sl a6 w fun x8 => K (x8.n : Int) w)
theorem nfa_Machine_Len.ok (m_0 : Option Addr) (K : Int → World → Prop) (w : World) (h : nfa_Machine_Len.M m_0 K w) : nfa_Machine_Len.C m_0 w K :=
  calls_of_sem (P := P) (H := [(8, .one .sl)]) (ann := .z) (args := [.pointer m_0]) (rt := .one (.int .i64)) P_mixed rfl rfl (by kernel_rfl) (by kernel_rfl)
    ((show _ = nfa_Machine_Len.M m_0 K w by kernel_rfl).mpr h)

/-- (*frisket/nfa.Machine).Follow -/
def nfa_Machine_Follow.M (m_0 : Option Addr) (p_1 : Int) (K : Sl → World → Prop) (w : World) : Prop :=
  nfa_Machine_at.C m_0 p_1 w fun x10 w1 => Al (.cells #[.int .u64 0, .int .u64 0, .int .u64 0, .int .u64 0, .int .i64 0, .map none] T.nfa_position (0, 0)) w1 fun b1 w2 => St (⟨b1, 0, none⟩) (.int .u64 x10.1.1) w2 fun w3 => St (⟨b1, 1, none⟩) (.int .u64 x10.1.2.1) w3 fun w4 => St (⟨b1, 2, none⟩) (.int .u64 x10.1.2.2.1) w4 fun w5 => St (⟨b1, 3, none⟩) (.int .u64 x10.1.2.2.2.1) w5 fun w6 => St (⟨b1, 4, none⟩) (.int .i64 x10.1.2.2.2.2.1) w6 fun w7 => St (⟨b1, 5, none⟩) (.map x10.1.2.2.2.2.2) w7 fun w8 => Ld .map (⟨b1, 5, none⟩) w8 fun x14 => nfa_set_sorted.C x14 w8 fun x15 w9 => K x15 w9
theorem nfa_Machine_Follow.ok (m_0 : Option Addr) (p_1 : Int) (K : Sl → World → Prop) (w : World) (h : nfa_Machine_Follow.M m_0 p_1 K w) : nfa_Machine_Follow.C m_0 p_1 w K :=
  calls_of_sem (P := P) (H := [(10, .tup [.agg [(.int .u64), (.int .u64), (.int .u64), (.int .u64), (.int .i64), .map], .one .bool]), (14, .one .map), (15, .one .sl)]) (ann := .z) (args := [.pointer m_0, .int .i64 p_1]) (rt := .one .sl) P_mixed rfl rfl (by kernel_rfl) (by kernel_rfl)
    ((show _ = nfa_Machine_Follow.M m_0 p_1 K w by kernel_rfl).mpr h)

/-- (*frisket/nfa.Machine).First -/
def nfa_Machine_First.M (m_0 : Option Addr) (rule_1 : Int) (K : Sl → World → Prop) (w : World) : Prop :=
  nfa_Machine_rule.C m_0 rule_1 w fun x7 w1 => nfa_set_sorted.C x7.1 w1 fun x9 w2 => K x9 w2
theorem nfa_Machine_First.ok (m_0 : Option Addr) (rule_1 : Int) (K : Sl → World → Prop) (w : World) (h : nfa_Machine_First.M m_0 rule_1 K w) : nfa_Machine_First.C m_0 rule_1 w K :=
  calls_of_sem (P := P) (H := [(7, .agg [.map, .map, .bool]), (9, .one .sl)]) (ann := .z) (args := [.pointer m_0, .int .i64 rule_1]) (rt := .one .sl) P_mixed rfl rfl (by kernel_rfl) (by kernel_rfl)
    ((show _ = nfa_Machine_First.M m_0 rule_1 K w by kernel_rfl).mpr h)

/-- (*frisket/nfa.Machine).Rule -/
def nfa_Machine_Rule.M (m_0 : Option Addr) (p_1 : Int) (K : Int → World → Prop) (w : World) : Prop :=
  nfa_Machine_at.C m_0 p_1 w fun x10 w1 => Al (.cells #[.int .u64 0, .int .u64 0, .int .u64 0, .int .u64 0, .int .i64 0, .map none] T.nfa_position (0, 0)) w1 fun b1 w2 => St (⟨b1, 0, none⟩) (.int .u64 x10.1.1) w2 fun w3 => St (⟨b1, 1, none⟩) (.int .u64 x10.1.2.1) w3 fun w4 => St (⟨b1, 2, none⟩) (.int .u64 x10.1.2.2.1) w4 fun w5 => St (⟨b1, 3, none⟩) (.int .u64 x10.1.2.2.2.1) w5 fun w6 => St (⟨b1, 4, none⟩) (.int .i64 x10.1.2.2.2.2.1) w6 fun w7 => St (⟨b1, 5, none⟩) (.map x10.1.2.2.2.2.2) w7 fun w8 => Br (!x10.2) (K (-1) w8) (Ld (.int .i64) (⟨b1, 4, none⟩) w8 fun x16 => K x16 w8)
theorem nfa_Machine_Rule.ok (m_0 : Option Addr) (p_1 : Int) (K : Int → World → Prop) (w : World) (h : nfa_Machine_Rule.M m_0 p_1 K w) : nfa_Machine_Rule.C m_0 p_1 w K :=
  calls_of_sem (P := P) (H := [(10, .tup [.agg [(.int .u64), (.int .u64), (.int .u64), (.int .u64), (.int .i64), .map], .one .bool]), (16, .one (.int .i64))]) (ann := .z) (args := [.pointer m_0, .int .i64 p_1]) (rt := .one (.int .i64)) P_mixed rfl rfl (by kernel_rfl) (by kernel_rfl)
    ((show _ = nfa_Machine_Rule.M m_0 p_1 K w by kernel_rfl).mpr h)

/-- (*frisket/nfa.Machine).Has -/
def nfa_Machine_Has.M (m_0 : Option Addr) (p_1 : Int) (b_2 : Int) (K : Bool → World → Prop) (w : World) : Prop :=
  nfa_Machine_at.C m_0 p_1 w fun x12 w1 => Al (.cells #[.int .u64 0, .int .u64 0, .int .u64 0, .int .u64 0, .int .i64 0, .map none] T.nfa_position (0, 0)) w1 fun b1 w2 => St (⟨b1, 0, none⟩) (.int .u64 x12.1.1) w2 fun w3 => St (⟨b1, 1, none⟩) (.int .u64 x12.1.2.1) w3 fun w4 => St (⟨b1, 2, none⟩) (.int .u64 x12.1.2.2.1) w4 fun w5 => St (⟨b1, 3, none⟩) (.int .u64 x12.1.2.2.2.1) w5 fun w6 => St (⟨b1, 4, none⟩) (.int .i64 x12.1.2.2.2.2.1) w6 fun w7 => St (⟨b1, 5, none⟩) (.map x12.1.2.2.2.2.2) w7 fun w8 => Br x12.2 (Need ((64 : Int) ≠ 0) (IdxA 4 (⟨b1, 0, none⟩) (IntKind.wrap .u8 (Int.tdiv b_2 (64 : Int))) 1 fun p20 => Ld (.int .u64) p20 w8 fun x21 => Need ((64 : Int) ≠ 0) (Need (0 ≤ (Int.tmod b_2 (64 : Int))) (K ((bAnd .u64 (Int.fdiv x21 (2 ^ min (Int.toNat (Int.tmod b_2 (64 : Int))) (IntKind.bits .u64))) (1 : Int)) == (1 : Int)) w8)))) (K false w8)
theorem nfa_Machine_Has.ok (m_0 : Option Addr) (p_1 : Int) (b_2 : Int) (K : Bool → World → Prop) (w : World) (h : nfa_Machine_Has.M m_0 p_1 b_2 K w) : nfa_Machine_Has.C m_0 p_1 b_2 w K :=
  calls_of_sem (P := P) (H := [(12, .tup [.agg [(.int .u64), (.int .u64), (.int .u64), (.int .u64), (.int .i64), .map], .one .bool]), (21, .one (.int .u64))]) (ann := .z) (args := [.pointer m_0, .int .i64 p_1, .int .u8 b_2]) (rt := .one .bool) P_mixed rfl rfl (by kernel_rfl) (by kernel_rfl)
    ((show _ = nfa_Machine_Has.M m_0 p_1 b_2 K w by kernel_rfl).mpr h)

/-- frisket/frisketref05.Ends -/
def frisketref05_Ends.M (n_0 : Array Value) (s_1 : ByteArray) (from_2 : Sl) (K : Sl → World → Prop) (w : World) : Prop :=
  Al (.cells n_0 T.frisketref05_Node (0, 0)) w fun b1 w1 => App P (Instr.makeSlice T.sl_bool (.int .i64 (w64 ((s_1.size : Int) + (1 : Int)))) (.int .i64 (w64 ((s_1.size : Int) + (1 : Int))))) (.one .sl) w1 fun x19 w2 => Ld (.int .i64) (⟨b1, 0, none⟩) w2 fun x21 => Br (x21 == (0 : Int)) (Loop (fun (s2 : Int) w3 again3 => Br (decide (s2 < (s_1.size : Int))) (IdxS from_2 s2 1 fun p86 => Ld .bool p86 w3 fun x87 => Br x87 (IdxStr s_1 s2 fun x91 => IdxA 256 (⟨b1, 1, none⟩) (x91.toNat : Int) 1 fun p93 => Ld .bool p93 w3 fun x94 => IdxS x19 (w64 (s2 + (1 : Int))) 1 fun p96 => St p96 (.bool x94) w3 fun w4 => again3 (w64 (s2 + (1 : Int))) w4) (IdxS x19 (w64 (s2 + (1 : Int))) 1 fun p96 => St p96 (.bool false) w3 fun w5 => again3 (w64 (s2 + (1 : Int))) w5)) (K x19 w3)) 0 w2) (Br (x21 == (1 : Int)) (App P (Builtin.copy_ #[T.sl_bool, T.sl_bool] T.int #[.slice x19.a x19.n x19.c, .slice from_2.a from_2.n from_2.c]) (.one (.int .i64)) w2 fun x101 w6 => K x19 w6) (Br (x21 == (2 : Int)) (Draw w2 fun S4 w7 => LdS S4 .sl (⟨b1, 257, none⟩) fun x105 => IdxS x105 1 258 fun p106 => LdSA S4 258 p106 fun x107 => LdS S4 .sl (⟨b1, 257, none⟩) fun x110 => IdxS x110 0 258 fun p111 => LdSA S4 258 p111 fun x112 => frisketref05_Ends.C x112 s_1 from_2 w7 fun x115 w8 => (S4 w8 ∧ frisketref05_Ends.C x107 s_1 x115 w8 fun x116 w9 => (S4 w9 ∧ K x116 w9))) (Br (x21 == (3 : Int)) (Draw w2 fun S5 w10 => LdS S5 .sl (⟨b1, 257, none⟩) fun x120 => IdxS x120 0 258 fun p121 => LdSA S5 258 p121 fun x122 => LdS S5 .sl (⟨b1, 257, none⟩) fun x127 => IdxS x127 1 258 fun p128 => LdSA S5 258 p128 fun x129 => frisketref05_Ends.C x122 s_1 from_2 w10 fun x125 w11 => (S5 w11 ∧ frisketref05_Ends.C x129 s_1 from_2 w11 fun x132 w12 => (S5 w12 ∧ Loop (fun (s6 : Int) w13 again7 => Br (decide (s6 ≤ (s_1.size : Int))) (IdxS x125 s6 1 fun p143 => Ld .bool p143 w13 fun x144 => Br x144 (IdxS x19 s6 1 fun p151 => St p151 (.bool true) w13 fun w14 => again7 (w64 (s6 + (1 : Int))) w14) (IdxS x132 s6 1 fun p148 => Ld .bool p148 w13 fun x149 => IdxS x19 s6 1 fun p151 => St p151 (.bool x149) w13 fun w15 => again7 (w64 (s6 + (1 : Int))) w15)) (K x19 w13)) 0 w12))) (App P (Builtin.copy_ #[T.sl_bool, T.sl_bool] T.int #[.slice x19.a x19.n x19.c, .slice from_2.a from_2.n from_2.c]) (.one (.int .i64)) w2 fun x24 w16 => Loop (fun (s8 : Int) w17 again9 => Br (decide (s8 ≤ (s_1.size : Int))) (Ld .sl (⟨b1, 257, none⟩) w17 fun x32 => IdxS x32 0 258 fun p33 => LdA 258 p33 w17 fun x34 => frisketref05_Ends.C x34 s_1 x19 w17 fun x37 w18 => Loop (fun (s10 : Bool × Int) w19 again11 => Br (decide (s10.2 ≤ (s_1.size : Int))) (Join (fun (s12 : Bool) w20 => IdxS x19 s10.2 1 fun p62 => Ld .bool p62 w20 fun x63 => Br x63 (IdxS x19 s10.2 1 fun p70 => St p70 (.bool true) w20 fun w21 => again11 (s12, (w64 (s10.2 + (1 : Int)))) w21) (IdxS x37 s10.2 1 fun p67 => Ld .bool p67 w20 fun x68 => IdxS x19 s10.2 1 fun p70 => St p70 (.bool x68) w20 fun w22 => again11 (s12, (w64 (s10.2 + (1 : Int)))) w22)) fun j13 => Br s10.1 (j13 true w19) (IdxS x37 s10.2 1 fun p48 => Ld .bool p48 w19 fun x49 => Br x49 (IdxS x19 s10.2 1 fun p53 => Ld .bool p53 w19 fun x54 => j13 (!x54) w19) (j13 false w19))) (Br (!s10.1) (K x19 w19) (again9 (w64 (s8 + (1 : Int))) w19))) (false, 0) w18) (K x19 w17)) 0 w16))))
theorem frisketref05_Ends.ok (n_0 : Array Value) (s_1 : ByteArray) (from_2 : Sl) (K : Sl → World → Prop) (w : World) (h : frisketref05_Ends.M n_0 s_1 from_2 K w) : frisketref05_Ends.C n_0 s_1 from_2 w K :=
  calls_of_sem (P := P) (H := [(19, .one .sl), (21, .one (.int .i64)), (32, .one .sl), (34, .big), (37, .one .sl), (49, .one .bool), (54, .one .bool), (63, .one .bool), (68, .one .bool), (87, .one .bool), (94, .one .bool), (105, .one .sl), (107, .big), (110, .one .sl), (112, .big), (115, .one .sl), (116, .one .sl), (120, .one .sl), (122, .big), (125, .one .sl), (127, .one .sl), (129, .big), (132, .one .sl), (144, .one .bool), (149, .one .bool)]) (ann := (.n .z (.n .z (.n (.n .z (.n .z (.n (.n .z (.l [(8, .one (.int .i64))] [1, 2, 3, 7] .z)) (.n .z (.n .z (.n .z (.n .z (.n .z (.n (.n .z (.n .z (.l [(11, .one (.int .i64))] [1, 7, 9, 10] .z))) (.n .z (.n .z (.l [(12, .one (.int .i64))] [1, 3, 7] (.n .z (.n (.n .z (.n .z (.n (.n .z (.l [(14, .one .bool), (15, .one (.int .i64))] [1, 3, 7, 12, 13] (.n .z (.n (.j [(14, .one .bool)] [1, 3, 7, 12, 13, 15] .z .z) .z)))) .z))) .z)))))))))))))) .z)))) (args := [.agg n_0, .string s_1, .slice from_2.a from_2.n from_2.c]) (rt := .one .sl) P_mixed rfl rfl (by kernel_rfl) (by kernel_rfl)
    ((show _ = frisketref05_Ends.M n_0 s_1 from_2 K w by kernel_rfl).mpr h)

/-- frisket/regex.Parse -/
def regex_Parse.M (s_0 : ByteArray) (K : (Option Addr × Int × Int) → World → Prop) (w : World) : Prop :=
  Al (.cells #[.string s_0, .int .i64 0, .bool false, .bool false, .int .i64 0] T.regex_parser (0, 0)) w fun b1 w1 => regex_parser_or.C (some (⟨b1, 0, none⟩)) w1 fun x12 w2 => Ld .bool (⟨b1, 3, none⟩) w2 fun x17 => Br x17 (K (none, 0, 3) w2) (Join (fun (s2 : Bool) w3 => Br s2 (Draw w3 fun S3 w4 => LdS S3 (.int .i64) (⟨b1, 1, none⟩) fun x37 => K (none, x37, 4) w4) (regex_Size.C x12 w3 fun x40 w5 => Br (decide ((400 : Int) < x40)) (K (none, 0, 3) w5) (K (x12, 0, 0) w5))) fun j4 => Ld .bool (⟨b1, 2, none⟩) w2 fun x22 => Br x22 (j4 true w2) (Ld (.int .i64) (⟨b1, 1, none⟩) w2 fun x28 => j4 (decide (x28 < (s_0.size : Int))) w2))
theorem regex_Parse.ok (s_0 : ByteArray) (K : (Option Addr × Int × Int) → World → Prop) (w : World) (h : regex_Parse.M s_0 K w) : regex_Parse.C s_0 w K :=
  calls_of_sem (P := P) (H := [(12, .one .ptr), (17, .one .bool), (22, .one .bool), (28, .one (.int .i64)), (37, .one (.int .i64)), (40, .one (.int .i64))]) (ann := (.n .z (.n .z (.n .z (.n (.n .z (.n .z (.j [(18, .one .bool)] [5, 6] .z .z))) .z))))) (args := [.string s_0]) (rt := .tup [.one .ptr, .one (.int .i64), .one (.int .i64)]) P_mixed rfl rfl (by kernel_rfl) (by kernel_rfl)
    ((show _ = regex_Parse.M s_0 K w by kernel_rfl).mpr h)

/-- frisket/frisketref05.Parse -/
def frisketref05_Parse.M (s_0 : ByteArray) (K : (Array Value × Int × Bool) → World → Prop) (w : World) : Prop :=
  Al (.cells (#[(.int .i64 0 : Value)] ++ Array.replicate 256 (.bool false : Value) ++ #[(.slice none 0 0 : Value)]) T.frisketref05_Node (0, 0)) w fun b1 w1 => Al (.cells #[.string s_0, .int .i64 0, .int .i64 0, .bool false, .bool false] T.frisketref05_Text (0, 0)) w1 fun b2 w2 => frisketref05_Text_or.C (some (⟨b2, 0, none⟩)) w2 fun x11 w3 => Al (.cells (#[(.int .i64 0 : Value)] ++ Array.replicate 256 (.bool false : Value) ++ #[(.slice none 0 0 : Value)]) T.frisketref05_Node (0, 0)) w3 fun b3 w4 => StA P T.frisketref05_Node (⟨b3, 0, none⟩) x11 w4 fun w5 => Ld .bool (⟨b2, 4, none⟩) w5 fun x15 => Br x15 (App P (Instr.build T.frisketref05_Node #[]) .big w5 fun x16 w6 => StA P T.frisketref05_Node (⟨b1, 0, none⟩) x16 w6 fun w7 => LdA 258 (⟨b1, 0, none⟩) w7 fun r0 => K (r0, 0, true) w7) (Join (fun (s4 : Bool) w8 => Br s4 (Draw w8 fun S5 w9 => AppS P S5 (Instr.build T.frisketref05_Node #[]) .big fun x30 => LdS S5 (.int .i64) (⟨b2, 1, none⟩) fun x34 => StA P T.frisketref05_Node (⟨b1, 0, none⟩) x30 w9 fun w10 => (S5 w10 ∧ LdA 258 (⟨b1, 0, none⟩) w10 fun r0 => K (r0, x34, false) w10)) (LdA 258 (⟨b3, 0, none⟩) w8 fun x35 => frisketref05_Size.C x35 w8 fun x36 w11 => Br (decide ((400 : Int) < x36)) (App P (Instr.build T.frisketref05_Node #[]) .big w11 fun x38 w12 => StA P T.frisketref05_Node (⟨b1, 0, none⟩) x38 w12 fun w13 => LdA 258 (⟨b1, 0, none⟩) w13 fun r0 => K (r0, 0, true) w13) (LdA 258 (⟨b3, 0, none⟩) w11 fun x39 => StA P T.frisketref05_Node (⟨b1, 0, none⟩) x39 w11 fun w14 => LdA 258 (⟨b1, 0, none⟩) w14 fun r0 => K (r0, (-1), false) w14))) fun j6 => Ld .bool (⟨b2, 3, none⟩) w5 fun x20 => Br x20 (j6 true w5) (Ld (.int .i64) (⟨b2, 1, none⟩) w5 fun x25 => j6 (decide (x25 < (s_0.size : Int))) w5))
theorem frisketref05_Parse.ok (s_0 : ByteArray) (K : (Array Value × Int × Bool) → World → Prop) (w : World) (h : frisketref05_Parse.M s_0 K w) : frisketref05_Parse.C s_0 w K :=
  calls_of_sem (P := P) (H := [(2, .big), (11, .big), (15, .one .bool), (16, .big), (20, .one .bool), (25, .one (.int .i64)), (30, .big), (34, .one (.int .i64)), (35, .big), (36, .one (.int .i64)), (38, .big), (39, .big)]) (ann := (.n .z (.n .z (.n .z (.n .z (.n (.j [(29, .one .bool)] [2, 5, 6] .z .z) .z)))))) (args := [.string s_0]) (rt := .tup [.big, .one (.int .i64), .one .bool]) P_mixed rfl rfl (by kernel_rfl) (by kernel_rfl)
    ((show _ = frisketref05_Parse.M s_0 K w by kernel_rfl).mpr h)

/-- slices.Contains[[]*frisket/regex.Node,*frisket/regex.Node] -/
def slices_Contains.M (s_0 : Sl) (v_1 : Option Addr) (K : Bool → World → Prop) (w : World) : Prop :=
  slices_Index.C s_0 v_1 w fun x7 w1 => K (decide ((0 : Int) ≤ x7)) w1
theorem slices_Contains.ok (s_0 : Sl) (v_1 : Option Addr) (K : Bool → World → Prop) (w : World) (h : slices_Contains.M s_0 v_1 K w) : slices_Contains.C s_0 v_1 w K :=
  calls_of_sem (P := P) (H := [(7, .one (.int .i64))]) (ann := .z) (args := [.slice s_0.a s_0.n s_0.c, .pointer v_1]) (rt := .one .bool) P_mixed rfl rfl (by kernel_rfl) (by kernel_rfl)
    ((show _ = slices_Contains.M s_0 v_1 K w by kernel_rfl).mpr h)

/-- frisket/nfa.count -/
def nfa_count.M (n_0 : Option Addr) (most_1 : Int) (K : Int → World → Prop) (w : World) : Prop :=
  regex_Kind.C n_0 w fun x9 w1 => Br (x9 == (0 : Int)) (K 1 w1) (regex_Parts.C n_0 w1 fun x12 w2 => Loop (fun (s1 : Int × Int) w3 again2 => Br (decide (s1.2 < (x12.n : Int))) (IdxS x12 s1.2 1 fun p16 => Ld .ptr p16 w3 fun x17 => Br (decide (most_1 < s1.1)) (K s1.1 w3) (nfa_count.C x17 most_1 w3 fun x24 w4 => again2 ((w64 (s1.1 + x24)), (w64 (s1.2 + (1 : Int)))) w4)) (K s1.1 w3)) (0, 0) w2)
theorem nfa_count.ok (n_0 : Option Addr) (most_1 : Int) (K : Int → World → Prop) (w : World) (h : nfa_count.M n_0 most_1 K w) : nfa_count.C n_0 most_1 w K :=
  calls_of_sem (P := P) (H := [(9, .one (.int .i64)), (12, .one .sl), (17, .one .ptr), (24, .one (.int .i64))]) (ann := (.n .z (.n .z (.n .z (.n (.n .z (.l [(5, .one (.int .i64)), (14, .one (.int .i64))] [1, 12, 13] .z)) .z))))) (args := [.pointer n_0, .int .i64 most_1]) (rt := .one (.int .i64)) P_mixed rfl rfl (by kernel_rfl) (by kernel_rfl)
    ((show _ = nfa_count.M n_0 most_1 K w by kernel_rfl).mpr h)

/-- (*frisket/nfa.Machine).add -/
def nfa_Machine_add.M (m_0 : Option Addr) (rule_1 : Int) (n_2 : Option Addr) (K : (Option Nat × Option Nat × Bool) → World → Prop) (w : World) : Prop :=
  Al (.cells #[.map none, .map none, .bool false] T.nfa_known (0, 0)) w fun b1 w1 => regex_Parts.C n_2 w1 fun x13 w2 => regex_Kind.C n_2 w2 fun x15 w3 => Br (x15 == (0 : Int)) (NilC m_0 fun a19 => Ld .sl a19 w3 fun x21 => Join (fun (s2 : Unit) w4 => Al (.map #[] 0) w4 fun m3 w5 => App0 P (Instr.mapUpdate T.nfa_set (.map (some m3)) (.int .i64 (x21.n : Int)) (.bool true)) w5 fun w6 => Al (.map #[] 0) w6 fun m4 w7 => App0 P (Instr.mapUpdate T.nfa_set (.map (some m4)) (.int .i64 (x21.n : Int)) (.bool true)) w7 fun w8 => St (⟨b1, 0, none⟩) (.map (some m3)) w8 fun w9 => St (⟨b1, 1, none⟩) (.map (some m4)) w9 fun w10 => St (⟨b1, 2, none⟩) (.bool false) w10 fun w11 => Ld .map (⟨b1, 0, none⟩) w11 fun r0_0 => Ld .map (⟨b1, 1, none⟩) w11 fun r0_1 => Ld .bool (⟨b1, 2, none⟩) w11 fun r0_2 => K (r0_0, r0_1, r0_2) w11) fun j5 => DrawN w3 fun S6 w12 => NilC m_0 fun a25 => (Ld .sl a25 w12 fun x27 => (S6 w12 ∧ (regex_Bytes.C n_2 w12 fun x29 w13 => (S6 w13 ∧ Al (.map #[] 0) w13 fun m7 w14 => (S6 w14 ∧ Al (.cells #[.int .u64 x29.1, .int .u64 x29.2.1, .int .u64 x29.2.2.1, .int .u64 x29.2.2.2, .int .i64 rule_1, .map (some m7)] T.nfa_position (0, 0)) w14 fun b8 w15 => (S6 w15 ∧ App P (Builtin.append_ #[T.sl_nfa_position, T.sl_nfa_position] T.sl_nfa_position #[.slice x27.a x27.n x27.c, .slice (some ⟨b8, 0, none⟩) 1 1]) (.one .sl) w15 fun x34 w16 => (S6 w16 ∧ NilC m_0 fun a35 => St a35 (.slice x34.a x34.n x34.c) w16 fun w17 => (S6 w17 ∧ j5 () w17)))))) ∧ (Al (.map #[] 0) w12 fun m9 w18 => (S6 w18 ∧ regex_Bytes.C n_2 w18 fun x29 w19 => (S6 w19 ∧ Al (.cells #[.int .u64 x29.1, .int .u64 x29.2.1, .int .u64 x29.2.2.1, .int .u64 x29.2.2.2, .int .i64 rule_1, .map (some m9)] T.nfa_position (0, 0)) w19 fun b10 w20 => (S6 w20 ∧ App P (Builtin.append_ #[T.sl_nfa_position, T.sl_nfa_position] T.sl_nfa_position #[.slice x27.a x27.n x27.c, .slice (some ⟨b10, 0, none⟩) 1 1]) (.one .sl) w20 fun x34 w21 => (S6 w21 ∧ NilC m_0 fun a35 => St a35 (.slice x34.a x34.n x34.c) w21 fun w22 => (S6 w22 ∧ j5 () w22)))))))) ∧ (regex_Bytes.C n_2 w12 fun x29 w23 => (S6 w23 ∧ (Ld .sl a25 w23 fun x27 => (S6 w23 ∧ Al (.map #[] 0) w23 fun m11 w24 => (S6 w24 ∧ Al (.cells #[.int .u64 x29.1, .int .u64 x29.2.1, .int .u64 x29.2.2.1, .int .u64 x29.2.2.2, .int .i64 rule_1, .map (some m11)] T.nfa_position (0, 0)) w24 fun b12 w25 => (S6 w25 ∧ App P (Builtin.append_ #[T.sl_nfa_position, T.sl_nfa_position] T.sl_nfa_position #[.slice x27.a x27.n x27.c, .slice (some ⟨b12, 0, none⟩) 1 1]) (.one .sl) w25 fun x34 w26 => (S6 w26 ∧ NilC m_0 fun a35 => St a35 (.slice x34.a x34.n x34.c) w26 fun w27 => (S6 w27 ∧ j5 () w27)))))) ∧ (Al (.map #[] 0) w23 fun m13 w28 => (S6 w28 ∧ (Ld .sl a25 w28 fun x27 => (S6 w28 ∧ Al (.cells #[.int .u64 x29.1, .int .u64 x29.2.1, .int .u64 x29.2.2.1, .int .u64 x29.2.2.2, .int .i64 rule_1, .map (some m13)] T.nfa_position (0, 0)) w28 fun b14 w29 => (S6 w29 ∧ App P (Builtin.append_ #[T.sl_nfa_position, T.sl_nfa_position] T.sl_nfa_position #[.slice x27.a x27.n x27.c, .slice (some ⟨b14, 0, none⟩) 1 1]) (.one .sl) w29 fun x34 w30 => (S6 w30 ∧ NilC m_0 fun a35 => St a35 (.slice x34.a x34.n x34.c) w30 fun w31 => (S6 w31 ∧ j5 () w31))))) ∧ (Al (.cells #[.int .u64 x29.1, .int .u64 x29.2.1, .int .u64 x29.2.2.1, .int .u64 x29.2.2.2, .int .i64 rule_1, .map (some m13)] T.nfa_position (0, 0)) w28 fun b15 w32 => (S6 w32 ∧ Ld .sl a25 w32 fun x27 => (S6 w32 ∧ App P (Builtin.append_ #[T.sl_nfa_position, T.sl_nfa_position] T.sl_nfa_position #[.slice x27.a x27.n x27.c, .slice (some ⟨b15, 0, none⟩) 1 1]) (.one .sl) w32 fun x34 w33 => (S6 w33 ∧ NilC m_0 fun a35 => St a35 (.slice x34.a x34.n x34.c) w33 fun w34 => (S6 w34 ∧ j5 () w34))))))))) ∧ (Al (.map #[] 0) w12 fun m16 w35 => (S6 w35 ∧ (Ld .sl a25 w35 fun x27 => (S6 w35 ∧ regex_Bytes.C n_2 w35 fun x29 w36 => (S6 w36 ∧ Al (.cells #[.int .u64 x29.1, .int .u64 x29.2.1, .int .u64 x29.2.2.1, .int .u64 x29.2.2.2, .int .i64 rule_1, .map (some m16)] T.nfa_position (0, 0)) w36 fun b17 w37 => (S6 w37 ∧ App P (Builtin.append_ #[T.sl_nfa_position, T.sl_nfa_position] T.sl_nfa_position #[.slice x27.a x27.n x27.c, .slice (some ⟨b17, 0, none⟩) 1 1]) (.one .sl) w37 fun x34 w38 => (S6 w38 ∧ NilC m_0 fun a35 => St a35 (.slice x34.a x34.n x34.c) w38 fun w39 => (S6 w39 ∧ j5 () w39)))))) ∧ (regex_Bytes.C n_2 w35 fun x29 w40 => (S6 w40 ∧ (Ld .sl a25 w40 fun x27 => (S6 w40 ∧ Al (.cells #[.int .u64 x29.1, .int .u64 x29.2.1, .int .u64 x29.2.2.1, .int .u64 x29.2.2.2, .int .i64 rule_1, .map (some m16)] T.nfa_position (0, 0)) w40 fun b18 w41 => (S6 w41 ∧ App P (Builtin.append_ #[T.sl_nfa_position, T.sl_nfa_position] T.sl_nfa_position #[.slice x27.a x27.n x27.c, .slice (some ⟨b18, 0, none⟩) 1 1]) (.one .sl) w41 fun x34 w42 => (S6 w42 ∧ NilC m_0 fun a35 => St a35 (.slice x34.a x34.n x34.c) w42 fun w43 => (S6 w43 ∧ j5 () w43))))) ∧ (Al (.cells #[.int .u64 x29.1, .int .u64 x29.2.1, .int .u64 x29.2.2.1, .int .u64 x29.2.2.2, .int .i64 rule_1, .map (some m16)] T.nfa_position (0, 0)) w40 fun b19 w44 => (S6 w44 ∧ Ld .sl a25 w44 fun x27 => (S6 w44 ∧ App P (Builtin.append_ #[T.sl_nfa_position, T.sl_nfa_position] T.sl_nfa_position #[.slice x27.a x27.n x27.c, .slice (some ⟨b19, 0, none⟩) 1 1]) (.one .sl) w44 fun x34 w45 => (S6 w45 ∧ NilC m_0 fun a35 => St a35 (.slice x34.a x34.n x34.c) w45 fun w46 => (S6 w46 ∧ j5 () w46)))))))))) (Br (x15 == (2 : Int)) (Draw w3 fun S20 w47 => IdxS x13 0 1 fun p50 => LdS S20 .ptr p50 fun x51 => IdxS x13 1 1 fun p56 => LdS S20 .ptr p56 fun x57 => nfa_Machine_add.C m_0 rule_1 x51 w47 fun x52 w48 => (S20 w48 ∧ nfa_Machine_add.C m_0 rule_1 x57 w48 fun x58 w49 => (S20 w49 ∧ nfa_Machine_cat.C m_0 (x52.1, x52.2.1, x52.2.2) (x58.1, x58.2.1, x58.2.2) w49 fun x59 w50 => (S20 w50 ∧ St (⟨b1, 0, none⟩) (.map x59.1) w50 fun w51 => St (⟨b1, 1, none⟩) (.map x59.2.1) w51 fun w52 => St (⟨b1, 2, none⟩) (.bool x59.2.2) w52 fun w53 => (S20 w53 ∧ Ld .map (⟨b1, 0, none⟩) w53 fun r0_0 => Ld .map (⟨b1, 1, none⟩) w53 fun r0_1 => Ld .bool (⟨b1, 2, none⟩) w53 fun r0_2 => K (r0_0, r0_1, r0_2) w53))))) (Br (x15 == (3 : Int)) (Join (fun (s21 : Addr × Addr) w54 => Draw w54 fun S22 w55 => LdS S22 .map s21.1 fun x75 => LdS S22 .map s21.2 fun x77 => LdS S22 .map (s21.1.add 1) fun x80 => LdS S22 .map (s21.2.add 1) fun x82 => LdS S22 .bool (s21.1.add 2) fun x85 => nfa_set_with.C x75 x77 w55 fun x78 w56 => (S22 w56 ∧ nfa_set_with.C x80 x82 w56 fun x83 w57 => (S22 w57 ∧ Br x85 (St (⟨b1, 0, none⟩) (.map x78) w57 fun w58 => St (⟨b1, 1, none⟩) (.map x83) w58 fun w59 => St (⟨b1, 2, none⟩) (.bool true) w59 fun w60 => (S22 w60 ∧ Ld .map (⟨b1, 0, none⟩) w60 fun r0_0 => Ld .map (⟨b1, 1, none⟩) w60 fun r0_1 => Ld .bool (⟨b1, 2, none⟩) w60 fun r0_2 => K (r0_0, r0_1, r0_2) w60)) (LdS S22 .bool (s21.2.add 2) fun x88 => St (⟨b1, 0, none⟩) (.map x78) w57 fun w61 => St (⟨b1, 1, none⟩) (.map x83) w61 fun w62 => St (⟨b1, 2, none⟩) (.bool x88) w62 fun w63 => (S22 w63 ∧ Ld .map (⟨b1, 0, none⟩) w63 fun r0_0 => Ld .map (⟨b1, 1, none⟩) w63 fun r0_1 => Ld .bool (⟨b1, 2, none⟩) w63 fun r0_2 => K (r0_0, r0_1, r0_2) w63))))) fun j23 => Draw w3 fun S24 w64 => IdxS x13 0 1 fun p65 => LdS S24 .ptr p65 fun x66 => IdxS x13 1 1 fun p71 => LdS S24 .ptr p71 fun x72 => (nfa_Machine_add.C m_0 rule_1 x66 w64 fun x67 w65 => (S24 w65 ∧ (nfa_Machine_add.C m_0 rule_1 x72 w65 fun x73 w66 => (S24 w66 ∧ (Al (.cells #[.map none, .map none, .bool false] T.nfa_known (0, 0)) w66 fun b25 w67 => (S24 w67 ∧ Al (.cells #[.map none, .map none, .bool false] T.nfa_known (0, 0)) w67 fun b26 w68 => (S24 w68 ∧ St (⟨b25, 0, none⟩) (.map x67.1) w68 fun w69 => St (⟨b25, 1, none⟩) (.map x67.2.1) w69 fun w70 => St (⟨b25, 2, none⟩) (.bool x67.2.2) w70 fun w71 => (S24 w71 ∧ St (⟨b26, 0, none⟩) (.map x73.1) w71 fun w72 => St (⟨b26, 1, none⟩) (.map x73.2.1) w72 fun w73 => St (⟨b26, 2, none⟩) (.bool x73.2.2) w73 fun w74 => (S24 w74 ∧ j23 (⟨b25, 0, none⟩, ⟨b26, 0, none⟩) w74))))) ∧ (Al (.cells #[.map none, .map none, .bool false] T.nfa_known (0, 0)) w66 fun b27 w75 => (S24 w75 ∧ Al (.cells #[.map none, .map none, .bool false] T.nfa_known (0, 0)) w75 fun b28 w76 => (S24 w76 ∧ St (⟨b28, 0, none⟩) (.map x67.1) w76 fun w77 => St (⟨b28, 1, none⟩) (.map x67.2.1) w77 fun w78 => St (⟨b28, 2, none⟩) (.bool x67.2.2) w78 fun w79 => (S24 w79 ∧ St (⟨b27, 0, none⟩) (.map x73.1) w79 fun w80 => St (⟨b27, 1, none⟩) (.map x73.2.1) w80 fun w81 => St (⟨b27, 2, none⟩) (.bool x73.2.2) w81 fun w82 => (S24 w82 ∧ j23 (⟨b28, 0, none⟩, ⟨b27, 0, none⟩) w82))))))) ∧ (Al (.cells #[.map none, .map none, .bool false] T.nfa_known (0, 0)) w65 fun b29 w83 => (S24 w83 ∧ (nfa_Machine_add.C m_0 rule_1 x72 w83 fun x73 w84 => (S24 w84 ∧ Al (.cells #[.map none, .map none, .bool false] T.nfa_known (0, 0)) w84 fun b30 w85 => (S24 w85 ∧ St (⟨b29, 0, none⟩) (.map x67.1) w85 fun w86 => St (⟨b29, 1, none⟩) (.map x67.2.1) w86 fun w87 => St (⟨b29, 2, none⟩) (.bool x67.2.2) w87 fun w88 => (S24 w88 ∧ St (⟨b30, 0, none⟩) (.map x73.1) w88 fun w89 => St (⟨b30, 1, none⟩) (.map x73.2.1) w89 fun w90 => St (⟨b30, 2, none⟩) (.bool x73.2.2) w90 fun w91 => (S24 w91 ∧ j23 (⟨b29, 0, none⟩, ⟨b30, 0, none⟩) w91))))) ∧ (Al (.cells #[.map none, .map none, .bool false] T.nfa_known (0, 0)) w83 fun b31 w92 => (S24 w92 ∧ nfa_Machine_add.C m_0 rule_1 x72 w92 fun x73 w93 => (S24 w93 ∧ St (⟨b29, 0, none⟩) (.map x67.1) w93 fun w94 => St (⟨b29, 1, none⟩) (.map x67.2.1) w94 fun w95 => St (⟨b29, 2, none⟩) (.bool x67.2.2) w95 fun w96 => (S24 w96 ∧ St (⟨b31, 0, none⟩) (.map x73.1) w96 fun w97 => St (⟨b31, 1, none⟩) (.map x73.2.1) w97 fun w98 => St (⟨b31, 2, none⟩) (.bool x73.2.2) w98 fun w99 => (S24 w99 ∧ j23 (⟨b29, 0, none⟩, ⟨b31, 0, none⟩) w99))))))) ∧ (Al (.cells #[.map none, .map none, .bool false] T.nfa_known (0, 0)) w65 fun b32 w100 => (S24 w100 ∧ (nfa_Machine_add.C m_0 rule_1 x72 w100 fun x73 w101 => (S24 w101 ∧ Al (.cells #[.map none, .map none, .bool false] T.nfa_known (0, 0)) w101 fun b33 w102 => (S24 w102 ∧ St (⟨b33, 0, none⟩) (.map x67.1) w102 fun w103 => St (⟨b33, 1, none⟩) (.map x67.2.1) w103 fun w104 => St (⟨b33, 2, none⟩) (.bool x67.2.2) w104 fun w105 => (S24 w105 ∧ St (⟨b32, 0, none⟩) (.map x73.1) w105 fun w106 => St (⟨b32, 1, none⟩) (.map x73.2.1) w106 fun w107 => St (⟨b32, 2, none⟩) (.bool x73.2.2) w107 fun w108 => (S24 w108 ∧ j23 (⟨b33, 0, none⟩, ⟨b32, 0, none⟩) w108))))) ∧ (Al (.cells #[.map none, .map none, .bool false] T.nfa_known (0, 0)) w100 fun b34 w109 => (S24 w109 ∧ nfa_Machine_add.C m_0 rule_1 x72 w109 fun x73 w110 => (S24 w110 ∧ St (⟨b34, 0, none⟩) (.map x67.1) w110 fun w111 => St (⟨b34, 1, none⟩) (.map x67.2.1) w111 fun w112 => St (⟨b34, 2, none⟩) (.bool x67.2.2) w112 fun w113 => (S24 w113 ∧ St (⟨b32, 0, none⟩) (.map x73.1) w113 fun w114 => St (⟨b32, 1, none⟩) (.map x73.2.1) w114 fun w115 => St (⟨b32, 2, none⟩) (.bool x73.2.2) w115 fun w116 => (S24 w116 ∧ j23 (⟨b34, 0, none⟩, ⟨b32, 0, none⟩) w116))))))))) ∧ (Al (.cells #[.map none, .map none, .bool false] T.nfa_known (0, 0)) w64 fun b35 w117 => (S24 w117 ∧ (nfa_Machine_add.C m_0 rule_1 x66 w117 fun x67 w118 => (S24 w118 ∧ (nfa_Machine_add.C m_0 rule_1 x72 w118 fun x73 w119 => (S24 w119 ∧ Al (.cells #[.map none, .map none, .bool false] T.nfa_known (0, 0)) w119 fun b36 w120 => (S24 w120 ∧ St (⟨b35, 0, none⟩) (.map x67.1) w120 fun w121 => St (⟨b35, 1, none⟩) (.map x67.2.1) w121 fun w122 => St (⟨b35, 2, none⟩) (.bool x67.2.2) w122 fun w123 => (S24 w123 ∧ St (⟨b36, 0, none⟩) (.map x73.1) w123 fun w124 => St (⟨b36, 1, none⟩) (.map x73.2.1) w124 fun w125 => St (⟨b36, 2, none⟩) (.bool x73.2.2) w125 fun w126 => (S24 w126 ∧ j23 (⟨b35, 0, none⟩, ⟨b36, 0, none⟩) w126))))) ∧ (Al (.cells #[.map none, .map none, .bool false] T.nfa_known (0, 0)) w118 fun b37 w127 => (S24 w127 ∧ nfa_Machine_add.C m_0 rule_1 x72 w127 fun x73 w128 => (S24 w128 ∧ St (⟨b35, 0, none⟩) (.map x67.1) w128 fun w129 => St (⟨b35, 1, none⟩) (.map x67.2.1) w129 fun w130 => St (⟨b35, 2, none⟩) (.bool x67.2.2) w130 fun w131 => (S24 w131 ∧ St (⟨b37, 0, none⟩) (.map x73.1) w131 fun w132 => St (⟨b37, 1, none⟩) (.map x73.2.1) w132 fun w133 => St (⟨b37, 2, none⟩) (.bool x73.2.2) w133 fun w134 => (S24 w134 ∧ j23 (⟨b35, 0, none⟩, ⟨b37, 0, none⟩) w134))))))) ∧ (Al (.cells #[.map none, .map none, .bool false] T.nfa_known (0, 0)) w117 fun b38 w135 => (S24 w135 ∧ nfa_Machine_add.C m_0 rule_1 x66 w135 fun x67 w136 => (S24 w136 ∧ nfa_Machine_add.C m_0 rule_1 x72 w136 fun x73 w137 => (S24 w137 ∧ St (⟨b35, 0, none⟩) (.map x67.1) w137 fun w138 => St (⟨b35, 1, none⟩) (.map x67.2.1) w138 fun w139 => St (⟨b35, 2, none⟩) (.bool x67.2.2) w139 fun w140 => (S24 w140 ∧ St (⟨b38, 0, none⟩) (.map x73.1) w140 fun w141 => St (⟨b38, 1, none⟩) (.map x73.2.1) w141 fun w142 => St (⟨b38, 2, none⟩) (.bool x73.2.2) w142 fun w143 => (S24 w143 ∧ j23 (⟨b35, 0, none⟩, ⟨b38, 0, none⟩) w143)))))))) ∧ (Al (.cells #[.map none, .map none, .bool false] T.nfa_known (0, 0)) w64 fun b39 w144 => (S24 w144 ∧ (nfa_Machine_add.C m_0 rule_1 x66 w144 fun x67 w145 => (S24 w145 ∧ (nfa_Machine_add.C m_0 rule_1 x72 w145 fun x73 w146 => (S24 w146 ∧ Al (.cells #[.map none, .map none, .bool false] T.nfa_known (0, 0)) w146 fun b40 w147 => (S24 w147 ∧ St (⟨b40, 0, none⟩) (.map x67.1) w147 fun w148 => St (⟨b40, 1, none⟩) (.map x67.2.1) w148 fun w149 => St (⟨b40, 2, none⟩) (.bool x67.2.2) w149 fun w150 => (S24 w150 ∧ St (⟨b39, 0, none⟩) (.map x73.1) w150 fun w151 => St (⟨b39, 1, none⟩) (.map x73.2.1) w151 fun w152 => St (⟨b39, 2, none⟩) (.bool x73.2.2) w152 fun w153 => (S24 w153 ∧ j23 (⟨b40, 0, none⟩, ⟨b39, 0, none⟩) w153))))) ∧ (Al (.cells #[.map none, .map none, .bool false] T.nfa_known (0, 0)) w145 fun b41 w154 => (S24 w154 ∧ nfa_Machine_add.C m_0 rule_1 x72 w154 fun x73 w155 => (S24 w155 ∧ St (⟨b41, 0, none⟩) (.map x67.1) w155 fun w156 => St (⟨b41, 1, none⟩) (.map x67.2.1) w156 fun w157 => St (⟨b41, 2, none⟩) (.bool x67.2.2) w157 fun w158 => (S24 w158 ∧ St (⟨b39, 0, none⟩) (.map x73.1) w158 fun w159 => St (⟨b39, 1, none⟩) (.map x73.2.1) w159 fun w160 => St (⟨b39, 2, none⟩) (.bool x73.2.2) w160 fun w161 => (S24 w161 ∧ j23 (⟨b41, 0, none⟩, ⟨b39, 0, none⟩) w161))))))) ∧ (Al (.cells #[.map none, .map none, .bool false] T.nfa_known (0, 0)) w144 fun b42 w162 => (S24 w162 ∧ nfa_Machine_add.C m_0 rule_1 x66 w162 fun x67 w163 => (S24 w163 ∧ nfa_Machine_add.C m_0 rule_1 x72 w163 fun x73 w164 => (S24 w164 ∧ St (⟨b42, 0, none⟩) (.map x67.1) w164 fun w165 => St (⟨b42, 1, none⟩) (.map x67.2.1) w165 fun w166 => St (⟨b42, 2, none⟩) (.bool x67.2.2) w166 fun w167 => (S24 w167 ∧ St (⟨b39, 0, none⟩) (.map x73.1) w167 fun w168 => St (⟨b39, 1, none⟩) (.map x73.2.1) w168 fun w169 => St (⟨b39, 2, none⟩) (.bool x73.2.2) w169 fun w170 => (S24 w170 ∧ j23 (⟨b42, 0, none⟩, ⟨b39, 0, none⟩) w170))))))))) (Br (x15 == (4 : Int)) (IdxS x13 0 1 fun p96 => Ld .ptr p96 w3 fun x97 => nfa_Machine_add.C m_0 rule_1 x97 w3 fun x98 w171 => Al (.cells #[.map none, .map none, .bool false] T.nfa_known (0, 0)) w171 fun b43 w172 => St (⟨b43, 0, none⟩) (.map x98.1) w172 fun w173 => St (⟨b43, 1, none⟩) (.map x98.2.1) w173 fun w174 => St (⟨b43, 2, none⟩) (.bool x98.2.2) w174 fun w175 => Ld .map (⟨b43, 1, none⟩) w175 fun x101 => Ld .map (⟨b43, 0, none⟩) w175 fun x103 => nfa_Machine_link.C m_0 x101 x103 w175 fun x104 w176 => Ld .map (⟨b43, 0, none⟩) w176 fun x106 => Ld .map (⟨b43, 1, none⟩) w176 fun x108 => St (⟨b1, 0, none⟩) (.map x106) w176 fun w177 => St (⟨b1, 1, none⟩) (.map x108) w177 fun w178 => St (⟨b1, 2, none⟩) (.bool true) w178 fun w179 => Ld .map (⟨b1, 0, none⟩) w179 fun r0_0 => Ld .map (⟨b1, 1, none⟩) w179 fun r0_1 => Ld .bool (⟨b1, 2, none⟩) w179 fun r0_2 => K (r0_0, r0_1, r0_2) w179) (Al (.map #[] 0) w3 fun m44 w180 => Al (.map #[] 0) w180 fun m45 w181 => St (⟨b1, 0, none⟩) (.map (some m44)) w181 fun w182 => St (⟨b1, 1, none⟩) (.map (some m45)) w182 fun w183 => St (⟨b1, 2, none⟩) (.bool true) w183 fun w184 => Ld .map (⟨b1, 0, none⟩) w184 fun r0_0 => Ld .map (⟨b1, 1, none⟩) w184 fun r0_1 => Ld .bool (⟨b1, 2, none⟩) w184 fun r0_2 => K (r0_0, r0_1, r0_2) w184))))
theorem nfa_Machine_add.ok (m_0 : Option Addr) (rule_1 : Int) (n_2 : Option Addr) (K : (Option Nat × Option Nat × Bool) → World → Prop) (w : World) (h : nfa_Machine_add.M m_0 rule_1 n_2 K w) : nfa_Machine_add.C m_0 rule_1 n_2 w K :=
  calls_of_sem (P := P) (H := [(6, .agg [.map, .map, .bool]), (13, .one .sl), (15, .one (.int .i64)), (21, .one .sl), (27, .one .sl), (29, .agg [(.int .u64), (.int .u64), (.int .u64), (.int .u64)]), (51, .one .ptr), (52, .agg [.map, .map, .bool]), (57, .one .ptr), (58, .agg [.map, .map, .bool]), (59, .agg [.map, .map, .bool]), (66, .one .ptr), (67, .agg [.map, .map, .bool]), (72, .one .ptr), (73, .agg [.map, .map, .bool]), (75, .one .map), (77, .one .map), (78, .one .map), (80, .one .map), (82, .one .map), (83, .one .map), (85, .one .bool), (88, .one .bool), (97, .one .ptr), (98, .agg [.map, .map, .bool]), (101, .one .map), (103, .one .map), (104, .tup []), (106, .one .map), (108, .one .map)]) (ann := (.n .z (.n .z (.n (.n .z (.n .z (.n (.n .z (.j [] [6, 8] .d .z)) (.n .z (.n .z (.n .z (.n (.j [(9, .one .addr), (10, .one .addr)] [6] .z .z) .z))))))) .z)))) (args := [.pointer m_0, .int .i64 rule_1, .pointer n_2]) (rt := .agg [.map, .map, .bool]) P_mixed rfl rfl (by kernel_rfl) (by kernel_rfl)
    ((show _ = nfa_Machine_add.M m_0 rule_1 n_2 K w by kernel_rfl).mpr h)

/-- (*frisket/nfa.Machine).at -/
def nfa_Machine_at.M (m_0 : Option Addr) (p_1 : Int) (K : ((Int × Int × Int × Int × Int × Option Nat) × Bool) → World → Prop) (w : World) : Prop :=
  Al (.cells #[.int .u64 0, .int .u64 0, .int .u64 0, .int .u64 0, .int .i64 0, .map none] T.nfa_position (0, 0)) w fun b1 w1 => Join (fun (s2 : Bool) w2 => Br s2 (St (⟨b1, 0, none⟩) (.int .u64 0) w2 fun w3 => St (⟨b1, 1, none⟩) (.int .u64 0) w3 fun w4 => St (⟨b1, 2, none⟩) (.int .u64 0) w4 fun w5 => St (⟨b1, 3, none⟩) (.int .u64 0) w5 fun w6 => St (⟨b1, 4, none⟩) (.int .i64 0) w6 fun w7 => St (⟨b1, 5, none⟩) (.map none) w7 fun w8 => Ld (.int .u64) (⟨b1, 0, none⟩) w8 fun r0_0 => Ld (.int .u64) (⟨b1, 1, none⟩) w8 fun r0_1 => Ld (.int .u64) (⟨b1, 2, none⟩) w8 fun r0_2 => Ld (.int .u64) (⟨b1, 3, none⟩) w8 fun r0_3 => Ld (.int .i64) (⟨b1, 4, none⟩) w8 fun r0_4 => Ld .map (⟨b1, 5, none⟩) w8 fun r0_5 => K ((r0_0, r0_1, r0_2, r0_3, r0_4, r0_5), false) w8) (NilC m_0 fun a16 => Ld .sl a16 w2 fun x18 => IdxS x18 p_1 6 fun p20 => Ld (.int .u64) p20 w2 fun x21_0 => Ld (.int .u64) (p20.add 1) w2 fun x21_1 => Ld (.int .u64) (p20.add 2) w2 fun x21_2 => Ld (.int .u64) (p20.add 3) w2 fun x21_3 => Ld (.int .i64) (p20.add 4) w2 fun x21_4 => Ld .map (p20.add 5) w2 fun x21_5 => St (⟨b1, 0, none⟩) (.int .u64 x21_0) w2 fun w9 => St (⟨b1, 1, none⟩) (.int .u64 x21_1) w9 fun w10 => St (⟨b1, 2, none⟩) (.int .u64 x21_2) w10 fun w11 => St (⟨b1, 3, none⟩) (.int .u64 x21_3) w11 fun w12 => St (⟨b1, 4, none⟩) (.int .i64 x21_4) w12 fun w13 => St (⟨b1, 5, none⟩) (.map x21_5) w13 fun w14 => Ld (.int .u64) (⟨b1, 0, none⟩) w14 fun r0_0 => Ld (.int .u64) (⟨b1, 1, none⟩) w14 fun r0_1 => Ld (.int .u64) (⟨b1, 2, none⟩) w14 fun r0_2 => Ld (.int .u64) (⟨b1, 3, none⟩) w14 fun r0_3 => Ld (.int .i64) (⟨b1, 4, none⟩) w14 fun r0_4 => Ld .map (⟨b1, 5, none⟩) w14 fun r0_5 => K ((r0_0, r0_1, r0_2, r0_3, r0_4, r0_5), true) w14)) fun j3 => Br (decide (p_1 < (0 : Int))) (j3 true w1) (nfa_Machine_Len.C m_0 w1 fun x11 w15 => j3 (decide (x11 ≤ p_1)) w15)
theorem nfa_Machine_at.ok (m_0 : Option Addr) (p_1 : Int) (K : ((Int × Int × Int × Int × Int × Option Nat) × Bool) → World → Prop) (w : World) (h : nfa_Machine_at.M m_0 p_1 K w) : nfa_Machine_at.C m_0 p_1 w K :=
  calls_of_sem (P := P) (H := [(4, .agg [(.int .u64), (.int .u64), (.int .u64), (.int .u64), (.int .i64), .map]), (11, .one (.int .i64)), (18, .one .sl), (21, .agg [(.int .u64), (.int .u64), (.int .u64), (.int .u64), (.int .i64), .map])]) (ann := (.n .z (.n (.j [(13, .one .bool)] [0, 1, 4] .z .z) .z))) (args := [.pointer m_0, .int .i64 p_1]) (rt := .tup [.agg [(.int .u64), (.int .u64), (.int .u64), (.int .u64), (.int .i64), .map], .one .bool]) P_mixed rfl rfl (by kernel_rfl) (by kernel_rfl)
    ((show _ = nfa_Machine_at.M m_0 p_1 K w by kernel_rfl).mpr h)

/-- (frisket/nfa.set).sorted -/
def nfa_set_sorted.M (s_0 : Option Nat) (K : Sl → World → Prop) (w : World) : Prop :=
  maps_Keys.C s_0 w fun x4 w1 => slices_Sorted.C x4 w1 fun x5 w2 => K x5 w2
theorem nfa_set_sorted.ok (s_0 : Option Nat) (K : Sl → World → Prop) (w : World) (h : nfa_set_sorted.M s_0 K w) : nfa_set_sorted.C s_0 w K :=
  calls_of_sem (P := P) (H := [(4, .one .raw), (5, .one .sl)]) (ann := .z) (args := [.map s_0]) (rt := .one .sl) P_mixed rfl rfl (by kernel_rfl) (by kernel_rfl)
    ((show _ = nfa_set_sorted.M s_0 K w by kernel_rfl).mpr h)

/-- (*frisket/nfa.Machine).rule -/
def nfa_Machine_rule.M (m_0 : Option Addr) (i_1 : Int) (K : (Option Nat × Option Nat × Bool) → World → Prop) (w : World) : Prop :=
  Al (.cells #[.map none, .map none, .bool false] T.nfa_known (0, 0)) w fun b1 w1 => Join (fun (s2 : Bool) w2 => Br s2 (St (⟨b1, 0, none⟩) (.map none) w2 fun w3 => St (⟨b1, 1, none⟩) (.map none) w3 fun w4 => St (⟨b1, 2, none⟩) (.bool false) w4 fun w5 => Ld .map (⟨b1, 0, none⟩) w5 fun r0_0 => Ld .map (⟨b1, 1, none⟩) w5 fun r0_1 => Ld .bool (⟨b1, 2, none⟩) w5 fun r0_2 => K (r0_0, r0_1, r0_2) w5) (NilC m_0 fun a15 => Ld .sl (a15.add 1) w2 fun x17 => IdxS x17 i_1 3 fun p19 => Ld .map p19 w2 fun x20_0 => Ld .map (p19.add 1) w2 fun x20_1 => Ld .bool (p19.add 2) w2 fun x20_2 => St (⟨b1, 0, none⟩) (.map x20_0) w2 fun w6 => St (⟨b1, 1, none⟩) (.map x20_1) w6 fun w7 => St (⟨b1, 2, none⟩) (.bool x20_2) w7 fun w8 => Ld .map (⟨b1, 0, none⟩) w8 fun r0_0 => Ld .map (⟨b1, 1, none⟩) w8 fun r0_1 => Ld .bool (⟨b1, 2, none⟩) w8 fun r0_2 => K (r0_0, r0_1, r0_2) w8)) fun j3 => Br (decide (i_1 < (0 : Int))) (j3 true w1) (nfa_Machine_Rules.C m_0 w1 fun x10 w9 => j3 (decide (x10 ≤ i_1)) w9)
theorem nfa_Machine_rule.ok (m_0 : Option Addr) (i_1 : Int) (K : (Option Nat × Option Nat × Bool) → World → Prop) (w : World) (h : nfa_Machine_rule.M m_0 i_1 K w) : nfa_Machine_rule.C m_0 i_1 w K :=
  calls_of_sem (P := P) (H := [(4, .agg [.map, .map, .bool]), (10, .one (.int .i64)), (17, .one .sl), (20, .agg [.map, .map, .bool])]) (ann := (.n .z (.n (.j [(12, .one .bool)] [0, 1, 4] .z .z) .z))) (args := [.pointer m_0, .int .i64 i_1]) (rt := .agg [.map, .map, .bool]) P_mixed rfl rfl (by kernel_rfl) (by kernel_rfl)
    ((show _ = nfa_Machine_rule.M m_0 i_1 K w by kernel_rfl).mpr h)

/-- (*frisket/regex.parser).or -/
def regex_parser_or.M (p_0 : Option Addr) (K : Option Addr → World → Prop) (w : World) : Prop :=
  regex_parser_cat.C p_0 w fun x5 w1 => Al (.cells #[.pointer x5] T.p_regex_Node (0, 0)) w1 fun b1 w2 => Loop (fun (s2 : Sl) w3 again3 => Join (fun (s4 : Bool) w4 => Br s4 (regex_parser_cat.C p_0 w4 fun x20 w5 => Al (.cells #[.pointer x20] T.p_regex_Node (0, 0)) w5 fun b5 w6 => App P (Builtin.append_ #[T.sl_p_regex_Node, T.sl_p_regex_Node] T.sl_p_regex_Node #[.slice s2.a s2.n s2.c, .slice (some ⟨b5, 0, none⟩) 1 1]) (.one .sl) w6 fun x22 w7 => again3 x22 w7) (regex_Or.C s2 w4 fun x24 w8 => K x24 w8)) fun j6 => NilC p_0 fun a8 => Ld .bool (a8.add 2) w3 fun x10 => Br (!x10) (NilC p_0 fun a14 => regex_reader_is.C (some a14) 124 w3 fun x16 w9 => j6 x16 w9) (j6 false w3)) (⟨(some ⟨b1, 0, none⟩), 1, 1⟩) w2
theorem regex_parser_or.ok (p_0 : Option Addr) (K : Option Addr → World → Prop) (w : World) (h : regex_parser_or.M p_0 K w) : regex_parser_or.C p_0 w K :=
  calls_of_sem (P := P) (H := [(5, .one .ptr), (10, .one .bool), (16, .one .bool), (20, .one .ptr), (24, .one .ptr)]) (ann := (.n .z (.n .z (.n (.l [(3, .one .sl)] [0] (.n (.j [(17, .one .bool)] [0, 3] .z .z) .z)) .z)))) (args := [.pointer p_0]) (rt := .one .ptr) P_mixed rfl rfl (by kernel_rfl) (by kernel_rfl)
    ((show _ = regex_parser_or.M p_0 K w by kernel_rfl).mpr h)

/-- frisket/regex.Size -/
def regex_Size.M (n_0 : Option Addr) (K : Int → World → Prop) (w : World) : Prop :=
  Br (n_0.isNone) (K 0 w) (NilC n_0 fun a9 => Ld .sl (a9.add 5) w fun x11 => Loop (fun (s1 : Int × Int) w1 again2 => Br (decide (s1.2 < (x11.n : Int))) (IdxS x11 s1.2 1 fun p15 => Ld .ptr p15 w1 fun x16 => regex_Size.C x16 w1 fun x19 w2 => again2 ((w64 (s1.1 + x19)), (w64 (s1.2 + (1 : Int)))) w2) (K s1.1 w1)) (1, 0) w)
theorem regex_Size.ok (n_0 : Option Addr) (K : Int → World → Prop) (w : World) (h : regex_Size.M n_0 K w) : regex_Size.C n_0 w K :=
  calls_of_sem (P := P) (H := [(11, .one .sl), (16, .one .ptr), (19, .one (.int .i64))]) (ann := (.n .z (.n .z (.n .z (.n (.n .z (.l [(3, .one (.int .i64)), (13, .one (.int .i64))] [11, 12] .z)) .z))))) (args := [.pointer n_0]) (rt := .one (.int .i64)) P_mixed rfl rfl (by kernel_rfl) (by kernel_rfl)
    ((show _ = regex_Size.M n_0 K w by kernel_rfl).mpr h)

/-- (*frisket/frisketref05.Text).or -/
def frisketref05_Text_or.M (t_0 : Option Addr) (K : Array Value → World → Prop) (w : World) : Prop :=
  Al (.cells (#[(.int .i64 0 : Value)] ++ Array.replicate 256 (.bool false : Value) ++ #[(.slice none 0 0 : Value)]) T.frisketref05_Node (0, 0)) w fun b1 w1 => Loop (fun (s2 : Sl) w2 again3 => Loop (fun (s4 : Sl) w3 again5 => Join (fun (s6 : Bool) w4 => Br s6 (frisketref05_Text_factor.C t_0 w4 fun x35 w5 => App P (Instr.buildSlice T.sl_frisketref05_Node 1 #[(0, .agg x35)]) (.one .sl) w5 fun x36 w6 => App P (Builtin.append_ #[T.sl_frisketref05_Node, T.sl_frisketref05_Node] T.sl_frisketref05_Node #[.slice s4.a s4.n s4.c, .slice x36.a x36.n x36.c]) (.one .sl) w6 fun x37 w7 => again5 x37 w7) (frisketref05_pair.C 2 s4 w4 fun x40 w8 => App P (Instr.buildSlice T.sl_frisketref05_Node 1 #[(0, .agg x40)]) (.one .sl) w8 fun x41 w9 => App P (Builtin.append_ #[T.sl_frisketref05_Node, T.sl_frisketref05_Node] T.sl_frisketref05_Node #[.slice s2.a s2.n s2.c, .slice x41.a x41.n x41.c]) (.one .sl) w9 fun x42 w10 => Join (fun (s7 : Bool) w11 => Br s7 (frisketref05_pair.C 3 x42 w11 fun x53 w12 => Al (.cells (#[(.int .i64 0 : Value)] ++ Array.replicate 256 (.bool false : Value) ++ #[(.slice none 0 0 : Value)]) T.frisketref05_Node (0, 0)) w12 fun b8 w13 => StA P T.frisketref05_Node (⟨b8, 0, none⟩) x53 w13 fun w14 => NilC t_0 fun a56 => Ld .bool (a56.add 4) w14 fun x58 => Br x58 (NilC t_0 fun a64 => St (a64.add 4) (.bool true) w14 fun w15 => LdA 258 (⟨b8, 0, none⟩) w15 fun x66 => StA P T.frisketref05_Node (⟨b1, 0, none⟩) x66 w15 fun w16 => LdA 258 (⟨b1, 0, none⟩) w16 fun r0 => K r0 w16) (LdA 258 (⟨b8, 0, none⟩) w14 fun x60 => frisketref05_Size.C x60 w14 fun x61 w17 => NilC t_0 fun a64 => St (a64.add 4) (.bool (decide ((400 : Int) < x61))) w17 fun w18 => LdA 258 (⟨b8, 0, none⟩) w18 fun x66 => StA P T.frisketref05_Node (⟨b1, 0, none⟩) x66 w18 fun w19 => LdA 258 (⟨b1, 0, none⟩) w19 fun r0 => K r0 w19)) (NilC t_0 fun a68 => Ld (.int .i64) (a68.add 1) w11 fun x70 => NilC t_0 fun a72 => St (a72.add 1) (.int .i64 (w64 (x70 + (1 : Int)))) w11 fun w20 => again3 x42 w20)) fun j9 => NilC t_0 fun a44 => Ld .bool (a44.add 3) w10 fun x46 => Br x46 (j9 true w10) (frisketref05_Text_sees.C t_0 124 w10 fun x49 w21 => j9 (!x49) w21))) fun j10 => Draw w3 fun S11 w22 => NilC t_0 fun a7 => LdS S11 .bool (a7.add 3) fun x9 => Br (!x9) (NilC t_0 fun a13 => LdS S11 (.int .i64) (a13.add 1) fun x15 => NilC t_0 fun a17 => LdS S11 .str a17 fun x19 => Br (decide (x15 < (x19.size : Int))) (frisketref05_Text_sees.C t_0 124 w22 fun x25 w23 => (S11 w23 ∧ Br (!x25) (frisketref05_Text_sees.C t_0 41 w23 fun x30 w24 => (S11 w24 ∧ j10 (!x30) w24)) (j10 false w23))) (j10 false w22)) (j10 false w22)) (⟨none, 0, 0⟩) w2) (⟨none, 0, 0⟩) w1
theorem frisketref05_Text_or.ok (t_0 : Option Addr) (K : Array Value → World → Prop) (w : World) (h : frisketref05_Text_or.M t_0 K w) : frisketref05_Text_or.C t_0 w K :=
  calls_of_sem (P := P) (H := [(2, .big), (9, .one .bool), (15, .one (.int .i64)), (19, .one .str), (25, .one .bool), (30, .one .bool), (35, .big), (36, .one .sl), (40, .big), (41, .one .sl), (46, .one .bool), (49, .one .bool), (53, .big), (58, .one .bool), (60, .big), (61, .one (.int .i64)), (66, .big), (70, .one (.int .i64))]) (ann := (.n .z (.n .z (.l [(3, .one .sl)] [0, 2] (.n .z (.n (.l [(4, .one .sl)] [0, 2, 3] (.n (.j [(32, .one .bool)] [0, 2, 3, 4] .z .z) .z)) (.n .z (.n (.j [(51, .one .bool)] [0, 2, 3] .z .z) .z)))))))) (args := [.pointer t_0]) (rt := .big) P_mixed rfl rfl (by kernel_rfl) (by kernel_rfl)
    ((show _ = frisketref05_Text_or.M t_0 K w by kernel_rfl).mpr h)

/-- frisket/frisketref05.Size -/
def frisketref05_Size.M (n_0 : Array Value) (K : Int → World → Prop) (w : World) : Prop :=
  Al (.cells n_0 T.frisketref05_Node (0, 0)) w fun b1 w1 => Loop (fun (s2 : Int × Int) w2 again3 => Ld .sl (⟨b1, 257, none⟩) w2 fun x7 => Br (decide (s2.2 < (x7.n : Int))) (Ld .sl (⟨b1, 257, none⟩) w2 fun x14 => IdxS x14 s2.2 258 fun p16 => LdA 258 p16 w2 fun x17 => frisketref05_Size.C x17 w2 fun x18 w3 => again3 ((w64 (s2.1 + x18)), (w64 (s2.2 + (1 : Int)))) w3) (K s2.1 w2)) (1, 0) w1
theorem frisketref05_Size.ok (n_0 : Array Value) (K : Int → World → Prop) (w : World) (h : frisketref05_Size.M n_0 K w) : frisketref05_Size.C n_0 w K :=
  calls_of_sem (P := P) (H := [(7, .one .sl), (14, .one .sl), (17, .big), (18, .one (.int .i64))]) (ann := (.n .z (.n .z (.n (.n .z (.l [(3, .one (.int .i64)), (4, .one (.int .i64))] [1] .z)) .z)))) (args := [.agg n_0]) (rt := .one (.int .i64)) P_mixed rfl rfl (by kernel_rfl) (by kernel_rfl)
    ((show _ = frisketref05_Size.M n_0 K w by kernel_rfl).mpr h)

/-- slices.Index[[]*frisket/regex.Node,*frisket/regex.Node] -/
def slices_Index.M (s_0 : Sl) (v_1 : Option Addr) (K : Int → World → Prop) (w : World) : Prop :=
  Loop (fun (s1 : Int) w1 again2 => Br (decide (s1 < (s_0.n : Int))) (IdxS s_0 s1 1 fun p14 => Ld .ptr p14 w1 fun x15 => App P (do eqGuard .eql T.p_regex_Node (.tmp 11) (.tmp 15) (.pointer v_1) (.pointer x15); binOp .eql T.p_regex_Node (.pointer v_1) (.pointer x15)) (.one .bool) w1 fun x16 w2 => Br x16 (K s1 w2) (again2 (w64 (s1 + (1 : Int))) w2)) (K (-1) w1)) 0 w
theorem slices_Index.ok (s_0 : Sl) (v_1 : Option Addr) (K : Int → World → Prop) (w : World) (h : slices_Index.M s_0 v_1 K w) : slices_Index.C s_0 v_1 w K :=
  calls_of_sem (P := P) (H := [(15, .one .ptr), (16, .one .bool)]) (ann := (.n .z (.n (.n .z (.l [(8, .one (.int .i64))] [0, 1, 7] .z)) .z))) (args := [.slice s_0.a s_0.n s_0.c, .pointer v_1]) (rt := .one (.int .i64)) P_mixed rfl rfl (by kernel_rfl) (by kernel_rfl)
    ((show _ = slices_Index.M s_0 v_1 K w by kernel_rfl).mpr h)

/-- frisket/regex.Kind -/
def regex_Kind.M (n_0 : Option Addr) (K : Int → World → Prop) (w : World) : Prop :=
  Br (n_0.isNone) (K (-1) w) (NilC n_0 fun a6 => Ld (.int .i64) a6 w fun x8 => K x8 w)
theorem regex_Kind.ok (n_0 : Option Addr) (K : Int → World → Prop) (w : World) (h : regex_Kind.M n_0 K w) : regex_Kind.C n_0 w K :=
  calls_of_sem (P := P) (H := [(8, .one (.int .i64))]) (ann := .z) (args := [.pointer n_0]) (rt := .one (.int .i64)) P_mixed rfl rfl (by kernel_rfl) (by kernel_rfl)
    ((show _ = regex_Kind.M n_0 K w by kernel_rfl).mpr h)

/-- frisket/regex.Parts -/
def regex_Parts.M (n_0 : Option Addr) (K : Sl → World → Prop) (w : World) : Prop :=
  Br (n_0.isNone) (K (⟨none, 0, 0⟩) w) (NilC n_0 fun a6 => Ld .sl (a6.add 5) w fun x8 => App P (Builtin.append_ #[T.sl_p_regex_Node, T.sl_p_regex_Node] T.sl_p_regex_Node #[.slice none 0 0, .slice x8.a x8.n x8.c]) (.one .sl) w fun x9 w1 => K x9 w1)
theorem regex_Parts.ok (n_0 : Option Addr) (K : Sl → World → Prop) (w : World) (h : regex_Parts.M n_0 K w) : regex_Parts.C n_0 w K :=
  calls_of_sem (P := P) (H := [(8, .one .sl)]) (ann := .z) (args := [.pointer n_0]) (rt := .one .sl) P_mixed rfl rfl (by kernel_rfl) (by kernel_rfl)
    ((show _ = regex_Parts.M n_0 K w by kernel_rfl).mpr h)

/-- frisket/regex.Bytes -/
def regex_Bytes.M (n_0 : Option Addr) (K : (Int × Int × Int × Int) → World → Prop) (w : World) : Prop :=
  Al (.cells #[.int .u64 0, .int .u64 0, .int .u64 0, .int .u64 0] T.a4_uint64 (0, 0)) w fun b1 w1 => Br (n_0.isNone) (St (⟨b1, 0, none⟩) (.int .u64 0) w1 fun w2 => St (⟨b1, 1, none⟩) (.int .u64 0) w2 fun w3 => St (⟨b1, 2, none⟩) (.int .u64 0) w3 fun w4 => St (⟨b1, 3, none⟩) (.int .u64 0) w4 fun w5 => Ld (.int .u64) (⟨b1, 0, none⟩) w5 fun r0_0 => Ld (.int .u64) (⟨b1, 1, none⟩) w5 fun r0_1 => Ld (.int .u64) (⟨b1, 2, none⟩) w5 fun r0_2 => Ld (.int .u64) (⟨b1, 3, none⟩) w5 fun r0_3 => K (r0_0, r0_1, r0_2, r0_3) w5) (NilC n_0 fun a7 => Ld (.int .u64) (a7.add 1) w1 fun x9_0 => Ld (.int .u64) ((a7.add 1).add 1) w1 fun x9_1 => Ld (.int .u64) ((a7.add 1).add 2) w1 fun x9_2 => Ld (.int .u64) ((a7.add 1).add 3) w1 fun x9_3 => St (⟨b1, 0, none⟩) (.int .u64 x9_0) w1 fun w6 => St (⟨b1, 1, none⟩) (.int .u64 x9_1) w6 fun w7 => St (⟨b1, 2, none⟩) (.int .u64 x9_2) w7 fun w8 => St (⟨b1, 3, none⟩) (.int .u64 x9_3) w8 fun w9 => Ld (.int .u64) (⟨b1, 0, none⟩) w9 fun r0_0 => Ld (.int .u64) (⟨b1, 1, none⟩) w9 fun r0_1 => Ld (.int .u64) (⟨b1, 2, none⟩) w9 fun r0_2 => Ld (.int .u64) (⟨b1, 3, none⟩) w9 fun r0_3 => K (r0_0, r0_1, r0_2, r0_3) w9)
theorem regex_Bytes.ok (n_0 : Option Addr) (K : (Int × Int × Int × Int) → World → Prop) (w : World) (h : regex_Bytes.M n_0 K w) : regex_Bytes.C n_0 w K :=
  calls_of_sem (P := P) (H := [(2, .agg [(.int .u64), (.int .u64), (.int .u64), (.int .u64)]), (9, .agg [(.int .u64), (.int .u64), (.int .u64), (.int .u64)])]) (ann := .z) (args := [.pointer n_0]) (rt := .agg [(.int .u64), (.int .u64), (.int .u64), (.int .u64)]) P_mixed rfl rfl (by kernel_rfl) (by kernel_rfl)
    ((show _ = regex_Bytes.M n_0 K w by kernel_rfl).mpr h)

/-- (*frisket/nfa.Machine).cat -/
def nfa_Machine_cat.M (m_0 : Option Addr) (a_1 : Option Nat × Option Nat × Bool) (b_2 : Option Nat × Option Nat × Bool) (K : (Option Nat × Option Nat × Bool) → World → Prop) (w : World) : Prop :=
  Al (.cells #[.map a_1.1, .map a_1.2.1, .bool a_1.2.2] T.nfa_known (0, 0)) w fun b1 w1 => Al (.cells #[.map b_2.1, .map b_2.2.1, .bool b_2.2.2] T.nfa_known (0, 0)) w1 fun b2 w2 => Al (.cells #[.map none, .map none, .bool false] T.nfa_known (0, 0)) w2 fun b3 w3 => Ld .map (⟨b1, 1, none⟩) w3 fun x10 => Ld .map (⟨b2, 0, none⟩) w3 fun x12 => nfa_Machine_link.C m_0 x10 x12 w3 fun x13 w4 => Join (fun (s4 : Addr) w5 => Join (fun (s5 : Unit) w6 => Ld .bool (⟨b2, 2, none⟩) w6 fun x34 => Br x34 (Ld .map (⟨b2, 1, none⟩) w6 fun x36 => Ld .map (⟨b1, 1, none⟩) w6 fun x38 => nfa_set_with.C x36 x38 w6 fun x39 w7 => St (s4.add 1) (.map x39) w7 fun w8 => Ld .map s4 w8 fun x41_0 => Ld .map (s4.add 1) w8 fun x41_1 => Ld .bool (s4.add 2) w8 fun x41_2 => St (⟨b3, 0, none⟩) (.map x41_0) w8 fun w9 => St (⟨b3, 1, none⟩) (.map x41_1) w9 fun w10 => St (⟨b3, 2, none⟩) (.bool x41_2) w10 fun w11 => Ld .map (⟨b3, 0, none⟩) w11 fun r0_0 => Ld .map (⟨b3, 1, none⟩) w11 fun r0_1 => Ld .bool (⟨b3, 2, none⟩) w11 fun r0_2 => K (r0_0, r0_1, r0_2) w11) (Ld .map s4 w6 fun x41_0 => Ld .map (s4.add 1) w6 fun x41_1 => Ld .bool (s4.add 2) w6 fun x41_2 => St (⟨b3, 0, none⟩) (.map x41_0) w6 fun w12 => St (⟨b3, 1, none⟩) (.map x41_1) w12 fun w13 => St (⟨b3, 2, none⟩) (.bool x41_2) w13 fun w14 => Ld .map (⟨b3, 0, none⟩) w14 fun r0_0 => Ld .map (⟨b3, 1, none⟩) w14 fun r0_1 => Ld .bool (⟨b3, 2, none⟩) w14 fun r0_2 => K (r0_0, r0_1, r0_2) w14)) fun j6 => Ld .bool (⟨b1, 2, none⟩) w5 fun x26 => Br x26 (Ld .map (⟨b1, 0, none⟩) w5 fun x28 => Ld .map (⟨b2, 0, none⟩) w5 fun x30 => nfa_set_with.C x28 x30 w5 fun x31 w15 => St s4 (.map x31) w15 fun w16 => j6 () w16) (j6 () w5)) fun j7 => Ld .map (⟨b1, 0, none⟩) w4 fun x15 => Ld .map (⟨b2, 1, none⟩) w4 fun x17 => Ld .bool (⟨b1, 2, none⟩) w4 fun x19 => Br x19 (Ld .bool (⟨b2, 2, none⟩) w4 fun x22 => Al (.cells #[.map none, .map none, .bool false] T.nfa_known (0, 0)) w4 fun b8 w17 => St (⟨b8, 0, none⟩) (.map x15) w17 fun w18 => St (⟨b8, 1, none⟩) (.map x17) w18 fun w19 => St (⟨b8, 2, none⟩) (.bool x22) w19 fun w20 => j7 (⟨b8, 0, none⟩) w20) (Al (.cells #[.map none, .map none, .bool false] T.nfa_known (0, 0)) w4 fun b9 w21 => St (⟨b9, 0, none⟩) (.map x15) w21 fun w22 => St (⟨b9, 1, none⟩) (.map x17) w22 fun w23 => St (⟨b9, 2, none⟩) (.bool false) w23 fun w24 => j7 (⟨b9, 0, none⟩) w24)
theorem nfa_Machine_cat.ok (m_0 : Option Addr) (a_1 : Option Nat × Option Nat × Bool) (b_2 : Option Nat × Option Nat × Bool) (K : (Option Nat × Option Nat × Bool) → World → Prop) (w : World) (h : nfa_Machine_cat.M m_0 a_1 b_2 K w) : nfa_Machine_cat.C m_0 a_1 b_2 w K :=
  calls_of_sem (P := P) (H := [(6, .agg [.map, .map, .bool]), (10, .one .map), (12, .one .map), (13, .tup []), (15, .one .map), (17, .one .map), (19, .one .bool), (22, .one .bool), (26, .one .bool), (28, .one .map), (30, .one .map), (31, .one .map), (34, .one .bool), (36, .one .map), (38, .one .map), (39, .one .map), (41, .agg [.map, .map, .bool])]) (ann := (.n .z (.n .z (.j [(7, .one .addr)] [4, 5, 6] .z (.j [] [4, 5, 6, 7] .z .z))))) (args := [.pointer m_0, .agg #[.map a_1.1, .map a_1.2.1, .bool a_1.2.2], .agg #[.map b_2.1, .map b_2.2.1, .bool b_2.2.2]]) (rt := .agg [.map, .map, .bool]) P_mixed rfl rfl (by kernel_rfl) (by kernel_rfl)
    ((show _ = nfa_Machine_cat.M m_0 a_1 b_2 K w by kernel_rfl).mpr h)

/-- (frisket/nfa.set).with -/
def nfa_set_with.M (s_0 : Option Nat) (more_1 : Option Nat) (K : Option Nat → World → Prop) (w : World) : Prop :=
  maps_Clone.C s_0 w fun x7 w1 => maps_Copy.C x7 more_1 w1 fun x10 w2 => K x7 w2
theorem nfa_set_with.ok (s_0 : Option Nat) (more_1 : Option Nat) (K : Option Nat → World → Prop) (w : World) (h : nfa_set_with.M s_0 more_1 K w) : nfa_set_with.C s_0 more_1 w K :=
  calls_of_sem (P := P) (H := [(7, .one .map), (10, .tup [])]) (ann := .z) (args := [.map s_0, .map more_1]) (rt := .one .map) P_mixed rfl rfl (by kernel_rfl) (by kernel_rfl)
    ((show _ = nfa_set_with.M s_0 more_1 K w by kernel_rfl).mpr h)

/-- (*frisket/nfa.Machine).link -/
def nfa_Machine_link.M (m_0 : Option Addr) (from_1 : Option Nat) (to_2 : Option Nat) (K : Unit → World → Prop) (w : World) : Prop :=
  App P (Instr.range T.nfa_set (.map from_1)) (.one .ptr) w fun x8 w1 => Loop (fun (s1 : Unit) w2 again2 => Join (fun (s3 : Bool) w3 => Br s3 (App P (Instr.entry (.pointer x8)) (.tup [.one (.int .i64), .one .bool]) w3 fun x11 w4 => NilC m_0 fun a14 => Ld .sl a14 w4 fun x16 => IdxS x16 x11.1 6 fun p18 => Ld .map (p18.add 5) w4 fun x20 => maps_Copy.C x20 to_2 w4 fun x22 w5 => again2 () w5) (K () w3)) fun j4 => Nxt P (Instr.next (.pointer x8) false 0) (.int .i64) .bool w2 (fun w6 => j4 false w6) (fun k9 v9 w7 => j4 true w7)) () w1
theorem nfa_Machine_link.ok (m_0 : Option Addr) (from_1 : Option Nat) (to_2 : Option Nat) (K : Unit → World → Prop) (w : World) (h : nfa_Machine_link.M m_0 from_1 to_2 K w) : nfa_Machine_link.C m_0 from_1 to_2 w K :=
  calls_of_sem (P := P) (H := [(8, .one .ptr), (9, .tup [.one .bool, .one (.int .i64), .one .bool]), (11, .tup [.one (.int .i64), .one .bool]), (16, .one .sl), (20, .one .map), (22, .tup [])]) (ann := (.n .z (.l [] [0, 2, 8] (.j [(10, .one .bool)] [0, 2, 8] .z .z)))) (args := [.pointer m_0, .map from_1, .map to_2]) (rt := .tup []) P_mixed rfl rfl (by kernel_rfl) (by kernel_rfl)
    ((show _ = nfa_Machine_link.M m_0 from_1 to_2 K w by kernel_rfl).mpr h)

/-- (*frisket/nfa.Machine).Rules -/
def nfa_Machine_Rules.M (m_0 : Option Addr) (K : Int → World → Prop) (w : World) : Prop :=
  Br (m_0.isNone) (K 0 w) (NilC m_0 fun a6 => Ld .sl (a6.add 1) w fun x8 => K (x8.n : Int) w)
theorem nfa_Machine_Rules.ok (m_0 : Option Addr) (K : Int → World → Prop) (w : World) (h : nfa_Machine_Rules.M m_0 K w) : nfa_Machine_Rules.C m_0 w K :=
  calls_of_sem (P := P) (H := [(8, .one .sl)]) (ann := .z) (args := [.pointer m_0]) (rt := .one (.int .i64)) P_mixed rfl rfl (by kernel_rfl) (by kernel_rfl)
    ((show _ = nfa_Machine_Rules.M m_0 K w by kernel_rfl).mpr h)

/-- (*frisket/regex.parser).cat -/
def regex_parser_cat.M (p_0 : Option Addr) (K : Option Addr → World → Prop) (w : World) : Prop :=
  Loop (fun (s1 : Sl) w1 again2 => NilC p_0 fun a7 => Ld .bool (a7.add 2) w1 fun x9 => Br (!x9) (NilC p_0 fun a13 => regex_reader_peek.C (some a13) w1 fun x15 w2 => Join (fun (s3 : Bool) w3 => Br s3 (regex_Cat.C s1 w3 fun x34 w4 => K x34 w4) (regex_parser_factor.C p_0 w3 fun x30 w5 => Al (.cells #[.pointer x30] T.p_regex_Node (0, 0)) w5 fun b4 w6 => App P (Builtin.append_ #[T.sl_p_regex_Node, T.sl_p_regex_Node] T.sl_p_regex_Node #[.slice s1.a s1.n s1.c, .slice (some ⟨b4, 0, none⟩) 1 1]) (.one .sl) w6 fun x32 w7 => again2 x32 w7)) fun j5 => Br (!x15.2) (j5 true w2) (Br (x15.1 == (124 : Int)) (j5 true w2) (j5 (x15.1 == (41 : Int)) w2))) (regex_Cat.C s1 w1 fun x34 w8 => K x34 w8)) (⟨none, 0, 0⟩) w
theorem regex_parser_cat.ok (p_0 : Option Addr) (K : Option Addr → World → Prop) (w : World) (h : regex_parser_cat.M p_0 K w) : regex_parser_cat.C p_0 w K :=
  calls_of_sem (P := P) (H := [(9, .one .bool), (15, .tup [.one (.int .u8), .one .bool]), (30, .one .ptr), (34, .one .ptr)]) (ann := (.n .z (.n .z (.n (.l [(3, .one .sl)] [0] (.n .z (.n .z (.n (.j [(27, .one .bool)] [0, 3] .z .z) .z)))) .z)))) (args := [.pointer p_0]) (rt := .one .ptr) P_mixed rfl rfl (by kernel_rfl) (by kernel_rfl)
    ((show _ = regex_parser_cat.M p_0 K w by kernel_rfl).mpr h)

/-- (*frisket/regex.reader).is -/
def regex_reader_is.M (r_0 : Option Addr) (b_1 : Int) (K : Bool → World → Prop) (w : World) : Prop :=
  regex_reader_peek.C r_0 w fun x9 w1 => Join (fun (s1 : Bool) w2 => Br s1 (K false w2) (NilC r_0 fun a20 => Ld (.int .i64) (a20.add 1) w2 fun x22 => NilC r_0 fun a24 => St (a24.add 1) (.int .i64 (w64 (x22 + (1 : Int)))) w2 fun w3 => K true w3)) fun j2 => Br (!x9.2) (j2 true w1) (j2 (x9.1 != b_1) w1)
theorem regex_reader_is.ok (r_0 : Option Addr) (b_1 : Int) (K : Bool → World → Prop) (w : World) (h : regex_reader_is.M r_0 b_1 K w) : regex_reader_is.C r_0 b_1 w K :=
  calls_of_sem (P := P) (H := [(9, .tup [.one (.int .u8), .one .bool]), (22, .one (.int .i64))]) (ann := (.n .z (.n .z (.n (.j [(18, .one .bool)] [0] .z .z) .z)))) (args := [.pointer r_0, .int .u8 b_1]) (rt := .one .bool) P_mixed rfl rfl (by kernel_rfl) (by kernel_rfl)
    ((show _ = regex_reader_is.M r_0 b_1 K w by kernel_rfl).mpr h)

/-- frisket/regex.Or -/
def regex_Or.M (l_0 : Sl) (K : Option Addr → World → Prop) (w : World) : Prop :=
  regex_Set.C (0, 0, 0, 0) w fun x4 w1 => regex_two.C 3 x4 l_0 w1 fun x6 w2 => K x6 w2
theorem regex_Or.ok (l_0 : Sl) (K : Option Addr → World → Prop) (w : World) (h : regex_Or.M l_0 K w) : regex_Or.C l_0 w K :=
  calls_of_sem (P := P) (H := [(4, .one .ptr), (6, .one .ptr)]) (ann := .z) (args := [.slice l_0.a l_0.n l_0.c]) (rt := .one .ptr) P_mixed rfl rfl (by kernel_rfl) (by kernel_rfl)
    ((show _ = regex_Or.M l_0 K w by kernel_rfl).mpr h)

/-- (*frisket/frisketref05.Text).sees -/
def frisketref05_Text_sees.M (t_0 : Option Addr) (b_1 : Int) (K : Bool → World → Prop) (w : World) : Prop :=
  Draw w fun S1 w1 => NilC t_0 fun a6 => LdS S1 (.int .i64) (a6.add 1) fun x8 => NilC t_0 fun a10 => LdS S1 .str a10 fun x12 => Br (decide (x8 < (x12.size : Int))) (NilC t_0 fun a17 => LdS S1 .str a17 fun x19 => NilC t_0 fun a21 => LdS S1 (.int .i64) (a21.add 1) fun x23 => IdxStr x19 x23 fun x24 => (S1 w1 ∧ K ((x24.toNat : Int) == b_1) w1)) (K false w1)
theorem frisketref05_Text_sees.ok (t_0 : Option Addr) (b_1 : Int) (K : Bool → World → Prop) (w : World) (h : frisketref05_Text_sees.M t_0 b_1 K w) : frisketref05_Text_sees.C t_0 b_1 w K :=
  calls_of_sem (P := P) (H := [(8, .one (.int .i64)), (12, .one .str), (19, .one .str), (23, .one (.int .i64))]) (ann := .z) (args := [.pointer t_0, .int .u8 b_1]) (rt := .one .bool) P_mixed rfl rfl (by kernel_rfl) (by kernel_rfl)
    ((show _ = frisketref05_Text_sees.M t_0 b_1 K w by kernel_rfl).mpr h)

/-- (*frisket/frisketref05.Text).factor -/
def frisketref05_Text_factor.M (t_0 : Option Addr) (K : Array Value → World → Prop) (w : World) : Prop :=
  Al (.cells (#[(.int .i64 0 : Value)] ++ Array.replicate 256 (.bool false : Value) ++ #[(.slice none 0 0 : Value)]) T.frisketref05_Node (0, 0)) w fun b1 w1 => App P (Instr.build T.frisketref05_Node #[]) .big w1 fun x5 w2 => Al (.cells (#[(.int .i64 0 : Value)] ++ Array.replicate 256 (.bool false : Value) ++ #[(.slice none 0 0 : Value)]) T.frisketref05_Node (0, 0)) w2 fun b2 w3 => StA P T.frisketref05_Node (⟨b2, 0, none⟩) x5 w3 fun w4 => Join (fun (s3 : Unit) w5 => Loop (fun (s4 : Unit) w6 again5 => Join (fun (s6 : Bool) w7 => Br s6 (Join (fun (s7 : Unit) w8 => NilC t_0 fun a154 => Ld (.int .i64) (a154.add 1) w8 fun x156 => NilC t_0 fun a158 => St (a158.add 1) (.int .i64 (w64 (x156 + (1 : Int)))) w8 fun w9 => LdA 258 (⟨b2, 0, none⟩) w9 fun x160 => frisketref05_Size.C x160 w9 fun x161 w10 => Br (decide ((400 : Int) < x161)) (NilC t_0 fun a164 => St (a164.add 4) (.bool true) w10 fun w11 => NilC t_0 fun a167 => St (a167.add 3) (.bool true) w11 fun w12 => again5 () w12) (again5 () w10)) fun j8 => Draw w7 fun S9 w13 => NilC t_0 fun a128 => LdS S9 .str a128 fun x130 => NilC t_0 fun a132 => LdS S9 (.int .i64) (a132.add 1) fun x134 => IdxStr x130 x134 fun x135 => (S9 w13 ∧ Br ((x135.toNat : Int) == (42 : Int)) (LdA 258 (⟨b2, 0, none⟩) w13 fun x142 => App P (Instr.buildSlice T.sl_frisketref05_Node 1 #[(0, .agg x142)]) (.one .sl) w13 fun x143 w14 => App P (Instr.build T.frisketref05_Node #[(0, .int .i64 4), (2, .slice x143.a x143.n x143.c)]) .big w14 fun x144 w15 => StA P T.frisketref05_Node (⟨b2, 0, none⟩) x144 w15 fun w16 => j8 () w16) (Br ((x135.toNat : Int) == (43 : Int)) (LdA 258 (⟨b2, 0, none⟩) w13 fun x147 => LdA 258 (⟨b2, 0, none⟩) w13 fun x148 => App P (Instr.buildSlice T.sl_frisketref05_Node 1 #[(0, .agg x148)]) (.one .sl) w13 fun x149 w17 => App P (Instr.build T.frisketref05_Node #[(0, .int .i64 4), (2, .slice x149.a x149.n x149.c)]) .big w17 fun x150 w18 => App P (Instr.buildSlice T.sl_frisketref05_Node 2 #[(0, .agg x147), (1, .agg x150)]) (.one .sl) w18 fun x151 w19 => App P (Instr.build T.frisketref05_Node #[(0, .int .i64 2), (2, .slice x151.a x151.n x151.c)]) .big w19 fun x152 w20 => StA P T.frisketref05_Node (⟨b2, 0, none⟩) x152 w20 fun w21 => j8 () w21) (LdA 258 (⟨b2, 0, none⟩) w13 fun x136 => App P (Instr.build T.frisketref05_Node #[(0, .int .i64 1)]) .big w13 fun x137 w22 => App P (Instr.buildSlice T.sl_frisketref05_Node 2 #[(0, .agg x136), (1, .agg x137)]) (.one .sl) w22 fun x138 w23 => App P (Instr.build T.frisketref05_Node #[(0, .int .i64 3), (2, .slice x138.a x138.n x138.c)]) .big w23 fun x139 w24 => StA P T.frisketref05_Node (⟨b2, 0, none⟩) x139 w24 fun w25 => j8 () w25)))) (LdA 258 (⟨b2, 0, none⟩) w7 fun x169 => StA P T.frisketref05_Node (⟨b1, 0, none⟩) x169 w7 fun w26 => LdA 258 (⟨b1, 0, none⟩) w26 fun r0 => K r0 w26)) fun j10 => Draw w6 fun S11 w27 => NilC t_0 fun a99 => LdS S11 .bool (a99.add 3) fun x101 => Br (!x101) (NilC t_0 fun a105 => LdS S11 (.int .i64) (a105.add 1) fun x107 => NilC t_0 fun a109 => LdS S11 .str a109 fun x111 => Br (decide (x107 < (x111.size : Int))) (NilC t_0 fun a117 => LdS S11 .str a117 fun x119 => NilC t_0 fun a121 => LdS S11 (.int .i64) (a121.add 1) fun x123 => IdxStr x119 x123 fun x124 => (S11 w27 ∧ frisketref05_in.C (⟨#[42, 43, 63]⟩) (x124.toNat : Int) w27 fun x125 w28 => (S11 w28 ∧ j10 x125 w28))) (j10 false w27)) (j10 false w27)) () w5) fun j12 => frisketref05_Text_sees.C t_0 40 w4 fun x12 w29 => Br x12 (NilC t_0 fun a14 => Ld (.int .i64) (a14.add 1) w29 fun x16 => NilC t_0 fun a18 => St (a18.add 1) (.int .i64 (w64 (x16 + (1 : Int)))) w29 fun w30 => NilC t_0 fun a21 => Ld (.int .i64) (a21.add 2) w30 fun x23 => NilC t_0 fun a25 => St (a25.add 2) (.int .i64 (w64 (x23 + (1 : Int)))) w30 fun w31 => NilC t_0 fun a28 => Ld (.int .i64) (a28.add 2) w31 fun x30 => Br (decide ((50 : Int) < x30)) (NilC t_0 fun a33 => St (a33.add 4) (.bool true) w31 fun w32 => NilC t_0 fun a36 => St (a36.add 3) (.bool true) w32 fun w33 => LdA 258 (⟨b2, 0, none⟩) w33 fun x38 => StA P T.frisketref05_Node (⟨b1, 0, none⟩) x38 w33 fun w34 => LdA 258 (⟨b1, 0, none⟩) w34 fun r0 => K r0 w34) (frisketref05_Text_or.C t_0 w31 fun x40 w35 => StA P T.frisketref05_Node (⟨b2, 0, none⟩) x40 w35 fun w36 => NilC t_0 fun a42 => Ld .bool (a42.add 3) w36 fun x44 => Br x44 (LdA 258 (⟨b2, 0, none⟩) w36 fun x45 => StA P T.frisketref05_Node (⟨b1, 0, none⟩) x45 w36 fun w37 => LdA 258 (⟨b1, 0, none⟩) w37 fun r0 => K r0 w37) (frisketref05_Text_sees.C t_0 41 w36 fun x47 w38 => Br (!x47) (NilC t_0 fun a50 => St (a50.add 3) (.bool true) w38 fun w39 => LdA 258 (⟨b2, 0, none⟩) w39 fun x52 => StA P T.frisketref05_Node (⟨b1, 0, none⟩) x52 w39 fun w40 => LdA 258 (⟨b1, 0, none⟩) w40 fun r0 => K r0 w40) (NilC t_0 fun a54 => Ld (.int .i64) (a54.add 1) w38 fun x56 => NilC t_0 fun a58 => St (a58.add 1) (.int .i64 (w64 (x56 + (1 : Int)))) w38 fun w41 => NilC t_0 fun a61 => Ld (.int .i64) (a61.add 2) w41 fun x63 => NilC t_0 fun a65 => St (a65.add 2) (.int .i64 (w64 (x63 - (1 : Int)))) w41 fun w42 => j12 () w42)))) (frisketref05_Text_sees.C t_0 46 w29 fun x69 w43 => Br x69 (NilC t_0 fun a71 => Ld (.int .i64) (a71.add 1) w43 fun x73 => NilC t_0 fun a75 => St (a75.add 1) (.int .i64 (w64 (x73 + (1 : Int)))) w43 fun w44 => Loop (fun (s13 : Int) w45 again14 => Br (decide (s13 < (256 : Int))) (IdxA 256 (⟨b2, 1, none⟩) s13 1 fun p85 => St p85 (.bool (s13 != (10 : Int))) w45 fun w46 => again14 (w64 (s13 + (1 : Int))) w46) (j12 () w45)) 0 w44) (frisketref05_Text_sees.C t_0 91 w43 fun x88 w47 => Br x88 (NilC t_0 fun a90 => Ld (.int .i64) (a90.add 1) w47 fun x92 => NilC t_0 fun a94 => St (a94.add 1) (.int .i64 (w64 (x92 + (1 : Int)))) w47 fun w48 => frisketref05_Text_class.C t_0 w48 fun x97 w49 => StA P T.frisketref05_Node (⟨b2, 0, none⟩) x97 w49 fun w50 => j12 () w50) (frisketref05_Text_letter.C t_0 (⟨#[124, 42, 43, 63, 40, 41, 91, 93, 46, 92]⟩) w47 fun x7 w51 => IdxA 256 (⟨b2, 1, none⟩) x7 1 fun p9 => St p9 (.bool true) w51 fun w52 => j12 () w52)))
theorem frisketref05_Text_factor.ok (t_0 : Option Addr) (K : Array Value → World → Prop) (w : World) (h : frisketref05_Text_factor.M t_0 K w) : frisketref05_Text_factor.C t_0 w K :=
  calls_of_sem (P := P) (H := [(2, .big), (5, .big), (7, .one (.int .i64)), (12, .one .bool), (16, .one (.int .i64)), (23, .one (.int .i64)), (30, .one (.int .i64)), (38, .big), (40, .big), (44, .one .bool), (45, .big), (47, .one .bool), (52, .big), (56, .one (.int .i64)), (63, .one (.int .i64)), (69, .one .bool), (73, .one (.int .i64)), (88, .one .bool), (92, .one (.int .i64)), (97, .big), (101, .one .bool), (107, .one (.int .i64)), (111, .one .str), (119, .one .str), (123, .one (.int .i64)), (125, .one .bool), (130, .one .str), (134, .one (.int .i64)), (136, .big), (137, .big), (138, .one .sl), (139, .big), (142, .big), (143, .one .sl), (144, .big), (147, .big), (148, .big), (149, .one .sl), (150, .big), (151, .one .sl), (152, .big), (156, .one (.int .i64)), (160, .big), (161, .one (.int .i64)), (169, .big)]) (ann := (.n .z (.n .z (.j [] [0, 2, 3] (.n .z (.n .z (.n .z (.n (.n .z (.n .z (.l [(4, .one (.int .i64))] [0, 2, 3] .z))) .z)))) (.n (.l [] [0, 2, 3] (.n (.j [(126, .one .bool)] [0, 2, 3] .z .z) (.j [] [0, 2, 3] .z .z))) .z))))) (args := [.pointer t_0]) (rt := .big) P_mixed rfl rfl (by kernel_rfl) (by kernel_rfl)
    ((show _ = frisketref05_Text_factor.M t_0 K w by kernel_rfl).mpr h)

/-- frisket/frisketref05.pair -/
def frisketref05_pair.M (kind_0 : Int) (l_1 : Sl) (K : Array Value → World → Prop) (w : World) : Prop :=
  Al (.cells (#[(.int .i64 0 : Value)] ++ Array.replicate 256 (.bool false : Value) ++ #[(.slice none 0 0 : Value)]) T.frisketref05_Node (0, 0)) w fun b1 w1 => Br ((l_1.n : Int) == (0 : Int)) (App P (Instr.build T.frisketref05_Node #[(0, .int .i64 1)]) .big w1 fun x8 w2 => StA P T.frisketref05_Node (⟨b1, 0, none⟩) x8 w2 fun w3 => LdA 258 (⟨b1, 0, none⟩) w3 fun r0 => K r0 w3) (Br ((l_1.n : Int) == (1 : Int)) (IdxS l_1 0 258 fun p13 => LdA 258 p13 w1 fun x14 => StA P T.frisketref05_Node (⟨b1, 0, none⟩) x14 w1 fun w4 => LdA 258 (⟨b1, 0, none⟩) w4 fun r0 => K r0 w4) (Draw w1 fun S2 w5 => IdxS l_1 0 258 fun p17 => LdSA S2 258 p17 fun x18 => App P (Instr.sliceAt T.sl_frisketref05_Node (.slice l_1.a l_1.n l_1.c) (some (.int .i64 1)) none none) (.one .sl) w5 fun x21 w6 => (S2 w6 ∧ frisketref05_pair.C kind_0 x21 w6 fun x22 w7 => (S2 w7 ∧ App P (Instr.buildSlice T.sl_frisketref05_Node 2 #[(0, .agg x18), (1, .agg x22)]) (.one .sl) w7 fun x23 w8 => (S2 w8 ∧ AppS P S2 (Instr.build T.frisketref05_Node #[(0, .int .i64 kind_0), (2, .slice x23.a x23.n x23.c)]) .big fun x24 => StA P T.frisketref05_Node (⟨b1, 0, none⟩) x24 w8 fun w9 => (S2 w9 ∧ LdA 258 (⟨b1, 0, none⟩) w9 fun r0 => K r0 w9))))))
theorem frisketref05_pair.ok (kind_0 : Int) (l_1 : Sl) (K : Array Value → World → Prop) (w : World) (h : frisketref05_pair.M kind_0 l_1 K w) : frisketref05_pair.C kind_0 l_1 w K :=
  calls_of_sem (P := P) (H := [(4, .big), (8, .big), (14, .big), (18, .big), (21, .one .sl), (22, .big), (23, .one .sl), (24, .big)]) (ann := .z) (args := [.int .i64 kind_0, .slice l_1.a l_1.n l_1.c]) (rt := .big) P_mixed rfl rfl (by kernel_rfl) (by kernel_rfl)
    ((show _ = frisketref05_pair.M kind_0 l_1 K w by kernel_rfl).mpr h)

/-- maps.Copy[frisket/nfa.set,frisket/nfa.set,int,bool] -/
def maps_Copy.M (dst_0 : Option Nat) (src_1 : Option Nat) (K : Unit → World → Prop) (w : World) : Prop :=
  App P (Instr.range T.nfa_set (.map src_1)) (.one .ptr) w fun x7 w1 => Loop (fun (s1 : Unit) w2 again2 => Join (fun (s3 : Bool) w3 => Br s3 (App P (Instr.entry (.pointer x7)) (.tup [.one (.int .i64), .one .bool]) w3 fun x10 w4 => App0 P (Instr.mapUpdate T.nfa_set (.map dst_0) (.int .i64 x10.1) (.bool x10.2)) w4 fun w5 => again2 () w5) (K () w3)) fun j4 => Nxt P (Instr.next (.pointer x7) false 0) (.int .i64) .bool w2 (fun w6 => j4 false w6) (fun k8 v8 w7 => j4 true w7)) () w1
theorem maps_Copy.ok (dst_0 : Option Nat) (src_1 : Option Nat) (K : Unit → World → Prop) (w : World) (h : maps_Copy.M dst_0 src_1 K w) : maps_Copy.C dst_0 src_1 w K :=
  calls_of_sem (P := P) (H := [(7, .one .ptr), (8, .tup [.one .bool, .one (.int .i64), .one .bool]), (10, .tup [.one (.int .i64), .one .bool])]) (ann := (.n .z (.l [] [0, 7] (.j [(9, .one .bool)] [0, 7] .z .z)))) (args := [.map dst_0, .map src_1]) (rt := .tup []) P_mixed rfl rfl (by kernel_rfl) (by kernel_rfl)
    ((show _ = maps_Copy.M dst_0 src_1 K w by kernel_rfl).mpr h)

/-- (*frisket/regex.reader).peek -/
def regex_reader_peek.M (r_0 : Option Addr) (K : (Int × Bool) → World → Prop) (w : World) : Prop :=
  Draw w fun S1 w1 => NilC r_0 fun a5 => LdS S1 (.int .i64) (a5.add 1) fun x7 => NilC r_0 fun a9 => LdS S1 .str a9 fun x11 => Br (decide ((x11.size : Int) ≤ x7)) (K (0, false) w1) (Draw w1 fun S2 w2 => NilC r_0 fun a15 => LdS S2 .str a15 fun x17 => NilC r_0 fun a19 => LdS S2 (.int .i64) (a19.add 1) fun x21 => IdxStr x17 x21 fun x22 => (S2 w2 ∧ K ((x22.toNat : Int), true) w2))
theorem regex_reader_peek.ok (r_0 : Option Addr) (K : (Int × Bool) → World → Prop) (w : World) (h : regex_reader_peek.M r_0 K w) : regex_reader_peek.C r_0 w K :=
  calls_of_sem (P := P) (H := [(7, .one (.int .i64)), (11, .one .str), (17, .one .str), (21, .one (.int .i64))]) (ann := .z) (args := [.pointer r_0]) (rt := .tup [.one (.int .u8), .one .bool]) P_mixed rfl rfl (by kernel_rfl) (by kernel_rfl)
    ((show _ = regex_reader_peek.M r_0 K w by kernel_rfl).mpr h)

/-- (*frisket/regex.parser).factor -/
def regex_parser_factor.M (p_0 : Option Addr) (K : Option Addr → World → Prop) (w : World) : Prop :=
  regex_parser_atom.C p_0 w fun x5 w1 => Loop (fun (s1 : Option Addr) w2 again2 => NilC p_0 fun a7 => Ld .bool (a7.add 2) w2 fun x9 => Br (!x9) (Join (fun (s3 : Option Addr) w3 => regex_Size.C s3 w3 fun x39 w4 => Br (decide ((400 : Int) < x39)) (NilC p_0 fun a42 => St (a42.add 3) (.bool true) w4 fun w5 => regex_parser_fail.C p_0 w5 fun x45 w6 => K x45 w6) (again2 s3 w4)) fun j4 => NilC p_0 fun a14 => regex_reader_is.C (some a14) 42 w2 fun x16 w7 => Br x16 (regex_Star.C s1 w7 fun x18 w8 => j4 x18 w8) (NilC p_0 fun a21 => regex_reader_is.C (some a21) 43 w7 fun x23 w9 => Br x23 (regex_Star.C s1 w9 fun x26 w10 => Al (.cells #[.pointer s1, .pointer x26] T.p_regex_Node (0, 0)) w10 fun b5 w11 => regex_Cat.C (⟨(some ⟨b5, 0, none⟩), 2, 2⟩) w11 fun x28 w12 => j4 x28 w12) (NilC p_0 fun a31 => regex_reader_is.C (some a31) 63 w9 fun x33 w13 => Br x33 (regex_Empty.C  w13 fun x35 w14 => Al (.cells #[.pointer s1, .pointer x35] T.p_regex_Node (0, 0)) w14 fun b6 w15 => regex_Or.C (⟨(some ⟨b6, 0, none⟩), 2, 2⟩) w15 fun x37 w16 => j4 x37 w16) (K s1 w13)))) (K s1 w2)) x5 w1
theorem regex_parser_factor.ok (p_0 : Option Addr) (K : Option Addr → World → Prop) (w : World) (h : regex_parser_factor.M p_0 K w) : regex_parser_factor.C p_0 w K :=
  calls_of_sem (P := P) (H := [(5, .one .ptr), (9, .one .bool), (16, .one .bool), (18, .one .ptr), (23, .one .bool), (26, .one .ptr), (28, .one .ptr), (33, .one .bool), (35, .one .ptr), (37, .one .ptr), (39, .one (.int .i64)), (45, .one .ptr)]) (ann := (.n .z (.n .z (.n (.l [(3, .one .ptr)] [0] (.n .z (.j [(3, .one .ptr)] [0] .z .z))) .z)))) (args := [.pointer p_0]) (rt := .one .ptr) P_mixed rfl rfl (by kernel_rfl) (by kernel_rfl)
    ((show _ = regex_parser_factor.M p_0 K w by kernel_rfl).mpr h)

/-- frisket/regex.Cat -/
def regex_Cat.M (l_0 : Sl) (K : Option Addr → World → Prop) (w : World) : Prop :=
  regex_Empty.C  w fun x3 w1 => regex_two.C 2 x3 l_0 w1 fun x5 w2 => K x5 w2
theorem regex_Cat.ok (l_0 : Sl) (K : Option Addr → World → Prop) (w : World) (h : regex_Cat.M l_0 K w) : regex_Cat.C l_0 w K :=
  calls_of_sem (P := P) (H := [(3, .one .ptr), (5, .one .ptr)]) (ann := .z) (args := [.slice l_0.a l_0.n l_0.c]) (rt := .one .ptr) P_mixed rfl rfl (by kernel_rfl) (by kernel_rfl)
    ((show _ = regex_Cat.M l_0 K w by kernel_rfl).mpr h)

/-- frisket/regex.two -/
def regex_two.M (kind_0 : Int) (none_1 : Option Addr) (l_2 : Sl) (K : Option Addr → World → Prop) (w : World) : Prop :=
  Loop (fun (s1 : Int) w1 again2 => Br (decide (s1 < (l_2.n : Int))) (IdxS l_2 s1 1 fun p15 => Ld .ptr p15 w1 fun x16 => Br (x16.isNone) (K none w1) (again2 (w64 (s1 + (1 : Int))) w1)) (Br ((l_2.n : Int) == (0 : Int)) (K none_1 w1) (IdxS l_2 (w64 ((l_2.n : Int) - (1 : Int))) 1 fun p28 => Ld .ptr p28 w1 fun x29 => Loop (fun (s3 : Option Addr × Int) w2 again4 => Br (decide ((0 : Int) ≤ s3.2)) (IdxS l_2 s3.2 1 fun p40 => Ld .ptr p40 w2 fun x41 => Al (.cells #[.pointer x41, .pointer s3.1] T.p_regex_Node (0, 0)) w2 fun b5 w3 => Al (.cells #[.int .i64 kind_0, .int .u64 0, .int .u64 0, .int .u64 0, .int .u64 0, .slice (some ⟨b5, 0, none⟩) 2 2] T.regex_Node (0, 0)) w3 fun b6 w4 => again4 ((some (⟨b6, 0, none⟩)), (w64 (s3.2 - (1 : Int)))) w4) (K s3.1 w2)) (x29, (w64 ((l_2.n : Int) - (2 : Int)))) w1))) 0 w
theorem regex_two.ok (kind_0 : Int) (none_1 : Option Addr) (l_2 : Sl) (K : Option Addr → World → Prop) (w : World) (h : regex_two.M kind_0 none_1 l_2 K w) : regex_two.C kind_0 none_1 l_2 w K :=
  calls_of_sem (P := P) (H := [(16, .one .ptr), (29, .one .ptr), (41, .one .ptr)]) (ann := (.n .z (.n (.n .z (.l [(13, .one (.int .i64))] [0, 1, 2, 11, 12] .z)) (.n .z (.n .z (.n (.n .z (.l [(9, .one .ptr), (10, .one (.int .i64))] [0, 2] .z)) .z)))))) (args := [.int .i64 kind_0, .pointer none_1, .slice l_2.a l_2.n l_2.c]) (rt := .one .ptr) P_mixed rfl rfl (by kernel_rfl) (by kernel_rfl)
    ((show _ = regex_two.M kind_0 none_1 l_2 K w by kernel_rfl).mpr h)

/-- frisket/regex.Set -/
def regex_Set.M (b_0 : Int × Int × Int × Int) (K : Option Addr → World → Prop) (w : World) : Prop :=
  Al (.cells #[.int .u64 b_0.1, .int .u64 b_0.2.1, .int .u64 b_0.2.2.1, .int .u64 b_0.2.2.2] T.a4_uint64 (0, 0)) w fun b1 w1 => Ld (.int .u64) (⟨b1, 0, none⟩) w1 fun x3_0 => Ld (.int .u64) (⟨b1, 1, none⟩) w1 fun x3_1 => Ld (.int .u64) (⟨b1, 2, none⟩) w1 fun x3_2 => Ld (.int .u64) (⟨b1, 3, none⟩) w1 fun x3_3 => Al (.cells #[.int .i64 0, .int .u64 x3_0, .int .u64 x3_1, .int .u64 x3_2, .int .u64 x3_3, .slice none 0 0] T.regex_Node (0, 0)) w1 fun b2 w2 => K (some (⟨b2, 0, none⟩)) w2
theorem regex_Set.ok (b_0 : Int × Int × Int × Int) (K : Option Addr → World → Prop) (w : World) (h : regex_Set.M b_0 K w) : regex_Set.C b_0 w K :=
  calls_of_sem (P := P) (H := [(3, .agg [(.int .u64), (.int .u64), (.int .u64), (.int .u64)])]) (ann := .z) (args := [.agg #[.int .u64 b_0.1, .int .u64 b_0.2.1, .int .u64 b_0.2.2.1, .int .u64 b_0.2.2.2]]) (rt := .one .ptr) P_mixed rfl rfl (by kernel_rfl) (by kernel_rfl)
    ((show _ = regex_Set.M b_0 K w by kernel_rfl).mpr h)

/-- (*frisket/frisketref05.Text).class -/
def frisketref05_Text_class.M (t_0 : Option Addr) (K : Array Value → World → Prop) (w : World) : Prop :=
  Al (.cells (#[(.int .i64 0 : Value)] ++ Array.replicate 256 (.bool false : Value) ++ #[(.slice none 0 0 : Value)]) T.frisketref05_Node (0, 0)) w fun b1 w1 => App P (Instr.build T.frisketref05_Node #[]) .big w1 fun x11 w2 => Al (.cells (#[(.int .i64 0 : Value)] ++ Array.replicate 256 (.bool false : Value) ++ #[(.slice none 0 0 : Value)]) T.frisketref05_Node (0, 0)) w2 fun b2 w3 => StA P T.frisketref05_Node (⟨b2, 0, none⟩) x11 w3 fun w4 => frisketref05_Text_sees.C t_0 94 w4 fun x13 w5 => Join (fun (s3 : Unit) w6 => Loop (fun (s4 : Bool) w7 again5 => Join (fun (s6 : Bool) w8 => Br s6 (frisketref05_Text_letter.C t_0 (⟨#[93, 94, 45, 92]⟩) w8 fun x36 w9 => Join (fun (s7 : Int) w10 => Loop (fun (s8 : Int) w11 again9 => Join (fun (s10 : Bool) w12 => Br s10 (IdxA 256 (⟨b2, 1, none⟩) s8 1 fun p92 => St p92 (.bool true) w12 fun w13 => again9 (w64 (s8 + (1 : Int))) w13) (again5 false w12)) fun j11 => Br (decide (s8 ≤ s7)) (NilC t_0 fun a83 => Ld .bool (a83.add 3) w11 fun x85 => j11 (!x85) w11) (j11 false w11)) x36 w10) fun j12 => Join (fun (s13 : Bool) w14 => Br s13 (NilC t_0 fun a48 => Ld (.int .i64) (a48.add 1) w14 fun x50 => NilC t_0 fun a52 => St (a52.add 1) (.int .i64 (w64 (x50 + (1 : Int)))) w14 fun w15 => NilC t_0 fun a55 => Ld (.int .i64) (a55.add 1) w15 fun x57 => frisketref05_Text_letter.C t_0 (⟨#[93, 94, 45, 92]⟩) w15 fun x59 w16 => Join (fun (s14 : Bool) w17 => Br s14 (NilC t_0 fun a71 => St (a71.add 3) (.bool true) w17 fun w18 => NilC t_0 fun a75 => St (a75.add 1) (.int .i64 x57) w18 fun w19 => j12 x59 w19) (j12 x59 w17)) fun j15 => NilC t_0 fun a61 => Ld .bool (a61.add 3) w16 fun x63 => Br (!x63) (j15 (decide (x59 < x36)) w16) (j15 false w16)) (j12 x36 w14)) fun j16 => NilC t_0 fun a39 => Ld .bool (a39.add 3) w9 fun x41 => Br (!x41) (frisketref05_Text_sees.C t_0 45 w9 fun x45 w20 => j16 x45 w20) (j16 false w9)) (Join (fun (s17 : Unit) w21 => Loop (fun (s18 : Int) w22 again19 => Join (fun (s20 : Bool) w23 => Br s20 (IdxA 256 (⟨b2, 1, none⟩) s18 1 fun p115 => Ld .bool p115 w23 fun x116 => IdxA 256 (⟨b2, 1, none⟩) s18 1 fun p119 => St p119 (.bool (!x116)) w23 fun w24 => again19 (w64 (s18 + (1 : Int))) w24) (LdA 258 (⟨b2, 0, none⟩) w23 fun x120 => StA P T.frisketref05_Node (⟨b1, 0, none⟩) x120 w23 fun w25 => LdA 258 (⟨b1, 0, none⟩) w25 fun r0 => K r0 w25)) fun j21 => Br (decide (s18 < (256 : Int))) (j21 x13 w22) (j21 false w22)) 0 w21) fun j22 => NilC t_0 fun a94 => Ld .bool (a94.add 3) w8 fun x96 => Br (!x96) (NilC t_0 fun a99 => Ld (.int .i64) (a99.add 1) w8 fun x101 => NilC t_0 fun a103 => St (a103.add 1) (.int .i64 (w64 (x101 + (1 : Int)))) w8 fun w26 => j22 () w26) (j22 () w8))) fun j23 => NilC t_0 fun a23 => Ld .bool (a23.add 3) w7 fun x25 => Br (!x25) (Br s4 (j23 true w7) (frisketref05_Text_sees.C t_0 93 w7 fun x31 w27 => j23 (!x31) w27)) (j23 false w7)) true w6) fun j24 => Br x13 (NilC t_0 fun a16 => Ld (.int .i64) (a16.add 1) w5 fun x18 => NilC t_0 fun a20 => St (a20.add 1) (.int .i64 (w64 (x18 + (1 : Int)))) w5 fun w28 => j24 () w28) (j24 () w5)
theorem frisketref05_Text_class.ok (t_0 : Option Addr) (K : Array Value → World → Prop) (w : World) (h : frisketref05_Text_class.M t_0 K w) : frisketref05_Text_class.C t_0 w K :=
  calls_of_sem (P := P) (H := [(2, .big), (11, .big), (13, .one .bool), (18, .one (.int .i64)), (25, .one .bool), (31, .one .bool), (36, .one (.int .i64)), (41, .one .bool), (45, .one .bool), (50, .one (.int .i64)), (57, .one (.int .i64)), (59, .one (.int .i64)), (63, .one .bool), (85, .one .bool), (96, .one .bool), (101, .one (.int .i64)), (116, .one .bool), (120, .big)]) (ann := (.n .z (.n .z (.n .z (.j [] [0, 2, 3, 4] .z (.n (.n .z (.l [(5, .one .bool)] [0, 2, 3, 4] (.n (.j [(34, .one .bool)] [0, 2, 3, 4] .z .z) (.n (.n .z (.n .z (.j [(7, .one (.int .i64))] [0, 2, 3, 4, 6] (.j [(46, .one .bool)] [0, 2, 3, 4, 6, 7] .z (.n (.n .z (.n .z (.n .z (.j [(69, .one .bool)] [0, 2, 3, 4, 6, 7, 8] .z .z)))) .z)) (.n .z (.l [(9, .one (.int .i64))] [0, 2, 3, 4, 7] (.n (.j [(87, .one .bool)] [0, 2, 3, 4, 7, 9] .z .z) .z)))))) .z)))) (.j [] [2, 3, 4] .z (.n (.n .z (.l [(10, .one (.int .i64))] [2, 3, 4] (.n (.j [(109, .one .bool)] [2, 3, 4, 10] .z .z) .z))) .z)))))))) (args := [.pointer t_0]) (rt := .big) P_mixed rfl rfl (by kernel_rfl) (by kernel_rfl)
    ((show _ = frisketref05_Text_class.M t_0 K w by kernel_rfl).mpr h)

/-- (*frisket/frisketref05.Text).letter -/
def frisketref05_Text_letter.M (t_0 : Option Addr) (special_1 : ByteArray) (K : Int → World → Prop) (w : World) : Prop :=
  Draw w fun S1 w1 => NilC t_0 fun a10 => LdS S1 (.int .i64) (a10.add 1) fun x12 => NilC t_0 fun a14 => LdS S1 .str a14 fun x16 => Br (decide ((x16.size : Int) ≤ x12)) (NilC t_0 fun a20 => St (a20.add 3) (.bool true) w1 fun w2 => K 0 w2) (Draw w1 fun S2 w3 => NilC t_0 fun a23 => LdS S2 .str a23 fun x25 => NilC t_0 fun a27 => LdS S2 (.int .i64) (a27.add 1) fun x29 => IdxStr x25 x29 fun x30 => (S2 w3 ∧ Br ((x30.toNat : Int) != (92 : Int)) (Join (fun (s3 : Bool) w4 => Br s3 (NilC t_0 fun a45 => St (a45.add 3) (.bool true) w4 fun w5 => K 0 w5) (NilC t_0 fun a48 => Ld (.int .i64) (a48.add 1) w4 fun x50 => NilC t_0 fun a52 => St (a52.add 1) (.int .i64 (w64 (x50 + (1 : Int)))) w4 fun w6 => K (w64 ((x30.toNat : Int))) w6)) fun j4 => Br (decide ((x30.toNat : Int) ≤ (32 : Int))) (j4 true w3) (Br (decide ((127 : Int) ≤ (x30.toNat : Int))) (j4 true w3) (frisketref05_in.C special_1 (x30.toNat : Int) w3 fun x42 w7 => j4 x42 w7))) (NilC t_0 fun a57 => Ld (.int .i64) (a57.add 1) w3 fun x59 => NilC t_0 fun a61 => St (a61.add 1) (.int .i64 (w64 (x59 + (1 : Int)))) w3 fun w8 => Draw w8 fun S5 w9 => NilC t_0 fun a64 => LdS S5 (.int .i64) (a64.add 1) fun x66 => NilC t_0 fun a68 => LdS S5 .str a68 fun x70 => Br (decide ((x70.size : Int) ≤ x66)) (NilC t_0 fun a74 => St (a74.add 3) (.bool true) w9 fun w10 => K 0 w10) (Draw w9 fun S6 w11 => NilC t_0 fun a77 => LdS S6 .str a77 fun x79 => NilC t_0 fun a81 => LdS S6 (.int .i64) (a81.add 1) fun x83 => IdxStr x79 x83 fun x84 => (S6 w11 ∧ Br ((x84.toNat : Int) == (120 : Int)) (Loop (fun (s7 : Int × Int) w12 again8 => Br (decide (s7.2 < (2 : Int))) (NilC t_0 fun a92 => Ld (.int .i64) (a92.add 1) w12 fun x94 => NilC t_0 fun a96 => St (a96.add 1) (.int .i64 (w64 (x94 + (1 : Int)))) w12 fun w13 => Join (fun (s9 : Bool) w14 => Br s9 (NilC t_0 fun a122 => St (a122.add 3) (.bool true) w14 fun w15 => K 0 w15) (Draw w14 fun S10 w16 => NilC t_0 fun a127 => LdS S10 .str a127 fun x129 => NilC t_0 fun a131 => LdS S10 (.int .i64) (a131.add 1) fun x133 => IdxStr x129 x133 fun x134 => (S10 w16 ∧ frisketref05_hex.C (x134.toNat : Int) w16 fun x135 w17 => (S10 w17 ∧ again8 ((w64 ((w64 ((16 : Int) * s7.1)) + x135)), (w64 (s7.2 + (1 : Int)))) w17)))) fun j11 => Draw w13 fun S12 w18 => NilC t_0 fun a99 => LdS S12 (.int .i64) (a99.add 1) fun x101 => NilC t_0 fun a103 => LdS S12 .str a103 fun x105 => Br (decide ((x105.size : Int) ≤ x101)) (j11 true w18) (NilC t_0 fun a110 => LdS S12 .str a110 fun x112 => NilC t_0 fun a114 => LdS S12 (.int .i64) (a114.add 1) fun x116 => IdxStr x112 x116 fun x117 => (S12 w18 ∧ frisketref05_hex.C (x117.toNat : Int) w18 fun x118 w19 => (S12 w19 ∧ j11 (decide (x118 < (0 : Int))) w19)))) (NilC t_0 fun a138 => Ld (.int .i64) (a138.add 1) w12 fun x140 => NilC t_0 fun a142 => St (a142.add 1) (.int .i64 (w64 (x140 + (1 : Int)))) w12 fun w20 => K s7.1 w20)) (0, 0) w11) (Join (fun (s13 : Int) w21 => NilC t_0 fun a165 => Ld (.int .i64) (a165.add 1) w21 fun x167 => NilC t_0 fun a169 => St (a169.add 1) (.int .i64 (w64 (x167 + (1 : Int)))) w21 fun w22 => K s13 w22) fun j14 => Br ((x84.toNat : Int) == (110 : Int)) (j14 10 w11) (Br ((x84.toNat : Int) == (116 : Int)) (j14 9 w11) (Br ((x84.toNat : Int) == (115 : Int)) (j14 32 w11) (frisketref05_in.C special_1 (x84.toNat : Int) w11 fun x159 w23 => Br (!x159) (NilC t_0 fun a162 => St (a162.add 3) (.bool true) w23 fun w24 => K 0 w24) (j14 (w64 ((x84.toNat : Int))) w23))))))))))
theorem frisketref05_Text_letter.ok (t_0 : Option Addr) (special_1 : ByteArray) (K : Int → World → Prop) (w : World) (h : frisketref05_Text_letter.M t_0 special_1 K w) : frisketref05_Text_letter.C t_0 special_1 w K :=
  calls_of_sem (P := P) (H := [(12, .one (.int .i64)), (16, .one .str), (25, .one .str), (29, .one (.int .i64)), (42, .one .bool), (50, .one (.int .i64)), (59, .one (.int .i64)), (66, .one (.int .i64)), (70, .one .str), (79, .one .str), (83, .one (.int .i64)), (94, .one (.int .i64)), (101, .one (.int .i64)), (105, .one .str), (112, .one .str), (116, .one (.int .i64)), (118, .one (.int .i64)), (129, .one .str), (133, .one (.int .i64)), (135, .one (.int .i64)), (140, .one (.int .i64)), (159, .one .bool), (167, .one (.int .i64))]) (ann := (.n .z (.n .z (.n .z (.n (.n .z (.n (.n (.j [(43, .one .bool)] [0, 5] .z .z) .z) .z)) (.n .z (.n .z (.n .z (.n (.n .z (.n (.n .z (.n (.n .z (.l [(6, .one (.int .i64)), (7, .one (.int .i64))] [0] (.n .z (.n (.n .z (.n (.j [(120, .one .bool)] [0, 6, 7] .z .z) .z)) .z)))) .z)) .z)) (.n .z (.j [(8, .one (.int .i64))] [0] .z .z))))))))))) (args := [.pointer t_0, .string special_1]) (rt := .one (.int .i64)) P_mixed rfl rfl (by kernel_rfl) (by kernel_rfl)
    ((show _ = frisketref05_Text_letter.M t_0 special_1 K w by kernel_rfl).mpr h)

/-- frisket/frisketref05.in -/
def frisketref05_in.M (s_0 : ByteArray) (b_1 : Int) (K : Bool → World → Prop) (w : World) : Prop :=
  Loop (fun (s1 : Int) w1 again2 => Br (decide (s1 < (s_0.size : Int))) (IdxStr s_0 s1 fun x14 => Br ((x14.toNat : Int) == b_1) (K true w1) (again2 (w64 (s1 + (1 : Int))) w1)) (K false w1)) 0 w
theorem frisketref05_in.ok (s_0 : ByteArray) (b_1 : Int) (K : Bool → World → Prop) (w : World) (h : frisketref05_in.M s_0 b_1 K w) : frisketref05_in.C s_0 b_1 w K :=
  calls_of_sem (P := P) (H := []) (ann := (.n .z (.n (.n .z (.l [(5, .one (.int .i64))] [0, 1] .z)) .z))) (args := [.string s_0, .int .u8 b_1]) (rt := .one .bool) P_mixed rfl rfl (by kernel_rfl) (by kernel_rfl)
    ((show _ = frisketref05_in.M s_0 b_1 K w by kernel_rfl).mpr h)

/-- (*frisket/nfa.Machine).Last -/
def nfa_Machine_Last.M (m_0 : Option Addr) (rule_1 : Int) (K : Sl → World → Prop) (w : World) : Prop :=
  nfa_Machine_rule.C m_0 rule_1 w fun x7 w1 => nfa_set_sorted.C x7.2.1 w1 fun x9 w2 => K x9 w2
theorem nfa_Machine_Last.ok (m_0 : Option Addr) (rule_1 : Int) (K : Sl → World → Prop) (w : World) (h : nfa_Machine_Last.M m_0 rule_1 K w) : nfa_Machine_Last.C m_0 rule_1 w K :=
  calls_of_sem (P := P) (H := [(7, .agg [.map, .map, .bool]), (9, .one .sl)]) (ann := .z) (args := [.pointer m_0, .int .i64 rule_1]) (rt := .one .sl) P_mixed rfl rfl (by kernel_rfl) (by kernel_rfl)
    ((show _ = nfa_Machine_Last.M m_0 rule_1 K w by kernel_rfl).mpr h)

/-- (*frisket/regex.parser).atom -/
def regex_parser_atom.M (p_0 : Option Addr) (K : Option Addr → World → Prop) (w : World) : Prop :=
  NilC p_0 fun a8 => regex_reader_is.C (some a8) 40 w fun x10 w1 => Br x10 (NilC p_0 fun a12 => Ld (.int .i64) (a12.add 4) w1 fun x14 => NilC p_0 fun a16 => St (a16.add 4) (.int .i64 (w64 (x14 + (1 : Int)))) w1 fun w2 => NilC p_0 fun a19 => Ld (.int .i64) (a19.add 4) w2 fun x21 => Br (decide ((50 : Int) < x21)) (NilC p_0 fun a24 => St (a24.add 3) (.bool true) w2 fun w3 => regex_parser_fail.C p_0 w3 fun x27 w4 => K x27 w4) (regex_parser_or.C p_0 w2 fun x29 w5 => Join (fun (s1 : Bool) w6 => Br s1 (regex_parser_fail.C p_0 w6 fun x43 w7 => K x43 w7) (NilC p_0 fun a45 => Ld (.int .i64) (a45.add 4) w6 fun x47 => NilC p_0 fun a49 => St (a49.add 4) (.int .i64 (w64 (x47 - (1 : Int)))) w6 fun w8 => K x29 w8)) fun j2 => NilC p_0 fun a31 => Ld .bool (a31.add 2) w5 fun x33 => Br (!x33) (NilC p_0 fun a37 => regex_reader_is.C (some a37) 41 w5 fun x39 w9 => j2 (!x39) w9) (j2 false w5))) (NilC p_0 fun a54 => regex_reader_is.C (some a54) 46 w1 fun x56 w10 => Br x56 (regex_one.C 10 w10 fun x57 w11 => Al (.cells #[.int .u64 0, .int .u64 0, .int .u64 0, .int .u64 0] T.a4_uint64 (0, 0)) w11 fun b3 w12 => St (⟨b3, 0, none⟩) (.int .u64 x57.1) w12 fun w13 => St (⟨b3, 1, none⟩) (.int .u64 x57.2.1) w13 fun w14 => St (⟨b3, 2, none⟩) (.int .u64 x57.2.2.1) w14 fun w15 => St (⟨b3, 3, none⟩) (.int .u64 x57.2.2.2) w15 fun w16 => Loop (fun (s4 : Int) w17 again5 => Br (decide (s4 < (4 : Int))) (IdxA 4 (⟨b3, 0, none⟩) s4 1 fun p63 => Ld (.int .u64) p63 w17 fun x64 => IdxA 4 (⟨b3, 0, none⟩) s4 1 fun p66 => St p66 (.int .u64 (bNot .u64 x64)) w17 fun w18 => again5 (w64 (s4 + (1 : Int))) w18) (Ld (.int .u64) (⟨b3, 0, none⟩) w17 fun x68_0 => Ld (.int .u64) (⟨b3, 1, none⟩) w17 fun x68_1 => Ld (.int .u64) (⟨b3, 2, none⟩) w17 fun x68_2 => Ld (.int .u64) (⟨b3, 3, none⟩) w17 fun x68_3 => regex_Set.C (x68_0, x68_1, x68_2, x68_3) w17 fun x69 w19 => K x69 w19)) 0 w16) (NilC p_0 fun a72 => regex_reader_is.C (some a72) 91 w10 fun x74 w20 => Br x74 (regex_parser_class.C p_0 w20 fun x76 w21 => K x76 w21) (regex_parser_letter.C p_0 (⟨#[124, 42, 43, 63, 40, 41, 91, 93, 46, 92]⟩) w20 fun x78 w22 => regex_one.C x78 w22 fun x79 w23 => regex_Set.C (x79.1, x79.2.1, x79.2.2.1, x79.2.2.2) w23 fun x80 w24 => K x80 w24)))
theorem regex_parser_atom.ok (p_0 : Option Addr) (K : Option Addr → World → Prop) (w : World) (h : regex_parser_atom.M p_0 K w) : regex_parser_atom.C p_0 w K :=
  calls_of_sem (P := P) (H := [(10, .one .bool), (14, .one (.int .i64)), (21, .one (.int .i64)), (27, .one .ptr), (29, .one .ptr), (33, .one .bool), (39, .one .bool), (43, .one .ptr), (47, .one (.int .i64)), (56, .one .bool), (57, .agg [(.int .u64), (.int .u64), (.int .u64), (.int .u64)]), (64, .one (.int .u64)), (68, .agg [(.int .u64), (.int .u64), (.int .u64), (.int .u64)]), (69, .one .ptr), (74, .one .bool), (76, .one .ptr), (78, .one (.int .u8)), (79, .agg [(.int .u64), (.int .u64), (.int .u64), (.int .u64)]), (80, .one .ptr)]) (ann := (.n .z (.n (.n .z (.n (.n .z (.n .z (.n (.j [(41, .one .bool)] [0, 3] .z .z) .z))) (.n .z (.n (.n .z (.n (.n .z (.l [(58, .one (.int .i64))] [4] .z)) .z)) .z)))) .z))) (args := [.pointer p_0]) (rt := .one .ptr) P_mixed rfl rfl (by kernel_rfl) (by kernel_rfl)
    ((show _ = regex_parser_atom.M p_0 K w by kernel_rfl).mpr h)

/-- frisket/regex.Star -/
def regex_Star.M (n_0 : Option Addr) (K : Option Addr → World → Prop) (w : World) : Prop :=
  Br (n_0.isNone) (K none w) (Al (.cells #[.pointer n_0] T.p_regex_Node (0, 0)) w fun b1 w1 => Al (.cells #[.int .i64 4, .int .u64 0, .int .u64 0, .int .u64 0, .int .u64 0, .slice (some ⟨b1, 0, none⟩) 1 1] T.regex_Node (0, 0)) w1 fun b2 w2 => K (some (⟨b2, 0, none⟩)) w2)
theorem regex_Star.ok (n_0 : Option Addr) (K : Option Addr → World → Prop) (w : World) (h : regex_Star.M n_0 K w) : regex_Star.C n_0 w K :=
  calls_of_sem (P := P) (H := []) (ann := .z) (args := [.pointer n_0]) (rt := .one .ptr) P_mixed rfl rfl (by kernel_rfl) (by kernel_rfl)
    ((show _ = regex_Star.M n_0 K w by kernel_rfl).mpr h)

/-- frisket/regex.Empty -/
def regex_Empty.M  (K : Option Addr → World → Prop) (w : World) : Prop :=
  Al (.cells #[.int .i64 1, .int .u64 0, .int .u64 0, .int .u64 0, .int .u64 0, .slice none 0 0] T.regex_Node (0, 0)) w fun b1 w1 => K (some (⟨b1, 0, none⟩)) w1
theorem regex_Empty.ok  (K : Option Addr → World → Prop) (w : World) (h : regex_Empty.M  K w) : regex_Empty.C  w K :=
  calls_of_sem (P := P) (H := []) (ann := .z) (args := []) (rt := .one .ptr) P_mixed rfl rfl (by kernel_rfl) (by kernel_rfl)
    ((show _ = regex_Empty.M  K w by kernel_rfl).mpr h)

/-- (*frisket/regex.parser).fail -/
def regex_parser_fail.M (p_0 : Option Addr) (K : Option Addr → World → Prop) (w : World) : Prop :=
  NilC p_0 fun a4 => St (a4.add 2) (.bool true) w fun w1 => regex_Empty.C  w1 fun x6 w2 => K x6 w2
theorem regex_parser_fail.ok (p_0 : Option Addr) (K : Option Addr → World → Prop) (w : World) (h : regex_parser_fail.M p_0 K w) : regex_parser_fail.C p_0 w K :=
  calls_of_sem (P := P) (H := [(6, .one .ptr)]) (ann := .z) (args := [.pointer p_0]) (rt := .one .ptr) P_mixed rfl rfl (by kernel_rfl) (by kernel_rfl)
    ((show _ = regex_parser_fail.M p_0 K w by kernel_rfl).mpr h)

/-- frisket/frisketref05.hex -/
def frisketref05_hex.M (b_0 : Int) (K : Int → World → Prop) (w : World) : Prop :=
  Join (fun (s1 : Bool) w1 => Br s1 (K (w64 ((IntKind.wrap .u8 (b_0 - (48 : Int))))) w1) (Join (fun (s2 : Bool) w2 => Br s2 (K (w64 ((w64 ((IntKind.wrap .u8 (b_0 - (97 : Int))))) + (10 : Int))) w2) (K (-1) w2)) fun j3 => Br (decide ((97 : Int) ≤ b_0)) (j3 (decide (b_0 ≤ (102 : Int))) w1) (j3 false w1))) fun j4 => Br (decide ((48 : Int) ≤ b_0)) (j4 (decide (b_0 ≤ (57 : Int))) w) (j4 false w)
theorem frisketref05_hex.ok (b_0 : Int) (K : Int → World → Prop) (w : World) (h : frisketref05_hex.M b_0 K w) : frisketref05_hex.C b_0 w K :=
  calls_of_sem (P := P) (H := []) (ann := (.n .z (.n (.j [(3, .one .bool)] [0] .z (.n .z (.j [(13, .one .bool)] [0] .z .z))) .z))) (args := [.int .u8 b_0]) (rt := .one (.int .i64)) P_mixed rfl rfl (by kernel_rfl) (by kernel_rfl)
    ((show _ = frisketref05_hex.M b_0 K w by kernel_rfl).mpr h)

/-- frisket/regex.one -/
def regex_one.M (b_0 : Int) (K : (Int × Int × Int × Int) → World → Prop) (w : World) : Prop :=
  Al (.cells #[.int .u64 0, .int .u64 0, .int .u64 0, .int .u64 0] T.a4_uint64 (0, 0)) w fun b1 w1 => Al (.cells #[.int .u64 0, .int .u64 0, .int .u64 0, .int .u64 0] T.a4_uint64 (0, 0)) w1 fun b2 w2 => Need ((64 : Int) ≠ 0) (Need ((64 : Int) ≠ 0) (Need (0 ≤ (Int.tmod b_0 (64 : Int))) (IdxA 4 (⟨b2, 0, none⟩) (IntKind.wrap .u8 (Int.tdiv b_0 (64 : Int))) 1 fun p9 => St p9 (.int .u64 (IntKind.wrap .u64 ((1 : Int) * 2 ^ min (Int.toNat (Int.tmod b_0 (64 : Int))) (IntKind.bits .u64)))) w2 fun w3 => Ld (.int .u64) (⟨b2, 0, none⟩) w3 fun x10_0 => Ld (.int .u64) (⟨b2, 1, none⟩) w3 fun x10_1 => Ld (.int .u64) (⟨b2, 2, none⟩) w3 fun x10_2 => Ld (.int .u64) (⟨b2, 3, none⟩) w3 fun x10_3 => St (⟨b1, 0, none⟩) (.int .u64 x10_0) w3 fun w4 => St (⟨b1, 1, none⟩) (.int .u64 x10_1) w4 fun w5 => St (⟨b1, 2, none⟩) (.int .u64 x10_2) w5 fun w6 => St (⟨b1, 3, none⟩) (.int .u64 x10_3) w6 fun w7 => Ld (.int .u64) (⟨b1, 0, none⟩) w7 fun r0_0 => Ld (.int .u64) (⟨b1, 1, none⟩) w7 fun r0_1 => Ld (.int .u64) (⟨b1, 2, none⟩) w7 fun r0_2 => Ld (.int .u64) (⟨b1, 3, none⟩) w7 fun r0_3 => K (r0_0, r0_1, r0_2, r0_3) w7)))
theorem regex_one.ok (b_0 : Int) (K : (Int × Int × Int × Int) → World → Prop) (w : World) (h : regex_one.M b_0 K w) : regex_one.C b_0 w K :=
  calls_of_sem (P := P) (H := [(2, .agg [(.int .u64), (.int .u64), (.int .u64), (.int .u64)]), (10, .agg [(.int .u64), (.int .u64), (.int .u64), (.int .u64)])]) (ann := .z) (args := [.int .u8 b_0]) (rt := .agg [(.int .u64), (.int .u64), (.int .u64), (.int .u64)]) P_mixed rfl rfl (by kernel_rfl) (by kernel_rfl)
    ((show _ = regex_one.M b_0 K w by kernel_rfl).mpr h)

/-- (*frisket/regex.parser).class -/
def regex_parser_class.M (p_0 : Option Addr) (K : Option Addr → World → Prop) (w : World) : Prop :=
  NilC p_0 fun a7 => regex_reader_is.C (some a7) 94 w fun x9 w1 => Al (.cells #[.int .u64 0, .int .u64 0, .int .u64 0, .int .u64 0] T.a4_uint64 (0, 0)) w1 fun b1 w2 => regex_parser_span.C p_0 (some (⟨b1, 0, none⟩)) w2 fun x11 w3 => Loop (fun (s2 : Unit) w4 again3 => Join (fun (s4 : Bool) w5 => Br s4 (regex_parser_span.C p_0 (some (⟨b1, 0, none⟩)) w5 fun x25 w6 => again3 () w6) (Br x9 (Loop (fun (s5 : Int) w7 again6 => Br (decide (s5 < (4 : Int))) (IdxA 4 (⟨b1, 0, none⟩) s5 1 fun p32 => Ld (.int .u64) p32 w7 fun x33 => IdxA 4 (⟨b1, 0, none⟩) s5 1 fun p35 => St p35 (.int .u64 (bNot .u64 x33)) w7 fun w8 => again6 (w64 (s5 + (1 : Int))) w8) (Ld (.int .u64) (⟨b1, 0, none⟩) w7 fun x37_0 => Ld (.int .u64) (⟨b1, 1, none⟩) w7 fun x37_1 => Ld (.int .u64) (⟨b1, 2, none⟩) w7 fun x37_2 => Ld (.int .u64) (⟨b1, 3, none⟩) w7 fun x37_3 => regex_Set.C (x37_0, x37_1, x37_2, x37_3) w7 fun x38 w9 => K x38 w9)) 0 w5) (Ld (.int .u64) (⟨b1, 0, none⟩) w5 fun x37_0 => Ld (.int .u64) (⟨b1, 1, none⟩) w5 fun x37_1 => Ld (.int .u64) (⟨b1, 2, none⟩) w5 fun x37_2 => Ld (.int .u64) (⟨b1, 3, none⟩) w5 fun x37_3 => regex_Set.C (x37_0, x37_1, x37_2, x37_3) w5 fun x38 w10 => K x38 w10))) fun j7 => NilC p_0 fun a13 => Ld .bool (a13.add 2) w4 fun x15 => Br (!x15) (NilC p_0 fun a19 => regex_reader_is.C (some a19) 93 w4 fun x21 w11 => j7 (!x21) w11) (j7 false w4)) () w3
theorem regex_parser_class.ok (p_0 : Option Addr) (K : Option Addr → World → Prop) (w : World) (h : regex_parser_class.M p_0 K w) : regex_parser_class.C p_0 w K :=
  calls_of_sem (P := P) (H := [(9, .one .bool), (11, .tup []), (15, .one .bool), (21, .one .bool), (25, .tup []), (33, .one (.int .u64)), (37, .agg [(.int .u64), (.int .u64), (.int .u64), (.int .u64)]), (38, .one .ptr)]) (ann := (.n .z (.n .z (.n .z (.n .z (.n (.l [] [0, 3, 4] (.n (.j [(23, .one .bool)] [0, 3, 4] .z .z) .z)) (.n (.n .z (.n (.n .z (.l [(27, .one (.int .i64))] [4] .z)) .z)) .z))))))) (args := [.pointer p_0]) (rt := .one .ptr) P_mixed rfl rfl (by kernel_rfl) (by kernel_rfl)
    ((show _ = regex_parser_class.M p_0 K w by kernel_rfl).mpr h)

/-- (*frisket/regex.parser).letter -/
def regex_parser_letter.M (p_0 : Option Addr) (special_1 : ByteArray) (K : Int → World → Prop) (w : World) : Prop :=
  NilC p_0 fun a9 => regex_reader_peek.C (some a9) w fun x11 w1 => Br (!x11.2) (regex_parser_fail.C p_0 w1 fun x18 w2 => K 0 w2) (Br (x11.1 == (92 : Int)) (NilC p_0 fun a23 => Ld (.int .i64) (a23.add 1) w1 fun x26 => NilC p_0 fun a28 => St (a28.add 1) (.int .i64 (w64 (x26 + (1 : Int)))) w1 fun w3 => regex_parser_escaped.C p_0 special_1 w3 fun x33 w4 => K x33 w4) (Join (fun (s1 : Bool) w5 => Br s1 (regex_parser_fail.C p_0 w5 fun x48 w6 => K 0 w6) (NilC p_0 fun a50 => Ld (.int .i64) (a50.add 1) w5 fun x53 => NilC p_0 fun a55 => St (a55.add 1) (.int .i64 (w64 (x53 + (1 : Int)))) w5 fun w7 => K x11.1 w7)) fun j2 => Br (decide (x11.1 ≤ (32 : Int))) (j2 true w1) (Br (decide ((127 : Int) ≤ x11.1)) (j2 true w1) (strings_IndexByte.C special_1 x11.1 w1 fun x44 w8 => j2 (decide ((0 : Int) ≤ x44)) w8))))
theorem regex_parser_letter.ok (p_0 : Option Addr) (special_1 : ByteArray) (K : Int → World → Prop) (w : World) (h : regex_parser_letter.M p_0 special_1 K w) : regex_parser_letter.C p_0 special_1 w K :=
  calls_of_sem (P := P) (H := [(11, .tup [.one (.int .u8), .one .bool]), (18, .one .ptr), (26, .one (.int .i64)), (33, .one (.int .u8)), (44, .one (.int .i64)), (48, .one .ptr), (53, .one (.int .i64))]) (ann := (.n .z (.n .z (.n (.n .z (.n .z (.n .z (.n .z (.j [(34, .one .bool)] [0, 5] .z .z))))) .z)))) (args := [.pointer p_0, .string special_1]) (rt := .one (.int .u8)) P_mixed rfl rfl (by kernel_rfl) (by kernel_rfl)
    ((show _ = regex_parser_letter.M p_0 special_1 K w by kernel_rfl).mpr h)

/-- (*frisket/regex.parser).span -/
def regex_parser_span.M (p_0 : Option Addr) (set_1 : Option Addr) (K : Unit → World → Prop) (w : World) : Prop :=
  regex_parser_letter.C p_0 (⟨#[93, 94, 45, 92]⟩) w fun x9 w1 => Join (fun (s1 : Int) w2 => Loop (fun (s2 : Int) w3 again3 => Join (fun (s4 : Bool) w4 => Br s4 (DrawN w4 fun S5 w5 => Need ((64 : Int) ≠ 0) (NilC set_1 fun a64 => IdxA 4 a64 (w64 (Int.tdiv s2 (64 : Int))) 1 fun p65 => Need ((64 : Int) ≠ 0) (Need (0 ≤ (Int.tmod s2 (64 : Int))) (NilC set_1 fun a71 => Ld (.int .u64) p65 w5 fun x66 => (S5 w5 ∧ IdxA 4 a71 (w64 (Int.tdiv s2 (64 : Int))) 1 fun p72 => St p72 (.int .u64 (bOr .u64 x66 (IntKind.wrap .u64 ((1 : Int) * 2 ^ min (Int.toNat (Int.tmod s2 (64 : Int))) (IntKind.bits .u64))))) w5 fun w6 => (S5 w6 ∧ again3 (w64 (s2 + (1 : Int))) w6)))))) (K () w4)) fun j6 => Br (decide (s2 ≤ (w64 (s1)))) (NilC p_0 fun a54 => Ld .bool (a54.add 2) w3 fun x56 => j6 (!x56) w3) (j6 false w3)) (w64 (x9)) w2) fun j7 => Join (fun (s8 : Bool) w7 => Br s8 (NilC p_0 fun a23 => Ld (.int .i64) (a23.add 1) w7 fun x26 => regex_parser_letter.C p_0 (⟨#[93, 94, 45, 92]⟩) w7 fun x28 w8 => Join (fun (s9 : Bool) w9 => Br s9 (NilC p_0 fun a41 => St (a41.add 1) (.int .i64 x26) w9 fun w10 => regex_parser_fail.C p_0 w10 fun x45 w11 => j7 x28 w11) (j7 x28 w9)) fun j10 => NilC p_0 fun a30 => Ld .bool (a30.add 2) w8 fun x32 => Br (!x32) (j10 (decide (x28 < x9)) w8) (j10 false w8)) (j7 x9 w7)) fun j11 => NilC p_0 fun a12 => Ld .bool (a12.add 2) w1 fun x14 => Br (!x14) (NilC p_0 fun a18 => regex_reader_is.C (some a18) 45 w1 fun x20 w12 => j11 x20 w12) (j11 false w1)
theorem regex_parser_span.ok (p_0 : Option Addr) (set_1 : Option Addr) (K : Unit → World → Prop) (w : World) (h : regex_parser_span.M p_0 set_1 K w) : regex_parser_span.C p_0 set_1 w K :=
  calls_of_sem (P := P) (H := [(9, .one (.int .u8)), (14, .one .bool), (20, .one .bool), (26, .one (.int .i64)), (28, .one (.int .u8)), (32, .one .bool), (45, .one .ptr), (56, .one .bool), (66, .one (.int .u64))]) (ann := (.n .z (.n .z (.j [(5, .one (.int .u8))] [0, 1, 4] (.j [(21, .one .bool)] [0, 1, 4, 5] .z (.n (.n .z (.n .z (.j [(38, .one .bool)] [0, 1, 4, 5, 6] .z .z))) .z)) (.n .z (.l [(7, .one (.int .i64))] [0, 1, 5] (.n (.j [(58, .one .bool)] [0, 1, 5, 7] .z .z) (.n .d .z)))))))) (args := [.pointer p_0, .pointer set_1]) (rt := .tup []) P_mixed rfl rfl (by kernel_rfl) (by kernel_rfl)
    ((show _ = regex_parser_span.M p_0 set_1 K w by kernel_rfl).mpr h)

/-- (*frisket/regex.parser).escaped -/
def regex_parser_escaped.M (p_0 : Option Addr) (special_1 : ByteArray) (K : Int → World → Prop) (w : World) : Prop :=
  NilC p_0 fun a10 => regex_reader_peek.C (some a10) w fun x12 w1 => Br (!x12.2) (regex_parser_fail.C p_0 w1 fun x18 w2 => K 0 w2) (Join (fun (s1 : Int) w3 => NilC p_0 fun a59 => Ld (.int .i64) (a59.add 1) w3 fun x62 => NilC p_0 fun a64 => St (a64.add 1) (.int .i64 (w64 (x62 + (1 : Int)))) w3 fun w4 => K s1 w4) fun j2 => Br (x12.1 == (110 : Int)) (j2 10 w1) (Br (x12.1 == (116 : Int)) (j2 9 w1) (Br (x12.1 == (115 : Int)) (j2 32 w1) (Br (x12.1 == (120 : Int)) (NilC p_0 fun a32 => Ld (.int .i64) (a32.add 1) w1 fun x35 => NilC p_0 fun a37 => St (a37.add 1) (.int .i64 (w64 (x35 + (1 : Int)))) w1 fun w5 => regex_parser_digit.C p_0 w5 fun x41 w6 => NilC p_0 fun a43 => Ld .bool (a43.add 2) w6 fun x45 => Br x45 (K 0 w6) (regex_parser_digit.C p_0 w6 fun x49 w7 => K (IntKind.wrap .u8 ((IntKind.wrap .u8 ((16 : Int) * x41)) + x49)) w7)) (strings_IndexByte.C special_1 x12.1 w1 fun x54 w8 => Br (decide (x54 < (0 : Int))) (regex_parser_fail.C p_0 w8 fun x57 w9 => K 0 w9) (j2 x12.1 w8))))))
theorem regex_parser_escaped.ok (p_0 : Option Addr) (special_1 : ByteArray) (K : Int → World → Prop) (w : World) (h : regex_parser_escaped.M p_0 special_1 K w) : regex_parser_escaped.C p_0 special_1 w K :=
  calls_of_sem (P := P) (H := [(12, .tup [.one (.int .u8), .one .bool]), (18, .one .ptr), (35, .one (.int .i64)), (41, .one (.int .u8)), (45, .one .bool), (49, .one (.int .u8)), (54, .one (.int .i64)), (57, .one .ptr), (62, .one (.int .i64))]) (ann := (.n .z (.n .z (.n .z (.j [(5, .one (.int .u8))] [0] .z .z))))) (args := [.pointer p_0, .string special_1]) (rt := .one (.int .u8)) P_mixed rfl rfl (by kernel_rfl) (by kernel_rfl)
    ((show _ = regex_parser_escaped.M p_0 special_1 K w by kernel_rfl).mpr h)

/-- (*frisket/regex.parser).digit -/
def regex_parser_digit.M (p_0 : Option Addr) (K : Int → World → Prop) (w : World) : Prop :=
  NilC p_0 fun a8 => regex_reader_peek.C (some a8) w fun x10 w1 => strings_IndexByte.C (⟨#[48, 49, 50, 51, 52, 53, 54, 55, 56, 57, 97, 98, 99, 100, 101, 102]⟩) x10.1 w1 fun x14 w2 => Join (fun (s1 : Bool) w3 => Br s1 (regex_parser_fail.C p_0 w3 fun x22 w4 => K 0 w4) (NilC p_0 fun a24 => Ld (.int .i64) (a24.add 1) w3 fun x27 => NilC p_0 fun a29 => St (a29.add 1) (.int .i64 (w64 (x27 + (1 : Int)))) w3 fun w5 => K (IntKind.wrap .u8 (x14)) w5)) fun j2 => Br (!x10.2) (j2 true w2) (j2 (decide (x14 < (0 : Int))) w2)
theorem regex_parser_digit.ok (p_0 : Option Addr) (K : Int → World → Prop) (w : World) (h : regex_parser_digit.M p_0 K w) : regex_parser_digit.C p_0 w K :=
  calls_of_sem (P := P) (H := [(10, .tup [.one (.int .u8), .one .bool]), (14, .one (.int .i64)), (22, .one .ptr), (27, .one (.int .i64))]) (ann := (.n .z (.n .z (.n .z (.n (.j [(20, .one .bool)] [0, 5] .z .z) .z))))) (args := [.pointer p_0]) (rt := .one (.int .u8)) P_mixed rfl rfl (by kernel_rfl) (by kernel_rfl)
    ((show _ = regex_parser_digit.M p_0 K w by kernel_rfl).mpr h)

end Go.Fk
end

section
set_option linter.unusedVariables false
namespace Go.Fk
open Go

/-! ## Regular expressions -/

inductive Re where
  | set (f : Nat → Bool) | empty | cat (a b : Re) | or (a b : Re) | star (a : Re)

def Word (f : Nat → Bool) (k n : Nat) : Prop := n < 2 ^ 64 ∧ ∀ i, i < 64 → n.testBit i = f (64 * k + i)
def Words (f : Nat → Bool) (n0 n1 n2 n3 : Nat) : Prop := Word f 0 n0 ∧ Word f 1 n1 ∧ Word f 2 n2 ∧ Word f 3 n3

def nobj (kind : Int) (n0 n1 n2 n3 : Nat) (l : Sl) : Obj :=
  .cells #[.int .i64 kind, .int .u64 n0, .int .u64 n1, .int .u64 n2, .int .u64 n3, .slice l.a l.n l.c] T.regex_Node (0, 0)

inductive Nd (H : View) : Option Addr → Re → Prop
  | set {b n0 n1 n2 n3 : Nat} {f : Nat → Bool} (h : H b (nobj 0 n0 n1 n2 n3 ⟨none, 0, 0⟩)) (hw : Words f n0 n1 n2 n3) : Nd H (some ⟨b, 0, none⟩) (.set f)
  | empty {b : Nat} (h : H b (nobj 1 0 0 0 0 ⟨none, 0, 0⟩)) : Nd H (some ⟨b, 0, none⟩) .empty
  | cat {b c : Nat} {p q : Option Addr} {x y : Re} (h : H b (nobj 2 0 0 0 0 ⟨some ⟨c, 0, none⟩, 2, 2⟩)) (h' : H c (.cells #[.pointer p, .pointer q] T.p_regex_Node (0, 0))) (hp : Nd H p x) (hq : Nd H q y) : Nd H (some ⟨b, 0, none⟩) (.cat x y)
  | or {b c : Nat} {p q : Option Addr} {x y : Re} (h : H b (nobj 3 0 0 0 0 ⟨some ⟨c, 0, none⟩, 2, 2⟩)) (h' : H c (.cells #[.pointer p, .pointer q] T.p_regex_Node (0, 0))) (hp : Nd H p x) (hq : Nd H q y) : Nd H (some ⟨b, 0, none⟩) (.or x y)
  | star {b c : Nat} {p : Option Addr} {x : Re} (h : H b (nobj 4 0 0 0 0 ⟨some ⟨c, 0, none⟩, 1, 1⟩)) (h' : H c (.cells #[.pointer p] T.p_regex_Node (0, 0))) (hp : Nd H p x) : Nd H (some ⟨b, 0, none⟩) (.star x)

theorem Nd.mono {H H' : View} {p : Option Addr} {x : Re} (h : Nd H p x) (hv : Vle H H') : Nd H' p x := by
  induction h with
  | set h hw => exact .set (hv _ _ h) hw
  | empty h => exact .empty (hv _ _ h)
  | cat h h' _ _ ih1 ih2 => exact .cat (hv _ _ h) (hv _ _ h') ih1 ih2
  | or h h' _ _ ih1 ih2 => exact .or (hv _ _ h) (hv _ _ h') ih1 ih2
  | star h h' _ ih => exact .star (hv _ _ h) (hv _ _ h') ih

def Re.kind : Re → Int
  | .set _ => 0 | .empty => 1 | .cat _ _ => 2 | .or _ _ => 3 | .star _ => 4
def Re.parts : Re → List Re
  | .cat a b => [a, b] | .or a b => [a, b] | .star a => [a] | _ => []
def Re.size : Re → Nat
  | .set _ => 1 | .empty => 1 | .cat a b => 1 + a.size + b.size | .or a b => 1 + a.size + b.size | .star a => 1 + a.size

theorem row1 {H : View} {c : Nat} {p : Option Addr} {E : Nat} (h : H c (.cells #[.pointer p] E (0, 0))) : SlT .ptr H ⟨some ⟨c, 0, none⟩, 1, 1⟩ [p] :=
  ⟨rfl, .inr ⟨c, 0, _, _, _, rfl, h, fun i x hx => by
    rcases i with _ | i
    · simp at hx; subst hx; rfl
    · simp at hx⟩⟩
theorem row2 {H : View} {c : Nat} {p q : Option Addr} {E : Nat} (h : H c (.cells #[.pointer p, .pointer q] E (0, 0))) : SlT .ptr H ⟨some ⟨c, 0, none⟩, 2, 2⟩ [p, q] :=
  ⟨rfl, .inr ⟨c, 0, _, _, _, rfl, h, fun i x hx => by
    rcases i with _ | _ | i
    · simp at hx; subst hx; rfl
    · simp at hx; subst hx; rfl
    · simp at hx⟩⟩

/-- What is known of a node at large. -/
theorem Nd.out {H : View} {p : Option Addr} {x : Re} (h : Nd H p x) : ∃ b n0 n1 n2 n3 l ps, p = some ⟨b, 0, none⟩ ∧ H b (nobj x.kind n0 n1 n2 n3 l) ∧ SlT .ptr H l ps ∧ All2 (Nd H) ps x.parts := by
  cases h with
  | set h hw => exact ⟨_, _, _, _, _, _, [], rfl, h, SlT.nil, .nil⟩
  | empty h => exact ⟨_, 0, 0, 0, 0, _, [], rfl, h, SlT.nil, .nil⟩
  | cat h h' hp hq => exact ⟨_, 0, 0, 0, 0, _, [_, _], rfl, h, row2 h', .cons hp (.cons hq .nil)⟩
  | or h h' hp hq => exact ⟨_, 0, 0, 0, 0, _, [_, _], rfl, h, row2 h', .cons hp (.cons hq .nil)⟩
  | star h h' hp => exact ⟨_, 0, 0, 0, 0, _, [_], rfl, h, row1 h', .cons hp .nil⟩

theorem Re.size_parts (x : Re) : x.size = 1 + (x.parts.map Re.size).sum := by cases x <;> simp [Re.size, Re.parts] <;> omega

/-- Blocks that are there. -/
def Old (M : Nat → Prop) (w : World) : Prop := ∀ b, M b → b < w.heap.size
theorem Old.keeps {M N : Nat → Prop} {w w' : World} (h : Old M w) (hk : Keeps N w w') : Old M w' := fun b hb => Nat.lt_of_lt_of_le (h b hb) hk.size

theorem regex_Kind_spec {M : Nat → Prop} {w : World} {p : Option Addr} {x : Re} {K : Int → World → Prop} (h : Nd (V M w) p x) (hk : K x.kind w) : regex_Kind.C p w K := by
  obtain ⟨b, n0, n1, n2, n3, l, ps, rfl, hb, -⟩ := h.out
  refine regex_Kind.ok _ _ _ ?_
  unfold regex_Kind.M
  exact Ld.int (cell_of hb.2 rfl) hk

theorem size_pos (x : Re) : 1 ≤ x.size := by rw [Re.size_parts]; omega

theorem sum_take_succ (l : List Nat) (i : Nat) (x : Nat) (h : l[i]? = some x) : (l.take (i + 1)).sum = (l.take i).sum + x := by
  rw [List.take_add_one, h]; simp
theorem sum_take_le (l : List Nat) (i : Nat) : (l.take i).sum ≤ l.sum := by
  have h := congrArg List.sum (List.take_append_drop i l)
  rw [List.sum_append] at h; omega

theorem regex_Size_spec : ∀ (n : Nat) (x : Re), x.size ≤ n → ∀ {M : Nat → Prop} {w : World} {p : Option Addr} {K : Int → World → Prop} (hs : x.size < 1000000000000) (h : Nd (V M w) p x) (hk : ∀ w', Keeps No w w' → K x.size w'), regex_Size.C p w K := by
  intro n
  induction n with
  | zero => intro x hx; have := size_pos x; omega
  | succ n ih =>
    intro x hx M w p K hs h hk
    obtain ⟨b, n0, n1, n2, n3, l, ps, rfl, hb, hl, ha⟩ := h.out
    have hsz := Re.size_parts x
    have hp2 : x.parts.length ≤ 2 := by cases x <;> simp [Re.parts]
    refine regex_Size.ok _ _ _ ?_
    unfold regex_Size.M
    refine Ld.sl (cell_of hb.2 rfl) ?_
    have hlen := hl.1; have hal := ha.length
    refine Loop.mk (fun s w' => Keeps No w w' ∧ ∃ k : Nat, k ≤ ps.length ∧ s = (((1 + ((x.parts.map Re.size).take k).sum : Nat) : Int), (k : Int))) (fun s => (ps.length : Nat) - s.2.toNat) ⟨Keeps.refl, 0, by omega, by simp⟩ ?_
    rintro s w1 ⟨hk1, k, hkl, rfl⟩ R hR
    refine Br.mk (fun ht => ?_) (fun hf => ?_)
    · have ht : k < ps.length := by simpa [hlen] using ht
      refine IdxS.get (M := M) (hl.mono (V.keeps0 hk1)) (by simp) (by simp; omega) fun q hq => ?_
      simp at hq
      obtain ⟨y, hy, hN⟩ := ha.get _ _ hq
      have hy' : (x.parts.map Re.size)[k]? = some y.size := by simp [hy]
      have h2 := sum_take_succ _ _ _ hy'
      have h3 := sum_take_le (x.parts.map Re.size) (k + 1)
      refine ih y (by omega) (by omega) (hN.mono (V.keeps0 hk1)) fun w2 hk2 => ?_
      refine hR _ _ ⟨hk1.trans hk2, k + 1, by omega, ?_⟩ ?_
      · rw [w64_eq (by simp; omega), w64_eq (by simp; omega), h2]
        simp; omega
      · dsimp only; rw [w64_eq (by omega)]; omega
    · have hf : ps.length ≤ k := by simpa [hlen] using hf
      have : k = x.parts.length := by omega
      subst this
      have := hk w1 hk1
      rw [hsz] at this
      simpa [List.take_of_length_le] using this

theorem regex_Set_spec {w : World} {f : Nat → Bool} {n0 n1 n2 n3 : Nat} {K : Option Addr → World → Prop} (hw : Words f n0 n1 n2 n3)
    (hk : ∀ p w', Keeps No w w' → (∀ M : Nat → Prop, Old M w → Nd (V M w') p (.set f)) → K p w') : regex_Set.C (n0, n1, n2, n3) w K := by
  refine regex_Set.ok _ _ _ ?_
  unfold regex_Set.M
  refine Al.mk fun b1 w1 h1 => ?_
  refine Ld.int (cell_of h1.at_ rfl) (Ld.int (cell_of h1.at_ rfl) (Ld.int (cell_of h1.at_ rfl) (Ld.int (cell_of h1.at_ rfl) ?_)))
  refine Al.mk fun b2 w2 h2 => ?_
  refine hk _ _ (h1.keeps.trans h2.keeps) fun M hM => ?_
  refine .set (n0 := n0) (n1 := n1) (n2 := n2) (n3 := n3) ⟨fun hm => ?_, h2.at_⟩ hw
  have := hM _ hm; have := h1.size; have := h2.eq; omega

theorem regex_Empty_spec {w : World} {K : Option Addr → World → Prop}
    (hk : ∀ p w', Keeps No w w' → (∀ M : Nat → Prop, Old M w → Nd (V M w') p .empty) → K p w') : regex_Empty.C w K := by
  refine regex_Empty.ok _ _ ?_
  unfold regex_Empty.M
  refine Al.mk fun b1 w1 h1 => ?_
  exact hk _ _ h1.keeps fun M hM => .empty ⟨fun hm => by have := hM _ hm; have := h1.eq; omega, h1.at_⟩

/-- What 'two' makes of several. -/
def twoOf (f : Re → Re → Re) (none : Re) : List Re → Re
  | [] => none
  | [a] => a
  | a :: b :: l => f a (twoOf f none (b :: l))

theorem twoOf_cons (f : Re → Re → Re) (none a : Re) {l : List Re} (h : l ≠ []) : twoOf f none (a :: l) = f a (twoOf f none l) := by
  cases l with
  | nil => exact absurd rfl h
  | cons b l => rfl

theorem regex_two_spec {kind : Int} {f : Re → Re → Re} {M : Nat → Prop} {w : World} {none : Option Addr} {nx : Re} {l : Sl} {ps : List (Option Addr)} {xs : List Re} {K : Option Addr → World → Prop}
    (hkf : (kind = 2 ∧ f = .cat) ∨ (kind = 3 ∧ f = .or)) (hM : Old M w) (hl : SlT .ptr (V M w) l ps) (ha : All2 (Nd (V M w)) ps xs) (hn : Nd (V M w) none nx) (hlen : ps.length < 1000000000)
    (hk : ∀ p w', Keeps No w w' → Nd (V M w') p (twoOf f nx xs) → K p w') : regex_two.C kind none l w K := by
  refine regex_two.ok _ _ _ _ _ ?_
  unfold regex_two.M
  have hln := hl.1; have hal := ha.length
  refine Loop.mk (fun s w' => w' = w ∧ 0 ≤ s ∧ s ≤ ps.length) (fun s => (ps.length : Nat) - s.toNat) ⟨rfl, by omega, by omega⟩ ?_
  rintro s w1 ⟨rfl, h0, h1⟩ R hR
  refine Br.mk (fun ht => ?_) (fun hf => ?_)
  · have ht : s < ps.length := by simpa [hln] using ht
    refine IdxS.get (M := M) hl h0 ht fun q hq => ?_
    obtain ⟨y, hy, hN⟩ := ha.get _ _ hq
    obtain ⟨b, _, _, _, _, _, _, rfl, -⟩ := hN.out
    refine hR _ _ ⟨rfl, ?_, ?_⟩ ?_ <;> rw [w64_eq (by omega)] <;> omega
  · refine Br.mk (fun ht => ?_) (fun hf => ?_)
    · have : ps.length = 0 := by simpa [hln] using ht
      have hx : xs = [] := List.eq_nil_of_length_eq_zero (by omega)
      subst hx
      exact hk _ _ Keeps.refl hn
    · have hpos : 0 < ps.length := by
        have : ¬ ps.length = 0 := by simpa [hln] using hf
        omega
      rw [w64_eq (by omega), w64_eq (by omega)]
      refine IdxS.get (M := M) hl (by omega) (by omega) fun q hq => ?_
      obtain ⟨y, hy, hN⟩ := ha.get _ _ hq
      refine Loop.mk (fun s w' => Keeps No w1 w' ∧ ∃ k : Nat, k < ps.length ∧ s.2 = (k : Int) - 1 ∧ Nd (V M w') s.1 (twoOf f nx (xs.drop k))) (fun s => (s.2 + 1).toNat) ?_ ?_
      · refine ⟨Keeps.refl, ps.length - 1, by omega, by simp only []; omega, ?_⟩
        have e : ((l.n : Int) - 1).toNat = ps.length - 1 := by omega
        rw [e] at hy
        have h2 : xs.drop (ps.length - 1) = [y] := by
          rw [List.drop_eq_getElem_cons (by omega), List.drop_of_length_le (by omega)]
          rw [List.getElem?_eq_getElem (by omega)] at hy
          simpa using hy
        rw [h2]; exact hN
      · rintro ⟨o, i⟩ w2 ⟨hk2, k, hkl, hi, hNo⟩ R hR
        simp only [] at hi hNo ⊢
        refine Br.mk (fun ht => ?_) (fun hf2 => ?_)
        · have ht : 0 ≤ i := by simpa using ht
          refine IdxS.get (M := M) (hl.mono (V.keeps0 hk2)) (by omega) (by omega) fun q hq => ?_
          obtain ⟨y, hy, hN⟩ := ha.get _ _ hq
          refine Al.mk fun b1 w3 h3 => Al.mk fun b2 w4 h4 => ?_
          have hk4 := hk2.trans (h3.keeps.trans h4.keeps)
          have e : i.toNat = k - 1 := by omega
          rw [e] at hy
          have hd : xs.drop (k - 1) = y :: xs.drop k := by
            have hy2 := hy
            rw [List.getElem?_eq_getElem (by omega)] at hy2
            rw [List.drop_eq_getElem_cons (by omega), show k - 1 + 1 = k from by omega]
            simp at hy2; rw [hy2]
          have hne : xs.drop k ≠ [] := by
            intro h; have := congrArg List.length h; simp at this; omega
          have hs3 := h3.size; have hs4 := h4.size; have he3 := h3.eq; have he4 := h4.eq; have hs2 := hk2.size
          have hb2 : V M w4 b2 (nobj kind 0 0 0 0 ⟨some ⟨b1, 0, Option.none⟩, 2, 2⟩) := ⟨fun hm => by have := hM _ hm; omega, h4.at_⟩
          have hb1 : V M w4 b1 (.cells #[.pointer q, .pointer o] T.p_regex_Node (0, 0)) := ⟨fun hm => by have := hM _ hm; omega, h4.keeps.blk0 h3.at_⟩
          have hNq := hN.mono (V.keeps0 hk4)
          have hNo' := hNo.mono (V.keeps0 (h3.keeps.trans h4.keeps))
          refine hR _ _ ⟨hk4, k - 1, by omega, ?_, ?_⟩ ?_
          · simp only []; rw [w64_eq (by omega)]; omega
          · simp only []
            rw [hd, twoOf_cons _ _ _ hne]
            rcases hkf with ⟨rfl, rfl⟩ | ⟨rfl, rfl⟩
            · exact .cat hb2 hb1 hNq hNo'
            · exact .or hb2 hb1 hNq hNo'
          · simp only []; rw [w64_eq (by omega)]; omega
        · have : k = 0 := by simp at hf2; omega
          subst this
          exact hk _ _ hk2 (by simpa using hNo)

end Go.Fk
end

section
set_option linter.unusedVariables false
namespace Go.Fk

/-! ## Positions, as they are by definition -/

def Re.cnt : Re → Nat
  | .set _ => 1 | .empty => 0 | .cat a b => a.cnt + b.cnt | .or a b => a.cnt + b.cnt | .star a => a.cnt
def Re.emp : Re → Bool
  | .set _ => false | .empty => true | .cat a b => a.emp && b.emp | .or a b => a.emp || b.emp | .star _ => true
def Re.first : Re → Int → Int → Prop
  | .set _, n, p => p = n
  | .empty, _, _ => False
  | .cat a b, n, p => a.first n p ∨ (a.emp = true ∧ b.first (n + a.cnt) p)
  | .or a b, n, p => a.first n p ∨ b.first (n + a.cnt) p
  | .star a, n, p => a.first n p
def Re.last : Re → Int → Int → Prop
  | .set _, n, p => p = n
  | .empty, _, _ => False
  | .cat a b, n, p => b.last (n + a.cnt) p ∨ (b.emp = true ∧ a.last n p)
  | .or a b, n, p => a.last n p ∨ b.last (n + a.cnt) p
  | .star a, n, p => a.last n p
def Re.fol : Re → Int → Int → Int → Prop
  | .set _, _, _, _ => False
  | .empty, _, _, _ => False
  | .cat a b, n, p, q => (a.fol n p q ∨ b.fol (n + a.cnt) p q) ∨ (a.last n p ∧ b.first (n + a.cnt) q)
  | .or a b, n, p, q => a.fol n p q ∨ b.fol (n + a.cnt) p q
  | .star a, n, p, q => a.fol n p q ∨ (a.last n p ∧ a.first n q)
def Re.poss : Re → List (Nat → Bool)
  | .set f => [f] | .empty => [] | .cat a b => a.poss ++ b.poss | .or a b => a.poss ++ b.poss | .star a => a.poss

theorem Re.poss_len (x : Re) : x.poss.length = x.cnt := by
  induction x <;> simp [Re.poss, Re.cnt, *]

theorem Re.first_in {x : Re} {n p : Int} (h : x.first n p) : n ≤ p ∧ p < n + x.cnt := by
  induction x generalizing n with
  | set f => simp [Re.first, Re.cnt] at *; omega
  | empty => exact h.elim
  | cat a b iha ihb =>
    simp only [Re.cnt]
    rcases h with h | ⟨_, h⟩
    · have := iha h; omega
    · have := ihb h; omega
  | or a b iha ihb =>
    simp only [Re.cnt]
    rcases h with h | h
    · have := iha h; omega
    · have := ihb h; omega
  | star a ih => exact ih h
theorem Re.last_in {x : Re} {n p : Int} (h : x.last n p) : n ≤ p ∧ p < n + x.cnt := by
  induction x generalizing n with
  | set f => simp [Re.last, Re.cnt] at *; omega
  | empty => exact h.elim
  | cat a b iha ihb =>
    simp only [Re.cnt]
    rcases h with h | ⟨_, h⟩
    · have := ihb h; omega
    · have := iha h; omega
  | or a b iha ihb =>
    simp only [Re.cnt]
    rcases h with h | h
    · have := iha h; omega
    · have := ihb h; omega
  | star a ih => exact ih h
theorem Re.fol_in {x : Re} {n p q : Int} (h : x.fol n p q) : (n ≤ p ∧ p < n + x.cnt) ∧ n ≤ q ∧ q < n + x.cnt := by
  induction x generalizing n with
  | set f => exact h.elim
  | empty => exact h.elim
  | cat a b iha ihb =>
    simp only [Re.cnt]
    rcases h with (h | h) | ⟨h1, h2⟩
    · have := iha h; omega
    · have := ihb h; omega
    · have := a.last_in h1; have := b.first_in h2; omega
  | or a b iha ihb =>
    simp only [Re.cnt]
    rcases h with h | h
    · have := iha h; omega
    · have := ihb h; omega
  | star a ih =>
    simp only [Re.cnt]
    rcases h with h | ⟨h1, h2⟩
    · exact ih h
    · have := a.last_in h1; have := a.first_in h2; omega
theorem Re.cnt_size (x : Re) : x.cnt ≤ x.size := by
  induction x <;> simp only [Re.cnt, Re.size] <;> omega

end Go.Fk
end

section
set_option linter.unusedVariables false
namespace Go.Fk
open Go Go.MapKept Go.Maps
open Go.ChangeMaps (setBlock)

/-! ## Maps -/

theorem Ty.enc_inj {t : Ty} {x y : t.T} (h : t.enc x = t.enc y) : x = y := by
  cases t <;> simp only [Ty.enc] at h
  case int => cases h; rfl
  case bool => cases h; rfl
  case str => cases h; rfl
  case ptr => cases h; rfl
  case addr => cases h; rfl
  case sl =>
    cases x; cases y; cases h; rfl
  case map => cases h; rfl
  case raw => exact h

/-- What is known of a map's type. -/
structure MapTy (P : Program) (T kT vT : TypeId) (kt vt : Ty) : Prop where
  ty : P.underlying T = some (.map kT vT)
  keyed : Keyed P kT

/-- The keys that may be. -/
def OkKey (P : Program) (kT : TypeId) (v : Value) : Prop := ∃ l, keyOf P kT v = some l

/-- The block is a map that relates keys to values. -/
def MapAt (P : Program) (kT : TypeId) (kt vt : Ty) (H : View) (m : Nat) (R : kt.T → vt.T → Prop) : Prop :=
  ∃ es clock, H m (.map es clock) ∧ Stamped es clock ∧ (∀ e ∈ es.toList, OkKey P kT e.key ∧ ∃ x y, e.key = kt.enc x ∧ e.val = vt.enc y ∧ R x y) ∧
    ∀ x y, R x y → ∃ e ∈ es.toList, e.key = kt.enc x ∧ e.val = vt.enc y

/-- A map that may be nil. -/
def MapO (P : Program) (kT : TypeId) (kt vt : Ty) (H : View) : Option Nat → (kt.T → vt.T → Prop) → Prop
  | none, R => ∀ x y, ¬ R x y
  | some m, R => MapAt P kT kt vt H m R

section
variable {P : Program} {T kT vT : TypeId} {kt vt : Ty} {H H' : View} {m : Nat} {R R' : kt.T → vt.T → Prop}

theorem MapAt.mono (h : MapAt P kT kt vt H m R) (hv : Vle H H') : MapAt P kT kt vt H' m R := by
  obtain ⟨es, clock, h1, h2⟩ := h
  exact ⟨es, clock, hv _ _ h1, h2⟩
theorem MapO.mono {mo : Option Nat} (h : MapO P kT kt vt H mo R) (hv : Vle H H') : MapO P kT kt vt H' mo R := by
  cases mo with
  | none => exact h
  | some m => exact MapAt.mono h hv
theorem MapAt.congr (h : MapAt P kT kt vt H m R) (hr : ∀ x y, R x y ↔ R' x y) : MapAt P kT kt vt H m R' := by
  have : R = R' := funext fun x => funext fun y => propext (hr x y)
  exact this ▸ h
theorem MapO.congr {mo : Option Nat} (h : MapO P kT kt vt H mo R) (hr : ∀ x y, R x y ↔ R' x y) : MapO P kT kt vt H mo R' := by
  have : R = R' := funext fun x => funext fun y => propext (hr x y)
  exact this ▸ h

theorem MapAt.keep {M M' N : Nat → Prop} {w w' : World} (h : MapAt P kT kt vt (V M w) m R) (hk : Keeps N w w') (hn : ¬ N m) (hM : ¬ M' m) : MapAt P kT kt vt (V M' w') m R := by
  obtain ⟨es, clock, ⟨_, h1⟩, h2⟩ := h
  exact ⟨es, clock, ⟨hM, hk.blk h1 hn⟩, h2⟩
theorem MapO.keep {M M' N : Nat → Prop} {w w' : World} {mo : Option Nat} (h : MapO P kT kt vt (V M w) mo R) (hk : Keeps N w w') (hn : ∀ m, mo = some m → ¬ N m) (hM : ∀ m, mo = some m → ¬ M' m) : MapO P kT kt vt (V M' w') mo R := by
  cases mo with
  | none => exact h
  | some m => exact MapAt.keep h hk (hn m rfl) (hM m rfl)
theorem MapAt.lt {M : Nat → Prop} {w : World} (h : MapAt P kT kt vt (V M w) m R) : m < w.heap.size := by
  obtain ⟨es, clock, ⟨_, h1⟩, h2⟩ := h
  exact lt_of_some h1
theorem MapAt.out {M : Nat → Prop} {w : World} (h : MapAt P kT kt vt (V M w) m R) : ¬ M m := by
  obtain ⟨es, clock, ⟨h0, h1⟩, h2⟩ := h
  exact h0

theorem MapAt.empty {b : Nat} (h : H b (.map #[] 0)) : MapAt P kT kt vt H b fun _ _ => False :=
  ⟨#[], 0, h, stamped_empty 0, by simp, fun _ _ h => h.elim⟩

theorem MapAt.ok (h : MapAt P kT kt vt H m R) {x : kt.T} {y : vt.T} (hr : R x y) : OkKey P kT (kt.enc x) := by
  obtain ⟨es, clock, h1, h2, h3, h4⟩ := h
  obtain ⟨e, he, h5, h6⟩ := h4 x y hr
  exact h5 ▸ (h3 e he).1

theorem key_once {es : Array MapEntry} {clock : Nat} (h : Stamped es clock) {e e' : MapEntry} (he : e ∈ es.toList) (he' : e' ∈ es.toList) (hk : e.key = e'.key) : e = e' := by
  have h2 := ((stamped_iff es clock).1 h).2.2
  obtain ⟨i, hi⟩ := List.getElem?_of_mem he
  obtain ⟨j, hj⟩ := List.getElem?_of_mem he'
  rw [List.getElem?_eq_some_iff] at hi hj
  obtain ⟨hi1, hi2⟩ := hi
  obtain ⟨hj1, hj2⟩ := hj
  rw [List.pairwise_iff_getElem] at h2
  rcases Nat.lt_trichotomy i j with h | h | h
  · exact absurd (by rw [hi2, hj2]; exact hk) (h2 i j hi1 hj1 h)
  · subst h; rw [← hi2, ← hj2]
  · exact absurd (by rw [hi2, hj2]; exact hk.symm) (h2 j i hj1 hi1 h)

theorem born_once {es : Array MapEntry} {clock : Nat} (h : Stamped es clock) {e e' : MapEntry} (he : e ∈ es.toList) (he' : e' ∈ es.toList) (hk : e.born = e'.born) : e = e' := by
  have h2 := ((stamped_iff es clock).1 h).2.1
  rw [List.Nodup, List.pairwise_map] at h2
  obtain ⟨i, hi⟩ := List.getElem?_of_mem he
  obtain ⟨j, hj⟩ := List.getElem?_of_mem he'
  rw [List.getElem?_eq_some_iff] at hi hj
  obtain ⟨hi1, hi2⟩ := hi
  obtain ⟨hj1, hj2⟩ := hj
  rw [List.pairwise_iff_getElem] at h2
  rcases Nat.lt_trichotomy i j with h | h | h
  · exact absurd (by rw [hi2, hj2]; exact hk) (h2 i j hi1 hj1 h)
  · subst h; rw [← hi2, ← hj2]
  · exact absurd (by rw [hi2, hj2]; exact hk.symm) (h2 j i hj1 hi1 h)

/-- Of one key there is one value. -/
theorem MapAt.one (h : MapAt P kT kt vt H m R) {x : kt.T} {y y' : vt.T} (h1 : R x y) (h2 : R x y') : y = y' := by
  obtain ⟨es, clock, _, hs, _, h4⟩ := h
  obtain ⟨e, he, e1, e2⟩ := h4 x y h1
  obtain ⟨e', he', e1', e2'⟩ := h4 x y' h2
  have := key_once hs he he' (e1.trans e1'.symm)
  subst this
  exact Ty.enc_inj (e2.symm.trans e2')

theorem keepsSetBlock {w : World} {b : Nat} {es : Array MapEntry} {clock : Nat} (hb : w.heap[b]? = some (.map es clock)) (o : Obj) : Upd b o w (setBlock w b o) :=
  ⟨Go.ChangeMaps.heap_setBlock_same hb o, ⟨rfl, rfl, rfl, by simp [setBlock], fun i _ hi => Go.ChangeMaps.heap_setBlock_other hb o hi⟩, by simp [setBlock]⟩

/-- 'm[k] = v'. -/
theorem App0.put (hT : MapTy P T kT vT kt vt) {w : World} {x : kt.T} {y : vt.T} {K : World → Prop} {M : Nat → Prop} (h : MapAt P kT kt vt (V M w) m R) (hk : OkKey P kT (kt.enc x))
    (hK : ∀ w', Keeps (· = m) w w' → w'.heap.size = w.heap.size → MapAt P kT kt vt (V M w') m (fun a b => (a = x ∧ b = y) ∨ (a ≠ x ∧ R a b)) → K w') :
    App0 P (Instr.mapUpdate T (.map (some m)) (kt.enc x) (vt.enc y)) w K := by
  obtain ⟨es, clock, ⟨hM, hb⟩, hs, h3, h4⟩ := h
  obtain ⟨lx, hlx⟩ := hk
  rcases hT.keyed.find w hlx es.toList (fun e he => (h3 e he).1) with ⟨h1, h2⟩ | ⟨j, e0, h1, h2, h5⟩
  · have hu := keepsSetBlock hb (.map (es.push ⟨kt.enc x, vt.enc y, clock⟩) (clock + 1))
    refine ⟨setBlock w m (.map (es.push ⟨kt.enc x, vt.enc y, clock⟩) (clock + 1)), ?_, hK _ hu.keeps hu.size ?_⟩
    · simp [Instr.mapUpdate, run_underlying hT.ty, MapKept.run_getObj_map hb, hT.keyed.check w false hlx, h1, MapKept.run_setObj_map _ hb, Result.andThen, setBlock]
    · refine ⟨_, _, ⟨hM, hu.at_⟩, stamped_push hs h2, ?_, ?_⟩
      · intro e he
        simp only [Array.toList_push, List.mem_append, List.mem_singleton] at he
        rcases he with he | rfl
        · obtain ⟨h6, x', y', h7, h8, h9⟩ := h3 e he
          exact ⟨h6, x', y', h7, h8, .inr ⟨fun e1 => h2 e he (by rw [h7, e1]), h9⟩⟩
        · exact ⟨⟨lx, hlx⟩, x, y, rfl, rfl, .inl ⟨rfl, rfl⟩⟩
      · rintro a b (⟨rfl, rfl⟩ | ⟨ha, hr⟩)
        · exact ⟨⟨kt.enc a, vt.enc b, clock⟩, by simp, rfl, rfl⟩
        · obtain ⟨e, he, h6, h7⟩ := h4 a b hr
          exact ⟨e, by simp; exact .inl (by simpa using he), h6, h7⟩
  · have hj : es[j]? = some e0 := by simpa using h2
    have hlist : (es.modify j (fun e' => { e' with key := kt.enc x, val := vt.enc y })).toList = es.toList.set j { e0 with key := kt.enc x, val := vt.enc y } := by rw [Array.toList_modify, Go.ChangeMaps.modify_eq_set _ _ _ _ h2]
    have hu := keepsSetBlock hb (.map (es.modify j (fun e' => { e' with key := kt.enc x, val := vt.enc y })) clock)
    refine ⟨setBlock w m (.map (es.modify j (fun e' => { e' with key := kt.enc x, val := vt.enc y })) clock), ?_, hK _ hu.keeps hu.size ?_⟩
    · simp [Instr.mapUpdate, run_underlying hT.ty, MapKept.run_getObj_map hb, hT.keyed.check w false hlx, h1, hj, h5, hT.keyed.stays w hlx, MapKept.run_setObj_map _ hb, Result.andThen, setBlock]
    · have he0 : e0 ∈ es.toList := List.mem_of_getElem? h2
      have hset : ∀ e, e ∈ es.toList.set j { e0 with key := kt.enc x, val := vt.enc y } ↔ e = { e0 with key := kt.enc x, val := vt.enc y } ∨ (e ∈ es.toList ∧ e.key ≠ kt.enc x) := by
        intro e
        have hjl : j < es.toList.length := (List.getElem?_eq_some_iff.1 h2).1
        constructor
        · intro he
          obtain ⟨i, hi⟩ := List.getElem?_of_mem he
          rw [List.getElem?_set] at hi
          split at hi
          · simp at hi; exact .inl hi.symm
          · rename_i hne
            refine .inr ⟨List.mem_of_getElem? hi, fun e1 => ?_⟩
            have := key_once hs (List.mem_of_getElem? hi) he0 (e1.trans h5.symm)
            subst this
            have hb2 := hs.2.1
            rw [List.Nodup, List.pairwise_map, List.pairwise_iff_getElem] at hb2
            rw [List.getElem?_eq_some_iff] at hi h2
            obtain ⟨hi1, hi2⟩ := hi
            obtain ⟨hj1, hj2⟩ := h2
            rcases Nat.lt_trichotomy i j with h | h | h
            · exact hb2 i j hi1 hj1 h (by rw [hi2, hj2])
            · exact hne h.symm
            · exact hb2 j i hj1 hi1 h (by rw [hi2, hj2])
        · rintro (rfl | ⟨he, hk⟩)
          · exact List.mem_set hjl _
          · obtain ⟨i, hi⟩ := List.getElem?_of_mem he
            refine List.mem_of_getElem? (i := i) ?_
            rw [List.getElem?_set, if_neg, hi]
            rintro rfl
            rw [h2] at hi
            cases hi
            exact hk h5
      refine ⟨_, _, ⟨hM, hu.at_⟩, stamped_modify hs _ _ (fun _ _ => rfl) (fun e' _ he' => by rw [hj] at he'; cases he'; exact h5.symm), ?_, ?_⟩
      · intro e he
        rw [hlist, hset] at he
        rcases he with rfl | ⟨he, hk⟩
        · exact ⟨⟨lx, hlx⟩, x, y, rfl, rfl, .inl ⟨rfl, rfl⟩⟩
        · obtain ⟨h6, x', y', h7, h8, h9⟩ := h3 e he
          exact ⟨h6, x', y', h7, h8, .inr ⟨fun e1 => hk (by rw [h7, e1]), h9⟩⟩
      · rw [hlist]
        rintro a b (⟨rfl, rfl⟩ | ⟨ha, hr⟩)
        · exact ⟨_, (hset _).2 (.inl rfl), rfl, rfl⟩
        · obtain ⟨e, he, h6, h7⟩ := h4 a b hr
          exact ⟨e, (hset _).2 (.inr ⟨he, fun e1 => ha (Ty.enc_inj (h6.symm.trans e1))⟩), h6, h7⟩

/-- 'm[k]'. -/
theorem App.look (hT : MapTy P T kT vT kt vt) {w : World} {M : Nat → Prop} {mo : Option Nat} {x : kt.T} {z : vt.T} {K : vt.T → World → Prop} (hz : (zeroValue vT).run P w = .ok (vt.enc z) w)
    (h : MapO P kT kt vt (V M w) mo R) (hk : OkKey P kT (kt.enc x)) (hK : ∀ y, (R x y ∨ ((∀ y', ¬ R x y') ∧ y = z)) → K y w) :
    App P (Instr.lookup T (.map mo) (kt.enc x) false) (.one vt) w K := by
  obtain ⟨lx, hlx⟩ := hk
  cases mo with
  | none =>
    refine ⟨z, w, ?_, hK z (.inr ⟨fun y' => h x y', rfl⟩)⟩
    rcases hT.keyed.find w hlx [] (by simp) with ⟨h1, _⟩ | ⟨j, e0, _, h2, _⟩
    · simp [Instr.lookup, run_underlying hT.ty, hT.keyed.check w true hlx, h1, hz, Result.andThen, RTy.enc]
    · simp at h2
  | some m =>
    obtain ⟨es, clock, ⟨_, hb⟩, hs, h3, h4⟩ := h
    rcases hT.keyed.find w hlx es.toList (fun e he => (h3 e he).1) with ⟨h1, h2⟩ | ⟨j, e0, h1, h2, h5⟩
    · refine ⟨z, w, ?_, hK z (.inr ⟨fun y' hr => ?_, rfl⟩)⟩
      · simp [Instr.lookup, run_underlying hT.ty, MapKept.run_getObj_map hb, hT.keyed.check w _ hlx, h1, hz, Result.andThen, RTy.enc]
      · obtain ⟨e, he, h6, _⟩ := h4 x y' hr
        exact h2 e he h6
    · obtain ⟨_, x', y', h7, h8, h9⟩ := h3 e0 (List.mem_of_getElem? h2)
      have hx : x' = x := Ty.enc_inj (h7.symm.trans h5)
      subst hx
      refine ⟨y', w, ?_, hK y' (.inl h9)⟩
      simp [Instr.lookup, run_underlying hT.ty, MapKept.run_getObj_map hb, hT.keyed.check w _ hlx, h1, Result.andThen, RTy.enc, h8]

/-- 'for k, v := range m', the map standing. -/
theorem range_map (hT : P.underlying T = some (.map kT vT)) {σ : Type} {w : World} {M : Nat → Prop} {mo : Option Nat} {s0 : σ} {body : σ → kt.T × vt.T → World → (σ → World → Prop) → Prop} {exit : σ → World → Prop}
    (h : MapO P kT kt vt (V M w) mo R) (I : Nat → (kt.T → Prop) → σ → World → Prop)
    (h0 : ∀ r w', r = w.heap.size → Keeps No w w' → I r (fun _ => False) s0 w')
    (hst : ∀ r d s w1 w2, r = w.heap.size → I r d s w1 → Keeps (· = r) w1 w2 → I r d s w2)
    (hbody : ∀ r d s w2 x y, r = w.heap.size → r < w2.heap.size → I r d s w2 → R x y → ¬ d x → (∀ m, mo = some m → w2.heap[m]? = w.heap[m]?) → ∀ again : σ → World → Prop,
      (∀ s' w', I r (fun q => d q ∨ q = x) s' w' → w'.heap[r]? = w2.heap[r]? → (∀ m, mo = some m → w'.heap[m]? = w2.heap[m]?) → again s' w') → body s (x, y) w2 again)
    (hexit : ∀ r d s w2, r = w.heap.size → I r d s w2 → (∀ x, d x ↔ ∃ y, R x y) → exit s w2) :
    App P (Instr.range T (.map mo)) (.one .ptr) w fun it w1 => Loop (fun (s : σ) w2 again => Join (fun (b : Bool) w3 => Br b (App P (Instr.entry (.pointer it)) (.tup [.one kt, .one vt]) w3 fun x w4 => body s x w4 again) (exit s w3)) fun j =>
      Nxt P (Instr.next (.pointer it) false 0) kt vt w2 (fun w6 => j false w6) (fun _ _ w7 => j true w7)) s0 w1 := by
  cases mo with
  | none =>
    refine ⟨some ⟨w.heap.size, 0, none⟩, w.alloc (.mapIter none 0 #[] 0), ?_, ?_⟩
    · simp [Instr.range, run_underlying hT, newObj, Result.andThen, RTy.enc, Ty.enc, Sem.run]
    · refine Al.mk (o := .mapIter none 0 #[] 0) (w := w) (k := fun b w' => b = w.heap.size → Loop _ s0 w') (fun b w' hn hb => ?_) rfl
      subst hb
      refine Loop.mk (fun s w2 => w2.heap[w.heap.size]? = some (.mapIter none 0 #[] 0) ∧ I w.heap.size (fun _ => False) s w2) (fun _ => 0) ⟨hn.at_, h0 _ _ rfl hn.keeps⟩ fun s w2 ⟨hi1, hi2⟩ again hagain => ?_
      dsimp only [Join]
      refine ⟨w2, .inl ⟨?_, ?_⟩⟩
      · simp [Instr.next, getObj, hi1, Result.andThen, Sem.run]
      · exact hexit _ _ s w2 rfl hi2 fun x => ⟨fun h => h.elim, fun ⟨y, hr⟩ => h x y hr⟩
  | some m =>
    obtain ⟨es, clock, ⟨hM, hb⟩, hs, h3, h4⟩ := h
    have hst2 := (stamped_iff es clock).1 hs
    refine ⟨some ⟨w.heap.size, 0, none⟩, w.alloc (.mapIter (some m) clock #[] clock), ?_, ?_⟩
    · simp [Instr.range, run_underlying hT, newObj, MapKept.run_getObj_map hb, Result.andThen, RTy.enc, Ty.enc, Sem.run]
    · refine Al.mk (o := .mapIter (some m) clock #[] clock) (w := w) (k := fun b w' => b = w.heap.size → Loop _ s0 w') (fun b w' hn hb0 => ?_) rfl
      subst hb0
      have hne : m ≠ w.heap.size := fun e => by have := lt_of_some hb; omega
      refine Loop.mkn (fun n s w2 => ∃ seen d, w2.heap[w.heap.size]? = some (.mapIter (some m) clock seen clock) ∧ w2.heap[m]? = some (.map es clock) ∧ (leftOf es seen).size = n ∧ I w.heap.size d s w2 ∧
        ∀ x, d x ↔ ∃ e ∈ es.toList, e.key = kt.enc x ∧ seen.contains e.born = true) (leftOf es #[]).size ⟨#[], fun _ => False, hn.at_, hn.keeps.blk0 hb, rfl, h0 _ _ rfl hn.keeps, fun x => ⟨fun h => h.elim, by rintro ⟨e, _, _, h⟩; simp at h⟩⟩ ?_
      rintro n s w2 ⟨seen, d, i1, i2, i3, i4, i5⟩ again hagain
      dsimp only [Join]
      rcases run_next_at (P := P) w2 0 w.heap.size m clock clock seen es clock i1 i2 hst2.1 (Nat.le_refl _) with ⟨hz, hrun⟩ | ⟨e, he, w1, hal, hrun⟩
      · refine ⟨w2, .inl ⟨hrun, hexit _ d s w2 rfl i4 fun x => ⟨fun hd => ?_, fun ⟨y, hr⟩ => ?_⟩⟩⟩
        · obtain ⟨e, he, hk, _⟩ := (i5 x).1 hd
          obtain ⟨_, x', y', h7, h8, h9⟩ := h3 e he
          have hx : x' = x := Ty.enc_inj (h7.symm.trans hk)
          subst hx
          exact ⟨y', h9⟩
        · obtain ⟨e, he, h6, h7⟩ := h4 x y hr
          exact (i5 x).2 ⟨e, he, h6, all_seen es seen hz e he⟩
      · obtain ⟨hem, hes⟩ := mem_left he
        obtain ⟨_, x, y, h7, h8, h9⟩ := h3 e hem
        have i1' : w1.heap[w.heap.size]? = some (.mapIter (some m) clock seen clock) := by rcases hal with rfl | rfl <;> exact i1
        have hk1 : Keeps (· = w.heap.size) w2 (setBlock w1 w.heap.size (.mapIter (some m) clock (seen.push e.born) clock)) := by
          have : Keeps No w2 w1 := by rcases hal with rfl | rfl; { exact .refl }; { exact .drew }
          refine this.no.trans ⟨rfl, rfl, rfl, by simp [setBlock], fun i _ hi => ?_⟩
          simp only [setBlock]
          rw [Array.getElem?_setIfInBounds]
          simp [Ne.symm hi]
        have hat : (setBlock w1 w.heap.size (.mapIter (some m) clock (seen.push e.born) clock)).heap[w.heap.size]? = some (.mapIter (some m) clock (seen.push e.born) clock) := by
          simp only [setBlock]
          have := lt_of_some i1'
          simp [this]
        have hmt : (setBlock w1 w.heap.size (.mapIter (some m) clock (seen.push e.born) clock)).heap[m]? = some (.map es clock) := hk1.blk i2 hne
        refine ⟨_, .inr ⟨x, y, by rw [← h7, ← h8]; exact hrun, ?_⟩⟩
        refine ⟨(x, y), setBlock w1 w.heap.size (.mapIter (some m) clock (seen.push e.born) clock), ?_, ?_⟩
        · have := run_entry_at (P := P) _ w.heap.size m clock seen es clock e hat hmt hem hst2.2.1
          rw [h7, h8] at this
          exact this
        · refine hbody _ d s _ x y rfl (lt_of_some hat) (hst _ _ _ _ _ rfl i4 hk1) h9 ?_ ?_ again fun s' w' hI hr hm => ?_
          · intro hd
            obtain ⟨e', he', hk', hc⟩ := (i5 x).1 hd
            have := key_once hs he' hem (hk'.trans h7.symm)
            subst this
            rw [hes] at hc
            cases hc
          · rintro _ ⟨⟩
            rw [hmt, hb]
          · refine hagain _ s' w' (i3 ▸ left_shrinks es seen e he) ⟨seen.push e.born, _, hr.trans hat, (hm m rfl).trans hmt, rfl, hI, fun q => ?_⟩
            rw [i5 q]
            constructor
            · rintro (⟨e', he', hk', hc⟩ | rfl)
              · exact ⟨e', he', hk', by rw [contains_push, hc]; rfl⟩
              · exact ⟨e, hem, h7, by rw [contains_push]; simp⟩
            · rintro ⟨e', he', hk', hc⟩
              rw [contains_push] at hc
              rcases Bool.or_eq_true _ _ ▸ hc with hc | hc
              · exact .inl ⟨e', he', hk', hc⟩
              · have : e'.born = e.born := by simpa using hc
                have := born_once hs he' hem this
                subst this
                exact .inr (Ty.enc_inj (hk'.symm.trans h7))

end
end Go.Fk
end
