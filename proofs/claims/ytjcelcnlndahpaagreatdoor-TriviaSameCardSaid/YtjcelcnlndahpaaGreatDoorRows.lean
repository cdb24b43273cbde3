/-
  NARROWER THAN 'FOR EVERY INPUT', by the rows' own cells (each row's printed sentence says how): TriviaFinds: laid · TriviaNone: laid · TriviaSame: laid · TriviaCovers: laid.
  DERIVED. THE GIVEN ROWS OF THIS SEAT. 4 by the template 'for every input the law returns true; each argument reads behind the call as it read before'; 0 by the template 'total and deterministic' (their statements: YtjcelcnlndahpaaGreatDoorTotals.lean).
  GIVEN WITH THE SEED: the statements are not yours to turn. If you find one false, say at which input.
  Laid BY PROGRAM, IN A SANDBOX (cutbox-rows.mjs): the forced cells as the released guide's own fill.sh prints them over the translation 0a462cc953041a8e… (all of the seat's roots in one cut). By AI agents, Wed Nov 11 2026. No macro, syntax, notation, axiom, sorry.
-/
import Derived.Test.YtjcelcnlndahpaaGreatDoorChecked
import GoSem.PinnedTables
import GoSem.Claim
import GoSem.ClaimJoined
import GoSem.ClaimMapViews
import Derived.JoinedTies
import Derived.KernelRfl
namespace Go.Proofs.YtjcelcnlndahpaaGreatDoor
/- THE CELL 'sum', in the pinned program and in every row, IS THE sha256 OF THE DUMP (.gsa) THAT YtjcelcnlndahpaaGreatDoorProg.lean LOADS. Nothing in Lean hashes anything: it is a label: what it is worth is what the hold of that sum in a sandbox is worth. -/
noncomputable def Tryz.pinned : Pinned := { name := "ytjcelcnlndahpaagreatdoor", sum := "0a462cc953041a8ebbf61de53d44c7c4cf61111a68c7a9ba8ae94422239df711", checked := Tryz.checked }
namespace Rows
def none {H : Type} : Left H := { results := [], args := [] }

/- WHAT THE LISTED PACKAGE-LEVEL VARIABLES READ AS WHEN THE CALL BEGINS. Each datum BY PROGRAM (the guide's laid-datum.mjs) off the statement by which the dump's own 'gosem.cut.vars' lays the variable. In a bare row this is a premise. The card (YtjcelcnlndahpaaGreatDoorCards.lean) ties it to the program's text. -/
def laid_unicode_utf8_acceptRanges {H : Type} : DataW H := .agg [.agg [.lit (.int .u8 128), .lit (.int .u8 191)], .agg [.lit (.int .u8 160), .lit (.int .u8 191)], .agg [.lit (.int .u8 128), .lit (.int .u8 159)], .agg [.lit (.int .u8 144), .lit (.int .u8 191)], .agg [.lit (.int .u8 128), .lit (.int .u8 143)], .agg [.lit (.int .u8 0), .lit (.int .u8 0)], .agg [.lit (.int .u8 0), .lit (.int .u8 0)], .agg [.lit (.int .u8 0), .lit (.int .u8 0)], .agg [.lit (.int .u8 0), .lit (.int .u8 0)], .agg [.lit (.int .u8 0), .lit (.int .u8 0)], .agg [.lit (.int .u8 0), .lit (.int .u8 0)], .agg [.lit (.int .u8 0), .lit (.int .u8 0)], .agg [.lit (.int .u8 0), .lit (.int .u8 0)], .agg [.lit (.int .u8 0), .lit (.int .u8 0)], .agg [.lit (.int .u8 0), .lit (.int .u8 0)], .agg [.lit (.int .u8 0), .lit (.int .u8 0)]]
/-- One of Go's own tables, pinned by name: the form's constant. -/
def laid_unicode_utf8_first : DataW Unit := Go.Pinned.utf8First

/-- 'frisketlaw28.TriviaFinds': WHATEVER THE INPUT: true; the input reads as it did. -/
def triviaFindsSpec : ChangeSpec := { name := "triviaFinds", fn := fun _ => fun
  | [d1, d2] => { results := [.lit (.bool true)], args := [d1, d2] }
  | _ => none }
def triviaFindsRow : OpenClaim := { program := "ytjcelcnlndahpaagreatdoor", sum := "0a462cc953041a8ebbf61de53d44c7c4cf61111a68c7a9ba8ae94422239df711", func := "frisket/frisketlaw28.TriviaFinds", spec := "triviaFinds", inPlace := ["internal/bytealg.IndexByteString", "maps.clone", "internal/bytealg.IndexString", "internal/bytealg.CountString"], unfollowed := true, recurses := true, named := ["unicode/utf8.first", "unicode/utf8.acceptRanges", "internal/bytealg.MaxLen"], plainKeys := false, apart := false, laid := [("unicode/utf8.acceptRanges", laid_unicode_utf8_acceptRanges), ("unicode/utf8.first", laid_unicode_utf8_first)] }
def TriviaFindsSaid : Prop := triviaFindsRow.holds Tryz.pinned (OpenSpec.ofChange triviaFindsSpec)

/-- ITS FALSE NEIGHBOUR: 'it returns false'. Refute it at one input. -/
def triviaFindsWrong : ChangeSpec := { name := "triviaFinds", fn := fun _ => fun
  | [d1, d2] => { results := [.lit (.bool false)], args := [d1, d2] }
  | _ => none }
def TriviaFindsWrongFalsely : Prop := triviaFindsRow.holds Tryz.pinned (OpenSpec.ofChange triviaFindsWrong)

/-- 'frisketlaw28.TriviaNone': WHATEVER THE INPUT: true; the input reads as it did. -/
def triviaNoneSpec : ChangeSpec := { name := "triviaNone", fn := fun _ => fun
  | [d] => { results := [.lit (.bool true)], args := [d] }
  | _ => none }
def triviaNoneRow : OpenClaim := { program := "ytjcelcnlndahpaagreatdoor", sum := "0a462cc953041a8ebbf61de53d44c7c4cf61111a68c7a9ba8ae94422239df711", func := "frisket/frisketlaw28.TriviaNone", spec := "triviaNone", inPlace := ["internal/bytealg.IndexByteString", "maps.clone", "internal/bytealg.IndexString", "internal/bytealg.CountString"], unfollowed := true, recurses := true, named := ["unicode/utf8.first", "unicode/utf8.acceptRanges", "internal/bytealg.MaxLen"], plainKeys := false, apart := false, laid := [("unicode/utf8.acceptRanges", laid_unicode_utf8_acceptRanges), ("unicode/utf8.first", laid_unicode_utf8_first)] }
def TriviaNoneSaid : Prop := triviaNoneRow.holds Tryz.pinned (OpenSpec.ofChange triviaNoneSpec)

/-- ITS FALSE NEIGHBOUR: 'it returns false'. Refute it at one input. -/
def triviaNoneWrong : ChangeSpec := { name := "triviaNone", fn := fun _ => fun
  | [d] => { results := [.lit (.bool false)], args := [d] }
  | _ => none }
def TriviaNoneWrongFalsely : Prop := triviaNoneRow.holds Tryz.pinned (OpenSpec.ofChange triviaNoneWrong)

/-- 'frisketlaw28.TriviaSame': WHATEVER THE INPUT: true; the input reads as it did. -/
def triviaSameSpec : ChangeSpec := { name := "triviaSame", fn := fun _ => fun
  | [d1, d2] => { results := [.lit (.bool true)], args := [d1, d2] }
  | _ => none }
def triviaSameRow : OpenClaim := { program := "ytjcelcnlndahpaagreatdoor", sum := "0a462cc953041a8ebbf61de53d44c7c4cf61111a68c7a9ba8ae94422239df711", func := "frisket/frisketlaw28.TriviaSame", spec := "triviaSame", inPlace := ["internal/bytealg.IndexByteString", "maps.clone", "internal/bytealg.IndexString", "internal/bytealg.CountString"], unfollowed := true, recurses := true, named := ["unicode/utf8.first", "unicode/utf8.acceptRanges", "internal/bytealg.MaxLen"], plainKeys := false, apart := false, laid := [("unicode/utf8.acceptRanges", laid_unicode_utf8_acceptRanges), ("unicode/utf8.first", laid_unicode_utf8_first)] }
def TriviaSameSaid : Prop := triviaSameRow.holds Tryz.pinned (OpenSpec.ofChange triviaSameSpec)

/-- ITS FALSE NEIGHBOUR: 'it returns false'. Refute it at one input. -/
def triviaSameWrong : ChangeSpec := { name := "triviaSame", fn := fun _ => fun
  | [d1, d2] => { results := [.lit (.bool false)], args := [d1, d2] }
  | _ => none }
def TriviaSameWrongFalsely : Prop := triviaSameRow.holds Tryz.pinned (OpenSpec.ofChange triviaSameWrong)

/-- 'frisketlaw28.TriviaCovers': WHATEVER THE INPUT: true; the input reads as it did. -/
def triviaCoversSpec : ChangeSpec := { name := "triviaCovers", fn := fun _ => fun
  | [d1, d2] => { results := [.lit (.bool true)], args := [d1, d2] }
  | _ => none }
def triviaCoversRow : OpenClaim := { program := "ytjcelcnlndahpaagreatdoor", sum := "0a462cc953041a8ebbf61de53d44c7c4cf61111a68c7a9ba8ae94422239df711", func := "frisket/frisketlaw28.TriviaCovers", spec := "triviaCovers", inPlace := ["internal/bytealg.IndexByteString", "maps.clone", "internal/bytealg.IndexString", "internal/bytealg.CountString"], unfollowed := true, recurses := true, named := ["unicode/utf8.first", "unicode/utf8.acceptRanges", "internal/bytealg.MaxLen"], plainKeys := false, apart := false, laid := [("unicode/utf8.acceptRanges", laid_unicode_utf8_acceptRanges), ("unicode/utf8.first", laid_unicode_utf8_first)] }
def TriviaCoversSaid : Prop := triviaCoversRow.holds Tryz.pinned (OpenSpec.ofChange triviaCoversSpec)

/-- ITS FALSE NEIGHBOUR: 'it returns false'. Refute it at one input. -/
def triviaCoversWrong : ChangeSpec := { name := "triviaCovers", fn := fun _ => fun
  | [d1, d2] => { results := [.lit (.bool false)], args := [d1, d2] }
  | _ => none }
def TriviaCoversWrongFalsely : Prop := triviaCoversRow.holds Tryz.pinned (OpenSpec.ofChange triviaCoversWrong)

/- THE SECOND FORM. 'bulk': how many values and letters a reading holds, each counted each time it is reached (what is shared counts as often as it is met; a slice's spare places count too). A statement '..UptoSaid' is the law's where the arguments, and the package variables that the reading takes, are together of bulk at most 1048576: NARROWER than '..Said'. Prove '..Said' where nothing that the law and all that it calls make is longer than what came in: it says more and counts as full. Else prove '..UptoSaid'. A law counts once. -/
mutual
def uptoBulk {H : Type} : DataW H → Nat
  | .lit (.string bytes) => bytes.length + 1
  | .lit _ => 1
  | .nil => 1
  | .ptr d => uptoBulk d + 1
  | .slice elems spare => uptoBulkAll elems + uptoBulkAll spare + 1
  | .agg parts => uptoBulkAll parts + 1
  | .iface _ d => uptoBulk d + 1
  | .map entries => uptoBulkEntries entries + 1
  | .held _ => 1
def uptoBulkAll {H : Type} : List (DataW H) → Nat
  | [] => 0
  | d :: r => uptoBulk d + uptoBulkAll r
def uptoBulkEntries {H : Type} : List (Lit × DataW H) → Nat
  | [] => 0
  | x :: r => uptoBulkEntry x + uptoBulkEntries r
def uptoBulkEntry {H : Type} : Lit × DataW H → Nat
  | (.string bytes, d) => bytes.length + uptoBulk d + 1
  | (_, d) => uptoBulk d + 1
 end
def uptoSmall : (H : Type) → List (DataW H) → Bool := fun _ ds => decide (uptoBulkAll ds ≤ 1048576)
def OpenSpec.upto (s : _root_.Go.ChangeSpec) : _root_.Go.OpenSpec := { _root_.Go.OpenSpec.ofChange s with cond := some uptoSmall }

/-- 'frisketlaw28.TriviaFinds', WHERE WHAT IT READS IS OF BULK AT MOST 1048576: true; the input reads as it did. -/
def triviaFindsUptoRow : OpenClaim := { program := "ytjcelcnlndahpaagreatdoor", sum := "0a462cc953041a8ebbf61de53d44c7c4cf61111a68c7a9ba8ae94422239df711", func := "frisket/frisketlaw28.TriviaFinds", spec := "triviaFinds", inPlace := ["internal/bytealg.IndexByteString", "maps.clone", "internal/bytealg.IndexString", "internal/bytealg.CountString"], unfollowed := true, recurses := true, named := ["unicode/utf8.first", "unicode/utf8.acceptRanges", "internal/bytealg.MaxLen"], plainKeys := false, apart := false, laid := [("unicode/utf8.acceptRanges", laid_unicode_utf8_acceptRanges), ("unicode/utf8.first", laid_unicode_utf8_first)], narrowed := true }
def TriviaFindsUptoSaid : Prop := triviaFindsUptoRow.holds Tryz.pinned (OpenSpec.upto triviaFindsSpec)

/-- 'frisketlaw28.TriviaNone', WHERE WHAT IT READS IS OF BULK AT MOST 1048576: true; the input reads as it did. -/
def triviaNoneUptoRow : OpenClaim := { program := "ytjcelcnlndahpaagreatdoor", sum := "0a462cc953041a8ebbf61de53d44c7c4cf61111a68c7a9ba8ae94422239df711", func := "frisket/frisketlaw28.TriviaNone", spec := "triviaNone", inPlace := ["internal/bytealg.IndexByteString", "maps.clone", "internal/bytealg.IndexString", "internal/bytealg.CountString"], unfollowed := true, recurses := true, named := ["unicode/utf8.first", "unicode/utf8.acceptRanges", "internal/bytealg.MaxLen"], plainKeys := false, apart := false, laid := [("unicode/utf8.acceptRanges", laid_unicode_utf8_acceptRanges), ("unicode/utf8.first", laid_unicode_utf8_first)], narrowed := true }
def TriviaNoneUptoSaid : Prop := triviaNoneUptoRow.holds Tryz.pinned (OpenSpec.upto triviaNoneSpec)

/-- 'frisketlaw28.TriviaSame', WHERE WHAT IT READS IS OF BULK AT MOST 1048576: true; the input reads as it did. -/
def triviaSameUptoRow : OpenClaim := { program := "ytjcelcnlndahpaagreatdoor", sum := "0a462cc953041a8ebbf61de53d44c7c4cf61111a68c7a9ba8ae94422239df711", func := "frisket/frisketlaw28.TriviaSame", spec := "triviaSame", inPlace := ["internal/bytealg.IndexByteString", "maps.clone", "internal/bytealg.IndexString", "internal/bytealg.CountString"], unfollowed := true, recurses := true, named := ["unicode/utf8.first", "unicode/utf8.acceptRanges", "internal/bytealg.MaxLen"], plainKeys := false, apart := false, laid := [("unicode/utf8.acceptRanges", laid_unicode_utf8_acceptRanges), ("unicode/utf8.first", laid_unicode_utf8_first)], narrowed := true }
def TriviaSameUptoSaid : Prop := triviaSameUptoRow.holds Tryz.pinned (OpenSpec.upto triviaSameSpec)

/-- 'frisketlaw28.TriviaCovers', WHERE WHAT IT READS IS OF BULK AT MOST 1048576: true; the input reads as it did. -/
def triviaCoversUptoRow : OpenClaim := { program := "ytjcelcnlndahpaagreatdoor", sum := "0a462cc953041a8ebbf61de53d44c7c4cf61111a68c7a9ba8ae94422239df711", func := "frisket/frisketlaw28.TriviaCovers", spec := "triviaCovers", inPlace := ["internal/bytealg.IndexByteString", "maps.clone", "internal/bytealg.IndexString", "internal/bytealg.CountString"], unfollowed := true, recurses := true, named := ["unicode/utf8.first", "unicode/utf8.acceptRanges", "internal/bytealg.MaxLen"], plainKeys := false, apart := false, laid := [("unicode/utf8.acceptRanges", laid_unicode_utf8_acceptRanges), ("unicode/utf8.first", laid_unicode_utf8_first)], narrowed := true }
def TriviaCoversUptoSaid : Prop := triviaCoversUptoRow.holds Tryz.pinned (OpenSpec.upto triviaCoversSpec)

end Rows
end Go.Proofs.YtjcelcnlndahpaaGreatDoor
