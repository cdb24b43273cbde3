/-
  No cell of these rows narrows 'for every input' (looked for: loops, veiled, ifaces, maps, wideKeys, modest, calm, conditions, laid).
  DERIVED. THE GIVEN ROWS OF THIS SEAT. 7 by the template 'for every input the law returns true; each argument reads behind the call as it read before'; 0 by the template 'total and deterministic' (their statements: YtjcelcnlndahpaaGreatTotals.lean).
  GIVEN WITH THE SEED: the statements are not yours to turn. If you find one false, say at which input.
  Laid BY PROGRAM, IN A SANDBOX (cutbox-rows.mjs): the forced cells as the released guide's own fill.sh prints them over the translation 56957860dda9d431… (all of the seat's roots in one cut). By AI agents, Wed Nov 11 2026. No macro, syntax, notation, axiom, sorry.
-/
import Derived.Test.YtjcelcnlndahpaaGreatChecked
import GoSem.Claim
import GoSem.ClaimJoined
import GoSem.ClaimMapViews
import Derived.JoinedTies
import Derived.KernelRfl
namespace Go.Proofs.YtjcelcnlndahpaaGreat
/- THE CELL 'sum', in the pinned program and in every row, IS THE sha256 OF THE DUMP (.gsa) THAT YtjcelcnlndahpaaGreatProg.lean LOADS. Nothing in Lean hashes anything: it is a label: what it is worth is what the hold of that sum in a sandbox is worth. -/
noncomputable def Tryz.pinned : Pinned := { name := "ytjcelcnlndahpaagreat", sum := "56957860dda9d43113e5a034a24a78f132829ca9361a432b84e4da62721f299e", checked := Tryz.checked }
namespace Rows
def none {H : Type} : Left H := { results := [], args := [] }

/-- 'frisketlaw09.ScanTexts': WHATEVER THE INPUT: true; the input reads as it did. -/
def scanTextsSpec : ChangeSpec := { name := "scanTexts", fn := fun _ => fun
  | [d1, d2, d3] => { results := [.lit (.bool true)], args := [d1, d2, d3] }
  | _ => none }
def scanTextsRow : OpenClaim := { program := "ytjcelcnlndahpaagreat", sum := "56957860dda9d43113e5a034a24a78f132829ca9361a432b84e4da62721f299e", func := "frisket/frisketlaw09.ScanTexts", spec := "scanTexts", inPlace := ["internal/bytealg.IndexByteString", "maps.clone"], unfollowed := true, recurses := true, plainKeys := false, apart := false }
def ScanTextsSaid : Prop := scanTextsRow.holds Tryz.pinned (OpenSpec.ofChange scanTextsSpec)

/-- ITS FALSE NEIGHBOUR: 'it returns false'. Refute it at one input. -/
def scanTextsWrong : ChangeSpec := { name := "scanTexts", fn := fun _ => fun
  | [d1, d2, d3] => { results := [.lit (.bool false)], args := [d1, d2, d3] }
  | _ => none }
def ScanTextsWrongFalsely : Prop := scanTextsRow.holds Tryz.pinned (OpenSpec.ofChange scanTextsWrong)

/-- 'frisketlaw09.ScanLooks': WHATEVER THE INPUT: true; the input reads as it did. -/
def scanLooksSpec : ChangeSpec := { name := "scanLooks", fn := fun _ => fun
  | [d1, d2, d3] => { results := [.lit (.bool true)], args := [d1, d2, d3] }
  | _ => none }
def scanLooksRow : OpenClaim := { program := "ytjcelcnlndahpaagreat", sum := "56957860dda9d43113e5a034a24a78f132829ca9361a432b84e4da62721f299e", func := "frisket/frisketlaw09.ScanLooks", spec := "scanLooks", inPlace := ["internal/bytealg.IndexByteString", "maps.clone"], unfollowed := true, recurses := true, plainKeys := false, apart := false }
def ScanLooksSaid : Prop := scanLooksRow.holds Tryz.pinned (OpenSpec.ofChange scanLooksSpec)

/-- ITS FALSE NEIGHBOUR: 'it returns false'. Refute it at one input. -/
def scanLooksWrong : ChangeSpec := { name := "scanLooks", fn := fun _ => fun
  | [d1, d2, d3] => { results := [.lit (.bool false)], args := [d1, d2, d3] }
  | _ => none }
def ScanLooksWrongFalsely : Prop := scanLooksRow.holds Tryz.pinned (OpenSpec.ofChange scanLooksWrong)

/-- 'frisketlaw09.ScanNone': WHATEVER THE INPUT: true; the input reads as it did. -/
def scanNoneSpec : ChangeSpec := { name := "scanNone", fn := fun _ => fun
  | [d1, d2] => { results := [.lit (.bool true)], args := [d1, d2] }
  | _ => none }
def scanNoneRow : OpenClaim := { program := "ytjcelcnlndahpaagreat", sum := "56957860dda9d43113e5a034a24a78f132829ca9361a432b84e4da62721f299e", func := "frisket/frisketlaw09.ScanNone", spec := "scanNone", inPlace := ["internal/bytealg.IndexByteString", "maps.clone"], unfollowed := true, recurses := true, plainKeys := false, apart := false }
def ScanNoneSaid : Prop := scanNoneRow.holds Tryz.pinned (OpenSpec.ofChange scanNoneSpec)

/-- ITS FALSE NEIGHBOUR: 'it returns false'. Refute it at one input. -/
def scanNoneWrong : ChangeSpec := { name := "scanNone", fn := fun _ => fun
  | [d1, d2] => { results := [.lit (.bool false)], args := [d1, d2] }
  | _ => none }
def ScanNoneWrongFalsely : Prop := scanNoneRow.holds Tryz.pinned (OpenSpec.ofChange scanNoneWrong)

/-- 'frisketlaw10.RelexSame': WHATEVER THE INPUT: true; the input reads as it did. -/
def relexSameSpec : ChangeSpec := { name := "relexSame", fn := fun _ => fun
  | [d1, d2, d3, d4] => { results := [.lit (.bool true)], args := [d1, d2, d3, d4] }
  | _ => none }
def relexSameRow : OpenClaim := { program := "ytjcelcnlndahpaagreat", sum := "56957860dda9d43113e5a034a24a78f132829ca9361a432b84e4da62721f299e", func := "frisket/frisketlaw10.RelexSame", spec := "relexSame", inPlace := ["internal/bytealg.IndexByteString", "maps.clone"], unfollowed := true, recurses := true, plainKeys := false, apart := false }
def RelexSameSaid : Prop := relexSameRow.holds Tryz.pinned (OpenSpec.ofChange relexSameSpec)

/-- ITS FALSE NEIGHBOUR: 'it returns false'. Refute it at one input. -/
def relexSameWrong : ChangeSpec := { name := "relexSame", fn := fun _ => fun
  | [d1, d2, d3, d4] => { results := [.lit (.bool false)], args := [d1, d2, d3, d4] }
  | _ => none }
def RelexSameWrongFalsely : Prop := relexSameRow.holds Tryz.pinned (OpenSpec.ofChange relexSameWrong)

/-- 'frisketlaw10.RelexEdits': WHATEVER THE INPUT: true; the input reads as it did. -/
def relexEditsSpec : ChangeSpec := { name := "relexEdits", fn := fun _ => fun
  | [d1, d2, d3] => { results := [.lit (.bool true)], args := [d1, d2, d3] }
  | _ => none }
def relexEditsRow : OpenClaim := { program := "ytjcelcnlndahpaagreat", sum := "56957860dda9d43113e5a034a24a78f132829ca9361a432b84e4da62721f299e", func := "frisket/frisketlaw10.RelexEdits", spec := "relexEdits", inPlace := ["internal/bytealg.IndexByteString", "maps.clone"], unfollowed := true, recurses := true, plainKeys := false, apart := false }
def RelexEditsSaid : Prop := relexEditsRow.holds Tryz.pinned (OpenSpec.ofChange relexEditsSpec)

/-- ITS FALSE NEIGHBOUR: 'it returns false'. Refute it at one input. -/
def relexEditsWrong : ChangeSpec := { name := "relexEdits", fn := fun _ => fun
  | [d1, d2, d3] => { results := [.lit (.bool false)], args := [d1, d2, d3] }
  | _ => none }
def RelexEditsWrongFalsely : Prop := relexEditsRow.holds Tryz.pinned (OpenSpec.ofChange relexEditsWrong)

/-- 'frisketlaw10.RelexAt': WHATEVER THE INPUT: true; the input reads as it did. -/
def relexAtSpec : ChangeSpec := { name := "relexAt", fn := fun _ => fun
  | [d1, d2, d3] => { results := [.lit (.bool true)], args := [d1, d2, d3] }
  | _ => none }
def relexAtRow : OpenClaim := { program := "ytjcelcnlndahpaagreat", sum := "56957860dda9d43113e5a034a24a78f132829ca9361a432b84e4da62721f299e", func := "frisket/frisketlaw10.RelexAt", spec := "relexAt", inPlace := ["internal/bytealg.IndexByteString", "maps.clone"], unfollowed := true, recurses := true, plainKeys := false, apart := false }
def RelexAtSaid : Prop := relexAtRow.holds Tryz.pinned (OpenSpec.ofChange relexAtSpec)

/-- ITS FALSE NEIGHBOUR: 'it returns false'. Refute it at one input. -/
def relexAtWrong : ChangeSpec := { name := "relexAt", fn := fun _ => fun
  | [d1, d2, d3] => { results := [.lit (.bool false)], args := [d1, d2, d3] }
  | _ => none }
def RelexAtWrongFalsely : Prop := relexAtRow.holds Tryz.pinned (OpenSpec.ofChange relexAtWrong)

/-- 'frisketlaw10.RelexNone': WHATEVER THE INPUT: true; the input reads as it did. -/
def relexNoneSpec : ChangeSpec := { name := "relexNone", fn := fun _ => fun
  | [d1, d2, d3] => { results := [.lit (.bool true)], args := [d1, d2, d3] }
  | _ => none }
def relexNoneRow : OpenClaim := { program := "ytjcelcnlndahpaagreat", sum := "56957860dda9d43113e5a034a24a78f132829ca9361a432b84e4da62721f299e", func := "frisket/frisketlaw10.RelexNone", spec := "relexNone", inPlace := ["internal/bytealg.IndexByteString", "maps.clone"], unfollowed := true, recurses := true, plainKeys := false, apart := false }
def RelexNoneSaid : Prop := relexNoneRow.holds Tryz.pinned (OpenSpec.ofChange relexNoneSpec)

/-- ITS FALSE NEIGHBOUR: 'it returns false'. Refute it at one input. -/
def relexNoneWrong : ChangeSpec := { name := "relexNone", fn := fun _ => fun
  | [d1, d2, d3] => { results := [.lit (.bool false)], args := [d1, d2, d3] }
  | _ => none }
def RelexNoneWrongFalsely : Prop := relexNoneRow.holds Tryz.pinned (OpenSpec.ofChange relexNoneWrong)

/- THE SECOND FORM. 'bulk': how many values and letters a reading holds, each counted each time it is reached (what is shared counts as often as it is met; a slice's spare places count too). A statement '..UptoSaid' is the law's where the arguments, and the package variables that the reading takes, are together of bulk at most 1048576: NARROWER than '..Said'. Prove '..Said' where nothing that the law and all that it calls make is longer than what came in: it says more and counts as full. Else prove '..UptoSaid'. A law counts once. -/
mutual
def uptoBulk {H : Type} : DataW H → Nat
  | .lit (.string bytes) => bytes.length + 1
  | .lit _ => 1
  | .nil => 1
  | .ptr d => uptoBulk d + 1
  | .slice elems spare => uptoBulkAll elems + uptoBulkAll spare + 1
  | .agg parts => uptoBulkAll parts + 1
  | .iface _ d => uptoBulk d + 1
  | .map entries => uptoBulkEntries entries + 1
  | .held _ => 1
def uptoBulkAll {H : Type} : List (DataW H) → Nat
  | [] => 0
  | d :: r => uptoBulk d + uptoBulkAll r
def uptoBulkEntries {H : Type} : List (Lit × DataW H) → Nat
  | [] => 0
  | x :: r => uptoBulkEntry x + uptoBulkEntries r
def uptoBulkEntry {H : Type} : Lit × DataW H → Nat
  | (.string bytes, d) => bytes.length + uptoBulk d + 1
  | (_, d) => uptoBulk d + 1
 end
def uptoSmall : (H : Type) → List (DataW H) → Bool := fun _ ds => decide (uptoBulkAll ds ≤ 1048576)
def OpenSpec.upto (s : _root_.Go.ChangeSpec) : _root_.Go.OpenSpec := { _root_.Go.OpenSpec.ofChange s with cond := some uptoSmall }

/-- 'frisketlaw09.ScanTexts', WHERE WHAT IT READS IS OF BULK AT MOST 1048576: true; the input reads as it did. -/
def scanTextsUptoRow : OpenClaim := { program := "ytjcelcnlndahpaagreat", sum := "56957860dda9d43113e5a034a24a78f132829ca9361a432b84e4da62721f299e", func := "frisket/frisketlaw09.ScanTexts", spec := "scanTexts", inPlace := ["internal/bytealg.IndexByteString", "maps.clone"], unfollowed := true, recurses := true, plainKeys := false, apart := false, narrowed := true }
def ScanTextsUptoSaid : Prop := scanTextsUptoRow.holds Tryz.pinned (OpenSpec.upto scanTextsSpec)

/-- 'frisketlaw09.ScanLooks', WHERE WHAT IT READS IS OF BULK AT MOST 1048576: true; the input reads as it did. -/
def scanLooksUptoRow : OpenClaim := { program := "ytjcelcnlndahpaagreat", sum := "56957860dda9d43113e5a034a24a78f132829ca9361a432b84e4da62721f299e", func := "frisket/frisketlaw09.ScanLooks", spec := "scanLooks", inPlace := ["internal/bytealg.IndexByteString", "maps.clone"], unfollowed := true, recurses := true, plainKeys := false, apart := false, narrowed := true }
def ScanLooksUptoSaid : Prop := scanLooksUptoRow.holds Tryz.pinned (OpenSpec.upto scanLooksSpec)

/-- 'frisketlaw09.ScanNone', WHERE WHAT IT READS IS OF BULK AT MOST 1048576: true; the input reads as it did. -/
def scanNoneUptoRow : OpenClaim := { program := "ytjcelcnlndahpaagreat", sum := "56957860dda9d43113e5a034a24a78f132829ca9361a432b84e4da62721f299e", func := "frisket/frisketlaw09.ScanNone", spec := "scanNone", inPlace := ["internal/bytealg.IndexByteString", "maps.clone"], unfollowed := true, recurses := true, plainKeys := false, apart := false, narrowed := true }
def ScanNoneUptoSaid : Prop := scanNoneUptoRow.holds Tryz.pinned (OpenSpec.upto scanNoneSpec)

/-- 'frisketlaw10.RelexSame', WHERE WHAT IT READS IS OF BULK AT MOST 1048576: true; the input reads as it did. -/
def relexSameUptoRow : OpenClaim := { program := "ytjcelcnlndahpaagreat", sum := "56957860dda9d43113e5a034a24a78f132829ca9361a432b84e4da62721f299e", func := "frisket/frisketlaw10.RelexSame", spec := "relexSame", inPlace := ["internal/bytealg.IndexByteString", "maps.clone"], unfollowed := true, recurses := true, plainKeys := false, apart := false, narrowed := true }
def RelexSameUptoSaid : Prop := relexSameUptoRow.holds Tryz.pinned (OpenSpec.upto relexSameSpec)

/-- 'frisketlaw10.RelexEdits', WHERE WHAT IT READS IS OF BULK AT MOST 1048576: true; the input reads as it did. -/
def relexEditsUptoRow : OpenClaim := { program := "ytjcelcnlndahpaagreat", sum := "56957860dda9d43113e5a034a24a78f132829ca9361a432b84e4da62721f299e", func := "frisket/frisketlaw10.RelexEdits", spec := "relexEdits", inPlace := ["internal/bytealg.IndexByteString", "maps.clone"], unfollowed := true, recurses := true, plainKeys := false, apart := false, narrowed := true }
def RelexEditsUptoSaid : Prop := relexEditsUptoRow.holds Tryz.pinned (OpenSpec.upto relexEditsSpec)

/-- 'frisketlaw10.RelexAt', WHERE WHAT IT READS IS OF BULK AT MOST 1048576: true; the input reads as it did. -/
def relexAtUptoRow : OpenClaim := { program := "ytjcelcnlndahpaagreat", sum := "56957860dda9d43113e5a034a24a78f132829ca9361a432b84e4da62721f299e", func := "frisket/frisketlaw10.RelexAt", spec := "relexAt", inPlace := ["internal/bytealg.IndexByteString", "maps.clone"], unfollowed := true, recurses := true, plainKeys := false, apart := false, narrowed := true }
def RelexAtUptoSaid : Prop := relexAtUptoRow.holds Tryz.pinned (OpenSpec.upto relexAtSpec)

/-- 'frisketlaw10.RelexNone', WHERE WHAT IT READS IS OF BULK AT MOST 1048576: true; the input reads as it did. -/
def relexNoneUptoRow : OpenClaim := { program := "ytjcelcnlndahpaagreat", sum := "56957860dda9d43113e5a034a24a78f132829ca9361a432b84e4da62721f299e", func := "frisket/frisketlaw10.RelexNone", spec := "relexNone", inPlace := ["internal/bytealg.IndexByteString", "maps.clone"], unfollowed := true, recurses := true, plainKeys := false, apart := false, narrowed := true }
def RelexNoneUptoSaid : Prop := relexNoneUptoRow.holds Tryz.pinned (OpenSpec.upto relexNoneSpec)

end Rows
end Go.Proofs.YtjcelcnlndahpaaGreat
