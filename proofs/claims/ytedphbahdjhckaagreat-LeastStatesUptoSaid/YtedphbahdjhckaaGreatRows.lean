/-
  No cell of these rows narrows 'for every input' (looked for: loops, veiled, ifaces, maps, wideKeys, modest, calm, conditions, laid).
  DERIVED. THE GIVEN ROWS OF THIS SEAT. 8 by the template 'for every input the law returns true; each argument reads behind the call as it read before'; 0 by the template 'total and deterministic' (their statements: YtedphbahdjhckaaGreatTotals.lean).
  GIVEN WITH THE SEED: the statements are not yours to turn. If you find one false, say at which input.
  Laid BY PROGRAM, IN A SANDBOX (cutbox-rows.mjs): the forced cells as the released guide's own fill.sh prints them over the translation 4e626f8baeaa0ba4… (all of the seat's roots in one cut). By AI agents, Wed Nov 11 2026. No macro, syntax, notation, axiom, sorry.
-/
import Derived.Test.YtedphbahdjhckaaGreatChecked
import GoSem.Claim
import GoSem.ClaimJoined
import GoSem.ClaimMapViews
import Derived.JoinedTies
import Derived.KernelRfl
namespace Go.Proofs.YtedphbahdjhckaaGreat
/- THE CELL 'sum', in the pinned program and in every row, IS THE sha256 OF THE DUMP (.gsa) THAT YtedphbahdjhckaaGreatProg.lean LOADS. Nothing in Lean hashes anything: it is a label: what it is worth is what the hold of that sum in a sandbox is worth. -/
noncomputable def Tryz.pinned : Pinned := { name := "ytedphbahdjhckaagreat", sum := "4e626f8baeaa0ba4b4faabcafbabb5d35893dac22cfc0bc113de2eb78bf017aa", checked := Tryz.checked }
namespace Rows
def none {H : Type} : Left H := { results := [], args := [] }

/-- 'frisketlaw07.DfaRuns': WHATEVER THE INPUT: true; the input reads as it did. -/
def dfaRunsSpec : ChangeSpec := { name := "dfaRuns", fn := fun _ => fun
  | [d1, d2] => { results := [.lit (.bool true)], args := [d1, d2] }
  | _ => none }
def dfaRunsRow : OpenClaim := { program := "ytedphbahdjhckaagreat", sum := "4e626f8baeaa0ba4b4faabcafbabb5d35893dac22cfc0bc113de2eb78bf017aa", func := "frisket/frisketlaw07.DfaRuns", spec := "dfaRuns", inPlace := ["internal/bytealg.IndexByteString", "maps.clone"], unfollowed := true, recurses := true, plainKeys := false, apart := false }
def DfaRunsSaid : Prop := dfaRunsRow.holds Tryz.pinned (OpenSpec.ofChange dfaRunsSpec)

/-- ITS FALSE NEIGHBOUR: 'it returns false'. Refute it at one input. -/
def dfaRunsWrong : ChangeSpec := { name := "dfaRuns", fn := fun _ => fun
  | [d1, d2] => { results := [.lit (.bool false)], args := [d1, d2] }
  | _ => none }
def DfaRunsWrongFalsely : Prop := dfaRunsRow.holds Tryz.pinned (OpenSpec.ofChange dfaRunsWrong)

/-- 'frisketlaw07.DfaClasses': WHATEVER THE INPUT: true; the input reads as it did. -/
def dfaClassesSpec : ChangeSpec := { name := "dfaClasses", fn := fun _ => fun
  | [d1, d2, d3] => { results := [.lit (.bool true)], args := [d1, d2, d3] }
  | _ => none }
def dfaClassesRow : OpenClaim := { program := "ytedphbahdjhckaagreat", sum := "4e626f8baeaa0ba4b4faabcafbabb5d35893dac22cfc0bc113de2eb78bf017aa", func := "frisket/frisketlaw07.DfaClasses", spec := "dfaClasses", inPlace := ["internal/bytealg.IndexByteString", "maps.clone"], unfollowed := true, recurses := true, plainKeys := false, apart := false }
def DfaClassesSaid : Prop := dfaClassesRow.holds Tryz.pinned (OpenSpec.ofChange dfaClassesSpec)

/-- ITS FALSE NEIGHBOUR: 'it returns false'. Refute it at one input. -/
def dfaClassesWrong : ChangeSpec := { name := "dfaClasses", fn := fun _ => fun
  | [d1, d2, d3] => { results := [.lit (.bool false)], args := [d1, d2, d3] }
  | _ => none }
def DfaClassesWrongFalsely : Prop := dfaClassesRow.holds Tryz.pinned (OpenSpec.ofChange dfaClassesWrong)

/-- 'frisketlaw07.DfaStates': WHATEVER THE INPUT: true; the input reads as it did. -/
def dfaStatesSpec : ChangeSpec := { name := "dfaStates", fn := fun _ => fun
  | [d1, d2] => { results := [.lit (.bool true)], args := [d1, d2] }
  | _ => none }
def dfaStatesRow : OpenClaim := { program := "ytedphbahdjhckaagreat", sum := "4e626f8baeaa0ba4b4faabcafbabb5d35893dac22cfc0bc113de2eb78bf017aa", func := "frisket/frisketlaw07.DfaStates", spec := "dfaStates", inPlace := ["internal/bytealg.IndexByteString", "maps.clone"], unfollowed := true, recurses := true, plainKeys := false, apart := false }
def DfaStatesSaid : Prop := dfaStatesRow.holds Tryz.pinned (OpenSpec.ofChange dfaStatesSpec)

/-- ITS FALSE NEIGHBOUR: 'it returns false'. Refute it at one input. -/
def dfaStatesWrong : ChangeSpec := { name := "dfaStates", fn := fun _ => fun
  | [d1, d2] => { results := [.lit (.bool false)], args := [d1, d2] }
  | _ => none }
def DfaStatesWrongFalsely : Prop := dfaStatesRow.holds Tryz.pinned (OpenSpec.ofChange dfaStatesWrong)

/-- 'frisketlaw07.DfaNone': WHATEVER THE INPUT: true; the input reads as it did. -/
def dfaNoneSpec : ChangeSpec := { name := "dfaNone", fn := fun _ => fun
  | [d1, d2, d3] => { results := [.lit (.bool true)], args := [d1, d2, d3] }
  | _ => none }
def dfaNoneRow : OpenClaim := { program := "ytedphbahdjhckaagreat", sum := "4e626f8baeaa0ba4b4faabcafbabb5d35893dac22cfc0bc113de2eb78bf017aa", func := "frisket/frisketlaw07.DfaNone", spec := "dfaNone", inPlace := ["internal/bytealg.IndexByteString", "maps.clone"], unfollowed := true, recurses := true, plainKeys := false, apart := false }
def DfaNoneSaid : Prop := dfaNoneRow.holds Tryz.pinned (OpenSpec.ofChange dfaNoneSpec)

/-- ITS FALSE NEIGHBOUR: 'it returns false'. Refute it at one input. -/
def dfaNoneWrong : ChangeSpec := { name := "dfaNone", fn := fun _ => fun
  | [d1, d2, d3] => { results := [.lit (.bool false)], args := [d1, d2, d3] }
  | _ => none }
def DfaNoneWrongFalsely : Prop := dfaNoneRow.holds Tryz.pinned (OpenSpec.ofChange dfaNoneWrong)

/-- 'frisketlaw08.LeastStates': WHATEVER THE INPUT: true; the input reads as it did. -/
def leastStatesSpec : ChangeSpec := { name := "leastStates", fn := fun _ => fun
  | [d] => { results := [.lit (.bool true)], args := [d] }
  | _ => none }
def leastStatesRow : OpenClaim := { program := "ytedphbahdjhckaagreat", sum := "4e626f8baeaa0ba4b4faabcafbabb5d35893dac22cfc0bc113de2eb78bf017aa", func := "frisket/frisketlaw08.LeastStates", spec := "leastStates", inPlace := ["internal/bytealg.IndexByteString", "maps.clone"], unfollowed := true, recurses := true, plainKeys := false, apart := false }
def LeastStatesSaid : Prop := leastStatesRow.holds Tryz.pinned (OpenSpec.ofChange leastStatesSpec)

/-- ITS FALSE NEIGHBOUR: 'it returns false'. Refute it at one input. -/
def leastStatesWrong : ChangeSpec := { name := "leastStates", fn := fun _ => fun
  | [d] => { results := [.lit (.bool false)], args := [d] }
  | _ => none }
def LeastStatesWrongFalsely : Prop := leastStatesRow.holds Tryz.pinned (OpenSpec.ofChange leastStatesWrong)

/-- 'frisketlaw08.LeastRuns': WHATEVER THE INPUT: true; the input reads as it did. -/
def leastRunsSpec : ChangeSpec := { name := "leastRuns", fn := fun _ => fun
  | [d1, d2] => { results := [.lit (.bool true)], args := [d1, d2] }
  | _ => none }
def leastRunsRow : OpenClaim := { program := "ytedphbahdjhckaagreat", sum := "4e626f8baeaa0ba4b4faabcafbabb5d35893dac22cfc0bc113de2eb78bf017aa", func := "frisket/frisketlaw08.LeastRuns", spec := "leastRuns", inPlace := ["internal/bytealg.IndexByteString", "maps.clone"], unfollowed := true, recurses := true, plainKeys := false, apart := false }
def LeastRunsSaid : Prop := leastRunsRow.holds Tryz.pinned (OpenSpec.ofChange leastRunsSpec)

/-- ITS FALSE NEIGHBOUR: 'it returns false'. Refute it at one input. -/
def leastRunsWrong : ChangeSpec := { name := "leastRuns", fn := fun _ => fun
  | [d1, d2] => { results := [.lit (.bool false)], args := [d1, d2] }
  | _ => none }
def LeastRunsWrongFalsely : Prop := leastRunsRow.holds Tryz.pinned (OpenSpec.ofChange leastRunsWrong)

/-- 'frisketlaw08.LeastLongest': WHATEVER THE INPUT: true; the input reads as it did. -/
def leastLongestSpec : ChangeSpec := { name := "leastLongest", fn := fun _ => fun
  | [d1, d2] => { results := [.lit (.bool true)], args := [d1, d2] }
  | _ => none }
def leastLongestRow : OpenClaim := { program := "ytedphbahdjhckaagreat", sum := "4e626f8baeaa0ba4b4faabcafbabb5d35893dac22cfc0bc113de2eb78bf017aa", func := "frisket/frisketlaw08.LeastLongest", spec := "leastLongest", inPlace := ["internal/bytealg.IndexByteString", "maps.clone"], unfollowed := true, recurses := true, plainKeys := false, apart := false }
def LeastLongestSaid : Prop := leastLongestRow.holds Tryz.pinned (OpenSpec.ofChange leastLongestSpec)

/-- ITS FALSE NEIGHBOUR: 'it returns false'. Refute it at one input. -/
def leastLongestWrong : ChangeSpec := { name := "leastLongest", fn := fun _ => fun
  | [d1, d2] => { results := [.lit (.bool false)], args := [d1, d2] }
  | _ => none }
def LeastLongestWrongFalsely : Prop := leastLongestRow.holds Tryz.pinned (OpenSpec.ofChange leastLongestWrong)

/-- 'frisketlaw08.LeastNone': WHATEVER THE INPUT: true; the input reads as it did. -/
def leastNoneSpec : ChangeSpec := { name := "leastNone", fn := fun _ => fun
  | [d1, d2, d3] => { results := [.lit (.bool true)], args := [d1, d2, d3] }
  | _ => none }
def leastNoneRow : OpenClaim := { program := "ytedphbahdjhckaagreat", sum := "4e626f8baeaa0ba4b4faabcafbabb5d35893dac22cfc0bc113de2eb78bf017aa", func := "frisket/frisketlaw08.LeastNone", spec := "leastNone", inPlace := ["internal/bytealg.IndexByteString", "maps.clone"], unfollowed := true, recurses := true, plainKeys := false, apart := false }
def LeastNoneSaid : Prop := leastNoneRow.holds Tryz.pinned (OpenSpec.ofChange leastNoneSpec)

/-- ITS FALSE NEIGHBOUR: 'it returns false'. Refute it at one input. -/
def leastNoneWrong : ChangeSpec := { name := "leastNone", fn := fun _ => fun
  | [d1, d2, d3] => { results := [.lit (.bool false)], args := [d1, d2, d3] }
  | _ => none }
def LeastNoneWrongFalsely : Prop := leastNoneRow.holds Tryz.pinned (OpenSpec.ofChange leastNoneWrong)

/- THE SECOND FORM. 'bulk': how many values and letters a reading holds, each counted each time it is reached (what is shared counts as often as it is met; a slice's spare places count too). A statement '..UptoSaid' is the law's where the arguments, and the package variables that the reading takes, are together of bulk at most 1048576: NARROWER than '..Said'. Prove '..Said' where nothing that the law and all that it calls make is longer than what came in: it says more and counts as full. Else prove '..UptoSaid'. A law counts once. -/
mutual
def uptoBulk {H : Type} : DataW H → Nat
  | .lit (.string bytes) => bytes.length + 1
  | .lit _ => 1
  | .nil => 1
  | .ptr d => uptoBulk d + 1
  | .slice elems spare => uptoBulkAll elems + uptoBulkAll spare + 1
  | .agg parts => uptoBulkAll parts + 1
  | .iface _ d => uptoBulk d + 1
  | .map entries => uptoBulkEntries entries + 1
  | .held _ => 1
def uptoBulkAll {H : Type} : List (DataW H) → Nat
  | [] => 0
  | d :: r => uptoBulk d + uptoBulkAll r
def uptoBulkEntries {H : Type} : List (Lit × DataW H) → Nat
  | [] => 0
  | x :: r => uptoBulkEntry x + uptoBulkEntries r
def uptoBulkEntry {H : Type} : Lit × DataW H → Nat
  | (.string bytes, d) => bytes.length + uptoBulk d + 1
  | (_, d) => uptoBulk d + 1
 end
def uptoSmall : (H : Type) → List (DataW H) → Bool := fun _ ds => decide (uptoBulkAll ds ≤ 1048576)
def OpenSpec.upto (s : _root_.Go.ChangeSpec) : _root_.Go.OpenSpec := { _root_.Go.OpenSpec.ofChange s with cond := some uptoSmall }

/-- 'frisketlaw07.DfaRuns', WHERE WHAT IT READS IS OF BULK AT MOST 1048576: true; the input reads as it did. -/
def dfaRunsUptoRow : OpenClaim := { program := "ytedphbahdjhckaagreat", sum := "4e626f8baeaa0ba4b4faabcafbabb5d35893dac22cfc0bc113de2eb78bf017aa", func := "frisket/frisketlaw07.DfaRuns", spec := "dfaRuns", inPlace := ["internal/bytealg.IndexByteString", "maps.clone"], unfollowed := true, recurses := true, plainKeys := false, apart := false, narrowed := true }
def DfaRunsUptoSaid : Prop := dfaRunsUptoRow.holds Tryz.pinned (OpenSpec.upto dfaRunsSpec)

/-- 'frisketlaw07.DfaClasses', WHERE WHAT IT READS IS OF BULK AT MOST 1048576: true; the input reads as it did. -/
def dfaClassesUptoRow : OpenClaim := { program := "ytedphbahdjhckaagreat", sum := "4e626f8baeaa0ba4b4faabcafbabb5d35893dac22cfc0bc113de2eb78bf017aa", func := "frisket/frisketlaw07.DfaClasses", spec := "dfaClasses", inPlace := ["internal/bytealg.IndexByteString", "maps.clone"], unfollowed := true, recurses := true, plainKeys := false, apart := false, narrowed := true }
def DfaClassesUptoSaid : Prop := dfaClassesUptoRow.holds Tryz.pinned (OpenSpec.upto dfaClassesSpec)

/-- 'frisketlaw07.DfaStates', WHERE WHAT IT READS IS OF BULK AT MOST 1048576: true; the input reads as it did. -/
def dfaStatesUptoRow : OpenClaim := { program := "ytedphbahdjhckaagreat", sum := "4e626f8baeaa0ba4b4faabcafbabb5d35893dac22cfc0bc113de2eb78bf017aa", func := "frisket/frisketlaw07.DfaStates", spec := "dfaStates", inPlace := ["internal/bytealg.IndexByteString", "maps.clone"], unfollowed := true, recurses := true, plainKeys := false, apart := false, narrowed := true }
def DfaStatesUptoSaid : Prop := dfaStatesUptoRow.holds Tryz.pinned (OpenSpec.upto dfaStatesSpec)

/-- 'frisketlaw07.DfaNone', WHERE WHAT IT READS IS OF BULK AT MOST 1048576: true; the input reads as it did. -/
def dfaNoneUptoRow : OpenClaim := { program := "ytedphbahdjhckaagreat", sum := "4e626f8baeaa0ba4b4faabcafbabb5d35893dac22cfc0bc113de2eb78bf017aa", func := "frisket/frisketlaw07.DfaNone", spec := "dfaNone", inPlace := ["internal/bytealg.IndexByteString", "maps.clone"], unfollowed := true, recurses := true, plainKeys := false, apart := false, narrowed := true }
def DfaNoneUptoSaid : Prop := dfaNoneUptoRow.holds Tryz.pinned (OpenSpec.upto dfaNoneSpec)

/-- 'frisketlaw08.LeastStates', WHERE WHAT IT READS IS OF BULK AT MOST 1048576: true; the input reads as it did. -/
def leastStatesUptoRow : OpenClaim := { program := "ytedphbahdjhckaagreat", sum := "4e626f8baeaa0ba4b4faabcafbabb5d35893dac22cfc0bc113de2eb78bf017aa", func := "frisket/frisketlaw08.LeastStates", spec := "leastStates", inPlace := ["internal/bytealg.IndexByteString", "maps.clone"], unfollowed := true, recurses := true, plainKeys := false, apart := false, narrowed := true }
def LeastStatesUptoSaid : Prop := leastStatesUptoRow.holds Tryz.pinned (OpenSpec.upto leastStatesSpec)

/-- 'frisketlaw08.LeastRuns', WHERE WHAT IT READS IS OF BULK AT MOST 1048576: true; the input reads as it did. -/
def leastRunsUptoRow : OpenClaim := { program := "ytedphbahdjhckaagreat", sum := "4e626f8baeaa0ba4b4faabcafbabb5d35893dac22cfc0bc113de2eb78bf017aa", func := "frisket/frisketlaw08.LeastRuns", spec := "leastRuns", inPlace := ["internal/bytealg.IndexByteString", "maps.clone"], unfollowed := true, recurses := true, plainKeys := false, apart := false, narrowed := true }
def LeastRunsUptoSaid : Prop := leastRunsUptoRow.holds Tryz.pinned (OpenSpec.upto leastRunsSpec)

/-- 'frisketlaw08.LeastLongest', WHERE WHAT IT READS IS OF BULK AT MOST 1048576: true; the input reads as it did. -/
def leastLongestUptoRow : OpenClaim := { program := "ytedphbahdjhckaagreat", sum := "4e626f8baeaa0ba4b4faabcafbabb5d35893dac22cfc0bc113de2eb78bf017aa", func := "frisket/frisketlaw08.LeastLongest", spec := "leastLongest", inPlace := ["internal/bytealg.IndexByteString", "maps.clone"], unfollowed := true, recurses := true, plainKeys := false, apart := false, narrowed := true }
def LeastLongestUptoSaid : Prop := leastLongestUptoRow.holds Tryz.pinned (OpenSpec.upto leastLongestSpec)

/-- 'frisketlaw08.LeastNone', WHERE WHAT IT READS IS OF BULK AT MOST 1048576: true; the input reads as it did. -/
def leastNoneUptoRow : OpenClaim := { program := "ytedphbahdjhckaagreat", sum := "4e626f8baeaa0ba4b4faabcafbabb5d35893dac22cfc0bc113de2eb78bf017aa", func := "frisket/frisketlaw08.LeastNone", spec := "leastNone", inPlace := ["internal/bytealg.IndexByteString", "maps.clone"], unfollowed := true, recurses := true, plainKeys := false, apart := false, narrowed := true }
def LeastNoneUptoSaid : Prop := leastNoneUptoRow.holds Tryz.pinned (OpenSpec.upto leastNoneSpec)

end Rows
end Go.Proofs.YtedphbahdjhckaaGreat
