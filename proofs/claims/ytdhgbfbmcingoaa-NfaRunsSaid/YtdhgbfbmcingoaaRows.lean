/-
  No cell of these rows narrows 'for every input' (looked for: loops, veiled, ifaces, maps, wideKeys, modest, calm, conditions, laid).
  DERIVED. THE GIVEN ROWS OF THIS SEAT. 3 by the template 'for every input the law returns true; each argument reads behind the call as it read before'; 0 by the template 'total and deterministic' (their statements: YtdhgbfbmcingoaaTotals.lean).
  GIVEN WITH THE SEED: the statements are not yours to turn. If you find one false, say at which input.
  Laid BY PROGRAM, IN A SANDBOX (cutbox-rows.mjs): the forced cells as the released guide's own fill.sh prints them over the translation 44ef2bf3ad0fd374… (all of the seat's roots in one cut). By AI agents, Wed Nov 11 2026. No macro, syntax, notation, axiom, sorry.
-/
import Derived.Test.YtdhgbfbmcingoaaChecked
import GoSem.Claim
import GoSem.ClaimJoined
import GoSem.ClaimMapViews
import Derived.JoinedTies
import Derived.KernelRfl
namespace Go.Proofs.Ytdhgbfbmcingoaa
/- THE CELL 'sum', in the pinned program and in every row, IS THE sha256 OF THE DUMP (.gsa) THAT YtdhgbfbmcingoaaProg.lean LOADS. Nothing in Lean hashes anything: it is a label: what it is worth is what the hold of that sum in a sandbox is worth. -/
noncomputable def Try.pinned : Pinned := { name := "ytdhgbfbmcingoaa", sum := "44ef2bf3ad0fd3745c5368e8cb654d3adf5784f958a6288f03082deaf2b596c9", checked := Try.checked }
namespace Rows
def none {H : Type} : Left H := { results := [], args := [] }

/-- 'frisketlaw06.NfaOwn': WHATEVER THE INPUT: true; the input reads as it did. -/
def nfaOwnSpec : ChangeSpec := { name := "nfaOwn", fn := fun _ => fun
  | [d] => { results := [.lit (.bool true)], args := [d] }
  | _ => none }
def nfaOwnRow : OpenClaim := { program := "ytdhgbfbmcingoaa", sum := "44ef2bf3ad0fd3745c5368e8cb654d3adf5784f958a6288f03082deaf2b596c9", func := "frisket/frisketlaw06.NfaOwn", spec := "nfaOwn", inPlace := ["internal/bytealg.IndexByteString", "maps.clone"], unfollowed := true, recurses := true, apart := false }
def NfaOwnSaid : Prop := nfaOwnRow.holds Try.pinned (OpenSpec.ofChange nfaOwnSpec)

/-- ITS FALSE NEIGHBOUR: 'it returns false'. Refute it at one input. -/
def nfaOwnWrong : ChangeSpec := { name := "nfaOwn", fn := fun _ => fun
  | [d] => { results := [.lit (.bool false)], args := [d] }
  | _ => none }
def NfaOwnWrongFalsely : Prop := nfaOwnRow.holds Try.pinned (OpenSpec.ofChange nfaOwnWrong)

/-- 'frisketlaw06.NfaRuns': WHATEVER THE INPUT: true; the input reads as it did. -/
def nfaRunsSpec : ChangeSpec := { name := "nfaRuns", fn := fun _ => fun
  | [d1, d2] => { results := [.lit (.bool true)], args := [d1, d2] }
  | _ => none }
def nfaRunsRow : OpenClaim := { program := "ytdhgbfbmcingoaa", sum := "44ef2bf3ad0fd3745c5368e8cb654d3adf5784f958a6288f03082deaf2b596c9", func := "frisket/frisketlaw06.NfaRuns", spec := "nfaRuns", inPlace := ["internal/bytealg.IndexByteString", "maps.clone"], unfollowed := true, recurses := true, apart := false }
def NfaRunsSaid : Prop := nfaRunsRow.holds Try.pinned (OpenSpec.ofChange nfaRunsSpec)

/-- ITS FALSE NEIGHBOUR: 'it returns false'. Refute it at one input. -/
def nfaRunsWrong : ChangeSpec := { name := "nfaRuns", fn := fun _ => fun
  | [d1, d2] => { results := [.lit (.bool false)], args := [d1, d2] }
  | _ => none }
def NfaRunsWrongFalsely : Prop := nfaRunsRow.holds Try.pinned (OpenSpec.ofChange nfaRunsWrong)

/-- 'frisketlaw06.NfaNone': WHATEVER THE INPUT: true; the input reads as it did. -/
def nfaNoneSpec : ChangeSpec := { name := "nfaNone", fn := fun _ => fun
  | [d1, d2] => { results := [.lit (.bool true)], args := [d1, d2] }
  | _ => none }
def nfaNoneRow : OpenClaim := { program := "ytdhgbfbmcingoaa", sum := "44ef2bf3ad0fd3745c5368e8cb654d3adf5784f958a6288f03082deaf2b596c9", func := "frisket/frisketlaw06.NfaNone", spec := "nfaNone", inPlace := ["internal/bytealg.IndexByteString", "maps.clone"], unfollowed := true, recurses := true, apart := false }
def NfaNoneSaid : Prop := nfaNoneRow.holds Try.pinned (OpenSpec.ofChange nfaNoneSpec)

/-- ITS FALSE NEIGHBOUR: 'it returns false'. Refute it at one input. -/
def nfaNoneWrong : ChangeSpec := { name := "nfaNone", fn := fun _ => fun
  | [d1, d2] => { results := [.lit (.bool false)], args := [d1, d2] }
  | _ => none }
def NfaNoneWrongFalsely : Prop := nfaNoneRow.holds Try.pinned (OpenSpec.ofChange nfaNoneWrong)

/- THE SECOND FORM. 'bulk': how many values and letters a reading holds, each counted each time it is reached (what is shared counts as often as it is met; a slice's spare places count too). A statement '..UptoSaid' is the law's where the arguments, and the package variables that the reading takes, are together of bulk at most 1048576: NARROWER than '..Said'. Prove '..Said' where nothing that the law and all that it calls make is longer than what came in: it says more and counts as full. Else prove '..UptoSaid'. A law counts once. -/
mutual
def uptoBulk {H : Type} : DataW H → Nat
  | .lit (.string bytes) => bytes.length + 1
  | .lit _ => 1
  | .nil => 1
  | .ptr d => uptoBulk d + 1
  | .slice elems spare => uptoBulkAll elems + uptoBulkAll spare + 1
  | .agg parts => uptoBulkAll parts + 1
  | .iface _ d => uptoBulk d + 1
  | .map entries => uptoBulkEntries entries + 1
  | .held _ => 1
def uptoBulkAll {H : Type} : List (DataW H) → Nat
  | [] => 0
  | d :: r => uptoBulk d + uptoBulkAll r
def uptoBulkEntries {H : Type} : List (Lit × DataW H) → Nat
  | [] => 0
  | x :: r => uptoBulkEntry x + uptoBulkEntries r
def uptoBulkEntry {H : Type} : Lit × DataW H → Nat
  | (.string bytes, d) => bytes.length + uptoBulk d + 1
  | (_, d) => uptoBulk d + 1
 end
def uptoSmall : (H : Type) → List (DataW H) → Bool := fun _ ds => decide (uptoBulkAll ds ≤ 1048576)
def OpenSpec.upto (s : _root_.Go.ChangeSpec) : _root_.Go.OpenSpec := { _root_.Go.OpenSpec.ofChange s with cond := some uptoSmall }

/-- 'frisketlaw06.NfaOwn', WHERE WHAT IT READS IS OF BULK AT MOST 1048576: true; the input reads as it did. -/
def nfaOwnUptoRow : OpenClaim := { program := "ytdhgbfbmcingoaa", sum := "44ef2bf3ad0fd3745c5368e8cb654d3adf5784f958a6288f03082deaf2b596c9", func := "frisket/frisketlaw06.NfaOwn", spec := "nfaOwn", inPlace := ["internal/bytealg.IndexByteString", "maps.clone"], unfollowed := true, recurses := true, apart := false, narrowed := true }
def NfaOwnUptoSaid : Prop := nfaOwnUptoRow.holds Try.pinned (OpenSpec.upto nfaOwnSpec)

/-- 'frisketlaw06.NfaRuns', WHERE WHAT IT READS IS OF BULK AT MOST 1048576: true; the input reads as it did. -/
def nfaRunsUptoRow : OpenClaim := { program := "ytdhgbfbmcingoaa", sum := "44ef2bf3ad0fd3745c5368e8cb654d3adf5784f958a6288f03082deaf2b596c9", func := "frisket/frisketlaw06.NfaRuns", spec := "nfaRuns", inPlace := ["internal/bytealg.IndexByteString", "maps.clone"], unfollowed := true, recurses := true, apart := false, narrowed := true }
def NfaRunsUptoSaid : Prop := nfaRunsUptoRow.holds Try.pinned (OpenSpec.upto nfaRunsSpec)

/-- 'frisketlaw06.NfaNone', WHERE WHAT IT READS IS OF BULK AT MOST 1048576: true; the input reads as it did. -/
def nfaNoneUptoRow : OpenClaim := { program := "ytdhgbfbmcingoaa", sum := "44ef2bf3ad0fd3745c5368e8cb654d3adf5784f958a6288f03082deaf2b596c9", func := "frisket/frisketlaw06.NfaNone", spec := "nfaNone", inPlace := ["internal/bytealg.IndexByteString", "maps.clone"], unfollowed := true, recurses := true, apart := false, narrowed := true }
def NfaNoneUptoSaid : Prop := nfaNoneUptoRow.holds Try.pinned (OpenSpec.upto nfaNoneSpec)

end Rows
end Go.Proofs.Ytdhgbfbmcingoaa
