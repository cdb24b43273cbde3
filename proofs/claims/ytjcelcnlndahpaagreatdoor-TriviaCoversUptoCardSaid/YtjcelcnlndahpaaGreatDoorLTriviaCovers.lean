/-
  TriviaCovers (layer 28): gaps and solid tokens, one behind the other, are the text: true where the arguments are of bulk at most 1048576. The two tables of the library that the row lists are tied to the text of a pruned copy of the project; the proof reads neither.
  By an AI agent.
-/
import Derived.Test.YtjcelcnlndahpaaGreatDoorA1
import Derived.Test.YtjcelcnlndahpaaGreatDoorA9
import Derived.Test.YtjcelcnlndahpaaGreatDoorA10
import Derived.Test.YtjcelcnlndahpaaGreatDoorCards
import Derived.Test.YtjcelcnlndahpaaGreatDoorTie
import Derived.Deep.DeepHandedRow
import Derived.Lib.LaidTab
import Derived.JoinedCond
set_option linter.all false
set_option linter.unusedVariables false
namespace Go.Proofs.YtjcelcnlndahpaaGreatDoor
open Go Go.ChangeShapes Go.WideShapes Go.ChangeAt Go.RowKit Go.Fk

theorem own : ownKnob Tryz.prog.godebug = none := by kernel_rfl
theorem laid : laidOutB Tryz.prog = true := by kernel_rfl

theorem bulk_texts {H : Type} : ∀ ss : List ByteArray, ss.length ≤ Rows.uptoBulkAll (strs (H := H) ss) ∧ ∀ s ∈ ss, s.size ≤ Rows.uptoBulkAll (strs (H := H) ss)
  | [] => by simp
  | s :: ss => by
    obtain ⟨h1, h2⟩ := bulk_texts (H := H) ss
    have e : s.data.toList.length = s.size := by rw [Array.length_toList]; rfl
    have e2 : Rows.uptoBulkAll (strs (H := H) (s :: ss)) = (s.data.toList.length + 1) + Rows.uptoBulkAll (strs (H := H) ss) := by
      simp only [strs, List.map_cons, Rows.uptoBulkAll, Rows.uptoBulk]
    rw [e2]
    refine ⟨by simp; omega, fun s' hs' => ?_⟩
    rcases List.mem_cons.1 hs' with rfl | hs'
    · omega
    · have := h2 s' hs'; omega
theorem bulk_mem {H : Type} {d : DataW H} : ∀ {l : List (DataW H)}, d ∈ l → Rows.uptoBulk d ≤ Rows.uptoBulkAll l
  | [], h => by simp at h
  | x :: l, h => by
    simp only [Rows.uptoBulkAll]
    rcases List.mem_cons.1 h with rfl | h
    · omega
    · have := bulk_mem h; omega
theorem texts_few {H : Type} {d : DataW H} {ss : List ByteArray} {l : List (DataW H)} (hd : (d = .nil ∧ ss = []) ∨ ∃ r, d = .slice (strs ss) r) (hk : Rows.uptoSmall H l = true) (hm : d ∈ l) : ss.length ≤ 1048576 ∧ ∀ s ∈ ss, s.size ≤ 1048576 := by
  have h : Rows.uptoBulkAll l ≤ 1048576 := of_decide_eq_true hk
  rcases hd with ⟨rfl, rfl⟩ | ⟨r, rfl⟩
  · simp
  · have h1 := bulk_mem hm
    simp only [Rows.uptoBulk] at h1
    obtain ⟨h2, h3⟩ := bulk_texts (H := H) ss
    exact ⟨by omega, fun s hs => by have := h3 s hs; omega⟩

theorem bulk_classes {H : Type} : ∀ cs : List Cls, cs.length ≤ Rows.uptoBulkAll (cs.map (Cls.dat (H := H))) ∧ ∀ c ∈ cs, c.rx.size ≤ Rows.uptoBulkAll (cs.map (Cls.dat (H := H))) ∧ c.n.size ≤ Rows.uptoBulkAll (cs.map (Cls.dat (H := H)))
  | [] => by simp
  | c :: cs => by
    obtain ⟨h1, h2⟩ := bulk_classes (H := H) cs
    have e : ∀ s : ByteArray, s.data.toList.length = s.size := fun s => by rw [Array.length_toList]; rfl
    have e2 : Rows.uptoBulkAll ((c :: cs).map (Cls.dat (H := H))) = (((c.n.data.toList.length + 1) + ((c.rx.data.toList.length + 1) + (1 + 0))) + 1) + Rows.uptoBulkAll (cs.map (Cls.dat (H := H))) := by
      simp only [List.map_cons, Rows.uptoBulkAll, Rows.uptoBulk, Cls.dat]
    rw [e2, e, e]
    refine ⟨by simp; omega, fun c' hc' => ?_⟩
    rcases List.mem_cons.1 hc' with rfl | hc'
    · omega
    · have := h2 c' hc'; omega
theorem classes_few {H : Type} {d : DataW H} {cs : List Cls} {l : List (DataW H)} (hd : (d = .nil ∧ cs = []) ∨ ∃ r, d = .slice (cs.map Cls.dat) r) (hk : Rows.uptoSmall H l = true) (hm : d ∈ l) : cs.length ≤ 1048576 ∧ ∀ c ∈ cs, c.rx.size ≤ 1048576 ∧ c.n.size ≤ 1048576 := by
  have h : Rows.uptoBulkAll l ≤ 1048576 := of_decide_eq_true hk
  rcases hd with ⟨rfl, rfl⟩ | ⟨r, rfl⟩
  · simp
  · have h1 := bulk_mem hm
    simp only [Rows.uptoBulk] at h1
    obtain ⟨h2, h3⟩ := bulk_classes (H := H) cs
    exact ⟨by omega, fun s hs => by have := h3 s hs; omega⟩


set_option maxRecDepth 100000 in
theorem contract (H : Type) (enc : TypeId × Value → H) (W : World) (base : Nat) (args : Array Value) (ds gs : List (DataW H)) (before : List MemPlace)
    (hval : ∀ (j : Nat) t v, Tryz.f6.params[j]? = some t → args[j]? = some v → Value.okWide Tryz.prog W .any base t v)
    (hW : DataW.Whole enc Tryz.prog Tryz.f6.params.toList Rows.triviaCoversSpec.vars false W args.toList ds gs before) (hk : Rows.uptoSmall H (ds ++ gs) = true) :
    Calls Tryz.prog 6 args W fun e W' => ∃ v, e = .returned v ∧ Rows.triviaCoversSpec.post enc Tryz.prog Tryz.f6 false true false false W args v W' := by
  have hW' := hW
  obtain ⟨p, q, hA0, hV, rfl, hfz, hnd⟩ := hW
  have hA : DataW.TrodAll enc Tryz.prog W 0 (fun _ => true) true Tryz.f6.params.toList args.toList ds p := hA0
  rw [Tryz.params6] at hA hval
  obtain ⟨v0, v1, d0, d1, p0, p1, rfl, rfl, rfl, h0, h1⟩ := trodAll_two hA
  obtain ⟨rfl, rfl⟩ := trodVars_none hV
  obtain ⟨l0, cs0, rfl, hl0, hsm0, hn0, hd0⟩ := open_classes Tryz.underlying22 Tryz.underlying37 (by kernel_rfl) rfl rfl rfl Tryz.underlying9 Tryz.underlying9 Tryz.underlying4 (by kernel_rfl) (by kernel_rfl) (by kernel_rfl) (hval 0 22 v0 rfl rfl) h0
  obtain ⟨s1, rfl, rfl, rfl, ws1⟩ := Go.ChangeMaps.open_string Tryz.underlying9 (hval 1 9 v1 rfl rfl) h1
  have hb0 := classes_few hd0 hk (List.mem_append_left _ (.head _))
  refine Calls.mono (TriviaCovers_spec (w := W) (K := fun r w' => r = true ∧ Keeps No W w') hl0 hb0.1 hb0.2 fun w' k => ⟨rfl, k⟩) ?_
  rintro e W' ⟨r, rfl, rfl, hk'⟩
  exact ⟨_, rfl, post_law laid (by rw [Tryz.params6]; decide +kernel) (by kernel_rfl) Tryz.underlying4 rfl rfl hW' hk'.below⟩

/-- A world for the witness: the settled one, the two tables holding what the row lists. -/
def acceptCells : Array Value := ([128, 191, 160, 191, 128, 159, 144, 191, 128, 143, 0, 0, 0, 0, 0, 0, 0, 0, 0, 0, 0, 0, 0, 0, 0, 0, 0, 0, 0, 0, 0, 0].map fun (n : Nat) => Value.int .u8 n).toArray
def firstCells : Array Value := (Pinned.utf8FirstZ.map fun (n : Nat) => Value.int .u8 n).toArray
def setTo (c : Array Value) (o : Obj) : Obj := match o with
  | .cells _ t frozen => .cells c t frozen
  | o => o
noncomputable def laidWorld (os : Os) : World :=
  { World.holding Tryz.prog os ⟨#[], #[], []⟩ with heap := (((World.holding Tryz.prog os ⟨#[], #[], []⟩).heap.modify 1 (setTo firstCells)).modify 2 (setTo acceptCells)) }
set_option maxRecDepth 100000 in
theorem laid_met (os : Os) : laidMet Tryz.prog Rows.triviaCoversUptoRow.laid ((laidWorld os).forCall (fun _ _ => 0) ⟨#[], #[.slice none 0 0, .string ⟨#[]⟩], []⟩).memory :=
  laidMet_of_run' 8 (by kernel_rfl) (by kernel_rfl)
theorem reads (os : Os) {H : Type} (enc : TypeId × Value → H) : ∃ places, DataW.whole enc Tryz.prog ((laidWorld os).forCall (fun _ _ => 0) ⟨#[], #[.slice none 0 0, .string ⟨#[]⟩], []⟩).memory Tryz.f6.params.toList Rows.triviaCoversSpec.vars false (#[.slice none 0 0, .string ⟨#[]⟩] : Array Value).toList 8 = some ([.nil, .lit (.string [])], [], places) :=
  ⟨[], by kernel_rfl⟩

set_option maxRecDepth 100000 in
theorem lifted (os : Os) (started : os.Started) (H : Type) (enc : TypeId × Value → H) (F : Stop.Interp) :
    ReturnsInHanded {} Tryz.checked os 6 .any ((Rows.OpenSpec.upto Rows.triviaCoversSpec).preRow enc Tryz.prog Tryz.f6 Rows.triviaCoversUptoRow.domain false Rows.triviaCoversUptoRow.laid) (((Rows.OpenSpec.upto Rows.triviaCoversSpec).at F).post enc Tryz.prog Tryz.f6 false true false false) := by
  obtain ⟨places, hx⟩ := reads os enc
  refine returnsInHanded_of_row (C := Tryz.checked) (s := Rows.OpenSpec.upto Rows.triviaCoversSpec) own started (by kernel_rfl) Tryz.func6
    (witness_row_at (enc := enc) (C := Tryz.checked) false (laidWorld os) #[.slice none 0 0, .string ⟨#[]⟩] rfl (by kernel_rfl) (by kernel_rfl) (by kernel_rfl)
      (OpenSpec.preRow_of_cond 8 hx (by kernel_rfl) (fun k hk => by cases hk; kernel_rfl) (by kernel_rfl) (laid_met os))) ?_
  intro W base args ds gs before hval hW _ hcond _ _ _ _
  exact contract H enc W base args ds gs before hval hW (hcond _ rfl)

theorem said : Rows.TriviaCoversUptoSaid :=
  OpenClaim.holds_of_cond 6 Tryz.f6 rfl rfl rfl rfl rfl rfl rfl ⟨rfl, rfl, rfl, rfl, rfl⟩ rfl rfl rfl rfl rfl (by kernel_rfl) Tryz.func6 (by kernel_rfl)
    (of_decide_eq_true (by kernel_rfl)) (by unfold Func.isWrapper; first | (rw [if_pos (by decide +kernel)]; kernel_rfl) | (rw [if_neg (by decide +kernel)]; exact ⟨rfl, rfl⟩))
    (fun os started H enc _ F => by rw [OpenClaim.pre_eq_preRow]; exact lifted os started H enc F)

theorem plain (f : FuncId) (fn : Func) (hf : Tryz.pinned.checked.prog.funcNamed "frisket/frisketlaw28.TriviaCovers" = some f) (hfn : Tryz.pinned.checked.prog.funcs[f]? = some fn) :
    true = Tryz.pinned.checked.prog.looks [] ∧ ∀ (j : Nat) t, fn.params[j]? = some t → Tryz.pinned.checked.prog.wantsStandIn t = false := by
  obtain rfl : f = 6 := Option.some.inj ((show Tryz.prog.funcNamed "frisket/frisketlaw28.TriviaCovers" = some 6 by kernel_rfl).symm.trans hf) |>.symm
  obtain rfl : fn = Tryz.f6 := (Option.some.inj (Tryz.func6.symm.trans hfn)).symm
  refine ⟨by kernel_rfl, fun j t ht => ?_⟩
  rw [Tryz.params6] at ht
  have hm : t ∈ [22, 9] := by simpa using Array.mem_of_getElem? ht
  have hall : ([22, 9].all fun u => !Tryz.prog.wantsStandIn u) = true := by kernel_rfl
  exact (show Tryz.prog.wantsStandIn t = false by simpa using List.all_eq_true.1 hall t hm)

theorem TriviaCovers_holds : Rows.TriviaCoversUptoCardSaid :=
  Claim7.holds_tied_plain_at .later [] _ _ _ _ said (fun _ h => by cases h) (by kernel_rfl) (fun _ h => by cases h) triviaCoversUpto_row_tie rfl ⟨rfl, rfl⟩ (by kernel_rfl) rfl plain (by kernel_rfl)
#print axioms TriviaCovers_holds
end Go.Proofs.YtjcelcnlndahpaaGreatDoor
