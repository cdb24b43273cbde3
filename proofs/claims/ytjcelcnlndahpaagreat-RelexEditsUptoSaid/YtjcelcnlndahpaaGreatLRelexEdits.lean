/-
  RelexEdits (layer 10): of any classes, text and edits: behind each the tokens are those of the text, looks and all; those that were told to be kept are those that were there, moved: the statement returns true, and what was there before the call is as it was. Condition: the arguments hold together at most 1048576 values and letters.
  By an AI agent.
-/
import Derived.Test.YtjcelcnlndahpaaGreatA1
import Derived.Test.YtjcelcnlndahpaaGreatA9
import Derived.Test.YtjcelcnlndahpaaGreatA10
import Derived.Test.YtjcelcnlndahpaaGreatRows
import Derived.JoinedCond
set_option linter.all false
set_option linter.unusedVariables false
namespace Go.Proofs.YtjcelcnlndahpaaGreat
open Go Go.ChangeShapes Go.WideShapes Go.ChangeAt Go.RowKit Go.Fk

theorem own : ownKnob Tryz.prog.godebug = none := by kernel_rfl
theorem laid : laidOutB Tryz.prog = true := by kernel_rfl

theorem bulk_texts {H : Type} : ∀ ss : List ByteArray, ss.length ≤ Rows.uptoBulkAll (strs (H := H) ss) ∧ ∀ s ∈ ss, s.size ≤ Rows.uptoBulkAll (strs (H := H) ss)
  | [] => by simp
  | s :: ss => by
    obtain ⟨h1, h2⟩ := bulk_texts (H := H) ss
    have e : s.data.toList.length = s.size := by rw [Array.length_toList]; rfl
    have e2 : Rows.uptoBulkAll (strs (H := H) (s :: ss)) = (s.data.toList.length + 1) + Rows.uptoBulkAll (strs (H := H) ss) := by
      simp only [strs, List.map_cons, Rows.uptoBulkAll, Rows.uptoBulk]
    rw [e2]
    refine ⟨by simp; omega, fun s' hs' => ?_⟩
    rcases List.mem_cons.1 hs' with rfl | hs'
    · omega
    · have := h2 s' hs'; omega
theorem bulk_mem {H : Type} {d : DataW H} : ∀ {l : List (DataW H)}, d ∈ l → Rows.uptoBulk d ≤ Rows.uptoBulkAll l
  | [], h => by simp at h
  | x :: l, h => by
    simp only [Rows.uptoBulkAll]
    rcases List.mem_cons.1 h with rfl | h
    · omega
    · have := bulk_mem h; omega
theorem texts_few {H : Type} {d : DataW H} {ss : List ByteArray} {l : List (DataW H)} (hd : (d = .nil ∧ ss = []) ∨ ∃ r, d = .slice (strs ss) r) (hk : Rows.uptoSmall H l = true) (hm : d ∈ l) : ss.length ≤ 1048576 ∧ ∀ s ∈ ss, s.size ≤ 1048576 := by
  have h : Rows.uptoBulkAll l ≤ 1048576 := of_decide_eq_true hk
  rcases hd with ⟨rfl, rfl⟩ | ⟨r, rfl⟩
  · simp
  · have h1 := bulk_mem hm
    simp only [Rows.uptoBulk] at h1
    obtain ⟨h2, h3⟩ := bulk_texts (H := H) ss
    exact ⟨by omega, fun s hs => by have := h3 s hs; omega⟩

theorem bulk_classes {H : Type} : ∀ cs : List Cls, cs.length ≤ Rows.uptoBulkAll (cs.map (Cls.dat (H := H))) ∧ ∀ c ∈ cs, c.rx.size ≤ Rows.uptoBulkAll (cs.map (Cls.dat (H := H))) ∧ c.n.size ≤ Rows.uptoBulkAll (cs.map (Cls.dat (H := H)))
  | [] => by simp
  | c :: cs => by
    obtain ⟨h1, h2⟩ := bulk_classes (H := H) cs
    have e : ∀ s : ByteArray, s.data.toList.length = s.size := fun s => by rw [Array.length_toList]; rfl
    have e2 : Rows.uptoBulkAll ((c :: cs).map (Cls.dat (H := H))) = (((c.n.data.toList.length + 1) + ((c.rx.data.toList.length + 1) + (1 + 0))) + 1) + Rows.uptoBulkAll (cs.map (Cls.dat (H := H))) := by
      simp only [List.map_cons, Rows.uptoBulkAll, Rows.uptoBulk, Cls.dat]
    rw [e2, e, e]
    refine ⟨by simp; omega, fun c' hc' => ?_⟩
    rcases List.mem_cons.1 hc' with rfl | hc'
    · omega
    · have := h2 c' hc'; omega
theorem classes_few {H : Type} {d : DataW H} {cs : List Cls} {l : List (DataW H)} (hd : (d = .nil ∧ cs = []) ∨ ∃ r, d = .slice (cs.map Cls.dat) r) (hk : Rows.uptoSmall H l = true) (hm : d ∈ l) : cs.length ≤ 1048576 ∧ ∀ c ∈ cs, c.rx.size ≤ 1048576 ∧ c.n.size ≤ 1048576 := by
  have h : Rows.uptoBulkAll l ≤ 1048576 := of_decide_eq_true hk
  rcases hd with ⟨rfl, rfl⟩ | ⟨r, rfl⟩
  · simp
  · have h1 := bulk_mem hm
    simp only [Rows.uptoBulk] at h1
    obtain ⟨h2, h3⟩ := bulk_classes (H := H) cs
    exact ⟨by omega, fun s hs => by have := h3 s hs; omega⟩
theorem bulk_edits {H : Type} : ∀ es : List Ed, es.length ≤ Rows.uptoBulkAll (es.map (Ed.dat (H := H)))
  | [] => by simp
  | c :: es => by
    have h1 := bulk_edits (H := H) es
    have e2 : Rows.uptoBulkAll ((c :: es).map (Ed.dat (H := H))) = ((1 + (1 + ((c.s.data.toList.length + 1) + 0))) + 1) + Rows.uptoBulkAll (es.map (Ed.dat (H := H))) := by
      simp only [List.map_cons, Rows.uptoBulkAll, Rows.uptoBulk, Ed.dat]
    rw [e2]
    simp; omega
theorem edits_few {H : Type} {d : DataW H} {es : List Ed} {l : List (DataW H)} (hd : (d = .nil ∧ es = []) ∨ ∃ r, d = .slice (es.map Ed.dat) r) (hk : Rows.uptoSmall H l = true) (hm : d ∈ l) : es.length ≤ 1048576 := by
  have h : Rows.uptoBulkAll l ≤ 1048576 := of_decide_eq_true hk
  rcases hd with ⟨rfl, rfl⟩ | ⟨r, rfl⟩
  · simp
  · have h1 := bulk_mem hm
    simp only [Rows.uptoBulk] at h1
    have h2 := bulk_edits (H := H) es
    omega

set_option maxRecDepth 100000 in
theorem contract (H : Type) (enc : TypeId × Value → H) (W : World) (base : Nat) (args : Array Value) (ds gs : List (DataW H)) (before : List MemPlace)
    (hval : ∀ (j : Nat) t v, Tryz.f7.params[j]? = some t → args[j]? = some v → Value.okWide Tryz.prog W .any base t v)
    (hW : DataW.Whole enc Tryz.prog Tryz.f7.params.toList Rows.relexEditsSpec.vars false W args.toList ds gs before) (hk : Rows.uptoSmall H (ds ++ gs) = true) :
    Calls Tryz.prog 7 args W fun e W' => ∃ v, e = .returned v ∧ Rows.relexEditsSpec.post enc Tryz.prog Tryz.f7 false true false false W args v W' := by
  have hW' := hW
  obtain ⟨p, q, hA0, hV, rfl, hfz, hnd⟩ := hW
  have hA : DataW.TrodAll enc Tryz.prog W 0 (fun _ => true) true Tryz.f7.params.toList args.toList ds p := hA0
  rw [Tryz.params7] at hA hval
  obtain ⟨v0, v1, v2, d0, d1, d2, p0, p1, p2, rfl, rfl, rfl, h0, h1, h2⟩ := trodAll_three hA
  obtain ⟨rfl, rfl⟩ := trodVars_none hV
  obtain ⟨l0, cs0, rfl, hl0, hsm0, hn0, hd0⟩ := open_classes Tryz.underlying22 Tryz.underlying43 (by kernel_rfl) rfl rfl rfl Tryz.underlying9 Tryz.underlying9 Tryz.underlying4 (by kernel_rfl) (by kernel_rfl) (by kernel_rfl) (hval 0 22 v0 rfl rfl) h0
  obtain ⟨s1, rfl, rfl, rfl, ws1⟩ := Go.ChangeMaps.open_string Tryz.underlying9 (hval 1 9 v1 rfl rfl) h1
  obtain ⟨l2, cs2, rfl, hl2, hsm2, hn2, hd2⟩ := open_edits Tryz.underlying65 Tryz.underlying68 (by kernel_rfl) rfl rfl rfl Tryz.underlying3 Tryz.underlying3 Tryz.underlying9 (by kernel_rfl) (by kernel_rfl) (by kernel_rfl) (hval 2 65 v2 rfl rfl) h2
  have hb0 := classes_few hd0 hk (List.mem_append_left _ (.head _))
  have hb2 := edits_few hd2 hk (List.mem_append_left _ (.tail _ (.tail _ (.head _))))
  refine Calls.mono (RelexEdits_spec (w := W) (K := fun r w' => r = true ∧ Keeps No W w') hl0 hl2 hb0.1 hb0.2 hb2 fun w' k => ⟨rfl, k⟩) ?_
  rintro e W' ⟨r, rfl, rfl, hk'⟩
  exact ⟨_, rfl, post_law laid (by rw [Tryz.params7]; decide +kernel) (by kernel_rfl) Tryz.underlying4 rfl rfl hW' hk'.below⟩

set_option maxRecDepth 100000 in
theorem lifted (os : Os) (started : os.Started) (H : Type) (enc : TypeId × Value → H) (F : Stop.Interp) :
    ReturnsInHanded {} Tryz.checked os 7 .any ((Rows.OpenSpec.upto Rows.relexEditsSpec).pre6 enc Tryz.prog Tryz.f7 Rows.relexEditsUptoRow.domain false) (((Rows.OpenSpec.upto Rows.relexEditsSpec).at F).post enc Tryz.prog Tryz.f7 false true false false) := by
  refine returnsInHanded_of_cond (C := Tryz.checked) (s := Rows.OpenSpec.upto Rows.relexEditsSpec) (k := Rows.uptoSmall) rfl own started (by kernel_rfl) Tryz.func7
    (OpenSpec.witness (enc := enc) (C := Tryz.checked) (s := Rows.OpenSpec.upto Rows.relexEditsSpec) (k := Rows.uptoSmall) rfl false ⟨#[], #[.slice none 0 0, .string ⟨#[]⟩, .slice none 0 0], []⟩ 8 (by kernel_rfl) (by kernel_rfl) (by kernel_rfl)
      (x := ([.nil, .lit (.string []), .nil], [], [])) (by kernel_rfl) rfl (by kernel_rfl)) ?_
  intro W base args ds gs before hval hW _ hk _
  exact contract H enc W base args ds gs before hval hW hk

theorem RelexEdits_holds : Rows.RelexEditsUptoSaid :=
  OpenClaim.holds_of_cond 7 Tryz.f7 rfl rfl rfl rfl rfl rfl rfl ⟨rfl, rfl, rfl, rfl, rfl⟩ rfl rfl rfl rfl rfl (by kernel_rfl) Tryz.func7 (by kernel_rfl)
    (of_decide_eq_true (by kernel_rfl)) (by unfold Func.isWrapper; first | (rw [if_pos (by decide +kernel)]; kernel_rfl) | (rw [if_neg (by decide +kernel)]; exact ⟨rfl, rfl⟩))
    (fun os started H enc _ F => lifted os started H enc F)
#print axioms RelexEdits_holds
end Go.Proofs.YtjcelcnlndahpaaGreat
