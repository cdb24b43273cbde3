/-
  NfaOwn (layer 6): all positions that an expression has, in First, Last and Follow, are its own: called with any texts the statement returns true, and what was there before the call is as it was. No condition.
  By an AI agent.
-/
import Derived.Test.YtdhgbfbmcingoaaA5
import Derived.Test.YtdhgbfbmcingoaaA6
import Derived.Test.YtdhgbfbmcingoaaRows
set_option linter.all false
set_option linter.unusedVariables false
namespace Go.Proofs.Ytdhgbfbmcingoaa
open Go Go.ChangeShapes Go.WideShapes Go.ChangeAt Go.RowKit Go.Fk

theorem own : ownKnob Try.prog.godebug = none := by kernel_rfl
theorem laid : laidOutB Try.prog = true := by kernel_rfl

set_option maxRecDepth 100000 in
theorem nfaOwn_lifted (os : Os) (started : os.Started) (H : Type) (enc : TypeId × Value → H) :
    ReturnsInHanded {} Try.checked os 3 .any (Rows.nfaOwnSpec.pre6 enc Try.prog Try.f3 Rows.nfaOwnRow.domain false) (Rows.nfaOwnSpec.post enc Try.prog Try.f3 false true false false) := by
  refine returnsInHanded_of_change (C := Try.checked) own started (by kernel_rfl) Try.func3
    (ChangeSpec.witness6 (enc := enc) (C := Try.checked) false ⟨#[], #[.slice none 0 0], []⟩ 8 (by kernel_rfl) (by kernel_rfl) (by kernel_rfl) (by kernel_rfl)) ?_
  intro W base args ds gs before hval0 hW hcnd _
  have hval : ∀ (j : Nat) t v, Try.f3.params[j]? = some t → args[j]? = some v → Value.okWide Try.prog W .any base t v := hval0
  have hW' := hW
  obtain ⟨p, q, hA0, hV, rfl, hfz, hnd⟩ := hW
  have hA : DataW.TrodAll enc Try.prog W 0 (fun _ => true) true Try.f3.params.toList args.toList ds p := hA0
  rw [Try.params3] at hA hval
  obtain ⟨v0, d0, rfl, rfl, h0⟩ := trodAll_one hA
  obtain ⟨rfl, rfl⟩ := trodVars_none hV
  obtain ⟨l, ss, rfl, hl, _, hn⟩ := open_texts Try.underlying22 Try.underlying9 (by kernel_rfl) (hval 0 22 v0 rfl rfl) h0
  refine Calls.mono (NfaOwn_spec (M := No) (w := W) (l := l) (K := fun r w' => r = true ∧ Keeps No W w') hl hn fun w' k => ⟨rfl, k⟩) ?_
  rintro e W' ⟨r, rfl, rfl, hk⟩
  exact ⟨_, rfl, post_law laid (by rw [Try.params3]; decide +kernel) (by kernel_rfl) Try.underlying4 rfl rfl hW' hk.below⟩

theorem NfaOwn_holds : Rows.NfaOwnSaid :=
  OpenClaim.holds_of_wide 3 Try.f3 rfl rfl rfl rfl rfl rfl rfl ⟨rfl, rfl, rfl, rfl, rfl⟩ rfl rfl rfl rfl rfl (by kernel_rfl) Try.func3 (by kernel_rfl)
    (of_decide_eq_true (by kernel_rfl)) (by unfold Func.isWrapper; first | (rw [if_pos (by decide +kernel)]; kernel_rfl) | (rw [if_neg (by decide +kernel)]; exact ⟨rfl, rfl⟩))
    (fun os started H enc _ => nfaOwn_lifted os started H enc)
#print axioms NfaOwn_holds
end Go.Proofs.Ytdhgbfbmcingoaa
