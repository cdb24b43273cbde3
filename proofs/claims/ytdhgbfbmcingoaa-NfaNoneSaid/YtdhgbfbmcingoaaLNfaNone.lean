/-
  NfaNone (layer 6): of no machine nothing comes, and of nothing there is no machine: called with any number and any text the statement returns true, and what was there before the call is as it was. No condition.
  By an AI agent.
-/
import Derived.Test.YtdhgbfbmcingoaaFr
import Derived.Test.YtdhgbfbmcingoaaRows
set_option linter.all false
set_option linter.unusedVariables false
namespace Go.Proofs.Ytdhgbfbmcingoaa
open Go Go.ChangeShapes Go.WideShapes Go.ChangeAt Go.RowKit Go.Fk

theorem own : ownKnob Try.prog.godebug = none := by kernel_rfl
theorem laid : laidOutB Try.prog = true := by kernel_rfl

set_option maxRecDepth 100000 in
theorem nfaNone_lifted (os : Os) (started : os.Started) (H : Type) (enc : TypeId × Value → H) :
    ReturnsInHanded {} Try.checked os 5 .any (Rows.nfaNoneSpec.pre6 enc Try.prog Try.f5 Rows.nfaNoneRow.domain false) (Rows.nfaNoneSpec.post enc Try.prog Try.f5 false true false false) := by
  refine returnsInHanded_of_change (C := Try.checked) own started (by kernel_rfl) Try.func5
    (ChangeSpec.witness6 (enc := enc) (C := Try.checked) false ⟨#[], #[.int .i64 0, .string ⟨#[]⟩], []⟩ 8 (by kernel_rfl) (by kernel_rfl) (by kernel_rfl) (by kernel_rfl)) ?_
  intro W base args ds gs before hval0 hW hcnd _
  have hval : ∀ (j : Nat) t v, Try.f5.params[j]? = some t → args[j]? = some v → Value.okWide Try.prog W .any base t v := hval0
  have hW' := hW
  obtain ⟨p, q, hA0, hV, rfl, hfz, hnd⟩ := hW
  have hA : DataW.TrodAll enc Try.prog W 0 (fun _ => true) true Try.f5.params.toList args.toList ds p := hA0
  rw [Try.params5] at hA hval
  obtain ⟨v0, v1, d0, d1, p0, p1, rfl, rfl, rfl, h0, h1⟩ := trodAll_two hA
  obtain ⟨rfl, rfl⟩ := trodVars_none hV
  obtain ⟨a, rfl, rfl, rfl, wa⟩ := open_int Try.underlying3 (hval 0 3 v0 rfl rfl) h0
  obtain ⟨s, rfl, rfl, rfl, ws⟩ := Go.ChangeMaps.open_string Try.underlying9 (hval 1 9 v1 rfl rfl) h1
  refine Calls.mono (NfaNone_spec (w := W) (p := a) (s := s) (K := fun r w' => r = true ∧ Keeps No W w') fun w' k => ⟨rfl, k⟩) ?_
  rintro e W' ⟨r, rfl, rfl, hk⟩
  exact ⟨_, rfl, post_law laid (by rw [Try.params5]; decide +kernel) (by kernel_rfl) Try.underlying4 rfl rfl hW' hk.below⟩

theorem NfaNone_holds : Rows.NfaNoneSaid :=
  OpenClaim.holds_of_wide 5 Try.f5 rfl rfl rfl rfl rfl rfl rfl ⟨rfl, rfl, rfl, rfl, rfl⟩ rfl rfl rfl rfl rfl (by kernel_rfl) Try.func5 (by kernel_rfl)
    (of_decide_eq_true (by kernel_rfl)) (by unfold Func.isWrapper; first | (rw [if_pos (by decide +kernel)]; kernel_rfl) | (rw [if_neg (by decide +kernel)]; exact ⟨rfl, rfl⟩))
    (fun os started H enc _ => nfaNone_lifted os started H enc)
#print axioms NfaNone_holds
end Go.Proofs.Ytdhgbfbmcingoaa
