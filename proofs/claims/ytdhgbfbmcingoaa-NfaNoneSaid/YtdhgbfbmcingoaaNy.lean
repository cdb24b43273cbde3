/-
  A part of the proof: what the functions of the program come to, read off the model: no premise of its own, no axiom. By an AI agent.
-/
import Derived.Test.YtdhgbfbmcingoaaNx
set_option linter.all false
set_option linter.unusedVariables false
namespace Go.Fk
open Go Go.MapKept

theorem Rising.nil {xs : List Int} (h : Rising xs fun _ => False) : xs = [] := by
  cases xs with
  | nil => rfl
  | cons a l => exact ((h.2 a).1 (by simp)).elim

theorem NfaNone_spec {w : World} {p : Int} {s : ByteArray} {K : Bool → World → Prop} (hK : ∀ w', Keeps No w w' → K true w') : frisketlaw06_NfaNone.C p s w K := by
  refine frisketlaw06_NfaNone.ok _ _ _ _ ?_
  simp only [frisketlaw06_NfaNone.M]
  refine Br.mk (fun _ => awake_spec hK) (fun _ => ?_)
  refine nfa_New_none (M := No) (ps := []) SlT.nil (by simp) (.inl rfl) ?_
  refine Al.mk fun b1 w1 n1 => ?_
  refine nfa_New_none (M := No) (row1 ⟨id, n1.at_⟩) (by simp) (.inr (by simp)) ?_
  show nfa_Machine_Len.C _ _ _
  have hm : ∀ w', MachO (V No w') none [] (fun _ _ => False) [] := fun w' => .inl ⟨rfl, rfl, rfl⟩
  refine nfa_Machine_Len_spec (hm _) ?_
  show nfa_Machine_Rules.C _ _ _
  refine nfa_Machine_Rules_spec (hm _) ?_
  show nfa_Machine_First.C _ _ _ _
  refine nfa_Machine_First_spec (hm _) fun l xs w2 k2 o2 r2 => ?_
  have e2 : xs = [] := Rising.nil (by simpa [knAt_out] using r2)
  subst e2
  have z2 : l.n = 0 := by have := o2.len; simpa using this.symm
  simp only [z2]
  show nfa_Machine_Follow.C _ _ _ _
  refine nfa_Machine_Follow_spec (hm _) fun l3 xs3 w3 k3 o3 r3 => ?_
  have e3 : xs3 = [] := Rising.nil (by simpa using r3)
  subst e3
  have z3 : l3.n = 0 := by have := o3.len; simpa using this.symm
  simp only [z3]
  show nfa_Machine_Rule.C _ _ _ _
  refine nfa_Machine_Rule_spec (hm _) fun w4 k4 => ?_
  have e4 : ruleAt [] p = -1 := by simp [ruleAt]
  rw [e4]
  show nfa_Machine_Has.C _ _ _ _ _
  refine nfa_Machine_Has_spec (b := 97) (hm _) (by omega) fun w5 k5 => ?_
  have e5 : hasAt [] p 97 = false := by simp [hasAt]
  rw [e5]
  show nfa_Machine_Empty.C _ _ _ _
  refine nfa_Machine_Empty_spec (hm _) fun w6 k6 => ?_
  have e6 : (knAt [] p).emp = false := by rw [knAt_out (by simp)]
  rw [e6]
  show nfa_Machine_Run.C _ _ _ _
  refine nfa_Machine_Run_none ?_
  show frisketlaw06_awake.C _ _
  refine awake_spec fun w7 k7 => hK w7 (((((n1.keeps.trans k2).trans k3).trans k4).trans k5).trans k6 |>.trans k7)
end Go.Fk
