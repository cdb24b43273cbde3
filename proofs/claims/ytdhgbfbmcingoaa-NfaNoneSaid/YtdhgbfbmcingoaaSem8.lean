/-
  A part of the proof: what the functions of the program come to, read off the model: no premise of its own, no axiom. By an AI agent.
-/
import Derived.Test.YtdhgbfbmcingoaaSem7
set_option linter.all false
set_option linter.unusedSimpArgs false
set_option linter.unusedVariables false
namespace Go.Fk
open Go

def semRes (P : Program) (H : List (Nat × RTy)) : List ResultVar → Env → List Value → (List Value → Prop) → World → Prop
  | [], _, acc, k, _ => k acc.reverse
  | .tmp t :: l, e, acc, k, w => match find t e with
    | some v => semRes P H l e (v :: acc) k w
    | none => False
  | .cell a t :: l, e, acc, k, w => match find a e with
    | some v => sLoad P t v (hintOf (some a) H) (fun u => semRes P H l e (u :: acc) k w) w
    | none => False

def semRet (P : Program) (H : List (Nat × RTy)) (rs : List ResultVar) (rt : RTy) (K : rt.T → World → Prop) (e : Env) (w : World) : Prop :=
  semRes P H rs e [] (fun vs => match (match vs with | [v] => rt.dec v | vs => rt.dec (.tuple vs.toArray)) with
    | some r => K r w
    | none => False) w

variable {P : Program}

def resOf (tmps : Array Value) : ResultVar → Sem Value
  | .tmp t => pure (tmps.getD t undef)
  | .cell a t => do loadVar t (← asAddr (tmps.getD a undef))

theorem sLoad_var {t : TypeId} {x : Value} {h : RTy} {k : Value → Prop} {w : World} (H : sLoad P t x h k w) : ∃ v, (do loadVar t (← asAddr x) : Sem Value).run P w = .ok v w ∧ k v := by
  have hx : ∃ a, x = .pointer (some a) := by
    unfold sLoad at H
    split at H <;> try exact H.elim
    exact ⟨_, rfl⟩
  obtain ⟨a, rfl⟩ := hx
  obtain ⟨v, h1, h2⟩ := sLoad_ok H
  exact ⟨v, by simpa [Instr.loadAt, Instr.sureAddr, asAddr] using h1, h2⟩

theorem semRes_ok {n : Nat} {H : List (Nat × RTy)} {e : Env} {a : Act} {w : World} {k : List Value → Prop} (hA : Ag n e a) : ∀ (l : List ResultVar) (acc : List Value), semRes P H l e acc k w →
    ∃ vs, (l.mapM (resOf a.tmps)).run P w = .ok vs w ∧ k (acc.reverse ++ vs)
  | [], acc, h => ⟨[], rfl, by simpa [semRes] using h⟩
  | .tmp t :: l, acc, h => by
    simp only [semRes] at h
    split at h <;> try exact h.elim
    rename_i v hv
    obtain ⟨vs, h1, h2⟩ := semRes_ok hA l _ h
    refine ⟨v :: vs, ?_, by simpa using h2⟩
    simp only [List.mapM_cons, resOf, Sem.run_bind, Sem.run_pure, Result.andThen_ok, hA.get _ _ hv, h1]
  | .cell c t :: l, acc, h => by
    simp only [semRes] at h
    split at h <;> try exact h.elim
    rename_i v hv
    obtain ⟨u, h0, h⟩ := sLoad_var h
    obtain ⟨vs, h1, h2⟩ := semRes_ok hA l _ h
    refine ⟨u :: vs, ?_, by simpa using h2⟩
    have h0' : (resOf a.tmps (.cell c t)).run P w = .ok u w := by simp only [resOf, hA.get _ _ hv]; exact h0
    simp only [List.mapM_cons, Sem.run_bind, h0', Result.andThen_ok, h1, Sem.run_pure]

theorem run_results {n : Nat} {fn : Func} {H : List (Nat × RTy)} {rt : RTy} {K : rt.T → World → Prop} {e : Env} {a : Act} {w : World} (hA : Ag n e a) (h : semRet P H fn.results.toList rt K e w) :
    ∃ r : rt.T, (results fn a.tmps).run P w = .ok (rt.enc r) w ∧ K r w := by
  obtain ⟨vs, h1, h2⟩ := semRes_ok hA _ _ h
  simp only [List.reverse_nil, List.nil_append] at h2
  have hres : (results fn a.tmps).run P w = .ok (if h : vs.toArray.size = 1 then vs.toArray[0] else .tuple vs.toArray) w := by
    have e1 : results fn a.tmps = (fn.results.mapM (resOf a.tmps) >>= fun vs => pure (if h : vs.size = 1 then vs[0] else .tuple vs)) := by
      unfold results
      congr 2
    rw [e1, Array.mapM_eq_mapM_toList]
    simp only [Sem.run_bind, Sem.run_map, h1, Result.andThen_ok, Sem.run_pure]
  rw [hres]
  split at h2 <;> try exact h2.elim
  rename_i r hr
  refine ⟨r, ?_, h2⟩
  split at hr
  · rename_i v
    rw [RTy.dec_sound _ _ _ hr]; rfl
  · rename_i hne
    rw [← RTy.dec_sound _ _ _ hr]
    have : ¬ vs.toArray.size = 1 := by
      intro hs
      simp at hs
      obtain ⟨v, rfl⟩ := List.length_eq_one_iff.1 hs
      exact hne v rfl
    rw [dif_neg this]

def argEnv : Nat → List Value → Env
  | _, [] => []
  | i, v :: l => (i, v) :: argEnv (i + 1) l

theorem argEnv_get (n : Nat) : ∀ (l : List Value) (i t : Nat) (v : Value), find t (argEnv i l) = some v → i ≤ t ∧ l[t - i]? = some v
  | [], i, t, v, h => by cases h
  | u :: l, i, t, v, h => by
    unfold argEnv at h
    by_cases hti : t = i
    · subst hti; rw [find_cons_eq] at h; simp at h; subst h; simp
    · rw [find_cons_ne hti] at h
      obtain ⟨h1, h2⟩ := argEnv_get n l (i + 1) t v h
      refine ⟨by omega, ?_⟩
      rw [show t - i = (t - (i + 1)) + 1 from by omega]
      simpa using h2

/-- **A function does what the reading of its text asks.** -/
theorem calls_of_sem {f : FuncId} {fn : Func} {c : Code} {H : List (Nat × RTy)} {ann : Ann} {args : List Value} {rt : RTy} {K : rt.T → World → Prop} {w : World} (hm : P.follows .mixedOrders = true)
    (hf : P.funcs[f]? = some fn) (hb : fn.body = some c) (hok : codeOk fn.ntmps c = true) (hn : Nat.ble args.length fn.ntmps = true)
    (h : sem P H c ann (argEnv 0 args) (semRet P H fn.results.toList rt K) [] (semRet P H fn.results.toList rt K) w) : CallF P f args.toArray rt w K := by
  refine calls_of_wp hf hb ?_
  have hn' : args.length ≤ fn.ntmps := Nat.le_of_ble_eq_true hn
  refine Code.wp_mono (fun ex a w' hp => ?_) (sem_ok hm c ann _ _ _ _ _ w hok (n := fn.ntmps) ?_ h)
  · cases ex <;> simp only [Post] at hp
    · obtain ⟨_, e, hA, hk⟩ := hp
      obtain ⟨r, h1, h2⟩ := run_results hA hk
      exact ⟨hA.defers, _, h1, r, rfl, h2⟩
    · obtain ⟨_, e, hA, hk⟩ := hp
      exact hk.elim
    · obtain ⟨e, hA, hk⟩ := hp
      obtain ⟨r, h1, h2⟩ := run_results hA hk
      exact ⟨hA.defers, _, h1, r, rfl, h2⟩
  · refine ⟨by simp; omega, rfl, fun t v hv => ?_⟩
    obtain ⟨_, h2⟩ := argEnv_get fn.ntmps args 0 t v hv
    simp only [Nat.sub_zero] at h2
    have ht : t < args.length := (List.getElem?_eq_some_iff.1 h2).1
    simp only [Array.getD_eq_getD_getElem?]
    rw [Array.getElem?_append_left (by simpa using ht)]
    simp [h2]

end Go.Fk
