/-
  A part of the proof: what the functions of the program come to, read off the model: no premise of its own, no axiom. By an AI agent.
-/
import Derived.Test.YtdhgbfbmcingoaaSem5
set_option linter.all false
set_option linter.unusedSimpArgs false
set_option linter.unusedVariables false
namespace Go.Fk
open Go

variable {P : Program}

theorem ldSCells_ok {S : World → Prop} {a : Addr} {k : List Value → Prop} : ∀ (ts : List Ty) (i : Nat) (acc : List Value), LdSCells S a k ts i acc →
    ∃ vs : List Value, vs.length = ts.length ∧ (∀ w, S w → ∀ j v, vs[j]? = some v → w.cell? (a.add (i + j)) = some v) ∧ k (acc.reverse ++ vs)
  | [], i, acc, h => ⟨[], rfl, by simp, by simpa [LdSCells] using h⟩
  | t :: ts, i, acc, ⟨x, h1, h2⟩ => by
    obtain ⟨vs, e1, e2, e3⟩ := ldSCells_ok ts (i + 1) _ h2
    refine ⟨t.enc x :: vs, by simp [e1], fun w hw j v hj => ?_, by simpa using e3⟩
    cases j with
    | zero => simp at hj; subst hj; simpa using h1 w hw
    | succ j => simp at hj; have := e2 w hw j v hj; rwa [show i + 1 + j = i + (j + 1) from by omega] at this

theorem semTake_ok {H : List (Nat × RTy)} {g : List (Nat × Bool)} {S : World → Prop} {o : Oper} {e : Env} {k : Value → Prop} (h : semTake P H g S o e k) (hs : ∀ cs b, o.op ≠ .select cs b) :
    known e o.op = true ∧ ∃ v, (∀ w, S w → (execOp (rho e) o).run P w = .ok (.value v) w) ∧ k v := by
  unfold semTake at h
  split at h
  · exact h.elim
  rename_i hk
  refine ⟨hk, ?_⟩
  split at h
  · rename_i t x hop
    split at h <;> try exact h.elim
    rename_i a hx
    split at h <;> try exact h.elim
    rename_i u i hu hi
    have key : ∀ w, (execOp (rho e) o).run P w = ((if isAggD u then (loadCells a i.size >>= fun cs => pure (Value.agg cs)) else load a).run P w).andThen fun v w' => .ok (.value v) w' := by
      intro w
      simp only [execOp, hop, hx, Instr.loadAt, Instr.sureAddr, loadVar, Sem.run_bind, Sem.run_pure, Result.andThen_ok, run_isAgg' w hu]
      cases isAggD u <;> simp [run_sizeOf' w hi]
    split at h <;> try exact h.elim
    · rename_i ty hag hh
      obtain ⟨v, h1, h2⟩ := h
      refine ⟨_, fun w hw => ?_, h2⟩
      rw [key]
      simp [hag, h1 w hw]
    · rename_i ts hag hh
      split at h <;> try exact h.elim
      rename_i hl
      obtain ⟨vs, e1, e2, e3⟩ := ldSCells_ok _ _ _ h
      have hl' : vs.length = i.size := by rw [e1]; exact Nat.eq_of_beq_eq_true hl
      refine ⟨.agg vs.toArray, fun w hw => ?_, by simpa using e3⟩
      have := run_loadCells_list (P := P) w a vs (fun j v hj => by simpa using e2 w hw j v hj)
      rw [hl'] at this
      rw [key]
      simp [hag, this]
    · rename_i hag hh
      obtain ⟨cs, ⟨h1, h2⟩, h3⟩ := h
      refine ⟨.agg cs, fun w hw => ?_, h3⟩
      have := run_loadCells_list (P := P) w a cs.toList (fun j v hj => h2 w hw j v (by simpa using hj))
      simp only [Array.length_toList, h1] at this
      rw [key]
      simp [hag, this]
  · rename_i x hop
    split at h <;> try exact h.elim
    rename_i p hp
    obtain ⟨a, rfl, h2⟩ := h.out
    exact ⟨_, fun w _ => by simp only [execOp, hop, hp, Sem.run_pure], h2⟩
  · rename_i t x i hop
    split at h <;> try exact h.elim
    · rename_i a n c κ j el hx hi hu
      split at h <;> try exact h.elim
      rename_i inf hinf
      obtain ⟨p, h1, h2, h3⟩ := h
      refine ⟨_, fun w _ => ?_, h3⟩
      simp only [execOp, hop, Sem.run_bind, hx, hi, run_indexAt_sl w _ _ _ _ _ hu hinf h1 h2, Result.andThen_ok, Sem.run_pure]
    · rename_i p κ j n el hx hi hu
      split at h <;> try exact h.elim
      rename_i inf hinf
      obtain ⟨h2, h3⟩ := h
      refine ⟨_, fun w _ => ?_, h3⟩
      simp only [execOp, hop, Sem.run_bind, hx, hi, run_indexAt_arr w _ _ _ _ hu hinf h2, Result.andThen_ok, Sem.run_pure]
  · rename_i c x y hop
    split at h
    · rename_i b hb
      split at h <;> try exact h.elim
      rename_i yb hy
      split at h <;> try exact h.elim
      · exact ⟨_, fun w _ => by simp [execOp, hop, hy, asBool], h⟩
      · exact ⟨_, fun w _ => by simp [execOp, hop, hy, asBool], h⟩
    · split at h <;> try exact h.elim
      rename_i b p q h1 h2 h3
      refine ⟨_, fun w _ => ?_, h⟩
      simp only [execOp, hop, h1, h2, h3, asBool, Sem.run_bind, Sem.run_pure, Result.andThen_ok]
      cases b <;> rfl
  · rename_i op t x y yt hop
    rcases sBin_pure (P := P) (ox := x) (oy := y) (fun hn => isNilC_spec (n := rho e) hn (fun v hv => by subst hv; rfl)) h with ⟨v, h1, h2⟩ | hf
    · refine ⟨v, fun w _ => ?_, h2⟩
      have e1 : execOp (rho e) o = (do pure (Next.value (← (do eqGuard op t x y (rho e x) (rho e y); binOp op t (rho e x) (rho e y) : Sem Value))) : Sem Next) := by simp only [execOp, hop]
      rw [e1, Sem.run_bind, h1 w]; rfl
    · exact hf.elim
  · rename_i t ps hop
    split at h
    · obtain ⟨r, h1, h2⟩ := h
      refine ⟨_, fun w hw => ?_, h2⟩
      simp only [execOp, hop, Sem.run_bind]
      rw [h1 w hw]; rfl
    · split at h <;> try exact h.elim
      rename_i v hv
      exact ⟨v, fun w _ => peval_ok _ _ hv w, h⟩
  · rename_i t x f hop
    split at h
    · split at h <;> try exact h.elim
      rename_i v hv
      exact ⟨v, fun w _ => peval_ok _ _ hv w, h⟩
    · obtain ⟨r, h1, h2⟩ := h
      refine ⟨_, fun w hw => ?_, h2⟩
      simp only [execOp, hop, Sem.run_bind]
      rw [h1 w hw]; rfl
  · split at h <;> try exact h.elim
    rename_i v hv
    exact ⟨v, fun w _ => peval_ok _ _ hv w, h⟩

theorem firstTake_mem {ld : Bool} {ops : Array Oper} {listed : Array Bool} {i : Nat} : ∀ {l : List Nat}, firstTake ld ops listed l = some i → i ∈ l ∧ Region.free .any ops listed i = true
  | [], h => by cases h
  | j :: l, h => by
    unfold firstTake at h
    split at h
    · split at h
      · rename_i hf
        split at h
        · have := firstTake_mem h; exact ⟨by simp [this.1], this.2⟩
        · simp at h; subst h; exact ⟨by simp, hf⟩
      · have := firstTake_mem h; exact ⟨by simp [this.1], this.2⟩
    · have := firstTake_mem h; exact ⟨by simp [this.1], this.2⟩

theorem allOf_mem {f : Nat → Prop} : ∀ {l : List Nat}, allOf l f → ∀ i ∈ l, f i
  | [], _, i, hi => by cases hi
  | [j], h, i, hi => by simp at hi; subst hi; exact h
  | j :: k :: l, h, i, hi => by
    cases hi with
    | head => exact h.1
    | tail _ hi => exact allOf_mem h.2 i hi

theorem same_dst {ops : Array Oper} {all : List Nat} {o : Oper} (ho : o ∈ ops.toList) (hall : ∀ t, memN t all = false → memN t (dsts ops.toList) = false) {a₀ a : Act} (hS : Same all a₀ a) (v : Value) :
    Same all a₀ (a.put o.dst v) := by
  refine hS.trans fun t ht => ?_
  cases hd : o.dst with
  | none => simp [Act.put]
  | some d =>
    refine getD_put fun htd => ?_
    subst htd
    have h1 := hall t ht
    have : ∀ (l : List Oper), o ∈ l → memN t (dsts l) = false → False := by
      intro l
      induction l with
      | nil => intro hm; cases hm
      | cons o' l ih =>
        intro hm hmem
        rw [dsts_cons] at hmem
        cases hm with
        | head => rw [hd] at hmem; exact (memN_cons hmem).1 rfl
        | tail _ hm =>
          cases ho' : o'.dst with
          | none => rw [ho'] at hmem; exact ih hm hmem
          | some d' => rw [ho'] at hmem; exact ih hm (memN_cons hmem).2
    exact this _ ho h1

theorem semD_ok {ld : Bool} {n : Nat} {H : List (Nat × RTy)} {ops : Array Oper} {Q : Exit → Act → World → Prop} {S : World → Prop} {k : Env → World → Prop} {a₀ : Act} {all : List Nat}
    (hb : bltAll n (dsts ops.toList) = true) (hall : ∀ t, memN t all = false → memN t (dsts ops.toList) = false) (hns : Region.noSelect ops = true)
    (hQ : ∀ e' a' w', Ag n e' a' → Same all a₀ a' → k e' w' → Q .normal a' w') (hP : ∀ c a w, ¬ Q (.panic c) a w) :
    ∀ (fuel : Nat) (listed : Array Bool) (g : List (Nat × Bool)) (e : Env) (a : Act) (w : World), Ag n e a → Same all a₀ a → S w →
      semD P H ld ops S k fuel listed g e w → wpAnyH P .any ops Q S fuel listed a w := by
  intro fuel
  induction fuel with
  | zero =>
    intro listed g e a w hA hS hw h
    unfold semD at h
    split at h
    · rename_i hr; exact wpAnyH_done hr (hQ _ _ _ hA hS h) 0
    · exact h.elim
  | succ fuel ih =>
    intro listed g e a w hA hS hw h
    unfold semD at h
    split at h
    · rename_i hr; exact wpAnyH_done hr (hQ _ _ _ hA hS h) _
    rename_i i₀ l hr
    split at h
    · rename_i i hi
      obtain ⟨hmem, hfree⟩ := firstTake_mem hi
      split at h
      · exact h.elim
      rename_i o ho
      have hom : o ∈ ops.toList := by simpa using Array.mem_of_getElem? ho
      have hd : ∀ t, o.dst = some t → t < n := fun t ht => dsts_mem ht _ hb hom
      have hsel := fun cs b => Region.noSelect_spec hns i o cs b ho
      obtain ⟨g', e', hA', hh⟩ := semGuard_ok hA h
      rcases hh with ⟨hwt, hh⟩ | ⟨hwt, hh⟩
      · obtain ⟨hk, v, h1, h2⟩ := semTake_ok hh hsel
        refine wpAnyH_take (v := v) ho hns hfree (by rw [hr]; simpa using hmem) (fun c a w hq => (hP _ _ _ hq).elim) (.inl ⟨hwt, fun w hw => ?_⟩) hw ?_
        · rw [execOp_rho hA' hk hsel]; exact h1 w hw
        · exact ih _ _ _ _ _ (hA'.pushE hd v) (same_dst hom hall hS v) hw h2
      · exact wpAnyH_take (v := undef) ho hns hfree (by rw [hr]; simpa using hmem) (fun c a w hq => (hP _ _ _ hq).elim) (.inr ⟨hwt, rfl⟩) hw
          (ih _ _ _ _ _ (hA'.pushE hd _) (same_dst hom hall hS _) hw hh)
    · refine wpAnyH_all hr (by simp) fun i hi => ?_
      have hf := allOf_mem h i hi
      split at hf
      · exact hf.elim
      rename_i o ho
      have hom : o ∈ ops.toList := by simpa using Array.mem_of_getElem? ho
      have hd : ∀ t, o.dst = some t → t < n := fun t ht => dsts_mem ht _ hb hom
      obtain ⟨g', e', hA', hh⟩ := semGuard_ok hA hf
      unfold wpOp
      rw [ho]
      simp only []
      rcases hh with ⟨hwt, hh⟩ | ⟨hwt, hh⟩
      · rw [if_pos hwt]
        exact .inl (semOp_wp hA' hh fun v w' ⟨h1, h2⟩ => ⟨h1, ih _ _ _ _ _ (hA'.pushE hd v) (same_dst hom hall hS v) h1 h2⟩)
      · rw [if_neg (by simp [hwt])]
        exact ⟨hw, ih _ _ _ _ _ (hA'.pushE hd _) (same_dst hom hall hS _) hw hh⟩

end Go.Fk
