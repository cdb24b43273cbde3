/-
  A part of the proof: what the functions of the program come to, read off the model: no premise of its own, no axiom. By an AI agent.
-/
import Derived.Test.YtdhgbfbmcingoaaSem6
set_option linter.all false
set_option linter.unusedSimpArgs false
set_option linter.unusedVariables false
namespace Go.Fk
open Go

variable {P : Program}

theorem find_cons_eq {t : Nat} {v : Value} {e : Env} : find t ((t, v) :: e) = some v := by simp [find]
theorem find_cons_ne {s t : Nat} {v : Value} {e : Env} (h : t ≠ s) : find t ((s, v) :: e) = find t e := by simp [find, mem_beq h]

/-- What the list says of a slot, the frame says. -/
def Says (e : Env) (a : Act) : Prop := ∀ t v, find t e = some v → a.tmps.getD t undef = v

theorem Says.cons {e : Env} {a : Act} {s : Nat} {v : Value} (h : Says e a) (hv : a.tmps.getD s undef = v) : Says ((s, v) :: e) a := by
  intro t u hu
  by_cases hts : t = s
  · subst hts; rw [find_cons_eq] at hu; simp at hu; rw [hv, hu]
  · rw [find_cons_ne hts] at hu; exact h _ _ hu

theorem Says.embed {e₀ e : Env} {a : Act} {n : Nat} (hA : Ag n e a) (h₀ : Says e₀ a) : ∀ (l : List (Nat × RTy)) (s : LT l), decs l e = some s → Says (embed l s ++ e₀) a
  | [], s, _ => h₀
  | [x], s, h => by
    simp only [decs] at h
    split at h <;> try (cases h; done)
    rename_i v hv
    have := RTy.dec_sound _ _ _ h
    subst this
    exact h₀.cons (hA.get _ _ hv)
  | x :: y :: l, s, h => by
    simp only [decs] at h
    split at h <;> try (cases h; done)
    rename_i v hv
    split at h <;> try (cases h; done)
    rename_i u hu
    split at h <;> try (cases h; done)
    rename_i r hr
    simp at h
    subst h
    have := RTy.dec_sound _ _ _ hu
    subst this
    exact (Says.embed hA h₀ (y :: l) r hr).cons (hA.get _ _ hv)

theorem Says.restrict {e : Env} {n : Nat} {a a' : Act} {ws : List Nat} (hA : Ag n e a) (hS : Same ws a a') : ∀ (keep : List Nat), keepOk ws keep = true → Says (restrict keep e) a'
  | [], _ => fun t v h => by cases h
  | t :: l, h => by
    simp only [keepOk] at h
    split at h
    · cases h
    rename_i ht
    have ih := Says.restrict hA hS l h
    unfold Go.Fk.restrict
    split
    · rename_i v hv
      exact ih.cons (by rw [hS t ht]; exact hA.get _ _ hv)
    · exact ih

theorem Ag.rest {n : Nat} {e e' : Env} {a a' : Act} {ws keep : List Nat} {l : List (Nat × RTy)} {s : LT l} (hA : Ag n e a) (hA' : Ag n e' a') (hS : Same ws a a') (hk : keepOk ws keep = true)
    (hd : decs l e' = some s) : Ag n (embed l s ++ restrict keep e) a' :=
  ⟨hA'.size, hA'.defers, Says.embed hA' (Says.restrict hA hS keep hk) l s hd⟩

/-- What is shown behind a statement. -/
def Post (n : Nat) (ws : List Nat) (a₀ : Act) (kn : Env → World → Prop) (kx : List (Nat × (Env → World → Prop))) (kr : Env → World → Prop) : Exit → Act → World → Prop
  | .normal, a, w => Same ws a₀ a ∧ ∃ e, Ag n e a ∧ kn e w
  | .exit id, a, w => Same ws a₀ a ∧ ∃ e, Ag n e a ∧ exitK id e w kx
  | .ret, a, w => ∃ e, Ag n e a ∧ kr e w
  | _, _, _ => False

theorem Post.mono {n : Nat} {ws ws' : List Nat} {a₀ a₁ : Act} {kn kn' : Env → World → Prop} {kx : List (Nat × (Env → World → Prop))} {kr : Env → World → Prop}
    (hS : ∀ a, Same ws a₀ a → Same ws' a₁ a) (hn : ∀ e a w, Ag n e a → Same ws a₀ a → kn e w → ∃ e', Ag n e' a ∧ kn' e' w) : ∀ (ex : Exit) (a : Act) (w : World), Post n ws a₀ kn kx kr ex a w → Post n ws' a₁ kn' kx kr ex a w := by
  intro ex a w h
  cases ex <;> simp only [Post] at h ⊢
  · obtain ⟨h1, e, h2, h3⟩ := h; exact ⟨hS _ h1, hn _ _ _ h2 h1 h3⟩
  · exact ⟨hS _ h.1, h.2⟩
  · exact h

def LoopAt (P : Program) (c : Code) (Q : Exit → Act → World → Prop) (a : Act) (w : World) : Prop :=
  ∀ (b : Frame) (k : List Item) (cs : List Frame), ∃ e a' w', Q e a' w' ∧ Arrives P (lone (b.at a (.code c :: .inLoop c :: k)) cs w) b k cs e a' w'

theorem loopAt_step {c : Code} {Q : Exit → Act → World → Prop} {a : Act} {w : World} (h : c.wp P (Exit.then (LoopAt P c Q) Q) a w) : LoopAt P c Q a w := by
  intro b k cs
  obtain ⟨e, a₁, w₁, hq, harr⟩ := h b (.inLoop c :: k) cs
  cases e with
  | normal =>
    obtain ⟨e₂, a₂, w₂, hq₂, harr₂⟩ := hq b k cs
    exact ⟨e₂, a₂, w₂, hq₂, .of_steps (Steps.trans harr (.one step_inLoop)) harr₂⟩
  | exit id => exact ⟨_, a₁, w₁, hq, .pass (x := .inLoop c) rfl (fun _ _ => .inl (by simp)) harr⟩
  | goto l => exact ⟨_, a₁, w₁, hq, .pass (x := .inLoop c) rfl (fun _ _ => .inl (by simp)) harr⟩
  | ret => exact ⟨_, a₁, w₁, hq, .pass (x := .inLoop c) rfl (fun _ _ => .inl (by simp)) harr⟩
  | panic ch => exact ⟨_, a₁, w₁, hq, .pass (x := .inLoop c) rfl (fun _ _ => .inl (by simp)) harr⟩
  | outgrown => exact ⟨_, a₁, w₁, hq, .pass (x := .inLoop c) rfl (fun _ _ => .inl (by simp)) harr⟩

theorem wp_of_loopAt {c : Code} {Q : Exit → Act → World → Prop} {a : Act} {w : World} (h : LoopAt P c Q a w) : (Code.loop c).wp P Q a w := by
  intro b k cs
  obtain ⟨e, a', w', hq, harr⟩ := h b k cs
  exact ⟨e, a', w', hq, .of_steps (.one step_loop) harr⟩

theorem semReg_ok {ld : Bool} {n : Nat} {H : List (Nat × RTy)} {id : Nat} {ops : Array Oper} {d : Bool} {e : Env} {a : Act} {w : World} {k : Env → World → Prop} {kx : List (Nat × (Env → World → Prop))} {kr : Env → World → Prop}
    (hm : P.follows .mixedOrders = true) (hok : codeOk n (.region id ops d) = true) (hA : Ag n e a) (h : semReg P H ld ops d e k w) :
    (Code.region id ops d).wp P (Post n (dsts ops.toList) a k kx kr) a w := by
  simp only [codeOk] at hok
  split at hok <;> try (cases hok; done)
  rename_i hb
  unfold semReg at h
  split at h
  · exact wp_region_list (semOps_ok (all := dsts ops.toList) _ _ _ _ _ hb (fun _ h => h) hA (Same.refl _ _) (fun e' a' w' h1 h2 h3 => ⟨h2, e', h1, h3⟩) h)
  · split at h
    case h_2 =>
      exact wp_region_held_drew (S := fun _ => True) hm trivial fun h1 => semD_ok (all := dsts ops.toList) (a₀ := a) hb (fun _ h => h) hok (fun e' a' w' h1 h2 h3 => ⟨h2, e', h1, h3⟩) (fun _ _ _ h => h) _ _ _ _ _ _ hA (Same.refl _ _) trivial h
    obtain ⟨S, h1, h2⟩ := h
    exact wp_region_held_drew (S := S) hm h1 fun h1 => semD_ok (all := dsts ops.toList) (a₀ := a) hb (fun _ h => h) hok (fun e' a' w' h1 h2 h3 => ⟨h2, e', h1, h3⟩) (fun _ _ _ h => h) _ _ _ _ _ _ hA (Same.refl _ _) h1 h2

theorem sem_ok {n : Nat} {H : List (Nat × RTy)} (hm : P.follows .mixedOrders = true) : ∀ (c : Code) (ann : Ann) (e : Env) (kn : Env → World → Prop) (kx : List (Nat × (Env → World → Prop))) (kr : Env → World → Prop) (a : Act) (w : World),
    codeOk n c = true → Ag n e a → sem P H c ann e kn kx kr w → c.wp P (Post n (asg c) a kn kx kr) a w := by
  intro c
  induction c with
  | skip => intro ann e kn kx kr a w hok hA h; exact wp_skip ⟨Same.refl _ _, e, hA, h⟩
  | region id ops d =>
    intro ann e kn kx kr a w hok hA h
    unfold sem at h
    split at h
    · rename_i live keep x y
      split at h <;> try exact h.elim
      rename_i hk
      refine Code.wp_mono (Post.mono (fun _ h => h) fun e' a' w' h1 h2 h3 => ?_) (semReg_ok hm hok hA h)
      unfold jump at h3
      split at h3 <;> try exact h3.elim
      rename_i s hs
      exact ⟨_, hA.rest h1 h2 hk hs, h3⟩
    · exact semReg_ok hm hok hA h
    · exact semReg_ok hm hok hA h
  | seq x y ihx ihy =>
    intro ann e kn kx kr a w hok hA h
    simp only [codeOk] at hok
    split at hok <;> try (cases hok; done)
    rename_i hx
    unfold sem at h
    have fin : ∀ (kn' : Env → World → Prop) (annx : Ann), sem P H x annx e kn' kx kr w →
        (∀ e' a' w', Ag n e' a' → Same (asg x) a a' → kn' e' w' → y.wp P (Post n (asg x ++ asg y) a kn kx kr) a' w') → (Code.seq x y).wp P (Post n (asg (.seq x y)) a kn kx kr) a w := by
      intro kn' annx h1 h2
      refine wp_seq (Code.wp_mono (fun ex a' w' hp => ?_) (ihx annx e kn' kx kr a w hx hA h1))
      cases ex <;> simp only [Exit.then, Post] at hp ⊢
      · obtain ⟨hS, e', hA', hk⟩ := hp
        exact h2 e' a' w' hA' hS hk
      · exact ⟨Same.left hp.1, hp.2⟩
      · exact hp
    split at h
    · rename_i ax ay
      refine fin _ ax h fun e' a' w' hA' hS hk => ?_
      exact Code.wp_mono (Post.mono (fun _ h => (Same.left hS).trans (Same.right h)) fun _ _ _ h1 _ h3 => ⟨_, h1, h3⟩) (ihy ay e' kn kx kr a' w' hok hA' hk)
    · rename_i live keep ax ay
      split at h <;> try exact h.elim
      rename_i hk
      refine fin _ ax h fun e' a' w' hA' hS hj => ?_
      unfold jump at hj
      split at hj <;> try exact hj.elim
      rename_i s hs
      exact Code.wp_mono (Post.mono (fun _ h => (Same.left hS).trans (Same.right h)) fun _ _ _ h1 _ h3 => ⟨_, h1, h3⟩) (ihy ay _ kn kx kr a' w' hok (hA.rest hA' hS hk hs) hj)
    · refine fin _ .z h fun e' a' w' hA' hS hk => ?_
      exact Code.wp_mono (Post.mono (fun _ h => (Same.left hS).trans (Same.right h)) fun _ _ _ h1 _ h3 => ⟨_, h1, h3⟩) (ihy .z e' kn kx kr a' w' hok hA' hk)
  | cond v x y ihx ihy =>
    intro ann e kn kx kr a w hok hA h
    simp only [codeOk] at hok
    split at hok <;> try (cases hok; done)
    rename_i hx
    unfold sem at h
    split at h <;> try exact h.elim
    rename_i b hv
    have fin : ∀ (ax ay : Ann), Br b (sem P H x ax e kn kx kr w) (sem P H y ay e kn kx kr w) → (Code.cond v x y).wp P (Post n (asg (.cond v x y)) a kn kx kr) a w := by
      intro ax ay hbr
      obtain ⟨h1, h2⟩ := hbr.out
      refine wp_cond (ev_sound hA hv) ?_
      cases b with
      | true => exact Code.wp_mono (Post.mono (fun _ h => Same.left h) fun _ _ _ h1 _ h3 => ⟨_, h1, h3⟩) (ihx ax e kn kx kr a w hx hA (h1 rfl))
      | false => exact Code.wp_mono (Post.mono (fun _ h => Same.right h) fun _ _ _ h1 _ h3 => ⟨_, h1, h3⟩) (ihy ay e kn kx kr a w hok hA (h2 rfl))
    split at h
    · exact fin _ _ h
    · exact fin _ _ h
  | block id b ih =>
    intro ann e kn kx kr a w hok hA h
    unfold sem at h
    refine wp_block (Code.wp_mono (fun ex a' w' hp => ?_) (ih ann e kn _ kr a w hok hA h))
    cases ex <;> simp only [Exit.inBlock, Post] at hp ⊢
    · exact hp
    · rename_i id'
      obtain ⟨hS, e', hA', hk⟩ := hp
      simp only [exitK] at hk
      by_cases hid : id' = id
      · subst hid
        rw [if_pos rfl]
        exact ⟨hS, e', hA', by simpa using hk⟩
      · rw [if_neg hid]
        exact ⟨hS, e', hA', by simpa [mem_beq hid] using hk⟩
    · exact hp
  | loop b ih =>
    intro ann e kn kx kr a w hok hA h
    unfold sem at h
    split at h <;> try exact h.elim
    rename_i live keep ax
    split at h <;> try exact h.elim
    rename_i hk
    split at h <;> try exact h.elim
    rename_i s₀ hs₀
    refine wp_of_loopAt ?_
    have := h (fun s w' => ∀ a', Same (asg b) a a' → Ag n (embed live s ++ restrict keep e) a' → LoopAt P b (Post n (asg b) a kn kx kr) a' w') fun s w' hF a' hS hA' => ?_
    · exact this a (Same.refl _ _) (hA.rest hA (Same.refl _ _) hk hs₀)
    · refine loopAt_step (Code.wp_mono (fun ex a'' w'' hp => ?_) (ih ax _ _ kx kr a' w' hok hA' hF))
      cases ex <;> simp only [Exit.then, Post] at hp ⊢
      · obtain ⟨hS', e', hA'', hj⟩ := hp
        unfold jump at hj
        split at hj <;> try exact hj.elim
        rename_i s hs
        exact hj a'' (hS.trans hS') (hA.rest hA'' (hS.trans hS') hk hs)
      · exact ⟨hS.trans hp.1, hp.2⟩
      · exact hp
  | exit id => intro ann e kn kx kr a w hok hA h; exact wp_exit ⟨Same.refl _ _, e, hA, h⟩
  | ret => intro ann e kn kx kr a w hok hA h; exact wp_ret ⟨e, hA, h⟩
  | rangeFunc f ps x y => intro ann e kn kx kr a w hok hA h; cases hok
  | scope b ih => intro ann e kn kx kr a w hok hA h; cases hok
  | label l => intro ann e kn kx kr a w hok hA h; cases hok
  | goto l => intro ann e kn kx kr a w hok hA h; cases hok
  | refuse l => intro ann e kn kx kr a w hok hA h; cases hok

end Go.Fk
