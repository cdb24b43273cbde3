/-
  A part of the proof: what the functions of the program come to, read off the model: no premise of its own, no axiom. By an AI agent.
-/
import Derived.Test.YtdhgbfbmcingoaaSem4
import Derived.Tactics
set_option linter.all false
set_option linter.unusedSimpArgs false
set_option linter.unusedVariables false
namespace Go.Fk
open Go

variable {P : Program}

theorem mem_beq {t s : Nat} (h : t ≠ s) : Nat.beq s t = false := by
  cases hb : Nat.beq s t with
  | false => rfl
  | true => exact absurd (Nat.eq_of_beq_eq_true hb).symm h

theorem memN_cons {t s : Nat} {l : List Nat} (h : memN t (s :: l) = false) : t ≠ s ∧ memN t l = false := by
  simp only [memN] at h
  cases hb : Nat.beq s t with
  | true => simp [hb] at h
  | false => exact ⟨fun he => by subst he; simp at hb, by simpa [hb] using h⟩

theorem memN_append {t : Nat} : ∀ {l r : List Nat}, memN t (l ++ r) = false → memN t l = false ∧ memN t r = false
  | [], r, h => ⟨rfl, h⟩
  | s :: l, r, h => by
    obtain ⟨h1, h2⟩ := memN_cons h
    obtain ⟨h3, h4⟩ := memN_append h2
    exact ⟨by simp [memN, mem_beq h1, h3], h4⟩

def Same (l : List Nat) (a a' : Act) : Prop := ∀ t, memN t l = false → a'.tmps.getD t undef = a.tmps.getD t undef

theorem Same.refl (l : List Nat) (a : Act) : Same l a a := fun _ _ => rfl
theorem Same.trans {l : List Nat} {a b c : Act} (h : Same l a b) (h' : Same l b c) : Same l a c := fun t ht => (h' t ht).trans (h t ht)
theorem Same.left {l r : List Nat} {a b : Act} (h : Same l a b) : Same (l ++ r) a b := fun t ht => h t (memN_append ht).1
theorem Same.right {l r : List Nat} {a b : Act} (h : Same r a b) : Same (l ++ r) a b := fun t ht => h t (memN_append ht).2

theorem getD_put {a : Act} {d t : Nat} {v : Value} (h : t ≠ d) : (a.put (some d) v).tmps.getD t undef = a.tmps.getD t undef := by
  simp only [Act.put, Array.getD_eq_getD_getElem?]
  rw [Array.getElem?_setIfInBounds_ne (Ne.symm h)]

theorem Same.put {o : Oper} {l : List Oper} {a : Act} (v : Value) : Same (dsts (o :: l)) a (a.put o.dst v) := by
  intro t ht
  cases ho : o.dst with
  | none => simp [Act.put]
  | some d =>
    simp only [dsts, ho] at ht
    exact getD_put (memN_cons ht).1

theorem bltAll_cons {n t : Nat} {l : List Nat} (h : bltAll n (t :: l) = true) : t < n ∧ bltAll n l = true := by
  simp only [bltAll] at h
  cases hb : Nat.blt t n with
  | true => exact ⟨by simpa using hb, by simpa [hb] using h⟩
  | false => simp [hb] at h

theorem dsts_cons (o : Oper) (l : List Oper) : dsts (o :: l) = match o.dst with | some d => d :: dsts l | none => dsts l := rfl

theorem dsts_mem {n : Nat} {o : Oper} {d : Nat} (hd : o.dst = some d) (l : List Oper) : bltAll n (dsts l) = true → o ∈ l → d < n := by
  induction l with
  | nil => intro _ hm; cases hm
  | cons o' l ih =>
    intro h hm
    rw [dsts_cons] at h
    cases hm with
    | head => rw [hd] at h; exact (bltAll_cons h).1
    | tail _ hm =>
      cases ho : o'.dst with
      | none => rw [ho] at h; exact ih h hm
      | some d' => rw [ho] at h; exact ih (bltAll_cons h).2 hm

theorem Ag.pushE {n : Nat} {e : Env} {a : Act} (h : Ag n e a) {d : Option Nat} (hd : ∀ t, d = some t → t < n) (v : Value) : Ag n (pushE d v e) (a.put d v) := by
  cases d with
  | none => exact h
  | some t => exact h.put (hd t rfl)

theorem upon_of_good {o : Oper} {a : Act} {k : Value → World → Prop} {next : Act → World → Prop} {Q : Exit → Act → World → Prop} {r : Result Next}
    (h : Good P k r) (hk : ∀ v w, k v w → next (a.put o.dst v) w) : o.upon P a next Q r := by
  unfold Good at h
  split at h
  · exact hk _ _ h
  · exact hk _ _ h
  · rw [Oper.upon_enter]
    exact h.mono fun e w'' ⟨v, h1, h2⟩ => by subst h1; exact hk _ _ h2
  · exact h.elim

/-- One operation that is carried out. -/
theorem semOp_wp {n : Nat} {H : List (Nat × RTy)} {g : List (Nat × Bool)} {o : Oper} {e : Env} {a : Act} {w : World} {k : Value → World → Prop} {next : Act → World → Prop} {Q : Exit → Act → World → Prop}
    (hA : Ag n e a) (h : semOp P H g o e k w) (hk : ∀ v w, k v w → next (a.put o.dst v) w) : o.wp P a w next Q := by
  obtain ⟨h1, h2, h3⟩ := semOp_ok h
  unfold Oper.wp
  rw [execOp_rho hA h1 h2]
  exact upon_of_good (P := P) h3 hk

theorem yielded_find {n : Nat} {ops : Array Oper} {e : Env} {a : Act} (hA : Ag n e a) {j t : Nat} {b : Bool} (hj : (ops[j]?).bind (·.dst) = some t) (hf : find t e = some (.bool b)) :
    yielded ops a.tmps j = some b := by
  have h1 := hA.get _ _ hf
  unfold yielded
  rw [hj]
  simp only [Option.bind_some]
  rw [Array.getD_eq_getD_getElem?] at h1
  cases ht : a.tmps[t]? with
  | none => simp [ht, undef] at h1
  | some v => simp [ht] at h1; simp [h1]

theorem yielded_undef {n : Nat} {ops : Array Oper} {e : Env} {a : Act} (hA : Ag n e a) {j t : Nat} {vs : Array Value} (hj : (ops[j]?).bind (·.dst) = some t) (hf : find t e = some (.tuple vs)) :
    yielded ops a.tmps j = none := by
  have h1 := hA.get _ _ hf
  unfold yielded
  rw [hj]
  simp only [Option.bind_some]
  rw [Array.getD_eq_getD_getElem?] at h1
  cases ht : a.tmps[t]? with
  | none => simp
  | some v => simp [ht] at h1; simp [h1]

/-- The guard of an operation, read. -/
theorem semGuard_ok {n : Nat} {ops : Array Oper} {o : Oper} {g : List (Nat × Bool)} {e : Env} {a : Act} {yes no : List (Nat × Bool) → Env → Prop} (hA : Ag n e a)
    (h : semGuard ops o g e yes no) : ∃ g' e', Ag n e' a ∧ ((Region.wanted o (yielded ops a.tmps) = true ∧ yes g' e') ∨ (Region.wanted o (yielded ops a.tmps) = false ∧ no g' e')) := by
  unfold semGuard at h
  split at h
  · rename_i hg
    exact ⟨g, e, hA, .inl ⟨by simp [Region.wanted, hg], h⟩⟩
  rename_i j b hg
  split at h
  · exact h.elim
  rename_i t hj
  split at h
  · rename_i c hc
    split at h <;> try exact h.elim
    rename_i y hy
    have hyd := yielded_find hA hj hy
    split at h <;> try exact h.elim
    · exact ⟨g, e, hA, .inl ⟨by simp [Region.wanted, hg, hyd], h⟩⟩
    · exact ⟨g, e, hA, .inr ⟨by simp [Region.wanted, hg, hyd], h⟩⟩
    · exact ⟨g, e, hA, .inl ⟨by simp [Region.wanted, hg, hyd], h⟩⟩
    · exact ⟨g, e, hA, .inr ⟨by simp [Region.wanted, hg, hyd], h⟩⟩
  · split at h <;> try exact h.elim
    · rename_i vs hy
      exact ⟨g, e, hA, .inr ⟨by simp [Region.wanted, hg, yielded_undef hA hj hy], h⟩⟩
    rename_i y hy
    have hyd := yielded_find hA hj hy
    have hv := hA.get _ _ hy
    split at h
    · obtain ⟨h1, h2⟩ := h.out
      cases y with
      | true => exact ⟨_, _, hA.cons_same hv, .inl ⟨by simp [Region.wanted, hg, hyd], h1 rfl⟩⟩
      | false => exact ⟨_, _, hA.cons_same hv, .inr ⟨by simp [Region.wanted, hg, hyd], h2 rfl⟩⟩
    · obtain ⟨h1, h2⟩ := h.out
      cases y with
      | true => exact ⟨_, _, hA.cons_same hv, .inr ⟨by simp [Region.wanted, hg, hyd], h1 rfl⟩⟩
      | false => exact ⟨_, _, hA.cons_same hv, .inl ⟨by simp [Region.wanted, hg, hyd], h2 rfl⟩⟩

theorem semOps_guard {H : List (Nat × RTy)} {ops : Array Oper} {o : Oper} {rest : List Oper} {g : List (Nat × Bool)} {e : Env} {k : Env → World → Prop} {w : World}
    (h : semOps P H ops (o :: rest) g e k w) : semGuard ops o g e (fun g e => semOp P H g o e (fun v w' => semOps P H ops rest g (pushE o.dst v e) k w') w)
      (fun g e => semOps P H ops rest g (pushE o.dst undef e) k w) := by
  unfold semOps at h
  unfold semGuard
  split at h
  · exact h
  rename_i j b hg
  try simp only [hg]
  split at h
  · exact h.elim
  rename_i t ht
  try simp only [ht]
  split at h
  · rename_i c hc
    try simp only [hc]
    split at h <;> try exact h.elim
    rename_i y hy
    try simp only [hy]
    split at h <;> first | exact h | exact h.elim
  · rename_i hc
    try simp only [hc]
    split at h <;> try exact h.elim
    · exact h
    rename_i y hy
    try simp only [hy]
    split at h
    · exact h
    · exact h

theorem semOps_ok {n : Nat} {H : List (Nat × RTy)} {ops : Array Oper} {Q : Exit → Act → World → Prop} {k : Env → World → Prop} {a₀ : Act} {all : List Nat} :
    ∀ (l : List Oper) (g : List (Nat × Bool)) (e : Env) (a : Act) (w : World), bltAll n (dsts l) = true → (∀ t, memN t all = false → memN t (dsts l) = false) → Ag n e a → Same all a₀ a →
      (∀ e' a' w', Ag n e' a' → Same all a₀ a' → k e' w' → Q .normal a' w') → semOps P H ops l g e k w → wpList P ops Q l a w
  | [], g, e, a, w, hb, hall, hA, hS, hQ, h => hQ _ _ _ hA hS h
  | o :: l, g, e, a, w, hb, hall, hA, hS, hQ, h => by
    obtain ⟨g', e', hA', hh⟩ := semGuard_ok hA (semOps_guard h)
    have hd : ∀ t, o.dst = some t → t < n := fun t ht => dsts_mem ht _ hb (by simp)
    have hb' : bltAll n (dsts l) = true := by
      cases ho : o.dst with
      | none => rw [dsts_cons, ho] at hb; exact hb
      | some d => rw [dsts_cons, ho] at hb; exact (bltAll_cons hb).2
    have hall' : ∀ t, memN t all = false → memN t (dsts l) = false := fun t ht => by
      have := hall t ht
      cases ho : o.dst with
      | none => rw [dsts_cons, ho] at this; exact this
      | some d => rw [dsts_cons, ho] at this; exact (memN_cons this).2
    have hput : ∀ v, Same all a₀ (a.put o.dst v) := fun v => hS.trans fun t ht => Same.put (l := l) v t (hall t ht)
    unfold wpList
    rcases hh with ⟨hw, hh⟩ | ⟨hw, hh⟩
    · rw [if_pos hw]
      exact .inl (semOp_wp hA' hh fun v w' h' => semOps_ok l _ _ _ _ hb' hall' (hA'.pushE hd v) (hput v) hQ h')
    · rw [if_neg (by simp [hw])]
      exact semOps_ok l _ _ _ _ hb' hall' (hA'.pushE hd _) (hput _) hQ hh

end Go.Fk
