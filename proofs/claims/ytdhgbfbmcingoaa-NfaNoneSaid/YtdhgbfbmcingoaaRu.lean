/-
  A part of the proof: what the functions of the program come to, read off the model: no premise of its own, no axiom. By an AI agent.
-/
import Derived.Test.YtdhgbfbmcingoaaRt
set_option linter.all false
set_option linter.unusedVariables false
set_option linter.unusedSimpArgs false
namespace Go.Fk
open Go

/-! ## The recursive part of the parser: what it does to its state -/

structure FR (n : Nat) (st : PS) (r : Re × PS) : Prop where
  le : st.at_ ≤ n → r.2.at_ ≤ n
  go : r.2.bad = false → st.bad = false ∧ st.at_ < r.2.at_ ∧ r.2.deep = st.deep ∧ r.1.size + 1 ≤ 500 * (r.2.at_ - st.at_)
  ge : st.deep ≤ r.2.deep
  ub : st.deep ≤ 51 → r.2.deep ≤ 51

structure OR (n : Nat) (st : PS) (r : Re × PS) : Prop where
  le : st.at_ ≤ n → r.2.at_ ≤ n
  go : r.2.bad = false → st.bad = false ∧ st.at_ ≤ r.2.at_ ∧ r.2.deep = st.deep ∧ r.1.size ≤ 500 * (r.2.at_ - st.at_) + 1
  ge : st.deep ≤ r.2.deep
  ub : st.deep ≤ 51 → r.2.deep ≤ 51

theorem FR.of_lex {n : Nat} {st st' : PS} {f : Nat → Bool} (h : Lex n st st') : FR n st (.set f, st') := by
  refine ⟨h.le, fun e => ?_, Nat.le_of_eq h.deep.symm, fun e => by rw [h.deep]; exact e⟩
  have := h.go e
  exact ⟨this.1, this.2, h.deep, by simp only [Re.size]; omega⟩

theorem FR.bad {n : Nat} {st st' : PS} {x : Re} (hl : st.at_ ≤ n → st'.at_ ≤ n) (hg : st.deep ≤ st'.deep) (hu : st.deep ≤ 51 → st'.deep ≤ 51) (hb : st'.bad = true) : FR n st (x, st') :=
  ⟨hl, (fun e => by simp only [hb] at e; cases e), hg, hu⟩

theorem classLoop_lex (s : List UInt8) : ∀ (n : Nat) (f : Nat → Bool) (st : PS), Lex0 s.length st (classLoop s n f st).2
  | 0, f, st => Lex0.refl
  | n + 1, f, st => by
    unfold classLoop
    split
    · exact Lex0.refl
    · dsimp only
      split
      · exact isB_lex _ _ _
      · exact ((isB_lex s 93 st).trans (spanF_lex s f _).weak).trans (classLoop_lex s n _ _)

theorem classF_lex (s : List UInt8) (st : PS) : Lex s.length st (classF s st).2 := by
  unfold classF
  exact ((isB_lex s 94 st).then (spanF_lex s _ _)).then (classLoop_lex s _ _ _)

theorem atomF_fr {s : List UInt8} {g : PS → Re × PS} (hg : ∀ st, st.deep ≤ 50 → OR s.length st (g st)) (st : PS) (hd : st.deep ≤ 50) : FR s.length st (atomF s g st) := by
  unfold atomF
  dsimp only
  have ha := isB_lex s 40 st
  split
  · rename_i hat
    have ha1 := isB_true hat
    generalize isB s 40 st = a at *
    split
    · exact FR.bad ha1.le (by dsimp only; rw [ha1.deep]; omega) (fun e => by dsimp only; rw [ha1.deep]; omega) rfl
    · rename_i hle50
      have ho := hg { a.2 with deep := a.2.deep + 1 } (by dsimp only at hle50 ⊢; omega)
      generalize g { a.2 with deep := a.2.deep + 1 } = n at *
      have hle : st.at_ ≤ s.length → n.2.at_ ≤ s.length := fun e => ho.le (ha1.le e)
      have hge := ho.ge
      have hub := ho.ub
      simp only [ha1.deep] at hge hub
      split
      · rename_i hb
        exact FR.bad hle (by dsimp only; omega) (fun e => by have := hub (by omega); dsimp only; omega) hb
      · rename_i hb
        have hb : n.2.bad = false := by simpa using hb
        have hgo := ho.go hb
        simp only [ha1.deep] at hgo
        have hc := isB_lex s 41 n.2
        split
        · rename_i hct
          have hc1 := isB_true hct
          generalize isB s 41 n.2 = c at *
          refine ⟨fun e => hc1.le (hle e), fun e => ?_, by dsimp only; rw [hc1.deep]; omega, fun e => by dsimp only; rw [hc1.deep]; omega⟩
          have h1 := hc1.go e
          have h2 := ha1.go (hgo.1)
          dsimp only
          exact ⟨h2.1, by omega, by rw [hc1.deep]; omega, by omega⟩
        · generalize isB s 41 n.2 = c at *
          exact FR.bad (fun e => hc.le (hle e)) (by show _ ≤ c.2.deep; rw [hc.deep]; omega) (fun e => by show c.2.deep ≤ _; rw [hc.deep]; omega) rfl
  · generalize isB s 40 st = a at *
    have hd2 := isB_lex s 46 a.2
    split
    · rename_i h
      exact FR.of_lex (ha.then (isB_true h))
    · have hb := isB_lex s 91 (isB s 46 a.2).2
      split
      · have h1 := (((ha.trans hd2).trans hb).then (classF_lex s (isB s 91 (isB s 46 a.2).2).2))
        unfold classF at h1 ⊢
        exact FR.of_lex h1
      · exact FR.of_lex ((((ha.trans hd2).trans hb).then (letterF_lex s specialOut _)))

theorem factorLoop_fr {s : List UInt8} {st₀ : PS} : ∀ (k : Nat) (x : Re) (st : PS), FR s.length st₀ (x, st) → FR s.length st₀ (factorLoop s k x st)
  | 0, x, st, h => h
  | k + 1, x, st, h => by
    have ext : ∀ (b : UInt8) (st1 : PS), Lex0 s.length st st1 → ∀ y : Re, (isB s b st1).1 = true → FR s.length st₀ (if 400 < y.size then (Re.empty, { (isB s b st1).2 with long := true, bad := true }) else factorLoop s k y (isB s b st1).2) := by
      intro b st1 hl y hb
      have h1 := hl.then (isB_true hb)
      generalize isB s b st1 = a at *
      have hge : st₀.deep ≤ a.2.deep := by rw [h1.deep]; exact h.ge
      have hub : st₀.deep ≤ 51 → a.2.deep ≤ 51 := fun e => by rw [h1.deep]; exact h.ub e
      split
      · exact FR.bad (fun e => h1.le (h.le e)) hge hub rfl
      · rename_i hsz
        refine factorLoop_fr k y a.2 ⟨fun e => h1.le (h.le e), fun e => ?_, hge, hub⟩
        have h2 := h1.go e
        have h3 := h.go h2.1
        dsimp only at h3 ⊢
        exact ⟨h3.1, by omega, by rw [h1.deep]; exact h3.2.2.1, by omega⟩
    unfold factorLoop
    split
    · exact h
    · dsimp only
      split
      · rename_i hb; exact ext 42 st Lex0.refl _ hb
      split
      · rename_i hb; exact ext 43 _ (isB_lex s 42 st) _ hb
      split
      · rename_i hb; exact ext 63 _ ((isB_lex s 42 st).trans (isB_lex s 43 _)) _ hb
      · have h1 := ((isB_lex s 42 st).trans (isB_lex s 43 _)).trans (isB_lex s 63 (isB s 43 (isB s 42 st).2).2)
        refine ⟨fun e => h1.le (h.le e), fun e => ?_, by dsimp only; rw [h1.deep]; exact h.ge, fun e => by dsimp only; rw [h1.deep]; exact h.ub e⟩
        have h2 := h1.go e
        have h3 := h.go h2.1
        dsimp only at h3 ⊢
        exact ⟨h3.1, by omega, by rw [h1.deep]; exact h3.2.2.1, by omega⟩

theorem factorF_fr {s : List UInt8} {g : PS → Re × PS} (hg : ∀ st, st.deep ≤ 50 → OR s.length st (g st)) (st : PS) (hd : st.deep ≤ 50) : FR s.length st (factorF s g st) := by
  unfold factorF
  exact factorLoop_fr _ _ _ (atomF_fr hg st hd)

theorem twoOf_size {f : Re → Re → Re} {x : Re} (hf : ∀ a b, (f a b).size = 1 + a.size + b.size) : ∀ (l : List Re), l ≠ [] → (twoOf f x l).size + 1 = (l.map Re.size).sum + l.length
  | [], h => absurd rfl h
  | [a], _ => by simp [twoOf]
  | a :: b :: l, _ => by
    have ih := twoOf_size (x := x) hf (b :: l) (by simp)
    simp only [twoOf, hf, List.map_cons, List.sum_cons, List.length_cons] at ih ⊢
    omega

structure CL (n : Nat) (st : PS) (add : Nat) (r : List Re × PS) : Prop where
  le : st.at_ ≤ n → r.2.at_ ≤ n
  go : r.2.bad = false → st.bad = false ∧ st.at_ ≤ r.2.at_ ∧ r.2.deep = st.deep ∧ (r.1.map Re.size).sum + r.1.length ≤ 500 * (r.2.at_ - st.at_) + add
  ge : st.deep ≤ r.2.deep
  ub : st.deep ≤ 51 → r.2.deep ≤ 51

theorem catLoop_cl {s : List UInt8} {g : PS → Re × PS} (hg : ∀ st, st.deep ≤ 50 → OR s.length st (g st)) {st₀ : PS} (hd : st₀.deep ≤ 50) : ∀ (k : Nat) (l : List Re) (st : PS), CL s.length st₀ 0 (l, st) → CL s.length st₀ 0 (catLoop s g k l st)
  | 0, l, st, h => h
  | k + 1, l, st, h => by
    unfold catLoop
    split
    · exact h
    rename_i hb
    have hb : st.bad = false := by simpa using hb
    split
    · exact h
    split
    · exact h
    · dsimp only
      have h0 := h.go hb
      dsimp only at h0
      have hf := factorF_fr hg st (by omega)
      generalize factorF s g st = f at *
      refine catLoop_cl hg hd k _ _ ⟨fun e => hf.le (h.le e), fun e => ?_, Nat.le_trans h.ge hf.ge, fun e => hf.ub (h.ub e)⟩
      have h1 := hf.go e
      dsimp only at h1 ⊢
      refine ⟨h0.1, by omega, by omega, ?_⟩
      simp only [List.map_append, List.sum_append, List.length_append, List.map_cons, List.map_nil, List.sum_cons, List.sum_nil, List.length_cons, List.length_nil]
      omega

theorem catF_or {s : List UInt8} {g : PS → Re × PS} (hg : ∀ st, st.deep ≤ 50 → OR s.length st (g st)) (st : PS) (hd : st.deep ≤ 50) : OR s.length st (catF s g st) := by
  unfold catF
  have h := catLoop_cl hg hd (s.length + 1) [] st ⟨id, fun e => ⟨e, Nat.le_refl _, rfl, by simp⟩, Nat.le_refl _, id⟩
  generalize catLoop s g (s.length + 1) [] st = l at *
  refine ⟨h.le, fun e => ?_, h.ge, h.ub⟩
  have h1 := h.go e
  refine ⟨h1.1, h1.2.1, h1.2.2.1, ?_⟩
  by_cases hl : l.1 = []
  · simp [hl, twoOf, Re.size]
  · have := twoOf_size (f := .cat) (x := .empty) (fun a b => rfl) l.1 hl
    dsimp only; omega

theorem orLoop_cl {s : List UInt8} {g : PS → Re × PS} (hg : ∀ st, st.deep ≤ 50 → OR s.length st (g st)) {st₀ : PS} (hd : st₀.deep ≤ 50) : ∀ (k : Nat) (l : List Re) (st : PS), (st.bad = false → st.deep ≤ 50) → CL s.length st₀ 2 (l, st) → CL s.length st₀ 2 (orLoop s g k l st)
  | 0, l, st, _, h => h
  | k + 1, l, st, hs, h => by
    unfold orLoop
    split
    · exact h
    rename_i hb
    have hb : st.bad = false := by simpa using hb
    dsimp only
    have h0 := h.go hb
    dsimp only at h0
    split
    · rename_i hc
      have ha := isB_true hc
      generalize isB s 124 st = a at *
      have hf := catF_or hg a.2 (by rw [ha.deep]; exact hs hb)
      generalize catF s g a.2 = f at *
      have hge := hf.ge
      have hub := hf.ub
      rw [ha.deep] at hge hub
      refine orLoop_cl hg hd k _ _ (fun e => ?_) ⟨fun e => hf.le (ha.le (h.le e)), fun e => ?_, by have := h.ge; dsimp only at this ⊢; omega, fun e => by have := h.ub e; exact hub this⟩
      · have h1 := hf.go e; rw [ha.deep] at h1; have := hs hb; omega
      · have h1 := hf.go e
        have h2 := ha.go h1.1
        rw [ha.deep] at h1
        dsimp only at h1 ⊢
        refine ⟨h0.1, by omega, by omega, ?_⟩
        simp only [List.map_append, List.sum_append, List.length_append, List.map_cons, List.map_nil, List.sum_cons, List.sum_nil, List.length_cons, List.length_nil]
        omega
    · have ha := isB_lex s 124 st
      generalize isB s 124 st = a at *
      refine ⟨fun e => ha.le (h.le e), fun e => ?_, by have := h.ge; dsimp only at this ⊢; rw [ha.deep]; omega, fun e => by have := h.ub e; dsimp only at this ⊢; rw [ha.deep]; omega⟩
      have h2 := ha.go e
      have := ha.deep
      dsimp only at h0 ⊢
      exact ⟨h0.1, by omega, by omega, by omega⟩

theorem orLoop_ne {s : List UInt8} {g : PS → Re × PS} : ∀ (k : Nat) (l : List Re) (st : PS), l ≠ [] → (orLoop s g k l st).1 ≠ []
  | 0, l, st, h => h
  | k + 1, l, st, h => by
    unfold orLoop
    split
    · exact h
    · dsimp only
      split
      · exact orLoop_ne k _ _ (by simp)
      · exact h

theorem orF_or (s : List UInt8) : ∀ (n : Nat) (st : PS), st.deep ≤ 50 → OR s.length st (orF s n st)
  | 0, st, _ => ⟨id, fun e => ⟨e, Nat.le_refl _, rfl, by simp [orF, Re.size]⟩, Nat.le_refl _, id⟩
  | n + 1, st, hd => by
    have ih := orF_or s n
    unfold orF
    have hc := catF_or ih st hd
    generalize catF s (orF s n) st = c at *
    dsimp only
    have hl := orLoop_cl (st₀ := st) ih hd (s.length + 1) [c.1] c.2 (fun e => by have := hc.go e; omega) ⟨hc.le, fun e => ?_, hc.ge, hc.ub⟩
    · have hne := orLoop_ne (s := s) (g := orF s n) (s.length + 1) [c.1] c.2 (by simp)
      generalize orLoop s (orF s n) (s.length + 1) [c.1] c.2 = l at *
      refine ⟨hl.le, fun e => ?_, hl.ge, hl.ub⟩
      have h1 := hl.go e
      have := twoOf_size (f := .or) (x := noBytes) (fun a b => rfl) l.1 hne
      exact ⟨h1.1, h1.2.1, h1.2.2.1, by dsimp only; omega⟩
    · have h1 := hc.go e
      refine ⟨h1.1, h1.2.1, h1.2.2.1, ?_⟩
      simp only [List.map_cons, List.map_nil, List.sum_cons, List.sum_nil, List.length_cons, List.length_nil]
      omega

end Go.Fk
