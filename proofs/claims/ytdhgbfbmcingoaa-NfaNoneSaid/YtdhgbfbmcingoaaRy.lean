/-
  A part of the proof: what the functions of the program come to, read off the model: no premise of its own, no axiom. By an AI agent.
-/
import Derived.Test.YtdhgbfbmcingoaaRw
set_option linter.all false
set_option linter.unusedVariables false
set_option linter.unusedSimpArgs false
namespace Go.Fk
open Go

/-- All blocks below a number. -/
def Lt (n : Nat) : Nat → Prop := fun b => b < n
theorem Old.lt {w : World} : Old (Lt w.heap.size) w := fun _ h => h
theorem nd_all {n : Nat} {w' : World} {p : Option Addr} {x : Re} (h : Nd (V (Lt n) w') p x) {M : Nat → Prop} (hM : ∀ b, M b → b < n) : Nd (V M w') p x :=
  h.mono fun b o ⟨h1, h2⟩ => ⟨fun hm => h1 (hM b hm), h2⟩

theorem regex_parser_factor_spec {n : Nat} (hor : OrSpec n) {w : World} {bp : Nat} {s : ByteArray} {st : PS} {K : Option Addr → World → Prop} (h : PO w bp s st) (hs : Small s) (hat : st.at_ ≤ s.size)
    (hb : st.bad = false) (hd : st.deep + (n + 1) = 51)
    (hk : ∀ p w', Keeps (· = bp) w w' → PO w' bp s (factorF (bs s) (orF (bs s) n) st).2 → (∀ M : Nat → Prop, Old M w → M bp → Nd (V M w') p (factorF (bs s) (orF (bs s) n) st).1) → K p w') : regex_parser_factor.C (some ⟨bp, 0, none⟩) w K := by
  refine regex_parser_factor.ok _ _ _ ?_
  simp only [regex_parser_factor.M, NilC_some]
  have hbw : bp < w.heap.size := lt_of_some h
  have hsz : s.size = (bs s).length := size_bs s
  have hF := atomF_fr (s := bs s) (g := orF (bs s) n) (fun st h => orF_or _ _ _ h) st (by omega)
  refine regex_parser_atom_spec hor h hs hat hb hd fun p0 w1 k1 h1 hN1 => ?_
  unfold factorF at hk
  generalize atomF (bs s) (orF (bs s) n) st = a at *
  generalize hFF : factorLoop (bs s) ((bs s).length + 1) a.1 a.2 = F at *
  have hat1 : a.2.at_ ≤ s.size := by rw [hsz] at hat ⊢; exact hF.le hat
  have fin : ∀ {p : Option Addr} {x : Re} {st' : PS} {w' : World}, F = (x, st') → Keeps (· = bp) w w' → PO w' bp s st' → Nd (V (Lt w.heap.size) w') p x → K p w' := by
    rintro p x st' w' rfl k' h' hN
    exact hk p w' k' h' fun M hM hm => nd_all hN hM
  refine Loop.mkn (fun m p w2 => ∃ (x : Re) (st2 : PS), Keeps (· = bp) w w2 ∧ PO w2 bp s st2 ∧ Nd (V (Lt w.heap.size) w2) p x ∧ factorLoop (bs s) m x st2 = F ∧ FR (bs s).length st (x, st2) ∧ (st2.bad = true ∨ s.size < st2.at_ + m)) ((bs s).length + 1)
    ⟨a.1, a.2, k1, h1, hN1 _ Old.lt hbw, hFF, hF, .inr (by omega)⟩ ?_
  rintro m p w2 ⟨x, st2, k2, h2, hN2, hL, hfr, hgo⟩ R hR
  have hat2 : st2.at_ ≤ s.size := by rw [hsz] at hat ⊢; exact hfr.le hat
  refine Ld.bool (cell_of h2 rfl) ?_
  cases hbad : st2.bad with
  | true =>
    refine fin ?_ k2 h2 hN2
    rw [← hL]; cases m <;> simp [factorLoop, hbad]
  | false =>
    obtain ⟨m, rfl⟩ : ∃ m', m = m' + 1 := ⟨m - 1, by rcases hgo with h | h; (rw [hbad] at h; cases h); omega⟩
    have hgo : s.size < st2.at_ + (m + 1) := by rcases hgo with h | h; (rw [hbad] at h; cases h); exact h
    have hszx := (hfr.go hbad).2.2.2
    dsimp only at hszx
    unfold factorLoop at hL
    simp only [hbad, Bool.false_eq_true, if_false] at hL
    simp only [Bool.not_false, Br_true]
    have move : ∀ {w' : World} {N : Nat → Prop}, Keeps N w2 w' → (∀ b, N b → b = bp) → Nd (V (Lt w.heap.size) w') p x := fun k hN => nd_old hN2 k fun b hb => by have := hN b hb; subst this; exact hbw
    -- behind an operator: the size is asked
    refine Join.cut (fun q w3 => ∃ (y : Re) (st3 : PS), Keeps (· = bp) w w3 ∧ PO w3 bp s st3 ∧ Nd (V (Lt w.heap.size) w3) q y ∧ y.size ≤ 2 * x.size + 2 ∧
        F = (if 400 < y.size then (Re.empty, { st3 with long := true, bad := true }) else factorLoop (bs s) m y st3) ∧ Lex (bs s).length st2 st3) ?_ ?_
    · rintro q w3 ⟨y, st3, k3, h3, hN3, hys, hF3, hlex⟩
      have hsm := hs; unfold Small at hsm
      refine regex_Size_spec y.size y (Nat.le_refl _) (by omega) hN3 fun w4 k4 => ?_
      refine Br.mk (fun ht => ?_) (fun hf => ?_)
      · have ht : 400 < y.size := by have : (400 : Int) < (y.size : Int) := of_decide_eq_true ht; omega
        rw [if_pos ht] at hF3
        refine PO.st (st' := { st3 with long := true }) (h3.keep k4) (by simp) (by simp [pobj]) fun w5 h5 k5 => ?_
        refine regex_parser_fail_spec h5 fun q w6 k6 h6 hN6 => ?_
        have k36 := (k3.then0 k4).trans k5
        exact fin hF3 (k36.trans k6) h6 (hN6 _ (Old.mono Old.lt k36.size))
      · have hf : ¬ 400 < y.size := by have : ¬ (400 : Int) < (y.size : Int) := of_decide_eq_false hf; omega
        rw [if_neg hf] at hF3
        refine hR m _ _ (Nat.lt_succ_self _) ⟨y, st3, k3.then0 k4, h3.keep k4, hN3.mono (V.keeps0 k4), hF3.symm, ?_, ?_⟩
        · refine ⟨fun e => hlex.le (hfr.le e), fun e => ?_, by dsimp only; rw [hlex.deep]; exact hfr.ge, fun e => by dsimp only; rw [hlex.deep]; exact hfr.ub e⟩
          have h5 := hlex.go e
          have h6 := hfr.go h5.1
          dsimp only at h6 ⊢
          exact ⟨h6.1, by omega, by rw [hlex.deep]; exact h6.2.2.1, by omega⟩
        · cases hb3 : st3.bad with
          | true => exact .inl rfl
          | false => right; have := (hlex.go hb3).2; omega
    · intro j hj
      refine regex_reader_is_spec (b := 42) h2 hs hat2 fun w3 k3 h3 => ?_
      have La := isB_lex (bs s) 42 st2
      have Ta : (isB (bs s) 42 st2).1 = true → Lex (bs s).length st2 (isB (bs s) 42 st2).2 := isB_true
      generalize isB (bs s) 42 st2 = a1 at *
      have hata : a1.2.at_ ≤ s.size := by rw [hsz] at hat2 ⊢; exact La.le hat2
      have k03 := k2.trans k3
      have hN3 := move k3 fun b hb => hb
      refine Br.mk (fun ht => ?_) (fun hf => ?_)
      · simp only [ht, if_true] at hL
        refine regex_Star_spec (Old.mono Old.lt k03.size) hN3 fun q w4 k4 hN4 => ?_
        exact hj _ _ ⟨_, a1.2, k03.then0 k4, h3.keep k4, hN4, by simp only [Re.size]; omega, hL.symm, Ta ht⟩
      · simp only [hf, Bool.false_eq_true, if_false] at hL
        refine regex_reader_is_spec (b := 43) h3 hs hata fun w4 k4 h4 => ?_
        have Lb := isB_lex (bs s) 43 a1.2
        have Tb : (isB (bs s) 43 a1.2).1 = true → Lex (bs s).length a1.2 (isB (bs s) 43 a1.2).2 := isB_true
        generalize isB (bs s) 43 a1.2 = b1 at *
        have hatb : b1.2.at_ ≤ s.size := by rw [hsz] at hata ⊢; exact Lb.le hata
        have k04 := k03.trans k4
        have hN4 := move (k3.trans k4) fun b hb => hb
        refine Br.mk (fun ht => ?_) (fun hf => ?_)
        · simp only [ht, if_true] at hL
          refine regex_Star_spec (Old.mono Old.lt k04.size) hN4 fun q w5 k5 hN5 => ?_
          refine Al.mk fun b5 w6 h6 => ?_
          have k06 := (k04.then0 k5).then0 h6.keeps
          have hO : Old (Lt w.heap.size) w6 := Old.mono Old.lt k06.size
          have e6 := h6.eq; have s05 := (k04.then0 k5).size
          have hb5 : V (Lt w.heap.size) w6 b5 _ := ⟨fun hm => by have : b5 < w.heap.size := hm; omega, h6.at_⟩
          refine regex_Cat_spec hO (row2 hb5) (.cons (hN4.mono (V.keeps0 (k5.trans h6.keeps))) (.cons (hN5.mono (V.keeps0 h6.keeps)) .nil)) (by simp) fun r w7 k7 hN7 => ?_
          exact hj _ _ ⟨.cat x (.star x), b1.2, k06.then0 k7, ((h4.keep k5).keep h6.keeps).keep k7, hN7, by simp only [Re.size]; omega, hL.symm, La.then (Tb ht)⟩
        · simp only [hf, Bool.false_eq_true, if_false] at hL
          refine regex_reader_is_spec (b := 63) h4 hs hatb fun w5 k5 h5 => ?_
          have Lc := isB_lex (bs s) 63 b1.2
          have Tc : (isB (bs s) 63 b1.2).1 = true → Lex (bs s).length b1.2 (isB (bs s) 63 b1.2).2 := isB_true
          generalize isB (bs s) 63 b1.2 = c1 at *
          have k05 := k04.trans k5
          have hN5 := move ((k3.trans k4).trans k5) fun b hb => hb
          refine Br.mk (fun ht => ?_) (fun hf => ?_)
          · simp only [ht, if_true] at hL
            refine regex_Empty_spec fun q w6 k6 hN6 => ?_
            refine Al.mk fun b6 w7 h7 => ?_
            have k07 := (k05.then0 k6).then0 h7.keeps
            have hO : Old (Lt w.heap.size) w7 := Old.mono Old.lt k07.size
            have e7 := h7.eq; have s06 := (k05.then0 k6).size
            have hb6 : V (Lt w.heap.size) w7 b6 _ := ⟨fun hm => by have : b6 < w.heap.size := hm; omega, h7.at_⟩
            refine regex_Or_spec hO (row2 hb6) (.cons (hN5.mono (V.keeps0 (k6.trans h7.keeps))) (.cons ((hN6 _ (Old.mono Old.lt k05.size)).mono (V.keeps0 h7.keeps)) .nil)) (by simp) fun r w8 k8 hN8 => ?_
            exact hj _ _ ⟨.or x .empty, c1.2, k07.then0 k8, ((h5.keep k6).keep h7.keeps).keep k8, hN8, by simp only [Re.size]; omega, hL.symm, (La.trans Lb).then (Tc ht)⟩
          · simp only [hf, Bool.false_eq_true, if_false] at hL
            exact fin hL.symm k05 h5 hN5

end Go.Fk
