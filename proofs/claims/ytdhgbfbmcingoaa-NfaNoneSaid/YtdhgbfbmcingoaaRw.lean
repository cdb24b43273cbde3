/-
  A part of the proof: what the functions of the program come to, read off the model: no premise of its own, no axiom. By an AI agent.
-/
import Derived.Test.YtdhgbfbmcingoaaRv
set_option linter.all false
set_option linter.unusedVariables false
set_option linter.unusedSimpArgs false
namespace Go.Fk
open Go

theorem E_pNode : Elem P T.sl_p_regex_Node T.p_regex_Node (.pointer none) 1 8 := ⟨by kernel_rfl, by kernel_rfl, rfl, by decide⟩

theorem regex_Cat_spec {M : Nat → Prop} {w : World} {l : Sl} {ps : List (Option Addr)} {xs : List Re} {K : Option Addr → World → Prop}
    (hM : Old M w) (hl : SlT .ptr (V M w) l ps) (ha : All2 (Nd (V M w)) ps xs) (hlen : ps.length < 1000000000)
    (hk : ∀ p w', Keeps No w w' → Nd (V M w') p (twoOf .cat .empty xs) → K p w') : regex_Cat.C l w K := by
  refine regex_Cat.ok _ _ _ ?_
  simp only [regex_Cat.M]
  refine regex_Empty_spec fun p w1 k1 h1 => ?_
  exact regex_two_spec (.inl ⟨rfl, rfl⟩) (hM.keeps k1) (hl.mono (V.keeps0 k1)) (ha.mono fun _ _ h => h.mono (V.keeps0 k1)) (h1 M hM) hlen fun q w2 k2 h2 => hk q w2 (k1.trans k2) h2

theorem regex_Or_spec {M : Nat → Prop} {w : World} {l : Sl} {ps : List (Option Addr)} {xs : List Re} {K : Option Addr → World → Prop}
    (hM : Old M w) (hl : SlT .ptr (V M w) l ps) (ha : All2 (Nd (V M w)) ps xs) (hlen : ps.length < 1000000000)
    (hk : ∀ p w', Keeps No w w' → Nd (V M w') p (twoOf .or noBytes xs) → K p w') : regex_Or.C l w K := by
  refine regex_Or.ok _ _ _ ?_
  simp only [regex_Or.M]
  refine regex_Set_spec (n0 := 0) (n1 := 0) (n2 := 0) (n3 := 0) Words.zero fun p w1 k1 h1 => ?_
  exact regex_two_spec (.inr ⟨rfl, rfl⟩) (hM.keeps k1) (hl.mono (V.keeps0 k1)) (ha.mono fun _ _ h => h.mono (V.keeps0 k1)) (h1 M hM) hlen fun q w2 k2 h2 => hk q w2 (k1.trans k2) h2

theorem regex_Star_spec {M : Nat → Prop} {w : World} {p : Option Addr} {x : Re} {K : Option Addr → World → Prop} (hM : Old M w) (h : Nd (V M w) p x)
    (hk : ∀ q w', Keeps No w w' → Nd (V M w') q (.star x) → K q w') : regex_Star.C p w K := by
  refine regex_Star.ok _ _ _ ?_
  simp only [regex_Star.M]
  obtain ⟨b, _, _, _, _, _, _, rfl, -⟩ := h.out
  simp only [Option.isNone_some, Br_false]
  refine Al.mk fun b1 w1 h1 => Al.mk fun b2 w2 h2 => ?_
  have e1 := h1.eq; have s1 := h1.size; have e2 := h2.eq
  refine hk _ _ (h1.keeps.trans h2.keeps) (.star ⟨fun hm => by have := hM _ hm; omega, h2.at_⟩ ⟨fun hm => by have := hM _ hm; omega, h2.keeps.blk0 h1.at_⟩ (h.mono (V.keeps0 (h1.keeps.trans h2.keeps))))

/-- What is asked of the function that reads alternatives. -/
def OrSpec (n : Nat) : Prop := ∀ {w : World} {bp : Nat} {s : ByteArray} {st : PS} {K : Option Addr → World → Prop}, PO w bp s st → Small s → st.at_ ≤ s.size → st.bad = false → st.deep ≤ 50 → st.deep + n = 51 →
  (∀ p w', Keeps (· = bp) w w' → PO w' bp s (orF (bs s) n st).2 → (∀ M : Nat → Prop, Old M w → M bp → Nd (V M w') p (orF (bs s) n st).1) → K p w') → regex_parser_or.C (some ⟨bp, 0, none⟩) w K

theorem nd_old {M : Nat → Prop} {w w' : World} {p : Option Addr} {x : Re} {N : Nat → Prop} (h : Nd (V M w) p x) (hk : Keeps N w w') (hN : ∀ b, N b → M b) : Nd (V M w') p x :=
  h.mono (V.move hk (fun b _ hb => hN b hb) fun _ _ h => h)

theorem regex_parser_atom_spec {n : Nat} (hor : OrSpec n) {w : World} {bp : Nat} {s : ByteArray} {st : PS} {K : Option Addr → World → Prop} (h : PO w bp s st) (hs : Small s) (hat : st.at_ ≤ s.size)
    (hb : st.bad = false) (hd : st.deep + (n + 1) = 51)
    (hk : ∀ p w', Keeps (· = bp) w w' → PO w' bp s (atomF (bs s) (orF (bs s) n) st).2 → (∀ M : Nat → Prop, Old M w → M bp → Nd (V M w') p (atomF (bs s) (orF (bs s) n) st).1) → K p w') : regex_parser_atom.C (some ⟨bp, 0, none⟩) w K := by
  refine regex_parser_atom.ok _ _ _ ?_
  simp only [regex_parser_atom.M, NilC_some]
  have hbw : bp < w.heap.size := lt_of_some h
  have hsz : s.size = (bs s).length := size_bs s
  refine regex_reader_is_spec (b := 40) h hs hat fun w1 k1 h1 => ?_
  have L1 := isB_lex (bs s) 40 st
  have T1 : (isB (bs s) 40 st).1 = true → Lex (bs s).length st (isB (bs s) 40 st).2 := isB_true
  have hb1 : (isB (bs s) 40 st).2.bad = false := by unfold isB; split <;> exact hb
  unfold atomF at hk
  generalize isB (bs s) 40 st = a at *
  have hat1 : a.2.at_ ≤ s.size := by rw [hsz] at hat ⊢; exact L1.le hat
  have failed : ∀ {w2 : World} {st2 : PS}, PO w2 bp s st2 → Keeps (· = bp) w w2 → (∀ p w', Keeps (· = bp) w w' → PO w' bp s st2.fail → (∀ M : Nat → Prop, Old M w → M bp → Nd (V M w') p .empty) → K p w') → regex_parser_fail.C (some ⟨bp, 0, none⟩) w2 fun p w' => K p w' := fun h2 k2 hK =>
    regex_parser_fail_spec h2 fun p w3 k3 h3 hN => hK p w3 (k2.trans k3) h3 fun M hM hm => hN M (hM.mono k2.size)
  refine Br.mk (fun ht => ?_) (fun hf => ?_)
  · simp only [ht, if_true] at hk
    refine Ld.int (cell_of h1 rfl) ?_
    have hdeep : a.2.deep = st.deep := L1.deep
    rw [w64_eq (by omega)]
    refine PO.st (st' := { a.2 with deep := a.2.deep + 1 }) h1 (by simp) (by simp [pobj]) fun w2 h2 k2 => ?_
    refine Ld.int (cell_of h2 rfl) ?_
    refine Br.mk (fun ht2 => ?_) (fun hf2 => ?_)
    · have ht2 : 50 < a.2.deep + 1 := by
        have : (50 : Int) < ((a.2.deep + 1 : Nat) : Int) := of_decide_eq_true ht2
        omega
      simp only [ht2, if_true] at hk
      refine PO.st (st' := { a.2 with deep := a.2.deep + 1, long := true }) h2 (by simp) (by simp [pobj]) fun w3 h3 k3 => ?_
      exact failed h3 ((k1.trans k2).trans k3) hk
    · have hf2 : ¬ 50 < a.2.deep + 1 := by
        have : ¬ (50 : Int) < ((a.2.deep + 1 : Nat) : Int) := of_decide_eq_false hf2
        omega
      simp only [hf2, if_false] at hk
      have hO := orF_or (bs s) n { a.2 with deep := a.2.deep + 1 } (by dsimp only; omega)
      refine hor h2 hs hat1 hb1 (by dsimp only; omega) (by dsimp only; omega) fun p w3 k3 h3 hN => ?_
      generalize orF (bs s) n { a.2 with deep := a.2.deep + 1 } = r at *
      have k13 := (k1.trans k2).trans k3
      have hge := hO.ge
      have hub := hO.ub (by dsimp only; omega)
      dsimp only at hge hub
      have hat3 : r.2.at_ ≤ s.size := by rw [hsz] at hat1 ⊢; exact hO.le hat1
      have hN3 : ∀ M : Nat → Prop, Old M w → M bp → Nd (V M w3) p r.1 := fun M hM hm => hN M (hM.mono (k1.trans k2).size) hm
      refine Join.cut (fun t w4 => ∃ st4, PO w4 bp s st4 ∧ Keeps (· = bp) w3 w4 ∧ ((t = false ∧ r.2.bad = true ∧ st4 = r.2) ∨ (r.2.bad = false ∧ st4 = (isB (bs s) 41 r.2).2 ∧ t = !(isB (bs s) 41 r.2).1))) ?_ ?_
      · rintro t w4 ⟨st4, h4, k4, hc⟩
        refine Br.mk (fun ht4 => ?_) (fun hf4 => ?_)
        · subst ht4
          obtain ⟨hrb, rfl, hi⟩ : r.2.bad = false ∧ st4 = (isB (bs s) 41 r.2).2 ∧ (isB (bs s) 41 r.2).1 = false := by
            rcases hc with ⟨h, _⟩ | ⟨h1, h2, h3⟩
            · cases h
            · exact ⟨h1, h2, by simpa using h3.symm⟩
          simp only [hrb, hi] at hk
          exact failed h4 (k13.trans k4) hk
        · subst hf4
          have hde : st4.deep = r.2.deep := by
            rcases hc with ⟨_, _, rfl⟩ | ⟨_, rfl, _⟩
            · rfl
            · exact (isB_lex (bs s) 41 r.2).deep
          refine Ld.int (cell_of h4 rfl) ?_
          rw [w64_eq (by omega)]
          refine PO.st (st' := { st4 with deep := st4.deep - 1 }) h4 (by simp) (by simp [pobj]; omega) fun w5 h5 k5 => ?_
          have hN5 : ∀ M : Nat → Prop, Old M w → M bp → Nd (V M w5) p r.1 := fun M hM hm => nd_old (hN3 M hM hm) (k4.trans k5) fun b hb => by subst hb; exact hm
          have k15 := (k13.trans k4).trans k5
          rcases hc with ⟨_, hrb, rfl⟩ | ⟨hrb, rfl, hi⟩
          · simp only [hrb, if_true] at hk
            exact hk p w5 k15 (by rw [hrb] at h5; exact h5) hN5
          · have hi : (isB (bs s) 41 r.2).1 = true := by simpa using hi.symm
            simp only [hrb, hi, if_true] at hk
            exact hk p w5 k15 h5 hN5
      · intro j hj
        refine Ld.bool (cell_of h3 rfl) ?_
        cases hrb : r.2.bad with
        | true => exact hj _ _ ⟨r.2, h3, Keeps.refl, .inl ⟨rfl, hrb, rfl⟩⟩
        | false =>
          refine regex_reader_is_spec (b := 41) h3 hs hat3 fun w4 k4 h4 => ?_
          exact hj _ _ ⟨_, h4, k4, .inr ⟨hrb, rfl, rfl⟩⟩
  · simp only [hf, if_false, Bool.false_eq_true] at hk
    refine regex_reader_is_spec (b := 46) h1 hs hat1 fun w2 k2 h2 => ?_
    have L2 := isB_lex (bs s) 46 a.2
    generalize isB (bs s) 46 a.2 = d at *
    have hat2 : d.2.at_ ≤ s.size := by rw [hsz] at hat1 ⊢; exact L2.le hat1
    refine Br.mk (fun ht2 => ?_) (fun hf2 => ?_)
    · simp only [ht2, if_true] at hk
      refine regex_one_spec (c := 10) (by decide) fun n0 n1 n2 n3 w3 k3 hW => ?_
      refine Al.mk fun b3 w4 h4 => ?_
      refine St.blk h4.at_ (by simp) fun w5 u5 => St.blk u5.at_ (by simp) fun w6 u6 => St.blk u6.at_ (by simp) fun w7 u7 => St.blk u7.at_ (by simp) fun w8 u8 => ?_
      have hs1 := k1.size; have hs2 := k2.size; have hs3 := k3.size; have e4 := h4.eq
      have hne : bp ≠ b3 := by omega
      have kk : Keeps (· = b3) w4 w8 := ((u5.keeps.trans u6.keeps).trans u7.keeps).trans u8.keeps
      refine neg_loop (f := fun i => i == 10) ⟨n0, n1, n2, n3, u8.at_, hW⟩ fun w9 hw9 k9 => set_of hw9 fun p w10 k10 hN => ?_
      have k49 := kk.trans k9
      have k1_4 : Keeps (· = bp) w w4 := ((k1.trans k2).then0 k3).then0 h4.keeps
      have k1_10 : Keeps (· = bp) w w10 := (k1_4.then k49 fun i hi e => by subst e; omega).then0 k10
      refine hk p w10 k1_10 ?_ fun M hM hm => hN M (hM.mono (by have := k1_4.size; have := k49.size; omega))
      exact PO.keep (w := w9) (k49.blk ((h2.keep k3).keep h4.keeps) hne) k10
    · simp only [hf2, if_false, Bool.false_eq_true] at hk
      refine regex_reader_is_spec (b := 91) h2 hs hat2 fun w3 k3 h3 => ?_
      have L3 := isB_lex (bs s) 91 d.2
      generalize isB (bs s) 91 d.2 = c at *
      have hat3 : c.2.at_ ≤ s.size := by rw [hsz] at hat2 ⊢; exact L3.le hat2
      have k13 := (k1.trans k2).trans k3
      refine Br.mk (fun ht3 => ?_) (fun hf3 => ?_)
      · simp only [ht3, if_true] at hk
        exact regex_parser_class_spec h3 hs hat3 fun p w4 k4 h4 hN => hk p w4 (k13.trans k4) h4 fun M hM hm => hN M (hM.mono k13.size)
      · simp only [hf3, if_false, Bool.false_eq_true] at hk
        refine regex_parser_letter_spec h3 hs hat3 fun w4 k4 h4 => ?_
        have e0 : letterF (bs s) (bs ⟨#[124, 42, 43, 63, 40, 41, 91, 93, 46, 92]⟩) c.2 = letterF (bs s) specialOut c.2 := rfl
        rw [e0] at h4 ⊢
        refine regex_one_spec (letterF_lt _ _ _) fun n0 n1 n2 n3 w5 k5 hW => ?_
        refine regex_Set_spec hW fun p w6 k6 hN => ?_
        have k14 := k13.trans k4
        exact hk p w6 ((k14.then0 k5).then0 k6) ((h4.keep k5).keep k6) fun M hM hm => hN M (hM.mono (by have := k14.size; have := k5.size; omega))

end Go.Fk
