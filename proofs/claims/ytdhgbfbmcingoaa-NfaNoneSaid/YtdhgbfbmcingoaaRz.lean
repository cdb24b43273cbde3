/-
  A part of the proof: what the functions of the program come to, read off the model: no premise of its own, no axiom. By an AI agent.
-/
import Derived.Test.YtdhgbfbmcingoaaRy
set_option linter.all false
set_option linter.unusedVariables false
set_option linter.unusedSimpArgs false
namespace Go.Fk
open Go

/-- Behind an append: what lay apart from the old row lies apart from the new one. -/
theorem V.grown {M : Nat → Prop} {w w' : World} {l l' : Sl} (hk : Keeps l.blk w w') (h : ∃ g, l'.a = some ⟨g, 0, none⟩ ∧ (l.blk g ∨ w.heap.size ≤ g)) :
    Vle (V (fun b => M b ∨ l.blk b) w) (V (fun b => M b ∨ l'.blk b) w') :=
  V.move hk (fun b _ hb => .inr hb) fun b hlt hb => by
    rcases hb with hb | ⟨a, ha, rfl⟩
    · exact .inl hb
    · obtain ⟨g, hg, hc⟩ := h
      rw [hg] at ha; simp at ha; subst ha
      rcases hc with hc | hc
      · exact .inr hc
      · dsimp only at hlt; omega

theorem V.ofOwn {M : Nat → Prop} {w : World} {l : Sl} : Vle (V (fun b => M b ∨ l.blk b) w) (V M w) := V.sub fun b _ h => .inl h

/-- A list of nodes that is gathered. -/
structure Gath (w : World) (base : Nat) (l : Sl) (ps : List (Option Addr)) (xs : List Re) : Prop where
  own : Own w base T.p_regex_Node 1 l (ps.map (Ty.enc .ptr))
  nds : All2 (Nd (V (fun b => Lt base b ∨ l.blk b) w)) ps xs

theorem Gath.keep {w w' : World} {base : Nat} {l : Sl} {ps : List (Option Addr)} {xs : List Re} {N : Nat → Prop} (h : Gath w base l ps xs) (hk : Keeps N w w') (hN : ∀ b, N b → b < base) : Gath w' base l ps xs :=
  ⟨h.own.keep hk fun b hb hl => by have := hN b hb; have := (h.own.ge hl).1; omega, h.nds.mono fun _ _ x => nd_old x hk fun b hb => .inl (hN b hb)⟩

theorem Gath.n {w : World} {base : Nat} {l : Sl} {ps : List (Option Addr)} {xs : List Re} (h : Gath w base l ps xs) : l.n = ps.length := by have := h.own.len; simp at this; exact this.symm

/-- One more node is gathered. -/
theorem Gath.add {w : World} {base : Nat} {l : Sl} {ps : List (Option Addr)} {xs : List Re} {p : Option Addr} {x : Re} {k : Sl → World → Prop} (h : Gath w base l ps xs) (hb : base ≤ w.heap.size) (hlen : ps.length < 1000000000)
    (hN : Nd (V (fun b => Lt base b ∨ l.blk b) w) p x)
    (hk : ∀ l' w', Gath w' base l' (ps ++ [p]) (xs ++ [x]) → Keeps (fun b => base ≤ b) w w' → k l' w') :
    Al (.cells #[.pointer p] T.p_regex_Node (0, 0)) w fun b w1 => App P (Builtin.append_ #[T.sl_p_regex_Node, T.sl_p_regex_Node] T.sl_p_regex_Node #[.slice l.a l.n l.c, .slice (some ⟨b, 0, none⟩) 1 1]) (.one .sl) w1 k := by
  have hn := h.n
  refine append1 (t := .ptr) (x := p) E_pNode h.own rfl (by omega) (by omega) hb fun l' w' h1 h2 h3 h4 => ?_
  have hv := V.grown (M := Lt base) h3 h4
  exact hk l' w' ⟨h1, (h.nds.append (.cons hN .nil)).mono fun _ _ x => x.mono hv⟩ (h3.mono fun b _ hb => (h.own.ge hb).1)

theorem Gath.nil {w : World} : Gath w w.heap.size ⟨none, 0, 0⟩ [] [] := ⟨Own.nil _ _ _ _, .nil⟩

/-- What was gathered, as an argument. -/
theorem Gath.reads {w : World} {base : Nat} {l : Sl} {ps : List (Option Addr)} {xs : List Re} (h : Gath w base l ps xs) : SlT .ptr (V (Lt base) w) l ps ∧ All2 (Nd (V (Lt base) w)) ps xs :=
  ⟨h.own.reads fun b hb hlt => by have := (h.own.ge hb).1; have : b < base := hlt; omega, h.nds.mono fun _ _ x => x.mono V.ofOwn⟩

theorem Keeps.new {bp : Nat} {w a b : World} (h : Keeps (· = bp) w a) (k : Keeps (fun b => w.heap.size ≤ b) a b) : Keeps (· = bp) w b := h.then k fun i hi e => by omega

theorem regex_parser_cat_spec {n : Nat} (hor : OrSpec n) {w : World} {bp : Nat} {s : ByteArray} {st : PS} {K : Option Addr → World → Prop} (h : PO w bp s st) (hs : Small s) (hat : st.at_ ≤ s.size)
    (hb : st.bad = false) (hd : st.deep + (n + 1) = 51)
    (hk : ∀ p w', Keeps (· = bp) w w' → PO w' bp s (catF (bs s) (orF (bs s) n) st).2 → Nd (V (Lt w.heap.size) w') p (catF (bs s) (orF (bs s) n) st).1 → K p w') : regex_parser_cat.C (some ⟨bp, 0, none⟩) w K := by
  refine regex_parser_cat.ok _ _ _ ?_
  simp only [regex_parser_cat.M, NilC_some]
  have hbw : bp < w.heap.size := lt_of_some h
  have hsz : s.size = (bs s).length := size_bs s
  have hsm := hs; unfold Small at hsm
  have hg : ∀ st : PS, st.deep ≤ 50 → OR (bs s).length st (orF (bs s) n st) := fun st h => orF_or _ _ _ h
  unfold catF at hk
  generalize hFF : catLoop (bs s) (orF (bs s) n) ((bs s).length + 1) [] st = F at *
  have fin : ∀ {l : Sl} {ps : List (Option Addr)} {xs : List Re} {st' : PS} {w' : World}, F = (xs, st') → Keeps (· = bp) w w' → PO w' bp s st' → Gath w' w.heap.size l ps xs → ps.length < 1000000000 →
      regex_Cat.C l w' fun x34 w4 => K x34 w4 := by
    rintro l ps xs st' w' rfl k' h' hG hlen
    exact regex_Cat_spec (Old.mono Old.lt k'.size) hG.reads.1 hG.reads.2 hlen fun p w4 k4 hN => hk p w4 (k'.then0 k4) (h'.keep k4) hN
  refine Loop.mkn (fun m l w2 => ∃ (ps : List (Option Addr)) (xs : List Re) (st2 : PS), Keeps (· = bp) w w2 ∧ PO w2 bp s st2 ∧ Gath w2 w.heap.size l ps xs ∧ catLoop (bs s) (orF (bs s) n) m xs st2 = F ∧
      CL (bs s).length st 0 (xs, st2) ∧ st2.at_ ≤ s.size ∧ (st2.bad = true ∨ s.size < st2.at_ + m) ∧ ps.length ≤ s.size + 1 ∧ (st2.bad = false → ps.length ≤ st2.at_)) ((bs s).length + 1)
    ⟨[], [], st, Keeps.refl, h, Gath.nil, hFF, ⟨id, fun e => ⟨e, Nat.le_refl _, rfl, by simp⟩, Nat.le_refl _, id⟩, hat, .inr (by omega), by simp, by simp⟩ ?_
  rintro m l w2 ⟨ps, xs, st2, k2, h2, hG, hL, hcl, hat2, hgo, hpl, hpl2⟩ R hR
  refine Ld.bool (cell_of h2 rfl) ?_
  cases hbad : st2.bad with
  | true =>
    refine fin ?_ k2 h2 hG (by omega)
    rw [← hL]; cases m <;> simp [catLoop, hbad]
  | false =>
    obtain ⟨m, rfl⟩ : ∃ m', m = m' + 1 := ⟨m - 1, by rcases hgo with h | h; (rw [hbad] at h; cases h); omega⟩
    have hgo : s.size < st2.at_ + (m + 1) := by rcases hgo with h | h; (rw [hbad] at h; cases h); exact h
    have hpl2 := hpl2 hbad
    unfold catLoop at hL
    simp only [hbad, Bool.false_eq_true, if_false] at hL
    simp only [Bool.not_false, Br_true]
    refine regex_reader_peek_spec h2 hs fun w3 k3 => ?_
    have h3 := h2.keep k3
    have hG3 := hG.keep k3 fun _ h => h.elim
    have k03 := k2.then0 k3
    refine Join.cut (fun t w4 => w4 = w3 ∧ (t = true → F = (xs, st2)) ∧ (t = false → F = catLoop (bs s) (orF (bs s) n) m (xs ++ [(factorF (bs s) (orF (bs s) n) st2).1]) (factorF (bs s) (orF (bs s) n) st2).2)) ?_ ?_
    · rintro t w4 ⟨rfl, ht, hf⟩
      refine Br.mk (fun e => ?_) (fun e => ?_)
      · exact fin (ht e) k03 h3 hG3 (by omega)
      · have hf := hf e
        have h0 := hcl.go hbad
        dsimp only at h0
        refine regex_parser_factor_spec hor h3 hs hat2 hbad (by omega) fun p w5 k5 h5 hN5 => ?_
        have hfr := factorF_fr hg st2 (by omega)
        generalize factorF (bs s) (orF (bs s) n) st2 = f at *
        have k05 := k03.trans k5
        have hG5 := hG3.keep k5 fun b hb => by subst hb; exact hbw
        refine Gath.add hG5 k05.size (by omega) (hN5 _ (fun b hb => ?_) (.inl hbw)) fun l' w7 hG7 k7 => ?_
        · rcases hb with hb | hb
          · exact Nat.lt_of_lt_of_le hb k03.size
          · exact (hG3.own.ge hb).2
        have h7 : PO w7 bp s f.2 := k7.blk h5 (by omega)
        have hatf : f.2.at_ ≤ s.size := by rw [hsz] at hat2 ⊢; exact hfr.le hat2
        refine hR m _ _ (Nat.lt_succ_self _) ⟨_, _, f.2, Keeps.new k05 k7, h7, hG7, hf.symm, ?_, hatf, ?_, ?_, ?_⟩
        · refine ⟨fun e => hfr.le (hcl.le e), fun e => ?_, Nat.le_trans hcl.ge hfr.ge, fun e => hfr.ub (hcl.ub e)⟩
          have h1 := hfr.go e
          dsimp only at h1 ⊢
          refine ⟨h0.1, by omega, by omega, ?_⟩
          simp only [List.map_append, List.sum_append, List.length_append, List.map_cons, List.map_nil, List.sum_cons, List.sum_nil, List.length_cons, List.length_nil]
          omega
        · cases hb3 : f.2.bad with
          | true => exact .inl rfl
          | false => right; have := (hfr.go hb3).2.1; omega
        · simp only [List.length_append, List.length_cons, List.length_nil]
          omega
        · intro hb3
          have := (hfr.go hb3).2.1
          simp only [List.length_append, List.length_cons, List.length_nil]; omega
    · intro j hj
      cases hc : (bs s)[st2.at_]? with
      | none =>
        rw [hc] at hL
        exact hj _ _ ⟨rfl, fun _ => hL.symm, fun e => by cases e⟩
      | some c =>
        rw [hc] at hL
        simp only [] at hL
        simp only [Bool.not_true, Br_false]
        rw [beq_lit (n := 124) 124 rfl, beq_lit (n := 41) 41 rfl]
        by_cases c1 : c = 124
        · simp only [c1, true_or, if_true] at hL
          simp only [c1, decide_true, Br_true]
          exact hj _ _ ⟨rfl, fun _ => hL.symm, fun e => by cases e⟩
        · simp only [c1, decide_false, Br_false]
          by_cases c2 : c = 41
          · simp only [c2, or_true, if_true] at hL
            exact hj _ _ ⟨rfl, fun _ => hL.symm, fun e => by simp [c2] at e⟩
          · simp only [c1, c2, or_self, if_false] at hL
            exact hj _ _ ⟨rfl, fun e => by simp [c2] at e, fun _ => hL.symm⟩


theorem regex_parser_or_spec : ∀ n, OrSpec n := by
  intro n
  induction n with
  | zero => intro w bp s st K _ _ _ _ h1 h2; omega
  | succ n hor =>
    intro w bp s st K h hs hat hb hd50 hd hk
    refine regex_parser_or.ok _ _ _ ?_
    simp only [regex_parser_or.M, NilC_some]
    have hbw : bp < w.heap.size := lt_of_some h
    have hsz : s.size = (bs s).length := size_bs s
    have hsm := hs; unfold Small at hsm
    have hg : ∀ st : PS, st.deep ≤ 50 → OR (bs s).length st (orF (bs s) n st) := fun st h => orF_or _ _ _ h
    refine regex_parser_cat_spec hor h hs hat hb hd fun p0 w1 k1 h1 hN1 => ?_
    have hO1 := catF_or hg st (by omega)
    unfold orF at hk
    generalize catF (bs s) (orF (bs s) n) st = c at *
    dsimp only at hk
    generalize hFF : orLoop (bs s) (orF (bs s) n) ((bs s).length + 1) [c.1] c.2 = F at *
    have hatc : c.2.at_ ≤ s.size := by rw [hsz] at hat ⊢; exact hO1.le hat
    refine Al.mk fun b1 w2 h2 => ?_
    have fin : ∀ {l : Sl} {ps : List (Option Addr)} {xs : List Re} {st' : PS} {w' : World}, F = (xs, st') → Keeps (· = bp) w w' → PO w' bp s st' → Gath w' w.heap.size l ps xs → ps.length < 1000000000 →
        regex_Or.C l w' fun x34 w4 => K x34 w4 := by
      rintro l ps xs st' w' rfl k' h' hG hlen
      exact regex_Or_spec (Old.mono Old.lt k'.size) hG.reads.1 hG.reads.2 hlen fun p w4 k4 hN => hk p w4 (k'.then0 k4) (h'.keep k4) fun M hM _ => nd_all hN hM
    have e2 := h2.eq; have s1 := k1.size
    have hG0 : Gath w2 w.heap.size ⟨some ⟨b1, 0, none⟩, 1, 1⟩ [p0] [c.1] := by
      refine ⟨⟨rfl, .inr ⟨b1, 1, _, rfl, by omega, h2.at_, by simp, by decide, by simp, by simp [Ty.enc]⟩⟩, .cons ?_ .nil⟩
      refine hN1.mono (V.move h2.keeps (fun _ _ h => h.elim) fun b hlt hb => ?_)
      rcases hb with hb | ⟨a, ha, rfl⟩
      · exact hb
      · simp at ha; subst ha; dsimp only at hlt; omega
    refine Loop.mkn (fun m l w2 => ∃ (ps : List (Option Addr)) (xs : List Re) (st2 : PS), Keeps (· = bp) w w2 ∧ PO w2 bp s st2 ∧ Gath w2 w.heap.size l ps xs ∧ orLoop (bs s) (orF (bs s) n) m xs st2 = F ∧
        CL (bs s).length st 2 (xs, st2) ∧ st2.at_ ≤ s.size ∧ (st2.bad = true ∨ s.size < st2.at_ + m) ∧ ps.length ≤ s.size + 2 ∧ (st2.bad = false → ps.length ≤ st2.at_ + 1)) ((bs s).length + 1)
      ⟨[p0], [c.1], c.2, k1.then0 h2.keeps, h1.keep h2.keeps, hG0, hFF, ⟨hO1.le, fun e => ?_, hO1.ge, hO1.ub⟩, hatc, .inr (by omega), by simp, by simp⟩ ?_
    · have := hO1.go e
      refine ⟨this.1, this.2.1, this.2.2.1, ?_⟩
      simp only [List.map_cons, List.map_nil, List.sum_cons, List.sum_nil, List.length_cons, List.length_nil]; omega
    rintro m l w2 ⟨ps, xs, st2, k2, h2, hG, hL, hcl, hat2, hgo, hpl, hpl2⟩ R hR
    refine Join.cut (fun t w4 => ∃ st4, PO w4 bp s st4 ∧ Keeps (· = bp) w2 w4 ∧ ((t = false ∧ F = (xs, st4)) ∨ (t = true ∧ st2.bad = false ∧ st4 = (isB (bs s) 124 st2).2 ∧ (isB (bs s) 124 st2).1 = true))) ?_ ?_
    · rintro t w4 ⟨st4, h4, k4, hc⟩
      have hG4 := hG.keep k4 fun b hb => by subst hb; exact hbw
      have k04 := k2.trans k4
      refine Br.mk (fun e => ?_) (fun e => ?_)
      · subst e
        obtain ⟨hbad, rfl, hi⟩ : st2.bad = false ∧ st4 = (isB (bs s) 124 st2).2 ∧ (isB (bs s) 124 st2).1 = true := by
          rcases hc with ⟨h, _⟩ | ⟨_, h⟩
          · cases h
          · exact h
        obtain ⟨m, rfl⟩ : ∃ m', m = m' + 1 := ⟨m - 1, by rcases hgo with h | h; (rw [hbad] at h; cases h); omega⟩
        have hgo : s.size < st2.at_ + (m + 1) := by rcases hgo with h | h; (rw [hbad] at h; cases h); exact h
        have h0 := hcl.go hbad
        dsimp only at h0
        unfold orLoop at hL
        simp only [hbad, hi, Bool.false_eq_true, if_false, if_true] at hL
        have La := isB_true hi
        have hba : (isB (bs s) 124 st2).2.bad = false := by unfold isB; split <;> exact hbad
        generalize isB (bs s) 124 st2 = a at *
        have hata : a.2.at_ ≤ s.size := by rw [hsz] at hat2 ⊢; exact La.le hat2
        have hdeep := La.deep
        refine regex_parser_cat_spec hor h4 hs hata hba (by omega) fun p w5 k5 h5 hN5 => ?_
        have hO := catF_or hg a.2 (by omega)
        generalize catF (bs s) (orF (bs s) n) a.2 = f at *
        have k05 := k04.trans k5
        have hG5 := hG4.keep k5 fun b hb => by subst hb; exact hbw
        refine Gath.add hG5 k05.size (by omega) (nd_all hN5 fun b hb => ?_) fun l' w7 hG7 k7 => ?_
        · rcases hb with hb | hb
          · exact Nat.lt_of_lt_of_le hb k04.size
          · exact (hG4.own.ge hb).2
        have h7 : PO w7 bp s f.2 := k7.blk h5 (by omega)
        have hatf : f.2.at_ ≤ s.size := by rw [hsz] at hata ⊢; exact hO.le hata
        refine hR m _ _ (Nat.lt_succ_self _) ⟨_, _, f.2, Keeps.new k05 k7, h7, hG7, hL, ?_, hatf, ?_, ?_, ?_⟩
        · have hge := hO.ge; have hub := hO.ub
          rw [hdeep] at hge hub
          refine ⟨fun e => hO.le (La.le (hcl.le e)), fun e => ?_, Nat.le_trans hcl.ge hge, fun e => hub (hcl.ub e)⟩
          have h1 := hO.go e
          have h2 := La.go h1.1
          dsimp only at h1 ⊢
          refine ⟨h0.1, by omega, by omega, ?_⟩
          simp only [List.map_append, List.sum_append, List.length_append, List.map_cons, List.map_nil, List.sum_cons, List.sum_nil, List.length_cons, List.length_nil]
          omega
        · cases hb3 : f.2.bad with
          | true => exact .inl rfl
          | false => right; have h1 := hO.go hb3; have h2 := La.go h1.1; omega
        · have := hpl2 hbad
          simp only [List.length_append, List.length_cons, List.length_nil]; omega
        · intro hb3
          have h1 := hO.go hb3; have h2 := La.go h1.1; have := hpl2 hbad
          simp only [List.length_append, List.length_cons, List.length_nil]; omega
      · subst e
        have hF : F = (xs, st4) := by
          rcases hc with ⟨_, h⟩ | ⟨h, _⟩
          · exact h
          · cases h
        exact fin hF k04 h4 hG4 (by omega)
    · intro j hj
      refine Ld.bool (cell_of h2 rfl) ?_
      cases hbad : st2.bad with
      | true =>
        refine hj _ _ ⟨st2, h2, Keeps.refl, .inl ⟨rfl, ?_⟩⟩
        rw [← hL]; cases m <;> simp [orLoop, hbad]
      | false =>
        refine regex_reader_is_spec (b := 124) h2 hs hat2 fun w3 k3 h3 => ?_
        cases hi : (isB (bs s) 124 st2).1 with
        | true => exact hj _ _ ⟨_, h3, k3, .inr ⟨rfl, hbad, rfl, hi⟩⟩
        | false =>
          refine hj _ _ ⟨_, h3, k3, .inl ⟨rfl, ?_⟩⟩
          obtain ⟨m, rfl⟩ : ∃ m', m = m' + 1 := ⟨m - 1, by rcases hgo with h | h; (rw [hbad] at h; cases h); omega⟩
          rw [← hL]; unfold orLoop; simp [hbad, hi]


/-- The parser's answer as the call hands it over. -/
theorem regex_Parse_spec {w : World} {s : ByteArray} {K : (Option Addr × Int × Int) → World → Prop} (hs : Small s)
    (hk : ∀ p w', Keeps No w w' → ((parseF (bs s)).2.2 = 0 → Nd (V (Lt w.heap.size) w') p (parseF (bs s)).1) → ((parseF (bs s)).2.2 ≠ 0 → p = none) →
      K (p, ((parseF (bs s)).2.1 : Int), ((parseF (bs s)).2.2 : Int)) w') : regex_Parse.C s w K := by
  refine regex_Parse.ok _ _ _ ?_
  simp only [regex_Parse.M, NilC_some]
  have hsz : s.size = (bs s).length := size_bs s
  refine Al.mk fun b1 w1 h1 => ?_
  have hp : PO w1 b1 s ⟨0, false, false, 0⟩ := h1.at_
  refine regex_parser_or_spec 51 hp hs (by dsimp only; omega) rfl (by dsimp only; omega) rfl fun p w2 k2 h2 hN2 => ?_
  have hO := orF_or (bs s) 51 ⟨0, false, false, 0⟩ (by dsimp only; omega)
  unfold parseF at hk
  generalize orF (bs s) 51 ⟨0, false, false, 0⟩ = r at *
  have e1 := h1.eq; have s1 := h1.size
  have k02 : Keeps No w w2 := h1.keeps.then k2 fun i hi e => by omega
  have hN : Nd (V (Lt w.heap.size) w2) p r.1 := nd_all (hN2 _ Old.lt (by show b1 < _; omega)) fun b hb => Nat.lt_of_lt_of_le hb (by omega)
  refine Ld.bool (cell_of h2 rfl) ?_
  cases hl : r.2.long with
  | true =>
    simp only [hl, if_true] at hk
    exact hk none w2 k02 (fun h => by cases h) fun _ => rfl
  | false =>
    simp only [hl, Bool.false_eq_true, if_false] at hk
    have hat : r.2.at_ ≤ s.size := by rw [hsz]; exact hO.le (by dsimp only; omega)
    simp only [Br_false]
    refine Join.cut (fun t w3 => w3 = w2 ∧ t = (r.2.bad || decide (r.2.at_ < (bs s).length))) ?_ ?_
    · rintro t w3 ⟨rfl, rfl⟩
      refine Br.mk (fun e => ?_) (fun e => ?_)
      · simp only [e, if_true] at hk
        refine Draw.mk fun w4 e4 k4 => ?_
        exact LdS.int (cell_of (h2.heap e4) rfl) (hk none w4 (k02.trans k4) (fun h => by cases h) fun _ => rfl)
      · simp only [e, Bool.false_eq_true, if_false] at hk
        have hb : r.2.bad = false := by cases hbb : r.2.bad with | true => simp [hbb] at e | false => rfl
        have hgo := (hO.go hb).2.2.2
        have hsm := hs; unfold Small at hsm
        refine regex_Size_spec r.1.size r.1 (Nat.le_refl _) (by omega) hN fun w4 k4 => ?_
        refine Br.mk (fun e => ?_) (fun e => ?_)
        · have e : 400 < r.1.size := by have : (400 : Int) < (r.1.size : Int) := of_decide_eq_true e; omega
          simp only [e, if_true] at hk
          exact hk none w4 (k02.trans k4) (fun h => by cases h) fun _ => rfl
        · have e : ¬ 400 < r.1.size := by have : ¬ (400 : Int) < (r.1.size : Int) := of_decide_eq_false e; omega
          simp only [e, if_false] at hk
          exact hk p w4 (k02.trans k4) (fun _ => hN.mono (V.keeps0 k4)) fun h => absurd rfl h
    · intro j hj
      refine Ld.bool (cell_of h2 rfl) ?_
      cases hb : r.2.bad with
      | true => exact hj _ _ ⟨rfl, by rw [hb]; rfl⟩
      | false =>
        refine Ld.int (cell_of h2 rfl) (hj _ _ ⟨rfl, ?_⟩)
        rw [hb, Bool.false_or, ← hsz]
        simp only [Int.ofNat_lt]

end Go.Fk
