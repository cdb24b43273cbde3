/-
  A part of the proof: what the functions of the program come to, read off the model: no premise of its own, no axiom. By an AI agent.
-/
import Derived.Test.YtdhgbfbmcingoaaRu
set_option linter.all false
set_option linter.unusedVariables false
set_option linter.unusedSimpArgs false
namespace Go.Fk
open Go

theorem WO.congr {w : World} {b : Nat} {f g : Nat → Bool} (h : WO w b f) (e : ∀ i, i < 256 → f i = g i) : WO w b g := by
  obtain ⟨n0, n1, n2, n3, h1, g0, g1, g2, g3⟩ := h
  exact ⟨n0, n1, n2, n3, h1, g0.congr fun i h1 h2 => e i (by omega), g1.congr fun i h1 h2 => e i (by omega), g2.congr fun i h1 h2 => e i (by omega), g3.congr fun i h1 h2 => e i (by omega)⟩

theorem WO.flip {w : World} {sb i : Nat} {f : Nat → Bool} (h : WO w sb f) (hi : i < 4) : ∃ x : Nat, x < 2 ^ 64 ∧ w.cell? ⟨sb, i, none⟩ = some (.int .u64 x) ∧
    ∀ k : World → Prop, (∀ w', WO w' sb (fun j => if j / 64 = i then !f j else f j) → Keeps (· = sb) w w' → k w') → St ⟨sb, i, none⟩ (.int .u64 (((2 ^ 64 - 1) ^^^ x : Nat) : Int)) w k := by
  obtain ⟨n0, n1, n2, n3, h1, g0, g1, g2, g3⟩ := h
  have other : ∀ k n, Word f k n → k ≠ i → Word (fun j => if j / 64 = i then !f j else f j) k n := fun k n hw hne =>
    hw.congr fun j h1 h2 => by rw [if_neg (by omega)]
  have this : ∀ k n, Word f k n → k = i → Word (fun j => if j / 64 = i then !f j else f j) k ((2 ^ 64 - 1) ^^^ n) := fun k n hw he =>
    hw.not.congr fun j h1 h2 => by rw [if_pos (by omega)]
  have c : i = 0 ∨ i = 1 ∨ i = 2 ∨ i = 3 := by omega
  rcases c with rfl | rfl | rfl | rfl
  · exact ⟨n0, g0.1, cell_of h1 rfl, fun k hk => St.blk h1 (by simp) fun w' hu => hk w' ⟨_, n1, n2, n3, hu.at_, this _ _ g0 rfl, other _ _ g1 (by omega), other _ _ g2 (by omega), other _ _ g3 (by omega)⟩ hu.keeps⟩
  · exact ⟨n1, g1.1, cell_of h1 rfl, fun k hk => St.blk h1 (by simp) fun w' hu => hk w' ⟨n0, _, n2, n3, hu.at_, other _ _ g0 (by omega), this _ _ g1 rfl, other _ _ g2 (by omega), other _ _ g3 (by omega)⟩ hu.keeps⟩
  · exact ⟨n2, g2.1, cell_of h1 rfl, fun k hk => St.blk h1 (by simp) fun w' hu => hk w' ⟨n0, n1, _, n3, hu.at_, other _ _ g0 (by omega), other _ _ g1 (by omega), this _ _ g2 rfl, other _ _ g3 (by omega)⟩ hu.keeps⟩
  · exact ⟨n3, g3.1, cell_of h1 rfl, fun k hk => St.blk h1 (by simp) fun w' hu => hk w' ⟨n0, n1, n2, _, hu.at_, other _ _ g0 (by omega), other _ _ g1 (by omega), other _ _ g2 (by omega), this _ _ g3 rfl⟩ hu.keeps⟩

/-- 'for i := range set { set[i] = ^set[i] }'. -/
theorem neg_loop {b : Nat} {f : Nat → Bool} {w : World} {R : World → Prop} (h : WO w b f) (hk : ∀ w', WO w' b (fun i => !f i) → Keeps (· = b) w w' → R w') :
    Loop (fun (s5 : Int) w7 again6 => Br (decide (s5 < (4 : Int))) (IdxA 4 (⟨b, 0, none⟩) s5 1 fun p32 => Ld (.int .u64) p32 w7 fun x33 => IdxA 4 (⟨b, 0, none⟩) s5 1 fun p35 => St p35 (.int .u64 (bNot .u64 x33)) w7 fun w8 => again6 (w64 (s5 + (1 : Int))) w8) (R w7)) 0 w := by
  refine Loop.mk (fun s w' => ∃ i : Nat, s = (i : Int) ∧ i ≤ 4 ∧ WO w' b (fun j => if j / 64 < i then !f j else f j) ∧ Keeps (· = b) w w') (fun s => 4 - s.toNat) ⟨0, rfl, by omega, h.congr fun i _ => by simp, Keeps.refl⟩ ?_
  rintro _ w1 ⟨i, rfl, hi, hw, hk1⟩ Rr hR
  refine Br.mk (fun ht => ?_) (fun hf => ?_)
  · have ht : i < 4 := by have : (i : Int) < 4 := of_decide_eq_true ht; omega
    obtain ⟨x, hx, hcell, hst⟩ := hw.flip ht
    have e2 : (i : Int).toNat * 1 = i := by omega
    refine ⟨by omega, ?_⟩
    rw [e2, add_eq, Nat.zero_add]
    refine Ld.int hcell ⟨by omega, ?_⟩
    rw [e2, add_eq, Nat.zero_add, bNot_nat hx]
    refine hst _ fun w2 hw2 k2 => hR _ _ ⟨i + 1, by rw [w64_eq (by omega)]; omega, by omega, hw2.congr fun j hj => ?_, hk1.trans k2⟩ ?_
    · by_cases h1 : j / 64 = i
      · simp [h1]
      · by_cases h2 : j / 64 < i
        · have : j / 64 < i + 1 := by omega
          simp [h1, h2, this]
        · have : ¬ j / 64 < i + 1 := by omega
          simp [h1, h2, this]
    · rw [w64_eq (by omega)]; omega
  · have hf : ¬ (i : Int) < 4 := of_decide_eq_false hf
    refine hk _ (hw.congr fun j hj => ?_) hk1
    rw [if_pos (by omega)]

/-- The four words are read, and a node of them is made. -/
theorem set_of {b : Nat} {f : Nat → Bool} {w : World} {K : Option Addr → World → Prop} (h : WO w b f) (hk : ∀ p w', Keeps No w w' → (∀ M : Nat → Prop, Old M w → Nd (V M w') p (.set f)) → K p w') :
    Ld (.int .u64) (⟨b, 0, none⟩) w fun x37_0 => Ld (.int .u64) (⟨b, 1, none⟩) w fun x37_1 => Ld (.int .u64) (⟨b, 2, none⟩) w fun x37_2 => Ld (.int .u64) (⟨b, 3, none⟩) w fun x37_3 => regex_Set.C (x37_0, x37_1, x37_2, x37_3) w fun x38 w9 => K x38 w9 := by
  obtain ⟨n0, n1, n2, n3, h1, hW⟩ := h
  exact Ld.int (cell_of h1 rfl) (Ld.int (cell_of h1 rfl) (Ld.int (cell_of h1 rfl) (Ld.int (cell_of h1 rfl) (regex_Set_spec hW hk))))

theorem Old.mono {M : Nat → Prop} {w w' : World} (h : Old M w) (hs : w.heap.size ≤ w'.heap.size) : Old M w' := fun b hb => Nat.lt_of_lt_of_le (h b hb) hs

theorem regex_parser_class_spec {w : World} {bp : Nat} {s : ByteArray} {st : PS} {K : Option Addr → World → Prop} (h : PO w bp s st) (hs : Small s) (hat : st.at_ ≤ s.size)
    (hk : ∀ p w', Keeps (· = bp) w w' → PO w' bp s (classF (bs s) st).2 → (∀ M : Nat → Prop, Old M w → Nd (V M w') p (classF (bs s) st).1) → K p w') : regex_parser_class.C (some ⟨bp, 0, none⟩) w K := by
  refine regex_parser_class.ok _ _ _ ?_
  simp only [regex_parser_class.M, NilC_some]
  have hbw : bp < w.heap.size := lt_of_some h
  refine regex_reader_is_spec (b := 94) h hs hat fun w1 k1 h1 => ?_
  have L1 := isB_lex (bs s) 94 st
  have hcl : classF (bs s) st = (.set (if (isB (bs s) 94 st).1 then fun i => !(classLoop (bs s) ((bs s).length + 1) (spanF (bs s) (fun _ => false) (isB (bs s) 94 st).2).1 (spanF (bs s) (fun _ => false) (isB (bs s) 94 st).2).2).1 i
      else (classLoop (bs s) ((bs s).length + 1) (spanF (bs s) (fun _ => false) (isB (bs s) 94 st).2).1 (spanF (bs s) (fun _ => false) (isB (bs s) 94 st).2).2).1), (classLoop (bs s) ((bs s).length + 1) (spanF (bs s) (fun _ => false) (isB (bs s) 94 st).2).1 (spanF (bs s) (fun _ => false) (isB (bs s) 94 st).2).2).2) := rfl
  rw [hcl] at hk
  generalize isB (bs s) 94 st = no at *
  refine Al.mk fun b1 w2 h2 => ?_
  have hs1 := k1.size; have e2 := h2.eq; have s2 := h2.size
  have hne : bp ≠ b1 := by omega
  have hat1 : no.2.at_ ≤ s.size := by rw [size_bs] at hat ⊢; exact L1.le hat
  refine regex_parser_span_spec (h1.keep h2.keeps) (f := fun _ => false) ⟨0, 0, 0, 0, h2.at_, Words.zero⟩ hne hs hat1 fun w3 k3 h3 hw3 => ?_
  have L2 := spanF_lex (bs s) (fun _ => false) no.2
  generalize spanF (bs s) (fun _ => false) no.2 = r at *
  have kM : ∀ {w'}, Keeps (fun b => b = bp ∨ b = b1) w2 w' → Keeps (· = bp) w w' := fun {w'} k =>
    (k1.then0 h2.keeps).then k fun i hi e => by rcases e with rfl | rfl; rfl; omega
  have hat2 : r.2.at_ ≤ s.size := by rw [size_bs] at hat1 ⊢; exact L2.le hat1
  generalize hF : classLoop (bs s) ((bs s).length + 1) r.1 r.2 = F at *
  refine Loop.mkn (fun n _ w4 => ∃ (f : Nat → Bool) (st4 : PS), Keeps (fun b => b = bp ∨ b = b1) w2 w4 ∧ PO w4 bp s st4 ∧ WO w4 b1 f ∧ classLoop (bs s) n f st4 = F ∧ st4.at_ ≤ s.size ∧ (st4.bad = true ∨ s.size < st4.at_ + n)) ((bs s).length + 1)
    ⟨r.1, r.2, k3, h3, hw3, hF, hat2, .inr (by rw [size_bs]; omega)⟩ ?_
  rintro n _ w4 ⟨f, st4, k4, h4, hw4, hn, hat4, hgo⟩ R hR
  refine Join.cut (fun t w5 => ∃ st5, PO w5 bp s st5 ∧ WO w5 b1 f ∧ Keeps (fun b => b = bp ∨ b = b1) w2 w5 ∧ st5.at_ ≤ s.size ∧
      ((t = true ∧ st4.bad = false ∧ st5 = (isB (bs s) 93 st4).2 ∧ (isB (bs s) 93 st4).1 = false) ∨ (t = false ∧ F = (f, st5)))) ?_ ?_
  · rintro t w5 ⟨st5, h5, hw5, k5, hat5, hc⟩
    refine Br.mk (fun ht => ?_) (fun hf => ?_)
    · subst ht
      obtain ⟨hb, rfl, hi⟩ : st4.bad = false ∧ st5 = (isB (bs s) 93 st4).2 ∧ (isB (bs s) 93 st4).1 = false := by
        rcases hc with ⟨_, h⟩ | ⟨h, _⟩
        · exact h
        · cases h
      refine regex_parser_span_spec h5 hw5 hne hs hat5 fun w6 k6 h6 hw6 => ?_
      have L3 := spanF_lex (bs s) f (isB (bs s) 93 st4).2
      obtain ⟨m, rfl⟩ : ∃ m, n = m + 1 := ⟨n - 1, by rcases hgo with h | h; (rw [hb] at h; cases h); omega⟩
      refine hR m _ _ (by omega) ⟨_, _, k5.trans k6, h6, hw6, ?_, ?_, ?_⟩
      · rw [← hn]; conv => rhs; unfold classLoop
        simp [hb, hi]
      · rw [size_bs] at hat5 ⊢; exact L3.le hat5
      · cases hbad : (spanF (bs s) f (isB (bs s) 93 st4).2).2.bad with
        | true => exact .inl rfl
        | false =>
          right
          have h7 := L3.go hbad
          have h8 := (isB_lex (bs s) 93 st4).go h7.1
          rcases hgo with h | h
          · rw [hb] at h; cases h
          · omega
    · subst hf
      have hF : F = (f, st5) := by
        rcases hc with ⟨h, _⟩ | ⟨_, h⟩
        · cases h
        · exact h
      subst hF
      have hb1w : w.heap.size ≤ b1 := by omega
      refine Br.mk (fun ht => ?_) (fun hf => ?_)
      · rw [ht] at hk
        refine neg_loop hw5 fun w7 hw7 k7 => set_of hw7 fun p w8 k8 hN => hk p w8 ?_ ?_ fun M hM => ?_
        · exact (kM (k5.trans (k7.mono fun _ _ e => .inr e))).then0 k8
        · exact PO.keep (w := w7) (k7.blk h5 hne) k8
        · exact hN M (hM.mono (by have := k5.size; have := k7.size; omega))
      · rw [hf] at hk
        refine set_of hw5 fun p w8 k8 hN => hk p w8 ((kM k5).then0 k8) (h5.keep k8) fun M hM => ?_
        exact hN M (hM.mono (by have := k5.size; omega))
  · intro j hj
    refine Ld.bool (cell_of h4 rfl) ?_
    cases hb : st4.bad with
    | true =>
      refine hj _ _ ⟨st4, h4, hw4, k4, hat4, .inr ⟨rfl, ?_⟩⟩
      rw [← hn]; cases n <;> simp [classLoop, hb]
    | false =>
      refine regex_reader_is_spec (b := 93) h4 hs hat4 fun w5 k5 h5 => ?_
      have L4 := isB_lex (bs s) 93 st4
      refine hj _ _ ⟨_, h5, hw4.keep k5 fun e => hne e.symm, k4.trans (k5.mono fun _ _ e => .inl e), by rw [size_bs] at hat4 ⊢; exact L4.le hat4, ?_⟩
      cases hi : (isB (bs s) 93 st4).1 with
      | false => exact .inl ⟨rfl, hb, rfl, rfl⟩
      | true =>
        refine .inr ⟨rfl, ?_⟩
        obtain ⟨m, rfl⟩ : ∃ m, n = m + 1 := ⟨n - 1, by rcases hgo with h | h; (rw [hb] at h; cases h); omega⟩
        rw [← hn]; unfold classLoop; simp [hb, hi]

end Go.Fk
