/-
  A part of the proof: what the functions of the program come to, read off the model: no premise of its own, no axiom. By an AI agent.
-/
import Derived.Test.YtdhgbfbmcingoaaRs
set_option linter.all false
set_option linter.unusedVariables false
set_option linter.unusedSimpArgs false
namespace Go.Fk
open Go

theorem regex_parser_span_spec {w : World} {bp sb : Nat} {s : ByteArray} {st : PS} {f : Nat → Bool} {K : Unit → World → Prop} (h : PO w bp s st) (hw : WO w sb f) (hne : bp ≠ sb) (hs : Small s) (hat : st.at_ ≤ s.size)
    (hk : ∀ w', Keeps (fun b => b = bp ∨ b = sb) w w' → PO w' bp s (spanF (bs s) f st).2 → WO w' sb (spanF (bs s) f st).1 → K () w') : regex_parser_span.C (some ⟨bp, 0, none⟩) (some ⟨sb, 0, none⟩) w K := by
  refine regex_parser_span.ok _ _ _ _ ?_
  simp only [regex_parser_span.M, NilC_some]
  refine regex_parser_letter_spec h hs hat fun w1 k1 h1 => ?_
  have e0 : letterF (bs s) (bs ⟨#[93, 94, 45, 92]⟩) st = letterF (bs s) specialIn st := rfl
  rw [e0] at h1 ⊢
  have L1 := letterF_lex (bs s) specialIn st
  have l1 := letterF_lt (bs s) specialIn st
  generalize hlo : letterF (bs s) specialIn st = lo at *
  have hat1 : lo.2.at_ ≤ s.size := by rw [size_bs] at hat ⊢; exact L1.le hat
  have hw1 : WO w1 sb f := hw.keep k1 fun e => hne e.symm
  have kk1 : Keeps (fun b => b = bp ∨ b = sb) w w1 := k1.mono fun _ _ e => .inl e
  refine Join.cut (fun hi w2 => ∃ (n : Nat) (st' : PS), hi = (n : Int) ∧ n < 256 ∧ Keeps (fun b => b = bp ∨ b = sb) w w2 ∧ PO w2 bp s st' ∧ WO w2 sb f ∧
      spanF (bs s) f st = (if st'.bad then f else fun i => f i || (decide (lo.1 ≤ i) && decide (i ≤ n)), st')) ?_ ?_
  · rintro _ w2 ⟨n, st', rfl, hn, k2, h2, hw2, hsp⟩
    rw [hsp] at hk
    refine Loop.mk (fun x w3 => ∃ b : Nat, x = (b : Int) ∧ lo.1 ≤ b ∧ b ≤ 256 ∧ Keeps (fun b => b = bp ∨ b = sb) w w3 ∧ PO w3 bp s st' ∧
      (st'.bad = true → WO w3 sb f) ∧ (lo.1 ≤ n → b ≤ n + 1) ∧ (n < lo.1 → b = lo.1) ∧ WO w3 sb (fun i => f i || (decide (lo.1 ≤ i) && decide (i < b)))) (fun x => 300 - x.toNat) ?_ ?_
    · refine ⟨lo.1, by rw [w64_eq (by omega)], Nat.le_refl _, by omega, k2, h2, fun _ => hw2, fun h => by omega, fun _ => rfl, ?_⟩
      have : (fun i => f i || (decide (lo.1 ≤ i) && decide (i < lo.1))) = f := by
        funext i
        by_cases h1 : lo.1 ≤ i
        · simp [Nat.not_lt.2 h1]
        · simp [h1]
      rw [this]; exact hw2
    · rintro _ w3 ⟨b, rfl, hb1, hb2, k3, h3, hbad, hle, hgt, hw3⟩ R hR
      refine Join.cut (fun t w4 => w4 = w3 ∧ t = (decide (b ≤ n) && !st'.bad)) ?_ ?_
      · rintro t w4 ⟨rfl, rfl⟩
        refine Br.mk (fun ht => ?_) (fun hf => ?_)
        · have ht : b ≤ n ∧ st'.bad = false := by simpa using ht
          refine DrawN.mk fun w5 e5 k5 => ?_
          have hw5 := hw3.heap e5; have h5 := h3.heap e5
          obtain ⟨x, hx, hcell, hst⟩ := hw5.setBit (b := b) (by omega)
          have e1 : w64 (Int.tdiv (b : Int) 64) = ((b / 64 : Nat) : Int) := by
            show IntKind.i64.wrap _ = _
            rw [IntWalk.i64_quo _ _ (by omega)]; omega
          have e2 : ((b / 64 : Nat) : Int).toNat * 1 = b / 64 := by omega
          refine ⟨by decide, ?_⟩
          rw [e1]
          refine ⟨by omega, ?_⟩
          rw [e2, add_eq, Nat.zero_add]
          refine ⟨by decide, ?_, Ld.int hcell ⟨trivial, ?_⟩⟩
          · rw [Int.tmod_eq_emod_of_nonneg (by omega)]; omega
          have e3 : (⟨sb, 0, none⟩ : Addr).add (b / 64) = ⟨sb, b / 64, none⟩ := by rw [add_eq, Nat.zero_add]
          refine ⟨by omega, ?_⟩
          rw [e2, add_eq, Nat.zero_add]
          have h2p : 2 ^ (b % 64) < 2 ^ 64 := Nat.pow_lt_pow_right (by decide) (Nat.mod_lt _ (by decide))
          rw [shl_nat, bOr_nat hx h2p]
          refine hst _ fun w6 hw6 k6 => ⟨trivial, ?_⟩
          refine hR _ _ ⟨b + 1, by rw [w64_eq (by omega)]; omega, by omega, by omega, ?_, ?_, ?_, by omega, by omega, ?_⟩ ?_
          · exact (k3.then0 k5).trans (k6.mono fun _ _ e => .inr e)
          · exact k6.blk h5 hne
          · intro hb; rw [ht.2] at hb; cases hb
          · have : (fun i => (f i || (decide (lo.1 ≤ i) && decide (i < b))) || (i == b)) = (fun i => f i || (decide (lo.1 ≤ i) && decide (i < b + 1))) := by
              funext i
              by_cases e : i = b
              · subst e; simp [hb1]
              · have : (i < b + 1) ↔ i < b := by omega
                simp [e, this]
            rw [← this]; exact hw6
          · rw [w64_eq (by omega)]; omega
        · refine hk _ k3 h3 ?_
          have hf : st'.bad = true ∨ n < b := by
            rcases hbb : st'.bad with _ | _
            · simp [hbb] at hf; exact .inr hf
            · exact .inl rfl
          cases hbb : st'.bad with
          | true => simpa using hbad hbb
          | false =>
            have hnb : n < b := by rcases hf with h | h; (rw [hbb] at h; cases h); exact h
            have : (fun i => f i || (decide (lo.1 ≤ i) && decide (i < b))) = (fun i => f i || (decide (lo.1 ≤ i) && decide (i ≤ n))) := by
              funext i
              by_cases h1 : lo.1 ≤ n
              · have : (i < b) ↔ i ≤ n := by have := hle h1; omega
                simp [this]
              · have hb3 := hgt (by omega)
                by_cases h2 : lo.1 ≤ i
                · have a1 : ¬ i < b := by omega
                  have a2 : ¬ i ≤ n := by omega
                  simp [a1, a2]
                · simp [h2]
            simp only [Bool.false_eq_true, if_false]
            rw [← this]; exact hw3
      · intro j hj
        refine Br.mk (fun ht => ?_) (fun hf => ?_)
        · have ht : b ≤ n := by
            have ht : (b : Int) ≤ w64 (n : Int) := of_decide_eq_true ht
            rw [w64_eq (by omega)] at ht; omega
          refine Ld.bool (cell_of h3 rfl) (hj _ _ ⟨rfl, ?_⟩)
          simp [ht]
        · have hf : ¬ b ≤ n := by
            have hf : ¬ (b : Int) ≤ w64 (n : Int) := of_decide_eq_false hf
            rw [w64_eq (by omega)] at hf; omega
          exact hj _ _ ⟨rfl, by simp [hf]⟩
  · intro j7 hj7
    refine Join.cut (fun t w2 => ∃ st2, PO w2 bp s st2 ∧ WO w2 sb f ∧ Keeps (fun b => b = bp ∨ b = sb) w w2 ∧
      ((lo.2.bad = true ∧ t = false ∧ st2 = lo.2) ∨ (lo.2.bad = false ∧ (t, st2) = isB (bs s) 45 lo.2))) ?_ ?_
    · rintro t w2 ⟨st2, h2, hw2, k2, hcase⟩
      refine Br.mk (fun ht => ?_) (fun hf => ?_)
      · subst ht
        obtain ⟨hb, hd⟩ : lo.2.bad = false ∧ (true, st2) = isB (bs s) 45 lo.2 := by
          rcases hcase with ⟨_, h, _⟩ | h
          · cases h
          · exact h
        have L2 : Lex (bs s).length lo.2 st2 := by have := isB_true (s := bs s) (b := 45) (st := lo.2) (by rw [← hd]); rw [← hd] at this; exact this
        have hat2 : st2.at_ ≤ s.size := by rw [size_bs] at hat1 ⊢; exact L2.le hat1
        refine Ld.int (cell_of h2 rfl) ?_
        refine regex_parser_letter_spec h2 hs hat2 fun w3 k3 h3 => ?_
        have e0 : letterF (bs s) (bs ⟨#[93, 94, 45, 92]⟩) st2 = letterF (bs s) specialIn st2 := rfl
        rw [e0] at h3 ⊢
        have lh := letterF_lt (bs s) specialIn st2
        have hw3 : WO w3 sb f := hw2.keep k3 fun e => hne e.symm
        have kk3 := k2.trans (k3.mono (M := fun b => b = bp ∨ b = sb) fun _ _ e => .inl e)
        have hsp : spanF (bs s) f st = (if (if !(letterF (bs s) specialIn st2).2.bad && (letterF (bs s) specialIn st2).1 < lo.1 then ((letterF (bs s) specialIn st2).1, { (letterF (bs s) specialIn st2).2 with at_ := st2.at_, bad := true }) else letterF (bs s) specialIn st2).2.bad then f else fun i => f i || (decide (lo.1 ≤ i) && decide (i ≤ (if !(letterF (bs s) specialIn st2).2.bad && (letterF (bs s) specialIn st2).1 < lo.1 then ((letterF (bs s) specialIn st2).1, { (letterF (bs s) specialIn st2).2 with at_ := st2.at_, bad := true }) else letterF (bs s) specialIn st2).1)), (if !(letterF (bs s) specialIn st2).2.bad && (letterF (bs s) specialIn st2).1 < lo.1 then ((letterF (bs s) specialIn st2).1, { (letterF (bs s) specialIn st2).2 with at_ := st2.at_, bad := true }) else letterF (bs s) specialIn st2).2) := by
          unfold spanF
          simp only [hlo, hb, ← hd]
          rfl
        generalize letterF (bs s) specialIn st2 = hi at *
        refine Join.cut (fun t w4 => w4 = w3 ∧ t = (!hi.2.bad && decide (hi.1 < lo.1))) ?_ ?_
        · rintro t w4 ⟨rfl, rfl⟩
          refine Br.mk (fun ht => ?_) (fun hf => ?_)
          · rw [ht] at hsp
            refine PO.st (st' := { hi.2 with at_ := st2.at_ }) h3 (by simp) rfl fun w5 h5 k5 => ?_
            refine regex_parser_fail_spec h5 fun p w6 k6 h6 _ => ?_
            have k36 : Keeps (· = bp) w4 w6 := k5.trans k6
            refine hj7 _ _ ⟨hi.1, _, rfl, lh, ?_, h6, ?_, ?_⟩
            · exact kk3.trans (k36.mono fun _ _ e => .inl e)
            · exact hw3.keep k36 fun e => hne e.symm
            · rw [hsp]; rfl
          · rw [hf] at hsp
            exact hj7 _ _ ⟨hi.1, hi.2, rfl, lh, kk3, h3, hw3, by rw [hsp]; rfl⟩
        · intro j10 hj10
          refine Ld.bool (cell_of h3 rfl) ?_
          cases hbad : hi.2.bad with
          | true => exact hj10 _ _ ⟨rfl, by simp [hbad]⟩
          | false => exact hj10 _ _ ⟨rfl, by simp [hbad]⟩
      · subst hf
        refine hj7 _ _ ⟨lo.1, st2, rfl, l1, k2, h2, hw2, ?_⟩
        rcases hcase with ⟨hb, _, rfl⟩ | ⟨hb, hd⟩
        · unfold spanF
          simp only [hlo, hb, if_true]
        · unfold spanF
          simp only [hlo, hb, ← hd]
          rfl
    · intro j11 hj11
      refine Ld.bool (cell_of h1 rfl) ?_
      cases hb : lo.2.bad with
      | true => exact hj11 _ _ ⟨lo.2, h1, hw1, kk1, .inl ⟨hb, rfl, rfl⟩⟩
      | false =>
        refine regex_reader_is_spec (b := 45) h1 hs hat1 fun w2 k2 h2 => ?_
        exact hj11 _ _ ⟨_, h2, hw1.keep k2 fun e => hne e.symm, kk1.trans (k2.mono fun _ _ e => .inl e), .inr ⟨hb, rfl⟩⟩

end Go.Fk
