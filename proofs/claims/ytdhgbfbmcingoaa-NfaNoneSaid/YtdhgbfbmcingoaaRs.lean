/-
  A part of the proof: what the functions of the program come to, read off the model: no premise of its own, no axiom. By an AI agent.
-/
import Derived.Test.YtdhgbfbmcingoaaRb
set_option linter.all false
set_option linter.unusedVariables false
set_option linter.unusedSimpArgs false
namespace Go.Fk
open Go

/-! ## What a step of the parser does to its state -/

structure Lex (n : Nat) (st st' : PS) : Prop where
  le : st.at_ ≤ n → st'.at_ ≤ n
  go : st'.bad = false → st.bad = false ∧ st.at_ < st'.at_
  long : st'.long = st.long
  deep : st'.deep = st.deep

structure Lex0 (n : Nat) (st st' : PS) : Prop where
  le : st.at_ ≤ n → st'.at_ ≤ n
  go : st'.bad = false → st.bad = false ∧ st.at_ ≤ st'.at_
  long : st'.long = st.long
  deep : st'.deep = st.deep

theorem Lex.weak {n : Nat} {a b : PS} (h : Lex n a b) : Lex0 n a b := ⟨h.le, fun e => ⟨(h.go e).1, Nat.le_of_lt (h.go e).2⟩, h.long, h.deep⟩
theorem Lex0.refl {n : Nat} {a : PS} : Lex0 n a a := ⟨id, fun e => ⟨e, Nat.le_refl _⟩, rfl, rfl⟩
theorem Lex0.trans {n : Nat} {a b c : PS} (h : Lex0 n a b) (k : Lex0 n b c) : Lex0 n a c :=
  ⟨fun e => k.le (h.le e), fun e => ⟨(h.go (k.go e).1).1, Nat.le_trans (h.go (k.go e).1).2 (k.go e).2⟩, k.long.trans h.long, k.deep.trans h.deep⟩
theorem Lex.then {n : Nat} {a b c : PS} (h : Lex n a b) (k : Lex0 n b c) : Lex n a c :=
  ⟨fun e => k.le (h.le e), fun e => ⟨(h.go (k.go e).1).1, Nat.lt_of_lt_of_le (h.go (k.go e).1).2 (k.go e).2⟩, k.long.trans h.long, k.deep.trans h.deep⟩
theorem Lex0.then {n : Nat} {a b c : PS} (h : Lex0 n a b) (k : Lex n b c) : Lex n a c :=
  ⟨fun e => k.le (h.le e), fun e => ⟨(h.go (k.go e).1).1, Nat.lt_of_le_of_lt (h.go (k.go e).1).2 (k.go e).2⟩, k.long.trans h.long, k.deep.trans h.deep⟩
theorem Lex.fail {n : Nat} {a : PS} : Lex n a a.fail := ⟨id, (fun e => by cases e), rfl, rfl⟩
theorem Lex.adv {n : Nat} {a : PS} (h : a.at_ < n) : Lex n a a.adv := ⟨fun _ => h, fun e => ⟨e, Nat.lt_succ_self _⟩, rfl, rfl⟩

theorem lt_of_get {s : List UInt8} {i : Nat} {c : UInt8} (h : s[i]? = some c) : i < s.length := (List.getElem?_eq_some_iff.1 h).1

theorem isB_lex (s : List UInt8) (b : UInt8) (st : PS) : Lex0 s.length st (isB s b st).2 := by
  unfold isB
  split
  · rename_i h; exact (Lex.adv (lt_of_get h)).weak
  · exact Lex0.refl
theorem isB_true {s : List UInt8} {b : UInt8} {st : PS} (h : (isB s b st).1 = true) : Lex s.length st (isB s b st).2 := by
  unfold isB at h ⊢
  split
  · rename_i h; exact Lex.adv (lt_of_get h)
  · rename_i h2; simp [h2] at h

theorem digitF_lex (s : List UInt8) (st : PS) : Lex s.length st (digitF s st).2 := by
  unfold digitF
  split
  · exact Lex.fail
  · rename_i c hc
    split
    · exact Lex.fail
    · exact Lex.adv (lt_of_get hc)

theorem escapedF_lex (s sp : List UInt8) (st : PS) : Lex s.length st (escapedF s sp st).2 := by
  unfold escapedF
  split
  · exact Lex.fail
  rename_i c hc
  have ha : Lex s.length st st.adv := Lex.adv (lt_of_get hc)
  split
  · exact ha
  split
  · exact ha
  split
  · exact ha
  split
  · dsimp only
    have h1 := digitF_lex s st.adv
    split
    · exact ha.then h1.weak
    · exact (ha.then h1.weak).then (digitF_lex s _).weak
  split
  · exact Lex.fail
  · exact ha

theorem escapedF_lt (s sp : List UInt8) (st : PS) : (escapedF s sp st).1 < 256 := by
  unfold escapedF
  split
  · simp
  rename_i c hc
  split
  · simp
  split
  · simp
  split
  · simp
  split
  · dsimp only
    split
    · simp
    · exact Nat.mod_lt _ (by decide)
  split
  · simp
  · exact c.toNat_lt

theorem letterF_lex (s sp : List UInt8) (st : PS) : Lex s.length st (letterF s sp st).2 := by
  unfold letterF
  split
  · exact Lex.fail
  rename_i c hc
  have ha : Lex s.length st st.adv := Lex.adv (lt_of_get hc)
  split
  · exact ha.then (escapedF_lex s sp _).weak
  split
  · exact Lex.fail
  · exact ha

theorem letterF_lt (s sp : List UInt8) (st : PS) : (letterF s sp st).1 < 256 := by
  unfold letterF
  split
  · simp
  rename_i c hc
  split
  · exact escapedF_lt _ _ _
  split
  · simp
  · exact c.toNat_lt

theorem spanF_lex (s : List UInt8) (f : Nat → Bool) (st : PS) : Lex s.length st (spanF s f st).2 := by
  unfold spanF
  dsimp only
  have h1 := letterF_lex s specialIn st
  split
  · exact h1
  have h2 := isB_lex s 45 (letterF s specialIn st).2
  split
  · have h3 := letterF_lex s specialIn (isB s 45 (letterF s specialIn st).2).2
    split
    · refine ⟨fun e => h2.le (h1.le e), (fun e => by cases e), ?_, ?_⟩
      · exact h3.long.trans (h2.long.trans h1.long)
      · exact h3.deep.trans (h2.deep.trans h1.deep)
    · exact (h1.then h2).then h3.weak
  · exact h1.then h2

theorem regex_parser_letter_spec {w : World} {bp : Nat} {s sp : ByteArray} {st : PS} {K : Int → World → Prop} (h : PO w bp s st) (hs : Small s) (hat : st.at_ ≤ s.size)
    (hk : ∀ w', Keeps (· = bp) w w' → PO w' bp s (letterF (bs s) (bs sp) st).2 → K (letterF (bs s) (bs sp) st).1 w') : regex_parser_letter.C (some ⟨bp, 0, none⟩) sp w K := by
  refine regex_parser_letter.ok _ _ _ _ ?_
  simp only [regex_parser_letter.M, NilC_some]
  refine regex_reader_peek_spec h hs fun w1 k1 => ?_
  have h1 := h.keep k1
  have fail : ∀ (K' : World → Prop), (∀ w', Keeps (· = bp) w w' → PO w' bp s st.fail → K' w') → regex_parser_fail.C (some ⟨bp, 0, none⟩) w1 fun _ w' => K' w' := fun K' hK =>
    regex_parser_fail_spec h1 fun p w2 k2 h2 _ => hK w2 ((k1.no).trans k2) h2
  cases hc : (bs s)[st.at_]? with
  | none =>
    simp only [Bool.not_false, Br_true]
    simp only [letterF, hc] at hk
    exact fail _ fun w' k h => hk w' k h
  | some c =>
    simp only [Bool.not_true, Br_false]
    rw [beq_lit (n := 92) 92 rfl]
    by_cases c1 : c = 92
    · simp only [letterF, hc, c1, if_true] at hk
      simp only [c1, decide_true, Br_true]
      refine Ld.int (cell_of h1 rfl) ?_
      refine PO.step h1 rfl hs hat fun w2 h2 k2 => ?_
      refine regex_parser_escaped_spec h2 hs ?_ fun w3 k3 h3 => ?_
      · exact at_lt hc
      · exact hk w3 (((k1.no).trans k2).trans k3) h3
    · simp only [letterF, hc, c1, if_false] at hk
      simp only [c1, decide_false, Br_false]
      dsimp only [Join]
      have no : (c ≤ 32 ∨ 127 ≤ c ∨ 0 ≤ Lib.indexByte (bs sp) c) → regex_parser_fail.C (some ⟨bp, 0, none⟩) w1 fun _ w' => K 0 w' := fun hh => by
        simp only [hh, if_true] at hk
        exact fail _ fun w' k h => hk w' k h
      have yes : ¬ (c ≤ 32 ∨ 127 ≤ c ∨ 0 ≤ Lib.indexByte (bs sp) c) → Ld (.int .i64) (Addr.add ⟨bp, 0, none⟩ 1) w1 fun x62 => St (Addr.add ⟨bp, 0, none⟩ 1) (.int .i64 (w64 (x62 + (1 : Int)))) w1 fun w4 => K c.toNat w4 := fun hh => by
        simp only [hh, if_false] at hk
        refine Ld.int (cell_of h1 rfl) ?_
        exact PO.step h1 rfl hs hat fun w2 h2 k2 => hk w2 ((k1.no).trans k2) h2
      refine Br.mk (fun ht => ?_) (fun hf => ?_)
      · have : c ≤ 32 := by
          have ht : (c.toNat : Int) ≤ 32 := of_decide_eq_true ht
          rw [UInt8.le_iff_toNat_le]; first | (show c.toNat ≤ 32; omega) | (show 127 ≤ c.toNat; omega)
        exact no (.inl this)
      · have n1 : ¬ c ≤ 32 := by
          have hf : ¬ (c.toNat : Int) ≤ 32 := of_decide_eq_false hf
          rw [UInt8.le_iff_toNat_le]; first | (show ¬ c.toNat ≤ 32; omega) | (show ¬ 127 ≤ c.toNat; omega)
        refine Br.mk (fun ht => ?_) (fun hf => ?_)
        · have : 127 ≤ c := by
            have ht : (127 : Int) ≤ c.toNat := of_decide_eq_true ht
            rw [UInt8.le_iff_toNat_le]; first | (show c.toNat ≤ 32; omega) | (show 127 ≤ c.toNat; omega)
          exact no (.inr (.inl this))
        · have n2 : ¬ 127 ≤ c := by
            have hf : ¬ (127 : Int) ≤ c.toNat := of_decide_eq_false hf
            rw [UInt8.le_iff_toNat_le]; first | (show ¬ c.toNat ≤ 32; omega) | (show ¬ 127 ≤ c.toNat; omega)
          refine strings_IndexByte_spec ?_
          rw [show ((c.toNat : Int)).toNat.toUInt8 = c from by simp]
          refine Br.mk (fun ht => ?_) (fun hf => ?_)
          · exact no (.inr (.inr (of_decide_eq_true ht)))
          · exact yes (by rintro (h | h | h); exact n1 h; exact n2 h; exact of_decide_eq_false hf h)

theorem regex_one_spec {w : World} {c : Nat} {K : (Int × Int × Int × Int) → World → Prop} (hc : c < 256)
    (hk : ∀ (n0 n1 n2 n3 : Nat) w', Keeps No w w' → Words (fun i => i == c) n0 n1 n2 n3 → K (n0, n1, n2, n3) w') : regex_one.C c w K := by
  refine regex_one.ok _ _ _ ?_
  simp only [regex_one.M]
  refine Al.mk fun b1 w1 h1 => Al.mk fun b2 w2 h2 => ⟨by decide, by decide, ?_, ?_⟩
  · rw [Int.tmod_eq_emod_of_nonneg (by omega)]; omega
  have e1 : IntKind.wrap .u8 (Int.tdiv (c : Int) 64) = ((c / 64 : Nat) : Int) := by
    rw [IntWalk.u8_quo _ _ (by omega)]; omega
  rw [e1]
  refine ⟨by omega, ?_⟩
  rw [Int.toNat_natCast, Nat.mul_one, shl_nat, add_eq, Nat.zero_add]
  have hw2 : WO w2 b2 (fun _ => false) := ⟨0, 0, 0, 0, h2.at_, Words.zero⟩
  obtain ⟨x, hx, hcell, hst⟩ := hw2.setBit hc
  have hx0 : x = 0 := by
    have h3 : ∀ j, j < 4 → w2.cell? ⟨b2, j, none⟩ = some (.int .u64 0) := fun j hj => by
      have : j = 0 ∨ j = 1 ∨ j = 2 ∨ j = 3 := by omega
      rcases this with rfl | rfl | rfl | rfl <;> exact cell_of h2.at_ rfl
    rw [h3 _ (by omega)] at hcell
    simp at hcell; omega
  subst hx0
  rw [Nat.zero_or] at hst
  refine hst _ fun w3 hw3 k3 => ?_
  obtain ⟨n0, n1, n2, n3, h3, hW⟩ := hw3
  refine Ld.int (cell_of h3 rfl) (Ld.int (cell_of h3 rfl) (Ld.int (cell_of h3 rfl) (Ld.int (cell_of h3 rfl) ?_)))
  have hne : b1 ≠ b2 := by have := h1.eq; have := h2.eq; have := h1.size; omega
  have g3 : w3.heap[b1]? = some _ := k3.blk (h2.keeps.blk0 h1.at_) hne
  refine St.blk g3 (by simp) fun w4 u4 => St.blk u4.at_ (by simp) fun w5 u5 => St.blk u5.at_ (by simp) fun w6 u6 => St.blk u6.at_ (by simp) fun w7 u7 => ?_
  refine Ld.int (cell_of u7.at_ rfl) (Ld.int (cell_of u7.at_ rfl) (Ld.int (cell_of u7.at_ rfl) (Ld.int (cell_of u7.at_ rfl) ?_)))
  have hk7 : Keeps No w w7 := by
    have e1 := h1.eq; have e2 := h2.eq; have s1 := h1.size
    have k0 : Keeps No w w2 := h1.keeps.trans h2.keeps
    have k1 : Keeps No w w3 := k0.then k3 fun i hi e => by omega
    have k2 : Keeps No w w4 := k1.then u4.keeps fun i hi e => by omega
    have k3 : Keeps No w w5 := k2.then u5.keeps fun i hi e => by omega
    have k4 : Keeps No w w6 := k3.then u6.keeps fun i hi e => by omega
    exact k4.then u7.keeps fun i hi e => by omega
  refine hk n0 n1 n2 n3 w7 hk7 ?_
  have e : (fun i => false || (i == c)) = (fun i => i == c) := by funext i; simp
  rw [← e]; exact hW

end Go.Fk
