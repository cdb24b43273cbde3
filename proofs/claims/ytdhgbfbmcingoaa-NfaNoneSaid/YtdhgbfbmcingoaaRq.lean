/-
  A part of the proof: what the functions of the program come to, read off the model: no premise of its own, no axiom. By an AI agent.
-/
import Derived.Test.YtdhgbfbmcingoaaRp
import Derived.Test.YtdhgbfbmcingoaaShelf
set_option linter.all false
set_option linter.unusedVariables false
set_option linter.unusedSimpArgs false
namespace Go.Fk
open Go

abbrev bs (s : ByteArray) : List UInt8 := s.data.toList

theorem size_bs (s : ByteArray) : s.size = (bs s).length := by show s.data.size = s.data.toList.length; simp
theorem get?_bs (s : ByteArray) (i : Nat) : s[i]? = (bs s)[i]? := by
  by_cases h : i < s.size
  · rw [getElem?_pos s i h, List.getElem?_eq_getElem (by rw [← size_bs]; exact h)]
    rfl
  · rw [getElem?_neg s i h, List.getElem?_eq_none (by rw [← size_bs]; omega)]

def pobj (s : ByteArray) (st : PS) : Obj :=
  .cells #[.string s, .int .i64 st.at_, .bool st.bad, .bool st.long, .int .i64 st.deep] T.regex_parser (0, 0)

/-- The parser's object lies there. -/
def PO (w : World) (bp : Nat) (s : ByteArray) (st : PS) : Prop := w.heap[bp]? = some (pobj s st)

theorem PO.keep {w w' : World} {bp : Nat} {s : ByteArray} {st : PS} (h : PO w bp s st) (hk : Keeps No w w') : PO w' bp s st := hk.blk0 h
theorem PO.heap {w w' : World} {bp : Nat} {s : ByteArray} {st : PS} (h : PO w bp s st) (hk : w'.heap = w.heap) : PO w' bp s st := by unfold PO at *; rw [hk]; exact h

def Small (s : ByteArray) : Prop := s.size ≤ 1048576

theorem regex_reader_peek_spec {w : World} {bp : Nat} {s : ByteArray} {st : PS} {K : Int × Bool → World → Prop} (h : PO w bp s st) (hs : Small s)
    (hk : ∀ w', Keeps No w w' → K (match (bs s)[st.at_]? with | some c => ((c.toNat : Int), true) | none => (0, false)) w') : regex_reader_peek.C (some ⟨bp, 0, none⟩) w K := by
  refine regex_reader_peek.ok _ _ _ ?_
  simp only [regex_reader_peek.M, NilC_some]
  refine Draw.mk fun w1 e1 k1 => ?_
  have h1 := h.heap e1
  refine LdS.int (cell_of h1 rfl) (LdS.str (cell_of h1 rfl) ?_)
  refine Br.mk (fun ht => ?_) (fun hf => ?_)
  · have ht : (bs s).length ≤ st.at_ := by rw [← size_bs]; simpa using ht
    have := hk w1 k1
    rwa [List.getElem?_eq_none ht] at this
  · have hf : st.at_ < (bs s).length := by rw [← size_bs]; simpa using hf
    refine Draw.mk fun w2 e2 k2 => ?_
    have h2 := h1.heap e2
    refine LdS.str (cell_of h2 rfl) (LdS.int (cell_of h2 rfl) ?_)
    refine ⟨by omega, (bs s)[st.at_], by rw [get?_bs]; exact List.getElem?_eq_getElem hf, rfl, ?_⟩
    have := hk w2 (k1.trans k2)
    rwa [List.getElem?_eq_getElem hf] at this

/-- A field of the parser is written. -/
theorem PO.st {w : World} {bp off : Nat} {s : ByteArray} {st st' : PS} {v : Value} {k : World → Prop} (h : PO w bp s st) (ho : off < 5)
    (he : (match pobj s st with | .cells cs E f => .cells (cs.setIfInBounds off v) E f | o => o) = pobj s st') (hk : ∀ w', PO w' bp s st' → Keeps (· = bp) w w' → k w') : St ⟨bp, off, none⟩ v w k := by
  refine St.blk h (by simpa using ho) fun w' hu => hk w' ?_ hu.keeps
  have := hu.at_
  simp only [pobj] at he
  unfold PO
  rw [this, pobj, ← he]

theorem regex_reader_is_spec {w : World} {bp : Nat} {s : ByteArray} {st : PS} {b : UInt8} {K : Bool → World → Prop} (h : PO w bp s st) (hs : Small s) (hat : st.at_ ≤ s.size)
    (hk : ∀ w', Keeps (· = bp) w w' → PO w' bp s (isB (bs s) b st).2 → K (isB (bs s) b st).1 w') : regex_reader_is.C (some ⟨bp, 0, none⟩) b.toNat w K := by
  refine regex_reader_is.ok _ _ _ _ ?_
  simp only [regex_reader_is.M, NilC_some]
  refine regex_reader_peek_spec h hs fun w1 k1 => ?_
  have h1 := h.keep k1
  unfold Join
  cases hc : (bs s)[st.at_]? with
  | none =>
    have := hk w1 k1.no
    simp only [isB, hc] at this
    simpa using this h1
  | some c =>
    simp only [Bool.not_true, Br_false]
    refine Br.mk (fun ht => ?_) (fun hf => ?_)
    · have hne : c ≠ b := by rintro rfl; simp at ht
      have := hk w1 k1.no
      simp only [isB, hc, Option.some.injEq, hne, if_false] at this
      exact this h1
    · have he : c = b := by
        have : (c.toNat : Int) = b.toNat := by simpa using hf
        exact UInt8.toNat_inj.1 (by omega)
      subst he
      have hlt : st.at_ < s.size := by
        rw [size_bs]; exact (List.getElem?_eq_some_iff.1 hc).1
      refine Ld.int (cell_of h1 rfl) ?_
      rw [w64_eq (by unfold Small at hs; omega)]
      refine PO.st (st' := st.adv) h1 (by simp) rfl fun w2 h2 k2 => ?_
      have := hk w2 ((k1.no).trans k2)
      simp only [isB, hc, if_true] at this
      exact this h2

theorem regex_parser_fail_spec {w : World} {bp : Nat} {s : ByteArray} {st : PS} {K : Option Addr → World → Prop} (h : PO w bp s st)
    (hk : ∀ p w', Keeps (· = bp) w w' → PO w' bp s st.fail → (∀ M : Nat → Prop, Old M w → Nd (V M w') p .empty) → K p w') : regex_parser_fail.C (some ⟨bp, 0, none⟩) w K := by
  refine regex_parser_fail.ok _ _ _ ?_
  simp only [regex_parser_fail.M, NilC_some]
  refine PO.st (st' := st.fail) h (by simp) rfl fun w1 h1 k1 => ?_
  refine regex_Empty_spec fun p w2 k2 hN => ?_
  exact hk p w2 (k1.then0 k2) (h1.keep k2) fun M hM => hN M (hM.keeps k1)

theorem indexByte_lt (l : List UInt8) (c : UInt8) : Lib.indexByte l c < l.length := by
  induction l with
  | nil => simp [Lib.indexByte]
  | cons b l ih =>
    simp only [Lib.indexByte, List.length_cons]
    split
    · omega
    · split <;> omega

theorem beq_lit {c : UInt8} (k : UInt8) {n : Int} (hn : (k.toNat : Int) = n) : ((c.toNat : Int) == n) = decide (c = k) := by
  subst hn
  by_cases h : c = k
  · subst h; simp
  · have : c.toNat ≠ k.toNat := fun e => h (UInt8.toNat_inj.1 e)
    simp [h]; omega

theorem strings_IndexByte_spec {w : World} {s : ByteArray} {c : Int} {K : Int → World → Prop} (hk : K (Lib.indexByte (bs s) c.toNat.toUInt8) w) : strings_IndexByte.C s c w K :=
  (Go.Proofs.Try.strings_IndexByte s c w).mono fun e w' ⟨h1, h2⟩ => ⟨_, h1, h2 ▸ hk⟩

theorem regex_parser_digit_spec {w : World} {bp : Nat} {s : ByteArray} {st : PS} {K : Int → World → Prop} (h : PO w bp s st) (hs : Small s)
    (hk : ∀ w', Keeps (· = bp) w w' → PO w' bp s (digitF (bs s) st).2 → K (digitF (bs s) st).1 w') : regex_parser_digit.C (some ⟨bp, 0, none⟩) w K := by
  refine regex_parser_digit.ok _ _ _ ?_
  simp only [regex_parser_digit.M, NilC_some]
  refine regex_reader_peek_spec h hs fun w1 k1 => strings_IndexByte_spec ?_
  have h1 := h.keep k1
  unfold Join
  have fail : ∀ K' : World → Prop, (∀ w', Keeps (· = bp) w w' → PO w' bp s st.fail → K' w') → regex_parser_fail.C (some ⟨bp, 0, none⟩) w1 fun _ w' => K' w' := fun K' hK =>
    regex_parser_fail_spec h1 fun p w2 k2 h2 _ => hK w2 ((k1.no).trans k2) h2
  cases hc : (bs s)[st.at_]? with
  | none =>
    simp only [Bool.not_false, Br_true]
    simp only [digitF, hc] at hk
    exact fail _ fun w' k h => hk w' k h
  | some c =>
    simp only [Bool.not_true, Br_false]
    have ec : ((c.toNat : Int)).toNat.toUInt8 = c := by simp
    rw [ec]
    refine Br.mk (fun ht => ?_) (fun hf => ?_)
    · have ht : Lib.indexByte hexDigits c < 0 := of_decide_eq_true ht
      simp only [digitF, hc, ht, if_true] at hk
      exact fail _ fun w' k h => hk w' k h
    · have hf : ¬ Lib.indexByte hexDigits c < 0 := of_decide_eq_false hf
      simp only [digitF, hc, hf, if_false] at hk
      have hlt : st.at_ < s.size := by
        rw [size_bs]; exact (List.getElem?_eq_some_iff.1 hc).1
      refine Ld.int (cell_of h1 rfl) ?_
      rw [w64_eq (by unfold Small at hs; omega)]
      refine PO.st (st' := st.adv) h1 (by simp) rfl fun w2 h2 k2 => ?_
      have := hk w2 ((k1.no).trans k2) h2
      have hb : Lib.indexByte hexDigits c < 16 := indexByte_lt hexDigits c
      rw [show IntKind.wrap .u8 (Lib.indexByte (bs ⟨#[48, 49, 50, 51, 52, 53, 54, 55, 56, 57, 97, 98, 99, 100, 101, 102]⟩) c) = ((Lib.indexByte hexDigits c).toNat : Int) from ?_]
      · exact this
      · show IntKind.wrap .u8 (Lib.indexByte hexDigits c) = _
        rw [IntWalk.u8_in _ (by omega)]; omega


/-- The parser goes one byte on. -/
theorem PO.step {w : World} {bp : Nat} {s : ByteArray} {st : PS} {k : World → Prop} {x : Int} (h : PO w bp s st) (hx : x = st.at_) (hs : Small s) (hat : st.at_ ≤ s.size)
    (hk : ∀ w', PO w' bp s st.adv → Keeps (· = bp) w w' → k w') : St ⟨bp, 1, none⟩ (.int .i64 (w64 (x + (1 : Int)))) w k := by
  subst hx
  unfold Small at hs
  rw [w64_eq (by omega)]
  exact PO.st h (by simp) rfl hk

theorem at_lt {s : ByteArray} {st : PS} {c : UInt8} (h : (bs s)[st.at_]? = some c) : st.at_ < s.size := by
  rw [size_bs]; exact (List.getElem?_eq_some_iff.1 h).1

theorem digitF_at {s : ByteArray} {st : PS} (h : st.at_ ≤ s.size) : (digitF (bs s) st).2.at_ ≤ s.size := by
  unfold digitF
  split
  · exact h
  · rename_i c hc
    split
    · exact h
    · exact at_lt hc

theorem digitF_lt (s : List UInt8) (st : PS) : (digitF s st).1 < 16 := by
  unfold digitF
  split
  · simp
  · split
    · simp
    · rename_i c _ _
      have : Lib.indexByte hexDigits c < 16 := indexByte_lt hexDigits c
      simp only []; omega

theorem regex_parser_escaped_spec {w : World} {bp : Nat} {s sp : ByteArray} {st : PS} {K : Int → World → Prop} (h : PO w bp s st) (hs : Small s) (hat : st.at_ ≤ s.size)
    (hk : ∀ w', Keeps (· = bp) w w' → PO w' bp s (escapedF (bs s) (bs sp) st).2 → K (escapedF (bs s) (bs sp) st).1 w') : regex_parser_escaped.C (some ⟨bp, 0, none⟩) sp w K := by
  refine regex_parser_escaped.ok _ _ _ _ ?_
  simp only [regex_parser_escaped.M, NilC_some]
  refine regex_reader_peek_spec h hs fun w1 k1 => ?_
  have h1 := h.keep k1
  have fail : ∀ (K' : World → Prop), (∀ w', Keeps (· = bp) w w' → PO w' bp s st.fail → K' w') → regex_parser_fail.C (some ⟨bp, 0, none⟩) w1 fun _ w' => K' w' := fun K' hK =>
    regex_parser_fail_spec h1 fun p w2 k2 h2 _ => hK w2 ((k1.no).trans k2) h2
  cases hc : (bs s)[st.at_]? with
  | none =>
    simp only [Bool.not_false, Br_true]
    simp only [escapedF, hc] at hk
    exact fail _ fun w' k h => hk w' k h
  | some c =>
    simp only [Bool.not_true, Br_false]
    unfold Join
    have go : ∀ n : Nat, (∀ w', Keeps (· = bp) w w' → PO w' bp s st.adv → K n w') →
        Ld (.int .i64) (Addr.add ⟨bp, 0, none⟩ 1) w1 fun x62 => St (Addr.add ⟨bp, 0, none⟩ 1) (.int .i64 (w64 (x62 + (1 : Int)))) w1 fun w4 => K n w4 := by
      intro n hK
      refine Ld.int (cell_of h1 rfl) ?_
      exact PO.step h1 rfl hs hat fun w2 h2 k2 => hK w2 ((k1.no).trans k2) h2
    dsimp only
    rw [beq_lit (n := 110) 110 rfl, beq_lit (n := 116) 116 rfl, beq_lit (n := 115) 115 rfl, beq_lit (n := 120) 120 rfl]
    by_cases c1 : c = 110
    · simp only [escapedF, hc, c1, if_true] at hk
      simp only [c1, decide_true, Br_true]
      exact go 10 hk
    by_cases c2 : c = 116
    · simp only [escapedF, hc, c1, c2, if_true, if_false] at hk
      simp only [c1, decide_true, decide_false, Br_false, Br_true, c2]
      exact go 9 (by simpa using hk)
    by_cases c3 : c = 115
    · simp only [escapedF, hc, c1, c2, c3, if_true, if_false] at hk
      simp only [c3, decide_true, Br_true]
      exact go 32 (by simpa using hk)
    by_cases c4 : c = 120
    · simp only [escapedF, hc, c4] at hk
      simp only [c4]
      refine Ld.int (cell_of h1 rfl) ?_
      refine PO.step h1 rfl hs hat fun w2 h2 k2 => ?_
      refine regex_parser_digit_spec h2 hs fun w3 k3 h3 => ?_
      refine Ld.bool (cell_of h3 rfl) ?_
      have k13 : Keeps (· = bp) w w3 := ((k1.no).trans k2).trans k3
      cases hb : (digitF (bs s) st.adv).2.bad with
      | true =>
        have := hk w3 k13
        simp only [hb] at this
        exact this h3
      | false =>
        refine regex_parser_digit_spec h3 hs fun w4 k4 h4 => ?_
        have := hk w4 (k13.trans k4)
        simp only [hb] at this
        have l1 := digitF_lt (bs s) st.adv
        have l2 := digitF_lt (bs s) (digitF (bs s) st.adv).2
        rw [IntWalk.u8_in (16 * _) (by omega), IntWalk.u8_in _ (by omega)]
        have e : ((16 : Int) * ((digitF (bs s) st.adv).1 : Int) + ((digitF (bs s) (digitF (bs s) st.adv).2).1 : Int)) = (((16 * (digitF (bs s) st.adv).1 + (digitF (bs s) (digitF (bs s) st.adv).2).1) % 256 : Nat) : Int) := by omega
        rw [e]
        exact this h4
    · simp only [escapedF, hc, c1, c2, c3, c4, if_false] at hk
      simp only [c1, c2, c3, c4, decide_false, Br_false]
      refine strings_IndexByte_spec ?_
      rw [show ((c.toNat : Int)).toNat.toUInt8 = c from by simp]
      refine Br.mk (fun ht => ?_) (fun hf => ?_)
      · have ht : Lib.indexByte (bs sp) c < 0 := of_decide_eq_true ht
        simp only [ht, if_true] at hk
        exact fail _ fun w' k h => hk w' k h
      · have hf : ¬ Lib.indexByte (bs sp) c < 0 := of_decide_eq_false hf
        simp only [hf, if_false] at hk
        exact go c.toNat hk

end Go.Fk
