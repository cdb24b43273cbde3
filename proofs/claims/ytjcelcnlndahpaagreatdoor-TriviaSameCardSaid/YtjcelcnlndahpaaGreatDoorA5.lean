/-
  A part of the proof: what the functions of the program come to, read off the model: no premise of its own, no axiom. By an AI agent.
-/
import Derived.Test.YtjcelcnlndahpaaGreatDoorA4
import Derived.Test.YtjcelcnlndahpaaGreatDoorShelf
import Derived.Test.YtjcelcnlndahpaaGreatDoorA3
import Derived.Laws.MakeOwn
import Derived.Laws.OwnMore
import Derived.Laws.CopyRow
import Derived.Laws.BytesArg
import Derived.Test.YtjcelcnlndahpaaGreatDoorA1
import Derived.Great.BuildSlice
set_option linter.all false
section
set_option linter.unusedVariables false
set_option linter.unusedSimpArgs false
namespace Go.Fk
open Go

abbrev bs (s : ByteArray) : List UInt8 := s.data.toList

theorem size_bs (s : ByteArray) : s.size = (bs s).length := by show s.data.size = s.data.toList.length; simp
theorem get?_bs (s : ByteArray) (i : Nat) : s[i]? = (bs s)[i]? := by
  by_cases h : i < s.size
  · rw [getElem?_pos s i h, List.getElem?_eq_getElem (by rw [← size_bs]; exact h)]
    rfl
  · rw [getElem?_neg s i h, List.getElem?_eq_none (by rw [← size_bs]; omega)]

def pobj (s : ByteArray) (st : PS) : Obj :=
  .cells #[.string s, .int .i64 st.at_, .bool st.bad, .bool st.long, .int .i64 st.deep] T.regex_parser (0, 0)

/-- The parser's object lies there. -/
def PO (w : World) (bp : Nat) (s : ByteArray) (st : PS) : Prop := w.heap[bp]? = some (pobj s st)

theorem PO.keep {w w' : World} {bp : Nat} {s : ByteArray} {st : PS} (h : PO w bp s st) (hk : Keeps No w w') : PO w' bp s st := hk.blk0 h
theorem PO.heap {w w' : World} {bp : Nat} {s : ByteArray} {st : PS} (h : PO w bp s st) (hk : w'.heap = w.heap) : PO w' bp s st := by unfold PO at *; rw [hk]; exact h

def Small (s : ByteArray) : Prop := s.size ≤ 1048576

theorem regex_reader_peek_spec {w : World} {bp : Nat} {s : ByteArray} {st : PS} {K : Int × Bool → World → Prop} (h : PO w bp s st) (hs : Small s)
    (hk : ∀ w', Keeps No w w' → K (match (bs s)[st.at_]? with | some c => ((c.toNat : Int), true) | none => (0, false)) w') : regex_reader_peek.C (some ⟨bp, 0, none⟩) w K := by
  refine regex_reader_peek.ok _ _ _ ?_
  simp only [regex_reader_peek.M, NilC_some]
  refine Draw.mk fun w1 e1 k1 => ?_
  have h1 := h.heap e1
  refine LdS.int (cell_of h1 rfl) (LdS.str (cell_of h1 rfl) ?_)
  refine Br.mk (fun ht => ?_) (fun hf => ?_)
  · have ht : (bs s).length ≤ st.at_ := by rw [← size_bs]; simpa using ht
    have := hk w1 k1
    rwa [List.getElem?_eq_none ht] at this
  · have hf : st.at_ < (bs s).length := by rw [← size_bs]; simpa using hf
    refine Draw.mk fun w2 e2 k2 => ?_
    have h2 := h1.heap e2
    refine LdS.str (cell_of h2 rfl) (LdS.int (cell_of h2 rfl) ?_)
    refine ⟨by omega, (bs s)[st.at_], by rw [get?_bs]; exact List.getElem?_eq_getElem hf, rfl, ?_⟩
    have := hk w2 (k1.trans k2)
    rwa [List.getElem?_eq_getElem hf] at this

/-- A field of the parser is written. -/
theorem PO.st {w : World} {bp off : Nat} {s : ByteArray} {st st' : PS} {v : Value} {k : World → Prop} (h : PO w bp s st) (ho : off < 5)
    (he : (match pobj s st with | .cells cs E f => .cells (cs.setIfInBounds off v) E f | o => o) = pobj s st') (hk : ∀ w', PO w' bp s st' → Keeps (· = bp) w w' → k w') : St ⟨bp, off, none⟩ v w k := by
  refine St.blk h (by simpa using ho) fun w' hu => hk w' ?_ hu.keeps
  have := hu.at_
  simp only [pobj] at he
  unfold PO
  rw [this, pobj, ← he]

theorem regex_reader_is_spec {w : World} {bp : Nat} {s : ByteArray} {st : PS} {b : UInt8} {K : Bool → World → Prop} (h : PO w bp s st) (hs : Small s) (hat : st.at_ ≤ s.size)
    (hk : ∀ w', Keeps (· = bp) w w' → PO w' bp s (isB (bs s) b st).2 → K (isB (bs s) b st).1 w') : regex_reader_is.C (some ⟨bp, 0, none⟩) b.toNat w K := by
  refine regex_reader_is.ok _ _ _ _ ?_
  simp only [regex_reader_is.M, NilC_some]
  refine regex_reader_peek_spec h hs fun w1 k1 => ?_
  have h1 := h.keep k1
  unfold Join
  cases hc : (bs s)[st.at_]? with
  | none =>
    have := hk w1 k1.no
    simp only [isB, hc] at this
    simpa using this h1
  | some c =>
    simp only [Bool.not_true, Br_false]
    refine Br.mk (fun ht => ?_) (fun hf => ?_)
    · have hne : c ≠ b := by rintro rfl; simp at ht
      have := hk w1 k1.no
      simp only [isB, hc, Option.some.injEq, hne, if_false] at this
      exact this h1
    · have he : c = b := by
        have : (c.toNat : Int) = b.toNat := by simpa using hf
        exact UInt8.toNat_inj.1 (by omega)
      subst he
      have hlt : st.at_ < s.size := by
        rw [size_bs]; exact (List.getElem?_eq_some_iff.1 hc).1
      refine Ld.int (cell_of h1 rfl) ?_
      rw [w64_eq (by unfold Small at hs; omega)]
      refine PO.st (st' := st.adv) h1 (by simp) rfl fun w2 h2 k2 => ?_
      have := hk w2 ((k1.no).trans k2)
      simp only [isB, hc, if_true] at this
      exact this h2

theorem regex_parser_fail_spec {w : World} {bp : Nat} {s : ByteArray} {st : PS} {K : Option Addr → World → Prop} (h : PO w bp s st)
    (hk : ∀ p w', Keeps (· = bp) w w' → PO w' bp s st.fail → (∀ M : Nat → Prop, Old M w → Nd (V M w') p .empty) → K p w') : regex_parser_fail.C (some ⟨bp, 0, none⟩) w K := by
  refine regex_parser_fail.ok _ _ _ ?_
  simp only [regex_parser_fail.M, NilC_some]
  refine PO.st (st' := st.fail) h (by simp) rfl fun w1 h1 k1 => ?_
  refine regex_Empty_spec fun p w2 k2 hN => ?_
  exact hk p w2 (k1.then0 k2) (h1.keep k2) fun M hM => hN M (hM.keeps k1)

theorem indexByte_lt (l : List UInt8) (c : UInt8) : Lib.indexByte l c < l.length := by
  induction l with
  | nil => simp [Lib.indexByte]
  | cons b l ih =>
    simp only [Lib.indexByte, List.length_cons]
    split
    · omega
    · split <;> omega

theorem beq_lit {c : UInt8} (k : UInt8) {n : Int} (hn : (k.toNat : Int) = n) : ((c.toNat : Int) == n) = decide (c = k) := by
  subst hn
  by_cases h : c = k
  · subst h; simp
  · have : c.toNat ≠ k.toNat := fun e => h (UInt8.toNat_inj.1 e)
    simp [h]; omega

theorem strings_IndexByte_spec {w : World} {s : ByteArray} {c : Int} {K : Int → World → Prop} (hk : K (Lib.indexByte (bs s) c.toNat.toUInt8) w) : strings_IndexByte.C s c w K :=
  (Go.Proofs.Tryz.strings_IndexByte s c w).mono fun e w' ⟨h1, h2⟩ => ⟨_, h1, h2 ▸ hk⟩

theorem regex_parser_digit_spec {w : World} {bp : Nat} {s : ByteArray} {st : PS} {K : Int → World → Prop} (h : PO w bp s st) (hs : Small s)
    (hk : ∀ w', Keeps (· = bp) w w' → PO w' bp s (digitF (bs s) st).2 → K (digitF (bs s) st).1 w') : regex_parser_digit.C (some ⟨bp, 0, none⟩) w K := by
  refine regex_parser_digit.ok _ _ _ ?_
  simp only [regex_parser_digit.M, NilC_some]
  refine regex_reader_peek_spec h hs fun w1 k1 => strings_IndexByte_spec ?_
  have h1 := h.keep k1
  unfold Join
  have fail : ∀ K' : World → Prop, (∀ w', Keeps (· = bp) w w' → PO w' bp s st.fail → K' w') → regex_parser_fail.C (some ⟨bp, 0, none⟩) w1 fun _ w' => K' w' := fun K' hK =>
    regex_parser_fail_spec h1 fun p w2 k2 h2 _ => hK w2 ((k1.no).trans k2) h2
  cases hc : (bs s)[st.at_]? with
  | none =>
    simp only [Bool.not_false, Br_true]
    simp only [digitF, hc] at hk
    exact fail _ fun w' k h => hk w' k h
  | some c =>
    simp only [Bool.not_true, Br_false]
    have ec : ((c.toNat : Int)).toNat.toUInt8 = c := by simp
    rw [ec]
    refine Br.mk (fun ht => ?_) (fun hf => ?_)
    · have ht : Lib.indexByte hexDigits c < 0 := of_decide_eq_true ht
      simp only [digitF, hc, ht, if_true] at hk
      exact fail _ fun w' k h => hk w' k h
    · have hf : ¬ Lib.indexByte hexDigits c < 0 := of_decide_eq_false hf
      simp only [digitF, hc, hf, if_false] at hk
      have hlt : st.at_ < s.size := by
        rw [size_bs]; exact (List.getElem?_eq_some_iff.1 hc).1
      refine Ld.int (cell_of h1 rfl) ?_
      rw [w64_eq (by unfold Small at hs; omega)]
      refine PO.st (st' := st.adv) h1 (by simp) rfl fun w2 h2 k2 => ?_
      have := hk w2 ((k1.no).trans k2) h2
      have hb : Lib.indexByte hexDigits c < 16 := indexByte_lt hexDigits c
      rw [show IntKind.wrap .u8 (Lib.indexByte (bs ⟨#[48, 49, 50, 51, 52, 53, 54, 55, 56, 57, 97, 98, 99, 100, 101, 102]⟩) c) = ((Lib.indexByte hexDigits c).toNat : Int) from ?_]
      · exact this
      · show IntKind.wrap .u8 (Lib.indexByte hexDigits c) = _
        rw [IntWalk.u8_in _ (by omega)]; omega


/-- The parser goes one byte on. -/
theorem PO.step {w : World} {bp : Nat} {s : ByteArray} {st : PS} {k : World → Prop} {x : Int} (h : PO w bp s st) (hx : x = st.at_) (hs : Small s) (hat : st.at_ ≤ s.size)
    (hk : ∀ w', PO w' bp s st.adv → Keeps (· = bp) w w' → k w') : St ⟨bp, 1, none⟩ (.int .i64 (w64 (x + (1 : Int)))) w k := by
  subst hx
  unfold Small at hs
  rw [w64_eq (by omega)]
  exact PO.st h (by simp) rfl hk

theorem at_lt {s : ByteArray} {st : PS} {c : UInt8} (h : (bs s)[st.at_]? = some c) : st.at_ < s.size := by
  rw [size_bs]; exact (List.getElem?_eq_some_iff.1 h).1

theorem digitF_at {s : ByteArray} {st : PS} (h : st.at_ ≤ s.size) : (digitF (bs s) st).2.at_ ≤ s.size := by
  unfold digitF
  split
  · exact h
  · rename_i c hc
    split
    · exact h
    · exact at_lt hc

theorem digitF_lt (s : List UInt8) (st : PS) : (digitF s st).1 < 16 := by
  unfold digitF
  split
  · simp
  · split
    · simp
    · rename_i c _ _
      have : Lib.indexByte hexDigits c < 16 := indexByte_lt hexDigits c
      simp only []; omega

theorem regex_parser_escaped_spec {w : World} {bp : Nat} {s sp : ByteArray} {st : PS} {K : Int → World → Prop} (h : PO w bp s st) (hs : Small s) (hat : st.at_ ≤ s.size)
    (hk : ∀ w', Keeps (· = bp) w w' → PO w' bp s (escapedF (bs s) (bs sp) st).2 → K (escapedF (bs s) (bs sp) st).1 w') : regex_parser_escaped.C (some ⟨bp, 0, none⟩) sp w K := by
  refine regex_parser_escaped.ok _ _ _ _ ?_
  simp only [regex_parser_escaped.M, NilC_some]
  refine regex_reader_peek_spec h hs fun w1 k1 => ?_
  have h1 := h.keep k1
  have fail : ∀ (K' : World → Prop), (∀ w', Keeps (· = bp) w w' → PO w' bp s st.fail → K' w') → regex_parser_fail.C (some ⟨bp, 0, none⟩) w1 fun _ w' => K' w' := fun K' hK =>
    regex_parser_fail_spec h1 fun p w2 k2 h2 _ => hK w2 ((k1.no).trans k2) h2
  cases hc : (bs s)[st.at_]? with
  | none =>
    simp only [Bool.not_false, Br_true]
    simp only [escapedF, hc] at hk
    exact fail _ fun w' k h => hk w' k h
  | some c =>
    simp only [Bool.not_true, Br_false]
    unfold Join
    have go : ∀ n : Nat, (∀ w', Keeps (· = bp) w w' → PO w' bp s st.adv → K n w') →
        Ld (.int .i64) (Addr.add ⟨bp, 0, none⟩ 1) w1 fun x62 => St (Addr.add ⟨bp, 0, none⟩ 1) (.int .i64 (w64 (x62 + (1 : Int)))) w1 fun w4 => K n w4 := by
      intro n hK
      refine Ld.int (cell_of h1 rfl) ?_
      exact PO.step h1 rfl hs hat fun w2 h2 k2 => hK w2 ((k1.no).trans k2) h2
    dsimp only
    rw [beq_lit (n := 110) 110 rfl, beq_lit (n := 116) 116 rfl, beq_lit (n := 115) 115 rfl, beq_lit (n := 120) 120 rfl]
    by_cases c1 : c = 110
    · simp only [escapedF, hc, c1, if_true] at hk
      simp only [c1, decide_true, Br_true]
      exact go 10 hk
    by_cases c2 : c = 116
    · simp only [escapedF, hc, c1, c2, if_true, if_false] at hk
      simp only [c1, decide_true, decide_false, Br_false, Br_true, c2]
      exact go 9 (by simpa using hk)
    by_cases c3 : c = 115
    · simp only [escapedF, hc, c1, c2, c3, if_true, if_false] at hk
      simp only [c3, decide_true, Br_true]
      exact go 32 (by simpa using hk)
    by_cases c4 : c = 120
    · simp only [escapedF, hc, c4] at hk
      simp only [c4]
      refine Ld.int (cell_of h1 rfl) ?_
      refine PO.step h1 rfl hs hat fun w2 h2 k2 => ?_
      refine regex_parser_digit_spec h2 hs fun w3 k3 h3 => ?_
      refine Ld.bool (cell_of h3 rfl) ?_
      have k13 : Keeps (· = bp) w w3 := ((k1.no).trans k2).trans k3
      cases hb : (digitF (bs s) st.adv).2.bad with
      | true =>
        have := hk w3 k13
        simp only [hb] at this
        exact this h3
      | false =>
        refine regex_parser_digit_spec h3 hs fun w4 k4 h4 => ?_
        have := hk w4 (k13.trans k4)
        simp only [hb] at this
        have l1 := digitF_lt (bs s) st.adv
        have l2 := digitF_lt (bs s) (digitF (bs s) st.adv).2
        rw [IntWalk.u8_in (16 * _) (by omega), IntWalk.u8_in _ (by omega)]
        have e : ((16 : Int) * ((digitF (bs s) st.adv).1 : Int) + ((digitF (bs s) (digitF (bs s) st.adv).2).1 : Int)) = (((16 * (digitF (bs s) st.adv).1 + (digitF (bs s) (digitF (bs s) st.adv).2).1) % 256 : Nat) : Int) := by omega
        rw [e]
        exact this h4
    · simp only [escapedF, hc, c1, c2, c3, c4, if_false] at hk
      simp only [c1, c2, c3, c4, decide_false, Br_false]
      refine strings_IndexByte_spec ?_
      rw [show ((c.toNat : Int)).toNat.toUInt8 = c from by simp]
      refine Br.mk (fun ht => ?_) (fun hf => ?_)
      · have ht : Lib.indexByte (bs sp) c < 0 := of_decide_eq_true ht
        simp only [ht, if_true] at hk
        exact fail _ fun w' k h => hk w' k h
      · have hf : ¬ Lib.indexByte (bs sp) c < 0 := of_decide_eq_false hf
        simp only [hf, if_false] at hk
        exact go c.toNat hk

end Go.Fk
end

section
set_option linter.unusedVariables false
set_option linter.unusedSimpArgs false
namespace Go.Fk
open Go

theorem u64_wrap {n : Nat} (h : n < 2 ^ 64) : IntKind.wrap .u64 (n : Int) = n := IntWalk.u64_in _ (by omega)

theorem ofInt_nat (n : Nat) : BitVec.ofInt 64 (n : Int) = BitVec.ofNat 64 n := by
  apply BitVec.eq_of_toNat_eq
  simp

theorem bOr_nat {x y : Nat} (hx : x < 2 ^ 64) (hy : y < 2 ^ 64) : bOr .u64 (x : Int) (y : Int) = ((x ||| y : Nat) : Int) := by
  have e : (BitVec.ofInt (IntKind.bits .u64) (x : Int) ||| BitVec.ofInt (IntKind.bits .u64) (y : Int)).toNat = x ||| y := by
    show (BitVec.ofInt 64 (x : Int) ||| BitVec.ofInt 64 (y : Int)).toNat = x ||| y
    rw [ofInt_nat, ofInt_nat, BitVec.toNat_or, BitVec.toNat_ofNat, BitVec.toNat_ofNat, Nat.mod_eq_of_lt hx, Nat.mod_eq_of_lt hy]
  unfold bOr
  rw [e, u64_wrap (Nat.or_lt_two_pow hx hy)]

theorem bAnd_nat {x y : Nat} (hx : x < 2 ^ 64) (hy : y < 2 ^ 64) : bAnd .u64 (x : Int) (y : Int) = ((x &&& y : Nat) : Int) := by
  have e : (BitVec.ofInt (IntKind.bits .u64) (x : Int) &&& BitVec.ofInt (IntKind.bits .u64) (y : Int)).toNat = x &&& y := by
    show (BitVec.ofInt 64 (x : Int) &&& BitVec.ofInt 64 (y : Int)).toNat = x &&& y
    rw [ofInt_nat, ofInt_nat, BitVec.toNat_and, BitVec.toNat_ofNat, BitVec.toNat_ofNat, Nat.mod_eq_of_lt hx, Nat.mod_eq_of_lt hy]
  unfold bAnd
  rw [e, u64_wrap (Nat.and_lt_two_pow _ hy)]

theorem bNot_nat {x : Nat} (hx : x < 2 ^ 64) : bNot .u64 (x : Int) = (((2 ^ 64 - 1) ^^^ x : Nat) : Int) := by
  have hm : (2 ^ 64 - 1 : Nat) < 2 ^ 64 := by decide
  have e : (BitVec.ofInt (IntKind.bits .u64) ((2 ^ 64 - 1 : Nat) : Int) ^^^ BitVec.ofInt (IntKind.bits .u64) (x : Int)).toNat = (2 ^ 64 - 1) ^^^ x := by
    show (BitVec.ofInt 64 ((2 ^ 64 - 1 : Nat) : Int) ^^^ BitVec.ofInt 64 (x : Int)).toNat = _
    rw [ofInt_nat, ofInt_nat, BitVec.toNat_xor, BitVec.toNat_ofNat, BitVec.toNat_ofNat, Nat.mod_eq_of_lt hm, Nat.mod_eq_of_lt hx]
  have e2 : (if IntKind.signed .u64 then (-1 : Int) else IntKind.max .u64) = ((2 ^ 64 - 1 : Nat) : Int) := by decide
  unfold bNot bXor
  rw [e2, e, u64_wrap (Nat.xor_lt_two_pow hm hx)]

theorem Word.not {f : Nat → Bool} {k n : Nat} (h : Word f k n) : Word (fun i => !f i) k ((2 ^ 64 - 1) ^^^ n) := by
  refine ⟨Nat.xor_lt_two_pow (by decide) h.1, fun i hi => ?_⟩
  rw [Nat.testBit_xor, h.2 i hi, Nat.testBit_two_pow_sub_one]
  simp [hi]

theorem Word.congr {f g : Nat → Bool} {k n : Nat} (h : Word f k n) (e : ∀ i, 64 * k ≤ i → i < 64 * k + 64 → f i = g i) : Word g k n :=
  ⟨h.1, fun i hi => by rw [h.2 i hi]; exact e _ (by omega) (by omega)⟩

theorem Word.zero (k : Nat) : Word (fun _ => false) k 0 := ⟨by decide, fun i _ => by simp⟩

/-- One bit is set in the word in which it lies. -/
theorem Word.set {f : Nat → Bool} {k n b : Nat} (h : Word f k n) (hb : b / 64 = k) : Word (fun i => f i || (i == b)) k (n ||| 2 ^ (b % 64)) := by
  have h2 : 2 ^ (b % 64) < 2 ^ 64 := Nat.pow_lt_pow_right (by decide) (Nat.mod_lt _ (by decide))
  refine ⟨Nat.or_lt_two_pow h.1 h2, fun i hi => ?_⟩
  rw [Nat.testBit_or, h.2 i hi, Nat.testBit_two_pow]
  congr 1
  by_cases e : b % 64 = i
  · simp [e]; omega
  · have : ¬ 64 * k + i = b := by omega
    simp [e, this]

theorem shl_nat (b : Nat) : IntKind.wrap .u64 ((1 : Int) * 2 ^ min (Int.toNat (Int.tmod (b : Int) (64 : Int))) (IntKind.bits .u64)) = ((2 ^ (b % 64) : Nat) : Int) := by
  have e : Int.tmod (b : Int) 64 = ((b % 64 : Nat) : Int) := by rw [Int.tmod_eq_emod_of_nonneg (by omega)]; omega
  have e2 : min (Int.toNat ((b % 64 : Nat) : Int)) (IntKind.bits .u64) = b % 64 := by
    rw [Int.toNat_natCast]; exact Nat.min_eq_left (Nat.le_of_lt (Nat.mod_lt _ (by decide)))
  rw [e, e2, Int.one_mul]
  have h2 : 2 ^ (b % 64) < 2 ^ 64 := Nat.pow_lt_pow_right (by decide) (Nat.mod_lt _ (by decide))
  have e3 : (2 : Int) ^ (b % 64) = ((2 ^ (b % 64) : Nat) : Int) := by simp
  rw [e3, u64_wrap h2]

/-- Four words that lie in a block. -/
def WO (w : World) (b : Nat) (f : Nat → Bool) : Prop := ∃ n0 n1 n2 n3 : Nat, w.heap[b]? = some (.cells #[.int .u64 n0, .int .u64 n1, .int .u64 n2, .int .u64 n3] T.a4_uint64 (0, 0)) ∧ Words f n0 n1 n2 n3

theorem WO.keep {w w' : World} {b : Nat} {f : Nat → Bool} {M : Nat → Prop} (h : WO w b f) (hk : Keeps M w w') (hm : ¬ M b) : WO w' b f := by
  obtain ⟨n0, n1, n2, n3, h1, h2⟩ := h
  exact ⟨n0, n1, n2, n3, hk.blk h1 hm, h2⟩
theorem WO.heap {w w' : World} {b : Nat} {f : Nat → Bool} (h : WO w b f) (hk : w'.heap = w.heap) : WO w' b f := by unfold WO at *; rw [hk]; exact h
theorem WO.lt {w : World} {b : Nat} {f : Nat → Bool} (h : WO w b f) : b < w.heap.size := by obtain ⟨_, _, _, _, h1, _⟩ := h; exact lt_of_some h1

theorem Words.zero : Words (fun _ => false) 0 0 0 0 := ⟨Word.zero _, Word.zero _, Word.zero _, Word.zero _⟩

/-- The word in which a bit lies is read, and written with that bit. -/
theorem WO.setBit {w : World} {sb b : Nat} {f : Nat → Bool} (h : WO w sb f) (hb : b < 256) : ∃ x : Nat, x < 2 ^ 64 ∧ w.cell? ⟨sb, b / 64, none⟩ = some (.int .u64 x) ∧
    ∀ k : World → Prop, (∀ w', WO w' sb (fun i => f i || (i == b)) → Keeps (· = sb) w w' → k w') → St ⟨sb, b / 64, none⟩ (.int .u64 ((x ||| 2 ^ (b % 64) : Nat) : Int)) w k := by
  obtain ⟨n0, n1, n2, n3, h1, g0, g1, g2, g3⟩ := h
  have other : ∀ k n, Word f k n → b / 64 ≠ k → Word (fun i => f i || (i == b)) k n := fun k n hw hne =>
    hw.congr fun i h1 h2 => by
      have : ¬ i = b := by omega
      simp [this]
  have c : b / 64 = 0 ∨ b / 64 = 1 ∨ b / 64 = 2 ∨ b / 64 = 3 := by omega
  rcases c with c | c | c | c <;> rw [c]
  · exact ⟨n0, g0.1, cell_of h1 rfl, fun k hk => St.blk h1 (by simp) fun w' hu => hk w' ⟨_, n1, n2, n3, hu.at_, g0.set c, other _ _ g1 (by omega), other _ _ g2 (by omega), other _ _ g3 (by omega)⟩ hu.keeps⟩
  · exact ⟨n1, g1.1, cell_of h1 rfl, fun k hk => St.blk h1 (by simp) fun w' hu => hk w' ⟨n0, _, n2, n3, hu.at_, other _ _ g0 (by omega), g1.set c, other _ _ g2 (by omega), other _ _ g3 (by omega)⟩ hu.keeps⟩
  · exact ⟨n2, g2.1, cell_of h1 rfl, fun k hk => St.blk h1 (by simp) fun w' hu => hk w' ⟨n0, n1, _, n3, hu.at_, other _ _ g0 (by omega), other _ _ g1 (by omega), g2.set c, other _ _ g3 (by omega)⟩ hu.keeps⟩
  · exact ⟨n3, g3.1, cell_of h1 rfl, fun k hk => St.blk h1 (by simp) fun w' hu => hk w' ⟨n0, n1, n2, _, hu.at_, other _ _ g0 (by omega), other _ _ g1 (by omega), other _ _ g2 (by omega), g3.set c⟩ hu.keeps⟩

end Go.Fk
end

section
set_option linter.unusedVariables false
set_option linter.unusedSimpArgs false
namespace Go.Fk
open Go

/-! ## What a step of the parser does to its state -/

structure Lex (n : Nat) (st st' : PS) : Prop where
  le : st.at_ ≤ n → st'.at_ ≤ n
  go : st'.bad = false → st.bad = false ∧ st.at_ < st'.at_
  long : st'.long = st.long
  deep : st'.deep = st.deep

structure Lex0 (n : Nat) (st st' : PS) : Prop where
  le : st.at_ ≤ n → st'.at_ ≤ n
  go : st'.bad = false → st.bad = false ∧ st.at_ ≤ st'.at_
  long : st'.long = st.long
  deep : st'.deep = st.deep

theorem Lex.weak {n : Nat} {a b : PS} (h : Lex n a b) : Lex0 n a b := ⟨h.le, fun e => ⟨(h.go e).1, Nat.le_of_lt (h.go e).2⟩, h.long, h.deep⟩
theorem Lex0.refl {n : Nat} {a : PS} : Lex0 n a a := ⟨id, fun e => ⟨e, Nat.le_refl _⟩, rfl, rfl⟩
theorem Lex0.trans {n : Nat} {a b c : PS} (h : Lex0 n a b) (k : Lex0 n b c) : Lex0 n a c :=
  ⟨fun e => k.le (h.le e), fun e => ⟨(h.go (k.go e).1).1, Nat.le_trans (h.go (k.go e).1).2 (k.go e).2⟩, k.long.trans h.long, k.deep.trans h.deep⟩
theorem Lex.then {n : Nat} {a b c : PS} (h : Lex n a b) (k : Lex0 n b c) : Lex n a c :=
  ⟨fun e => k.le (h.le e), fun e => ⟨(h.go (k.go e).1).1, Nat.lt_of_lt_of_le (h.go (k.go e).1).2 (k.go e).2⟩, k.long.trans h.long, k.deep.trans h.deep⟩
theorem Lex0.then {n : Nat} {a b c : PS} (h : Lex0 n a b) (k : Lex n b c) : Lex n a c :=
  ⟨fun e => k.le (h.le e), fun e => ⟨(h.go (k.go e).1).1, Nat.lt_of_le_of_lt (h.go (k.go e).1).2 (k.go e).2⟩, k.long.trans h.long, k.deep.trans h.deep⟩
theorem Lex.fail {n : Nat} {a : PS} : Lex n a a.fail := ⟨id, (fun e => by cases e), rfl, rfl⟩
theorem Lex.adv {n : Nat} {a : PS} (h : a.at_ < n) : Lex n a a.adv := ⟨fun _ => h, fun e => ⟨e, Nat.lt_succ_self _⟩, rfl, rfl⟩

theorem lt_of_get {s : List UInt8} {i : Nat} {c : UInt8} (h : s[i]? = some c) : i < s.length := (List.getElem?_eq_some_iff.1 h).1

theorem isB_lex (s : List UInt8) (b : UInt8) (st : PS) : Lex0 s.length st (isB s b st).2 := by
  unfold isB
  split
  · rename_i h; exact (Lex.adv (lt_of_get h)).weak
  · exact Lex0.refl
theorem isB_true {s : List UInt8} {b : UInt8} {st : PS} (h : (isB s b st).1 = true) : Lex s.length st (isB s b st).2 := by
  unfold isB at h ⊢
  split
  · rename_i h; exact Lex.adv (lt_of_get h)
  · rename_i h2; simp [h2] at h

theorem digitF_lex (s : List UInt8) (st : PS) : Lex s.length st (digitF s st).2 := by
  unfold digitF
  split
  · exact Lex.fail
  · rename_i c hc
    split
    · exact Lex.fail
    · exact Lex.adv (lt_of_get hc)

theorem escapedF_lex (s sp : List UInt8) (st : PS) : Lex s.length st (escapedF s sp st).2 := by
  unfold escapedF
  split
  · exact Lex.fail
  rename_i c hc
  have ha : Lex s.length st st.adv := Lex.adv (lt_of_get hc)
  split
  · exact ha
  split
  · exact ha
  split
  · exact ha
  split
  · dsimp only
    have h1 := digitF_lex s st.adv
    split
    · exact ha.then h1.weak
    · exact (ha.then h1.weak).then (digitF_lex s _).weak
  split
  · exact Lex.fail
  · exact ha

theorem escapedF_lt (s sp : List UInt8) (st : PS) : (escapedF s sp st).1 < 256 := by
  unfold escapedF
  split
  · simp
  rename_i c hc
  split
  · simp
  split
  · simp
  split
  · simp
  split
  · dsimp only
    split
    · simp
    · exact Nat.mod_lt _ (by decide)
  split
  · simp
  · exact c.toNat_lt

theorem letterF_lex (s sp : List UInt8) (st : PS) : Lex s.length st (letterF s sp st).2 := by
  unfold letterF
  split
  · exact Lex.fail
  rename_i c hc
  have ha : Lex s.length st st.adv := Lex.adv (lt_of_get hc)
  split
  · exact ha.then (escapedF_lex s sp _).weak
  split
  · exact Lex.fail
  · exact ha

theorem letterF_lt (s sp : List UInt8) (st : PS) : (letterF s sp st).1 < 256 := by
  unfold letterF
  split
  · simp
  rename_i c hc
  split
  · exact escapedF_lt _ _ _
  split
  · simp
  · exact c.toNat_lt

theorem spanF_lex (s : List UInt8) (f : Nat → Bool) (st : PS) : Lex s.length st (spanF s f st).2 := by
  unfold spanF
  dsimp only
  have h1 := letterF_lex s specialIn st
  split
  · exact h1
  have h2 := isB_lex s 45 (letterF s specialIn st).2
  split
  · have h3 := letterF_lex s specialIn (isB s 45 (letterF s specialIn st).2).2
    split
    · refine ⟨fun e => h2.le (h1.le e), (fun e => by cases e), ?_, ?_⟩
      · exact h3.long.trans (h2.long.trans h1.long)
      · exact h3.deep.trans (h2.deep.trans h1.deep)
    · exact (h1.then h2).then h3.weak
  · exact h1.then h2

theorem regex_parser_letter_spec {w : World} {bp : Nat} {s sp : ByteArray} {st : PS} {K : Int → World → Prop} (h : PO w bp s st) (hs : Small s) (hat : st.at_ ≤ s.size)
    (hk : ∀ w', Keeps (· = bp) w w' → PO w' bp s (letterF (bs s) (bs sp) st).2 → K (letterF (bs s) (bs sp) st).1 w') : regex_parser_letter.C (some ⟨bp, 0, none⟩) sp w K := by
  refine regex_parser_letter.ok _ _ _ _ ?_
  simp only [regex_parser_letter.M, NilC_some]
  refine regex_reader_peek_spec h hs fun w1 k1 => ?_
  have h1 := h.keep k1
  have fail : ∀ (K' : World → Prop), (∀ w', Keeps (· = bp) w w' → PO w' bp s st.fail → K' w') → regex_parser_fail.C (some ⟨bp, 0, none⟩) w1 fun _ w' => K' w' := fun K' hK =>
    regex_parser_fail_spec h1 fun p w2 k2 h2 _ => hK w2 ((k1.no).trans k2) h2
  cases hc : (bs s)[st.at_]? with
  | none =>
    simp only [Bool.not_false, Br_true]
    simp only [letterF, hc] at hk
    exact fail _ fun w' k h => hk w' k h
  | some c =>
    simp only [Bool.not_true, Br_false]
    rw [beq_lit (n := 92) 92 rfl]
    by_cases c1 : c = 92
    · simp only [letterF, hc, c1, if_true] at hk
      simp only [c1, decide_true, Br_true]
      refine Ld.int (cell_of h1 rfl) ?_
      refine PO.step h1 rfl hs hat fun w2 h2 k2 => ?_
      refine regex_parser_escaped_spec h2 hs ?_ fun w3 k3 h3 => ?_
      · exact at_lt hc
      · exact hk w3 (((k1.no).trans k2).trans k3) h3
    · simp only [letterF, hc, c1, if_false] at hk
      simp only [c1, decide_false, Br_false]
      dsimp only [Join]
      have no : (c ≤ 32 ∨ 127 ≤ c ∨ 0 ≤ Lib.indexByte (bs sp) c) → regex_parser_fail.C (some ⟨bp, 0, none⟩) w1 fun _ w' => K 0 w' := fun hh => by
        simp only [hh, if_true] at hk
        exact fail _ fun w' k h => hk w' k h
      have yes : ¬ (c ≤ 32 ∨ 127 ≤ c ∨ 0 ≤ Lib.indexByte (bs sp) c) → Ld (.int .i64) (Addr.add ⟨bp, 0, none⟩ 1) w1 fun x62 => St (Addr.add ⟨bp, 0, none⟩ 1) (.int .i64 (w64 (x62 + (1 : Int)))) w1 fun w4 => K c.toNat w4 := fun hh => by
        simp only [hh, if_false] at hk
        refine Ld.int (cell_of h1 rfl) ?_
        exact PO.step h1 rfl hs hat fun w2 h2 k2 => hk w2 ((k1.no).trans k2) h2
      refine Br.mk (fun ht => ?_) (fun hf => ?_)
      · have : c ≤ 32 := by
          have ht : (c.toNat : Int) ≤ 32 := of_decide_eq_true ht
          rw [UInt8.le_iff_toNat_le]; first | (show c.toNat ≤ 32; omega) | (show 127 ≤ c.toNat; omega)
        exact no (.inl this)
      · have n1 : ¬ c ≤ 32 := by
          have hf : ¬ (c.toNat : Int) ≤ 32 := of_decide_eq_false hf
          rw [UInt8.le_iff_toNat_le]; first | (show ¬ c.toNat ≤ 32; omega) | (show ¬ 127 ≤ c.toNat; omega)
        refine Br.mk (fun ht => ?_) (fun hf => ?_)
        · have : 127 ≤ c := by
            have ht : (127 : Int) ≤ c.toNat := of_decide_eq_true ht
            rw [UInt8.le_iff_toNat_le]; first | (show c.toNat ≤ 32; omega) | (show 127 ≤ c.toNat; omega)
          exact no (.inr (.inl this))
        · have n2 : ¬ 127 ≤ c := by
            have hf : ¬ (127 : Int) ≤ c.toNat := of_decide_eq_false hf
            rw [UInt8.le_iff_toNat_le]; first | (show ¬ c.toNat ≤ 32; omega) | (show ¬ 127 ≤ c.toNat; omega)
          refine strings_IndexByte_spec ?_
          rw [show ((c.toNat : Int)).toNat.toUInt8 = c from by simp]
          refine Br.mk (fun ht => ?_) (fun hf => ?_)
          · exact no (.inr (.inr (of_decide_eq_true ht)))
          · exact yes (by rintro (h | h | h); exact n1 h; exact n2 h; exact of_decide_eq_false hf h)

theorem regex_one_spec {w : World} {c : Nat} {K : (Int × Int × Int × Int) → World → Prop} (hc : c < 256)
    (hk : ∀ (n0 n1 n2 n3 : Nat) w', Keeps No w w' → Words (fun i => i == c) n0 n1 n2 n3 → K (n0, n1, n2, n3) w') : regex_one.C c w K := by
  refine regex_one.ok _ _ _ ?_
  simp only [regex_one.M]
  refine Al.mk fun b1 w1 h1 => Al.mk fun b2 w2 h2 => ⟨by decide, by decide, ?_, ?_⟩
  · rw [Int.tmod_eq_emod_of_nonneg (by omega)]; omega
  have e1 : IntKind.wrap .u8 (Int.tdiv (c : Int) 64) = ((c / 64 : Nat) : Int) := by
    rw [IntWalk.u8_quo _ _ (by omega)]; omega
  rw [e1]
  refine ⟨by omega, ?_⟩
  rw [Int.toNat_natCast, Nat.mul_one, shl_nat, add_eq, Nat.zero_add]
  have hw2 : WO w2 b2 (fun _ => false) := ⟨0, 0, 0, 0, h2.at_, Words.zero⟩
  obtain ⟨x, hx, hcell, hst⟩ := hw2.setBit hc
  have hx0 : x = 0 := by
    have h3 : ∀ j, j < 4 → w2.cell? ⟨b2, j, none⟩ = some (.int .u64 0) := fun j hj => by
      have : j = 0 ∨ j = 1 ∨ j = 2 ∨ j = 3 := by omega
      rcases this with rfl | rfl | rfl | rfl <;> exact cell_of h2.at_ rfl
    rw [h3 _ (by omega)] at hcell
    simp at hcell; omega
  subst hx0
  rw [Nat.zero_or] at hst
  refine hst _ fun w3 hw3 k3 => ?_
  obtain ⟨n0, n1, n2, n3, h3, hW⟩ := hw3
  refine Ld.int (cell_of h3 rfl) (Ld.int (cell_of h3 rfl) (Ld.int (cell_of h3 rfl) (Ld.int (cell_of h3 rfl) ?_)))
  have hne : b1 ≠ b2 := by have := h1.eq; have := h2.eq; have := h1.size; omega
  have g3 : w3.heap[b1]? = some _ := k3.blk (h2.keeps.blk0 h1.at_) hne
  refine St.blk g3 (by simp) fun w4 u4 => St.blk u4.at_ (by simp) fun w5 u5 => St.blk u5.at_ (by simp) fun w6 u6 => St.blk u6.at_ (by simp) fun w7 u7 => ?_
  refine Ld.int (cell_of u7.at_ rfl) (Ld.int (cell_of u7.at_ rfl) (Ld.int (cell_of u7.at_ rfl) (Ld.int (cell_of u7.at_ rfl) ?_)))
  have hk7 : Keeps No w w7 := by
    have e1 := h1.eq; have e2 := h2.eq; have s1 := h1.size
    have k0 : Keeps No w w2 := h1.keeps.trans h2.keeps
    have k1 : Keeps No w w3 := k0.then k3 fun i hi e => by omega
    have k2 : Keeps No w w4 := k1.then u4.keeps fun i hi e => by omega
    have k3 : Keeps No w w5 := k2.then u5.keeps fun i hi e => by omega
    have k4 : Keeps No w w6 := k3.then u6.keeps fun i hi e => by omega
    exact k4.then u7.keeps fun i hi e => by omega
  refine hk n0 n1 n2 n3 w7 hk7 ?_
  have e : (fun i => false || (i == c)) = (fun i => i == c) := by funext i; simp
  rw [← e]; exact hW

end Go.Fk
end

section
set_option linter.unusedVariables false
set_option linter.unusedSimpArgs false
namespace Go.Fk
open Go

theorem regex_parser_span_spec {w : World} {bp sb : Nat} {s : ByteArray} {st : PS} {f : Nat → Bool} {K : Unit → World → Prop} (h : PO w bp s st) (hw : WO w sb f) (hne : bp ≠ sb) (hs : Small s) (hat : st.at_ ≤ s.size)
    (hk : ∀ w', Keeps (fun b => b = bp ∨ b = sb) w w' → PO w' bp s (spanF (bs s) f st).2 → WO w' sb (spanF (bs s) f st).1 → K () w') : regex_parser_span.C (some ⟨bp, 0, none⟩) (some ⟨sb, 0, none⟩) w K := by
  refine regex_parser_span.ok _ _ _ _ ?_
  simp only [regex_parser_span.M, NilC_some]
  refine regex_parser_letter_spec h hs hat fun w1 k1 h1 => ?_
  have e0 : letterF (bs s) (bs ⟨#[93, 94, 45, 92]⟩) st = letterF (bs s) specialIn st := rfl
  rw [e0] at h1 ⊢
  have L1 := letterF_lex (bs s) specialIn st
  have l1 := letterF_lt (bs s) specialIn st
  generalize hlo : letterF (bs s) specialIn st = lo at *
  have hat1 : lo.2.at_ ≤ s.size := by rw [size_bs] at hat ⊢; exact L1.le hat
  have hw1 : WO w1 sb f := hw.keep k1 fun e => hne e.symm
  have kk1 : Keeps (fun b => b = bp ∨ b = sb) w w1 := k1.mono fun _ _ e => .inl e
  refine Join.cut (fun hi w2 => ∃ (n : Nat) (st' : PS), hi = (n : Int) ∧ n < 256 ∧ Keeps (fun b => b = bp ∨ b = sb) w w2 ∧ PO w2 bp s st' ∧ WO w2 sb f ∧
      spanF (bs s) f st = (if st'.bad then f else fun i => f i || (decide (lo.1 ≤ i) && decide (i ≤ n)), st')) ?_ ?_
  · rintro _ w2 ⟨n, st', rfl, hn, k2, h2, hw2, hsp⟩
    rw [hsp] at hk
    refine Loop.mk (fun x w3 => ∃ b : Nat, x = (b : Int) ∧ lo.1 ≤ b ∧ b ≤ 256 ∧ Keeps (fun b => b = bp ∨ b = sb) w w3 ∧ PO w3 bp s st' ∧
      (st'.bad = true → WO w3 sb f) ∧ (lo.1 ≤ n → b ≤ n + 1) ∧ (n < lo.1 → b = lo.1) ∧ WO w3 sb (fun i => f i || (decide (lo.1 ≤ i) && decide (i < b)))) (fun x => 300 - x.toNat) ?_ ?_
    · refine ⟨lo.1, by rw [w64_eq (by omega)], Nat.le_refl _, by omega, k2, h2, fun _ => hw2, fun h => by omega, fun _ => rfl, ?_⟩
      have : (fun i => f i || (decide (lo.1 ≤ i) && decide (i < lo.1))) = f := by
        funext i
        by_cases h1 : lo.1 ≤ i
        · simp [Nat.not_lt.2 h1]
        · simp [h1]
      rw [this]; exact hw2
    · rintro _ w3 ⟨b, rfl, hb1, hb2, k3, h3, hbad, hle, hgt, hw3⟩ R hR
      refine Join.cut (fun t w4 => w4 = w3 ∧ t = (decide (b ≤ n) && !st'.bad)) ?_ ?_
      · rintro t w4 ⟨rfl, rfl⟩
        refine Br.mk (fun ht => ?_) (fun hf => ?_)
        · have ht : b ≤ n ∧ st'.bad = false := by simpa using ht
          refine DrawN.mk fun w5 e5 k5 => ?_
          have hw5 := hw3.heap e5; have h5 := h3.heap e5
          obtain ⟨x, hx, hcell, hst⟩ := hw5.setBit (b := b) (by omega)
          have e1 : w64 (Int.tdiv (b : Int) 64) = ((b / 64 : Nat) : Int) := by
            show IntKind.i64.wrap _ = _
            rw [IntWalk.i64_quo _ _ (by omega)]; omega
          have e2 : ((b / 64 : Nat) : Int).toNat * 1 = b / 64 := by omega
          refine ⟨by decide, ?_⟩
          rw [e1]
          refine ⟨by omega, ?_⟩
          rw [e2, add_eq, Nat.zero_add]
          refine ⟨by decide, ?_, Ld.int hcell ⟨trivial, ?_⟩⟩
          · rw [Int.tmod_eq_emod_of_nonneg (by omega)]; omega
          have e3 : (⟨sb, 0, none⟩ : Addr).add (b / 64) = ⟨sb, b / 64, none⟩ := by rw [add_eq, Nat.zero_add]
          refine ⟨by omega, ?_⟩
          rw [e2, add_eq, Nat.zero_add]
          have h2p : 2 ^ (b % 64) < 2 ^ 64 := Nat.pow_lt_pow_right (by decide) (Nat.mod_lt _ (by decide))
          rw [shl_nat, bOr_nat hx h2p]
          refine hst _ fun w6 hw6 k6 => ⟨trivial, ?_⟩
          refine hR _ _ ⟨b + 1, by rw [w64_eq (by omega)]; omega, by omega, by omega, ?_, ?_, ?_, by omega, by omega, ?_⟩ ?_
          · exact (k3.then0 k5).trans (k6.mono fun _ _ e => .inr e)
          · exact k6.blk h5 hne
          · intro hb; rw [ht.2] at hb; cases hb
          · have : (fun i => (f i || (decide (lo.1 ≤ i) && decide (i < b))) || (i == b)) = (fun i => f i || (decide (lo.1 ≤ i) && decide (i < b + 1))) := by
              funext i
              by_cases e : i = b
              · subst e; simp [hb1]
              · have : (i < b + 1) ↔ i < b := by omega
                simp [e, this]
            rw [← this]; exact hw6
          · rw [w64_eq (by omega)]; omega
        · refine hk _ k3 h3 ?_
          have hf : st'.bad = true ∨ n < b := by
            rcases hbb : st'.bad with _ | _
            · simp [hbb] at hf; exact .inr hf
            · exact .inl rfl
          cases hbb : st'.bad with
          | true => simpa using hbad hbb
          | false =>
            have hnb : n < b := by rcases hf with h | h; (rw [hbb] at h; cases h); exact h
            have : (fun i => f i || (decide (lo.1 ≤ i) && decide (i < b))) = (fun i => f i || (decide (lo.1 ≤ i) && decide (i ≤ n))) := by
              funext i
              by_cases h1 : lo.1 ≤ n
              · have : (i < b) ↔ i ≤ n := by have := hle h1; omega
                simp [this]
              · have hb3 := hgt (by omega)
                by_cases h2 : lo.1 ≤ i
                · have a1 : ¬ i < b := by omega
                  have a2 : ¬ i ≤ n := by omega
                  simp [a1, a2]
                · simp [h2]
            simp only [Bool.false_eq_true, if_false]
            rw [← this]; exact hw3
      · intro j hj
        refine Br.mk (fun ht => ?_) (fun hf => ?_)
        · have ht : b ≤ n := by
            have ht : (b : Int) ≤ w64 (n : Int) := of_decide_eq_true ht
            rw [w64_eq (by omega)] at ht; omega
          refine Ld.bool (cell_of h3 rfl) (hj _ _ ⟨rfl, ?_⟩)
          simp [ht]
        · have hf : ¬ b ≤ n := by
            have hf : ¬ (b : Int) ≤ w64 (n : Int) := of_decide_eq_false hf
            rw [w64_eq (by omega)] at hf; omega
          exact hj _ _ ⟨rfl, by simp [hf]⟩
  · intro j7 hj7
    refine Join.cut (fun t w2 => ∃ st2, PO w2 bp s st2 ∧ WO w2 sb f ∧ Keeps (fun b => b = bp ∨ b = sb) w w2 ∧
      ((lo.2.bad = true ∧ t = false ∧ st2 = lo.2) ∨ (lo.2.bad = false ∧ (t, st2) = isB (bs s) 45 lo.2))) ?_ ?_
    · rintro t w2 ⟨st2, h2, hw2, k2, hcase⟩
      refine Br.mk (fun ht => ?_) (fun hf => ?_)
      · subst ht
        obtain ⟨hb, hd⟩ : lo.2.bad = false ∧ (true, st2) = isB (bs s) 45 lo.2 := by
          rcases hcase with ⟨_, h, _⟩ | h
          · cases h
          · exact h
        have L2 : Lex (bs s).length lo.2 st2 := by have := isB_true (s := bs s) (b := 45) (st := lo.2) (by rw [← hd]); rw [← hd] at this; exact this
        have hat2 : st2.at_ ≤ s.size := by rw [size_bs] at hat1 ⊢; exact L2.le hat1
        refine Ld.int (cell_of h2 rfl) ?_
        refine regex_parser_letter_spec h2 hs hat2 fun w3 k3 h3 => ?_
        have e0 : letterF (bs s) (bs ⟨#[93, 94, 45, 92]⟩) st2 = letterF (bs s) specialIn st2 := rfl
        rw [e0] at h3 ⊢
        have lh := letterF_lt (bs s) specialIn st2
        have hw3 : WO w3 sb f := hw2.keep k3 fun e => hne e.symm
        have kk3 := k2.trans (k3.mono (M := fun b => b = bp ∨ b = sb) fun _ _ e => .inl e)
        have hsp : spanF (bs s) f st = (if (if !(letterF (bs s) specialIn st2).2.bad && (letterF (bs s) specialIn st2).1 < lo.1 then ((letterF (bs s) specialIn st2).1, { (letterF (bs s) specialIn st2).2 with at_ := st2.at_, bad := true }) else letterF (bs s) specialIn st2).2.bad then f else fun i => f i || (decide (lo.1 ≤ i) && decide (i ≤ (if !(letterF (bs s) specialIn st2).2.bad && (letterF (bs s) specialIn st2).1 < lo.1 then ((letterF (bs s) specialIn st2).1, { (letterF (bs s) specialIn st2).2 with at_ := st2.at_, bad := true }) else letterF (bs s) specialIn st2).1)), (if !(letterF (bs s) specialIn st2).2.bad && (letterF (bs s) specialIn st2).1 < lo.1 then ((letterF (bs s) specialIn st2).1, { (letterF (bs s) specialIn st2).2 with at_ := st2.at_, bad := true }) else letterF (bs s) specialIn st2).2) := by
          unfold spanF
          simp only [hlo, hb, ← hd]
          rfl
        generalize letterF (bs s) specialIn st2 = hi at *
        refine Join.cut (fun t w4 => w4 = w3 ∧ t = (!hi.2.bad && decide (hi.1 < lo.1))) ?_ ?_
        · rintro t w4 ⟨rfl, rfl⟩
          refine Br.mk (fun ht => ?_) (fun hf => ?_)
          · rw [ht] at hsp
            refine PO.st (st' := { hi.2 with at_ := st2.at_ }) h3 (by simp) rfl fun w5 h5 k5 => ?_
            refine regex_parser_fail_spec h5 fun p w6 k6 h6 _ => ?_
            have k36 : Keeps (· = bp) w4 w6 := k5.trans k6
            refine hj7 _ _ ⟨hi.1, _, rfl, lh, ?_, h6, ?_, ?_⟩
            · exact kk3.trans (k36.mono fun _ _ e => .inl e)
            · exact hw3.keep k36 fun e => hne e.symm
            · rw [hsp]; rfl
          · rw [hf] at hsp
            exact hj7 _ _ ⟨hi.1, hi.2, rfl, lh, kk3, h3, hw3, by rw [hsp]; rfl⟩
        · intro j10 hj10
          refine Ld.bool (cell_of h3 rfl) ?_
          cases hbad : hi.2.bad with
          | true => exact hj10 _ _ ⟨rfl, by simp [hbad]⟩
          | false => exact hj10 _ _ ⟨rfl, by simp [hbad]⟩
      · subst hf
        refine hj7 _ _ ⟨lo.1, st2, rfl, l1, k2, h2, hw2, ?_⟩
        rcases hcase with ⟨hb, _, rfl⟩ | ⟨hb, hd⟩
        · unfold spanF
          simp only [hlo, hb, if_true]
        · unfold spanF
          simp only [hlo, hb, ← hd]
          rfl
    · intro j11 hj11
      refine Ld.bool (cell_of h1 rfl) ?_
      cases hb : lo.2.bad with
      | true => exact hj11 _ _ ⟨lo.2, h1, hw1, kk1, .inl ⟨hb, rfl, rfl⟩⟩
      | false =>
        refine regex_reader_is_spec (b := 45) h1 hs hat1 fun w2 k2 h2 => ?_
        exact hj11 _ _ ⟨_, h2, hw1.keep k2 fun e => hne e.symm, kk1.trans (k2.mono fun _ _ e => .inl e), .inr ⟨hb, rfl⟩⟩

end Go.Fk
end

section
set_option linter.unusedVariables false
set_option linter.unusedSimpArgs false
namespace Go.Fk
open Go

/-! ## The recursive part of the parser: what it does to its state -/

structure FR (n : Nat) (st : PS) (r : Re × PS) : Prop where
  le : st.at_ ≤ n → r.2.at_ ≤ n
  go : r.2.bad = false → st.bad = false ∧ st.at_ < r.2.at_ ∧ r.2.deep = st.deep ∧ r.1.size + 1 ≤ 500 * (r.2.at_ - st.at_)
  ge : st.deep ≤ r.2.deep
  ub : st.deep ≤ 51 → r.2.deep ≤ 51

structure OR (n : Nat) (st : PS) (r : Re × PS) : Prop where
  le : st.at_ ≤ n → r.2.at_ ≤ n
  go : r.2.bad = false → st.bad = false ∧ st.at_ ≤ r.2.at_ ∧ r.2.deep = st.deep ∧ r.1.size ≤ 500 * (r.2.at_ - st.at_) + 1
  ge : st.deep ≤ r.2.deep
  ub : st.deep ≤ 51 → r.2.deep ≤ 51

theorem FR.of_lex {n : Nat} {st st' : PS} {f : Nat → Bool} (h : Lex n st st') : FR n st (.set f, st') := by
  refine ⟨h.le, fun e => ?_, Nat.le_of_eq h.deep.symm, fun e => by rw [h.deep]; exact e⟩
  have := h.go e
  exact ⟨this.1, this.2, h.deep, by simp only [Re.size]; omega⟩

theorem FR.bad {n : Nat} {st st' : PS} {x : Re} (hl : st.at_ ≤ n → st'.at_ ≤ n) (hg : st.deep ≤ st'.deep) (hu : st.deep ≤ 51 → st'.deep ≤ 51) (hb : st'.bad = true) : FR n st (x, st') :=
  ⟨hl, (fun e => by simp only [hb] at e; cases e), hg, hu⟩

theorem classLoop_lex (s : List UInt8) : ∀ (n : Nat) (f : Nat → Bool) (st : PS), Lex0 s.length st (classLoop s n f st).2
  | 0, f, st => Lex0.refl
  | n + 1, f, st => by
    unfold classLoop
    split
    · exact Lex0.refl
    · dsimp only
      split
      · exact isB_lex _ _ _
      · exact ((isB_lex s 93 st).trans (spanF_lex s f _).weak).trans (classLoop_lex s n _ _)

theorem classF_lex (s : List UInt8) (st : PS) : Lex s.length st (classF s st).2 := by
  unfold classF
  exact ((isB_lex s 94 st).then (spanF_lex s _ _)).then (classLoop_lex s _ _ _)

theorem atomF_fr {s : List UInt8} {g : PS → Re × PS} (hg : ∀ st, st.deep ≤ 50 → OR s.length st (g st)) (st : PS) (hd : st.deep ≤ 50) : FR s.length st (atomF s g st) := by
  unfold atomF
  dsimp only
  have ha := isB_lex s 40 st
  split
  · rename_i hat
    have ha1 := isB_true hat
    generalize isB s 40 st = a at *
    split
    · exact FR.bad ha1.le (by dsimp only; rw [ha1.deep]; omega) (fun e => by dsimp only; rw [ha1.deep]; omega) rfl
    · rename_i hle50
      have ho := hg { a.2 with deep := a.2.deep + 1 } (by dsimp only at hle50 ⊢; omega)
      generalize g { a.2 with deep := a.2.deep + 1 } = n at *
      have hle : st.at_ ≤ s.length → n.2.at_ ≤ s.length := fun e => ho.le (ha1.le e)
      have hge := ho.ge
      have hub := ho.ub
      simp only [ha1.deep] at hge hub
      split
      · rename_i hb
        exact FR.bad hle (by dsimp only; omega) (fun e => by have := hub (by omega); dsimp only; omega) hb
      · rename_i hb
        have hb : n.2.bad = false := by simpa using hb
        have hgo := ho.go hb
        simp only [ha1.deep] at hgo
        have hc := isB_lex s 41 n.2
        split
        · rename_i hct
          have hc1 := isB_true hct
          generalize isB s 41 n.2 = c at *
          refine ⟨fun e => hc1.le (hle e), fun e => ?_, by dsimp only; rw [hc1.deep]; omega, fun e => by dsimp only; rw [hc1.deep]; omega⟩
          have h1 := hc1.go e
          have h2 := ha1.go (hgo.1)
          dsimp only
          exact ⟨h2.1, by omega, by rw [hc1.deep]; omega, by omega⟩
        · generalize isB s 41 n.2 = c at *
          exact FR.bad (fun e => hc.le (hle e)) (by show _ ≤ c.2.deep; rw [hc.deep]; omega) (fun e => by show c.2.deep ≤ _; rw [hc.deep]; omega) rfl
  · generalize isB s 40 st = a at *
    have hd2 := isB_lex s 46 a.2
    split
    · rename_i h
      exact FR.of_lex (ha.then (isB_true h))
    · have hb := isB_lex s 91 (isB s 46 a.2).2
      split
      · have h1 := (((ha.trans hd2).trans hb).then (classF_lex s (isB s 91 (isB s 46 a.2).2).2))
        unfold classF at h1 ⊢
        exact FR.of_lex h1
      · exact FR.of_lex ((((ha.trans hd2).trans hb).then (letterF_lex s specialOut _)))

theorem factorLoop_fr {s : List UInt8} {st₀ : PS} : ∀ (k : Nat) (x : Re) (st : PS), FR s.length st₀ (x, st) → FR s.length st₀ (factorLoop s k x st)
  | 0, x, st, h => h
  | k + 1, x, st, h => by
    have ext : ∀ (b : UInt8) (st1 : PS), Lex0 s.length st st1 → ∀ y : Re, (isB s b st1).1 = true → FR s.length st₀ (if 400 < y.size then (Re.empty, { (isB s b st1).2 with long := true, bad := true }) else factorLoop s k y (isB s b st1).2) := by
      intro b st1 hl y hb
      have h1 := hl.then (isB_true hb)
      generalize isB s b st1 = a at *
      have hge : st₀.deep ≤ a.2.deep := by rw [h1.deep]; exact h.ge
      have hub : st₀.deep ≤ 51 → a.2.deep ≤ 51 := fun e => by rw [h1.deep]; exact h.ub e
      split
      · exact FR.bad (fun e => h1.le (h.le e)) hge hub rfl
      · rename_i hsz
        refine factorLoop_fr k y a.2 ⟨fun e => h1.le (h.le e), fun e => ?_, hge, hub⟩
        have h2 := h1.go e
        have h3 := h.go h2.1
        dsimp only at h3 ⊢
        exact ⟨h3.1, by omega, by rw [h1.deep]; exact h3.2.2.1, by omega⟩
    unfold factorLoop
    split
    · exact h
    · dsimp only
      split
      · rename_i hb; exact ext 42 st Lex0.refl _ hb
      split
      · rename_i hb; exact ext 43 _ (isB_lex s 42 st) _ hb
      split
      · rename_i hb; exact ext 63 _ ((isB_lex s 42 st).trans (isB_lex s 43 _)) _ hb
      · have h1 := ((isB_lex s 42 st).trans (isB_lex s 43 _)).trans (isB_lex s 63 (isB s 43 (isB s 42 st).2).2)
        refine ⟨fun e => h1.le (h.le e), fun e => ?_, by dsimp only; rw [h1.deep]; exact h.ge, fun e => by dsimp only; rw [h1.deep]; exact h.ub e⟩
        have h2 := h1.go e
        have h3 := h.go h2.1
        dsimp only at h3 ⊢
        exact ⟨h3.1, by omega, by rw [h1.deep]; exact h3.2.2.1, by omega⟩

theorem factorF_fr {s : List UInt8} {g : PS → Re × PS} (hg : ∀ st, st.deep ≤ 50 → OR s.length st (g st)) (st : PS) (hd : st.deep ≤ 50) : FR s.length st (factorF s g st) := by
  unfold factorF
  exact factorLoop_fr _ _ _ (atomF_fr hg st hd)

theorem twoOf_size {f : Re → Re → Re} {x : Re} (hf : ∀ a b, (f a b).size = 1 + a.size + b.size) : ∀ (l : List Re), l ≠ [] → (twoOf f x l).size + 1 = (l.map Re.size).sum + l.length
  | [], h => absurd rfl h
  | [a], _ => by simp [twoOf]
  | a :: b :: l, _ => by
    have ih := twoOf_size (x := x) hf (b :: l) (by simp)
    simp only [twoOf, hf, List.map_cons, List.sum_cons, List.length_cons] at ih ⊢
    omega

structure CL (n : Nat) (st : PS) (add : Nat) (r : List Re × PS) : Prop where
  le : st.at_ ≤ n → r.2.at_ ≤ n
  go : r.2.bad = false → st.bad = false ∧ st.at_ ≤ r.2.at_ ∧ r.2.deep = st.deep ∧ (r.1.map Re.size).sum + r.1.length ≤ 500 * (r.2.at_ - st.at_) + add
  ge : st.deep ≤ r.2.deep
  ub : st.deep ≤ 51 → r.2.deep ≤ 51

theorem catLoop_cl {s : List UInt8} {g : PS → Re × PS} (hg : ∀ st, st.deep ≤ 50 → OR s.length st (g st)) {st₀ : PS} (hd : st₀.deep ≤ 50) : ∀ (k : Nat) (l : List Re) (st : PS), CL s.length st₀ 0 (l, st) → CL s.length st₀ 0 (catLoop s g k l st)
  | 0, l, st, h => h
  | k + 1, l, st, h => by
    unfold catLoop
    split
    · exact h
    rename_i hb
    have hb : st.bad = false := by simpa using hb
    split
    · exact h
    split
    · exact h
    · dsimp only
      have h0 := h.go hb
      dsimp only at h0
      have hf := factorF_fr hg st (by omega)
      generalize factorF s g st = f at *
      refine catLoop_cl hg hd k _ _ ⟨fun e => hf.le (h.le e), fun e => ?_, Nat.le_trans h.ge hf.ge, fun e => hf.ub (h.ub e)⟩
      have h1 := hf.go e
      dsimp only at h1 ⊢
      refine ⟨h0.1, by omega, by omega, ?_⟩
      simp only [List.map_append, List.sum_append, List.length_append, List.map_cons, List.map_nil, List.sum_cons, List.sum_nil, List.length_cons, List.length_nil]
      omega

theorem catF_or {s : List UInt8} {g : PS → Re × PS} (hg : ∀ st, st.deep ≤ 50 → OR s.length st (g st)) (st : PS) (hd : st.deep ≤ 50) : OR s.length st (catF s g st) := by
  unfold catF
  have h := catLoop_cl hg hd (s.length + 1) [] st ⟨id, fun e => ⟨e, Nat.le_refl _, rfl, by simp⟩, Nat.le_refl _, id⟩
  generalize catLoop s g (s.length + 1) [] st = l at *
  refine ⟨h.le, fun e => ?_, h.ge, h.ub⟩
  have h1 := h.go e
  refine ⟨h1.1, h1.2.1, h1.2.2.1, ?_⟩
  by_cases hl : l.1 = []
  · simp [hl, twoOf, Re.size]
  · have := twoOf_size (f := .cat) (x := .empty) (fun a b => rfl) l.1 hl
    dsimp only; omega

theorem orLoop_cl {s : List UInt8} {g : PS → Re × PS} (hg : ∀ st, st.deep ≤ 50 → OR s.length st (g st)) {st₀ : PS} (hd : st₀.deep ≤ 50) : ∀ (k : Nat) (l : List Re) (st : PS), (st.bad = false → st.deep ≤ 50) → CL s.length st₀ 2 (l, st) → CL s.length st₀ 2 (orLoop s g k l st)
  | 0, l, st, _, h => h
  | k + 1, l, st, hs, h => by
    unfold orLoop
    split
    · exact h
    rename_i hb
    have hb : st.bad = false := by simpa using hb
    dsimp only
    have h0 := h.go hb
    dsimp only at h0
    split
    · rename_i hc
      have ha := isB_true hc
      generalize isB s 124 st = a at *
      have hf := catF_or hg a.2 (by rw [ha.deep]; exact hs hb)
      generalize catF s g a.2 = f at *
      have hge := hf.ge
      have hub := hf.ub
      rw [ha.deep] at hge hub
      refine orLoop_cl hg hd k _ _ (fun e => ?_) ⟨fun e => hf.le (ha.le (h.le e)), fun e => ?_, by have := h.ge; dsimp only at this ⊢; omega, fun e => by have := h.ub e; exact hub this⟩
      · have h1 := hf.go e; rw [ha.deep] at h1; have := hs hb; omega
      · have h1 := hf.go e
        have h2 := ha.go h1.1
        rw [ha.deep] at h1
        dsimp only at h1 ⊢
        refine ⟨h0.1, by omega, by omega, ?_⟩
        simp only [List.map_append, List.sum_append, List.length_append, List.map_cons, List.map_nil, List.sum_cons, List.sum_nil, List.length_cons, List.length_nil]
        omega
    · have ha := isB_lex s 124 st
      generalize isB s 124 st = a at *
      refine ⟨fun e => ha.le (h.le e), fun e => ?_, by have := h.ge; dsimp only at this ⊢; rw [ha.deep]; omega, fun e => by have := h.ub e; dsimp only at this ⊢; rw [ha.deep]; omega⟩
      have h2 := ha.go e
      have := ha.deep
      dsimp only at h0 ⊢
      exact ⟨h0.1, by omega, by omega, by omega⟩

theorem orLoop_ne {s : List UInt8} {g : PS → Re × PS} : ∀ (k : Nat) (l : List Re) (st : PS), l ≠ [] → (orLoop s g k l st).1 ≠ []
  | 0, l, st, h => h
  | k + 1, l, st, h => by
    unfold orLoop
    split
    · exact h
    · dsimp only
      split
      · exact orLoop_ne k _ _ (by simp)
      · exact h

theorem orF_or (s : List UInt8) : ∀ (n : Nat) (st : PS), st.deep ≤ 50 → OR s.length st (orF s n st)
  | 0, st, _ => ⟨id, fun e => ⟨e, Nat.le_refl _, rfl, by simp [orF, Re.size]⟩, Nat.le_refl _, id⟩
  | n + 1, st, hd => by
    have ih := orF_or s n
    unfold orF
    have hc := catF_or ih st hd
    generalize catF s (orF s n) st = c at *
    dsimp only
    have hl := orLoop_cl (st₀ := st) ih hd (s.length + 1) [c.1] c.2 (fun e => by have := hc.go e; omega) ⟨hc.le, fun e => ?_, hc.ge, hc.ub⟩
    · have hne := orLoop_ne (s := s) (g := orF s n) (s.length + 1) [c.1] c.2 (by simp)
      generalize orLoop s (orF s n) (s.length + 1) [c.1] c.2 = l at *
      refine ⟨hl.le, fun e => ?_, hl.ge, hl.ub⟩
      have h1 := hl.go e
      have := twoOf_size (f := .or) (x := noBytes) (fun a b => rfl) l.1 hne
      exact ⟨h1.1, h1.2.1, h1.2.2.1, by dsimp only; omega⟩
    · have h1 := hc.go e
      refine ⟨h1.1, h1.2.1, h1.2.2.1, ?_⟩
      simp only [List.map_cons, List.map_nil, List.sum_cons, List.sum_nil, List.length_cons, List.length_nil]
      omega

end Go.Fk
end

section
set_option linter.unusedVariables false
set_option linter.unusedSimpArgs false
namespace Go.Fk
open Go

theorem WO.congr {w : World} {b : Nat} {f g : Nat → Bool} (h : WO w b f) (e : ∀ i, i < 256 → f i = g i) : WO w b g := by
  obtain ⟨n0, n1, n2, n3, h1, g0, g1, g2, g3⟩ := h
  exact ⟨n0, n1, n2, n3, h1, g0.congr fun i h1 h2 => e i (by omega), g1.congr fun i h1 h2 => e i (by omega), g2.congr fun i h1 h2 => e i (by omega), g3.congr fun i h1 h2 => e i (by omega)⟩

theorem WO.flip {w : World} {sb i : Nat} {f : Nat → Bool} (h : WO w sb f) (hi : i < 4) : ∃ x : Nat, x < 2 ^ 64 ∧ w.cell? ⟨sb, i, none⟩ = some (.int .u64 x) ∧
    ∀ k : World → Prop, (∀ w', WO w' sb (fun j => if j / 64 = i then !f j else f j) → Keeps (· = sb) w w' → k w') → St ⟨sb, i, none⟩ (.int .u64 (((2 ^ 64 - 1) ^^^ x : Nat) : Int)) w k := by
  obtain ⟨n0, n1, n2, n3, h1, g0, g1, g2, g3⟩ := h
  have other : ∀ k n, Word f k n → k ≠ i → Word (fun j => if j / 64 = i then !f j else f j) k n := fun k n hw hne =>
    hw.congr fun j h1 h2 => by rw [if_neg (by omega)]
  have this : ∀ k n, Word f k n → k = i → Word (fun j => if j / 64 = i then !f j else f j) k ((2 ^ 64 - 1) ^^^ n) := fun k n hw he =>
    hw.not.congr fun j h1 h2 => by rw [if_pos (by omega)]
  have c : i = 0 ∨ i = 1 ∨ i = 2 ∨ i = 3 := by omega
  rcases c with rfl | rfl | rfl | rfl
  · exact ⟨n0, g0.1, cell_of h1 rfl, fun k hk => St.blk h1 (by simp) fun w' hu => hk w' ⟨_, n1, n2, n3, hu.at_, this _ _ g0 rfl, other _ _ g1 (by omega), other _ _ g2 (by omega), other _ _ g3 (by omega)⟩ hu.keeps⟩
  · exact ⟨n1, g1.1, cell_of h1 rfl, fun k hk => St.blk h1 (by simp) fun w' hu => hk w' ⟨n0, _, n2, n3, hu.at_, other _ _ g0 (by omega), this _ _ g1 rfl, other _ _ g2 (by omega), other _ _ g3 (by omega)⟩ hu.keeps⟩
  · exact ⟨n2, g2.1, cell_of h1 rfl, fun k hk => St.blk h1 (by simp) fun w' hu => hk w' ⟨n0, n1, _, n3, hu.at_, other _ _ g0 (by omega), other _ _ g1 (by omega), this _ _ g2 rfl, other _ _ g3 (by omega)⟩ hu.keeps⟩
  · exact ⟨n3, g3.1, cell_of h1 rfl, fun k hk => St.blk h1 (by simp) fun w' hu => hk w' ⟨n0, n1, n2, _, hu.at_, other _ _ g0 (by omega), other _ _ g1 (by omega), other _ _ g2 (by omega), this _ _ g3 rfl⟩ hu.keeps⟩

/-- 'for i := range set { set[i] = ^set[i] }'. -/
theorem neg_loop {b : Nat} {f : Nat → Bool} {w : World} {R : World → Prop} (h : WO w b f) (hk : ∀ w', WO w' b (fun i => !f i) → Keeps (· = b) w w' → R w') :
    Loop (fun (s5 : Int) w7 again6 => Br (decide (s5 < (4 : Int))) (IdxA 4 (⟨b, 0, none⟩) s5 1 fun p32 => Ld (.int .u64) p32 w7 fun x33 => IdxA 4 (⟨b, 0, none⟩) s5 1 fun p35 => St p35 (.int .u64 (bNot .u64 x33)) w7 fun w8 => again6 (w64 (s5 + (1 : Int))) w8) (R w7)) 0 w := by
  refine Loop.mk (fun s w' => ∃ i : Nat, s = (i : Int) ∧ i ≤ 4 ∧ WO w' b (fun j => if j / 64 < i then !f j else f j) ∧ Keeps (· = b) w w') (fun s => 4 - s.toNat) ⟨0, rfl, by omega, h.congr fun i _ => by simp, Keeps.refl⟩ ?_
  rintro _ w1 ⟨i, rfl, hi, hw, hk1⟩ Rr hR
  refine Br.mk (fun ht => ?_) (fun hf => ?_)
  · have ht : i < 4 := by have : (i : Int) < 4 := of_decide_eq_true ht; omega
    obtain ⟨x, hx, hcell, hst⟩ := hw.flip ht
    have e2 : (i : Int).toNat * 1 = i := by omega
    refine ⟨by omega, ?_⟩
    rw [e2, add_eq, Nat.zero_add]
    refine Ld.int hcell ⟨by omega, ?_⟩
    rw [e2, add_eq, Nat.zero_add, bNot_nat hx]
    refine hst _ fun w2 hw2 k2 => hR _ _ ⟨i + 1, by rw [w64_eq (by omega)]; omega, by omega, hw2.congr fun j hj => ?_, hk1.trans k2⟩ ?_
    · by_cases h1 : j / 64 = i
      · simp [h1]
      · by_cases h2 : j / 64 < i
        · have : j / 64 < i + 1 := by omega
          simp [h1, h2, this]
        · have : ¬ j / 64 < i + 1 := by omega
          simp [h1, h2, this]
    · rw [w64_eq (by omega)]; omega
  · have hf : ¬ (i : Int) < 4 := of_decide_eq_false hf
    refine hk _ (hw.congr fun j hj => ?_) hk1
    rw [if_pos (by omega)]

/-- The four words are read, and a node of them is made. -/
theorem set_of {b : Nat} {f : Nat → Bool} {w : World} {K : Option Addr → World → Prop} (h : WO w b f) (hk : ∀ p w', Keeps No w w' → (∀ M : Nat → Prop, Old M w → Nd (V M w') p (.set f)) → K p w') :
    Ld (.int .u64) (⟨b, 0, none⟩) w fun x37_0 => Ld (.int .u64) (⟨b, 1, none⟩) w fun x37_1 => Ld (.int .u64) (⟨b, 2, none⟩) w fun x37_2 => Ld (.int .u64) (⟨b, 3, none⟩) w fun x37_3 => regex_Set.C (x37_0, x37_1, x37_2, x37_3) w fun x38 w9 => K x38 w9 := by
  obtain ⟨n0, n1, n2, n3, h1, hW⟩ := h
  exact Ld.int (cell_of h1 rfl) (Ld.int (cell_of h1 rfl) (Ld.int (cell_of h1 rfl) (Ld.int (cell_of h1 rfl) (regex_Set_spec hW hk))))

theorem Old.mono {M : Nat → Prop} {w w' : World} (h : Old M w) (hs : w.heap.size ≤ w'.heap.size) : Old M w' := fun b hb => Nat.lt_of_lt_of_le (h b hb) hs

theorem regex_parser_class_spec {w : World} {bp : Nat} {s : ByteArray} {st : PS} {K : Option Addr → World → Prop} (h : PO w bp s st) (hs : Small s) (hat : st.at_ ≤ s.size)
    (hk : ∀ p w', Keeps (· = bp) w w' → PO w' bp s (classF (bs s) st).2 → (∀ M : Nat → Prop, Old M w → Nd (V M w') p (classF (bs s) st).1) → K p w') : regex_parser_class.C (some ⟨bp, 0, none⟩) w K := by
  refine regex_parser_class.ok _ _ _ ?_
  simp only [regex_parser_class.M, NilC_some]
  have hbw : bp < w.heap.size := lt_of_some h
  refine regex_reader_is_spec (b := 94) h hs hat fun w1 k1 h1 => ?_
  have L1 := isB_lex (bs s) 94 st
  have hcl : classF (bs s) st = (.set (if (isB (bs s) 94 st).1 then fun i => !(classLoop (bs s) ((bs s).length + 1) (spanF (bs s) (fun _ => false) (isB (bs s) 94 st).2).1 (spanF (bs s) (fun _ => false) (isB (bs s) 94 st).2).2).1 i
      else (classLoop (bs s) ((bs s).length + 1) (spanF (bs s) (fun _ => false) (isB (bs s) 94 st).2).1 (spanF (bs s) (fun _ => false) (isB (bs s) 94 st).2).2).1), (classLoop (bs s) ((bs s).length + 1) (spanF (bs s) (fun _ => false) (isB (bs s) 94 st).2).1 (spanF (bs s) (fun _ => false) (isB (bs s) 94 st).2).2).2) := rfl
  rw [hcl] at hk
  generalize isB (bs s) 94 st = no at *
  refine Al.mk fun b1 w2 h2 => ?_
  have hs1 := k1.size; have e2 := h2.eq; have s2 := h2.size
  have hne : bp ≠ b1 := by omega
  have hat1 : no.2.at_ ≤ s.size := by rw [size_bs] at hat ⊢; exact L1.le hat
  refine regex_parser_span_spec (h1.keep h2.keeps) (f := fun _ => false) ⟨0, 0, 0, 0, h2.at_, Words.zero⟩ hne hs hat1 fun w3 k3 h3 hw3 => ?_
  have L2 := spanF_lex (bs s) (fun _ => false) no.2
  generalize spanF (bs s) (fun _ => false) no.2 = r at *
  have kM : ∀ {w'}, Keeps (fun b => b = bp ∨ b = b1) w2 w' → Keeps (· = bp) w w' := fun {w'} k =>
    (k1.then0 h2.keeps).then k fun i hi e => by rcases e with rfl | rfl; rfl; omega
  have hat2 : r.2.at_ ≤ s.size := by rw [size_bs] at hat1 ⊢; exact L2.le hat1
  generalize hF : classLoop (bs s) ((bs s).length + 1) r.1 r.2 = F at *
  refine Loop.mkn (fun n _ w4 => ∃ (f : Nat → Bool) (st4 : PS), Keeps (fun b => b = bp ∨ b = b1) w2 w4 ∧ PO w4 bp s st4 ∧ WO w4 b1 f ∧ classLoop (bs s) n f st4 = F ∧ st4.at_ ≤ s.size ∧ (st4.bad = true ∨ s.size < st4.at_ + n)) ((bs s).length + 1)
    ⟨r.1, r.2, k3, h3, hw3, hF, hat2, .inr (by rw [size_bs]; omega)⟩ ?_
  rintro n _ w4 ⟨f, st4, k4, h4, hw4, hn, hat4, hgo⟩ R hR
  refine Join.cut (fun t w5 => ∃ st5, PO w5 bp s st5 ∧ WO w5 b1 f ∧ Keeps (fun b => b = bp ∨ b = b1) w2 w5 ∧ st5.at_ ≤ s.size ∧
      ((t = true ∧ st4.bad = false ∧ st5 = (isB (bs s) 93 st4).2 ∧ (isB (bs s) 93 st4).1 = false) ∨ (t = false ∧ F = (f, st5)))) ?_ ?_
  · rintro t w5 ⟨st5, h5, hw5, k5, hat5, hc⟩
    refine Br.mk (fun ht => ?_) (fun hf => ?_)
    · subst ht
      obtain ⟨hb, rfl, hi⟩ : st4.bad = false ∧ st5 = (isB (bs s) 93 st4).2 ∧ (isB (bs s) 93 st4).1 = false := by
        rcases hc with ⟨_, h⟩ | ⟨h, _⟩
        · exact h
        · cases h
      refine regex_parser_span_spec h5 hw5 hne hs hat5 fun w6 k6 h6 hw6 => ?_
      have L3 := spanF_lex (bs s) f (isB (bs s) 93 st4).2
      obtain ⟨m, rfl⟩ : ∃ m, n = m + 1 := ⟨n - 1, by rcases hgo with h | h; (rw [hb] at h; cases h); omega⟩
      refine hR m _ _ (by omega) ⟨_, _, k5.trans k6, h6, hw6, ?_, ?_, ?_⟩
      · rw [← hn]; conv => rhs; unfold classLoop
        simp [hb, hi]
      · rw [size_bs] at hat5 ⊢; exact L3.le hat5
      · cases hbad : (spanF (bs s) f (isB (bs s) 93 st4).2).2.bad with
        | true => exact .inl rfl
        | false =>
          right
          have h7 := L3.go hbad
          have h8 := (isB_lex (bs s) 93 st4).go h7.1
          rcases hgo with h | h
          · rw [hb] at h; cases h
          · omega
    · subst hf
      have hF : F = (f, st5) := by
        rcases hc with ⟨h, _⟩ | ⟨_, h⟩
        · cases h
        · exact h
      subst hF
      have hb1w : w.heap.size ≤ b1 := by omega
      refine Br.mk (fun ht => ?_) (fun hf => ?_)
      · rw [ht] at hk
        refine neg_loop hw5 fun w7 hw7 k7 => set_of hw7 fun p w8 k8 hN => hk p w8 ?_ ?_ fun M hM => ?_
        · exact (kM (k5.trans (k7.mono fun _ _ e => .inr e))).then0 k8
        · exact PO.keep (w := w7) (k7.blk h5 hne) k8
        · exact hN M (hM.mono (by have := k5.size; have := k7.size; omega))
      · rw [hf] at hk
        refine set_of hw5 fun p w8 k8 hN => hk p w8 ((kM k5).then0 k8) (h5.keep k8) fun M hM => ?_
        exact hN M (hM.mono (by have := k5.size; omega))
  · intro j hj
    refine Ld.bool (cell_of h4 rfl) ?_
    cases hb : st4.bad with
    | true =>
      refine hj _ _ ⟨st4, h4, hw4, k4, hat4, .inr ⟨rfl, ?_⟩⟩
      rw [← hn]; cases n <;> simp [classLoop, hb]
    | false =>
      refine regex_reader_is_spec (b := 93) h4 hs hat4 fun w5 k5 h5 => ?_
      have L4 := isB_lex (bs s) 93 st4
      refine hj _ _ ⟨_, h5, hw4.keep k5 fun e => hne e.symm, k4.trans (k5.mono fun _ _ e => .inl e), by rw [size_bs] at hat4 ⊢; exact L4.le hat4, ?_⟩
      cases hi : (isB (bs s) 93 st4).1 with
      | false => exact .inl ⟨rfl, hb, rfl, rfl⟩
      | true =>
        refine .inr ⟨rfl, ?_⟩
        obtain ⟨m, rfl⟩ : ∃ m, n = m + 1 := ⟨n - 1, by rcases hgo with h | h; (rw [hb] at h; cases h); omega⟩
        rw [← hn]; unfold classLoop; simp [hb, hi]

end Go.Fk
end

section
set_option linter.unusedVariables false
set_option linter.unusedSimpArgs false
namespace Go.Fk
open Go

theorem E_pNode : Elem P T.sl_p_regex_Node T.p_regex_Node (.pointer none) 1 8 := ⟨by kernel_rfl, by kernel_rfl, rfl, by decide⟩

theorem regex_Cat_spec {M : Nat → Prop} {w : World} {l : Sl} {ps : List (Option Addr)} {xs : List Re} {K : Option Addr → World → Prop}
    (hM : Old M w) (hl : SlT .ptr (V M w) l ps) (ha : All2 (Nd (V M w)) ps xs) (hlen : ps.length < 1000000000)
    (hk : ∀ p w', Keeps No w w' → Nd (V M w') p (twoOf .cat .empty xs) → K p w') : regex_Cat.C l w K := by
  refine regex_Cat.ok _ _ _ ?_
  simp only [regex_Cat.M]
  refine regex_Empty_spec fun p w1 k1 h1 => ?_
  exact regex_two_spec (.inl ⟨rfl, rfl⟩) (hM.keeps k1) (hl.mono (V.keeps0 k1)) (ha.mono fun _ _ h => h.mono (V.keeps0 k1)) (h1 M hM) hlen fun q w2 k2 h2 => hk q w2 (k1.trans k2) h2

theorem regex_Or_spec {M : Nat → Prop} {w : World} {l : Sl} {ps : List (Option Addr)} {xs : List Re} {K : Option Addr → World → Prop}
    (hM : Old M w) (hl : SlT .ptr (V M w) l ps) (ha : All2 (Nd (V M w)) ps xs) (hlen : ps.length < 1000000000)
    (hk : ∀ p w', Keeps No w w' → Nd (V M w') p (twoOf .or noBytes xs) → K p w') : regex_Or.C l w K := by
  refine regex_Or.ok _ _ _ ?_
  simp only [regex_Or.M]
  refine regex_Set_spec (n0 := 0) (n1 := 0) (n2 := 0) (n3 := 0) Words.zero fun p w1 k1 h1 => ?_
  exact regex_two_spec (.inr ⟨rfl, rfl⟩) (hM.keeps k1) (hl.mono (V.keeps0 k1)) (ha.mono fun _ _ h => h.mono (V.keeps0 k1)) (h1 M hM) hlen fun q w2 k2 h2 => hk q w2 (k1.trans k2) h2

theorem regex_Star_spec {M : Nat → Prop} {w : World} {p : Option Addr} {x : Re} {K : Option Addr → World → Prop} (hM : Old M w) (h : Nd (V M w) p x)
    (hk : ∀ q w', Keeps No w w' → Nd (V M w') q (.star x) → K q w') : regex_Star.C p w K := by
  refine regex_Star.ok _ _ _ ?_
  simp only [regex_Star.M]
  obtain ⟨b, _, _, _, _, _, _, rfl, -⟩ := h.out
  simp only [Option.isNone_some, Br_false]
  refine Al.mk fun b1 w1 h1 => Al.mk fun b2 w2 h2 => ?_
  have e1 := h1.eq; have s1 := h1.size; have e2 := h2.eq
  refine hk _ _ (h1.keeps.trans h2.keeps) (.star ⟨fun hm => by have := hM _ hm; omega, h2.at_⟩ ⟨fun hm => by have := hM _ hm; omega, h2.keeps.blk0 h1.at_⟩ (h.mono (V.keeps0 (h1.keeps.trans h2.keeps))))

/-- What is asked of the function that reads alternatives. -/
def OrSpec (n : Nat) : Prop := ∀ {w : World} {bp : Nat} {s : ByteArray} {st : PS} {K : Option Addr → World → Prop}, PO w bp s st → Small s → st.at_ ≤ s.size → st.bad = false → st.deep ≤ 50 → st.deep + n = 51 →
  (∀ p w', Keeps (· = bp) w w' → PO w' bp s (orF (bs s) n st).2 → (∀ M : Nat → Prop, Old M w → M bp → Nd (V M w') p (orF (bs s) n st).1) → K p w') → regex_parser_or.C (some ⟨bp, 0, none⟩) w K

theorem nd_old {M : Nat → Prop} {w w' : World} {p : Option Addr} {x : Re} {N : Nat → Prop} (h : Nd (V M w) p x) (hk : Keeps N w w') (hN : ∀ b, N b → M b) : Nd (V M w') p x :=
  h.mono (V.move hk (fun b _ hb => hN b hb) fun _ _ h => h)

theorem regex_parser_atom_spec {n : Nat} (hor : OrSpec n) {w : World} {bp : Nat} {s : ByteArray} {st : PS} {K : Option Addr → World → Prop} (h : PO w bp s st) (hs : Small s) (hat : st.at_ ≤ s.size)
    (hb : st.bad = false) (hd : st.deep + (n + 1) = 51)
    (hk : ∀ p w', Keeps (· = bp) w w' → PO w' bp s (atomF (bs s) (orF (bs s) n) st).2 → (∀ M : Nat → Prop, Old M w → M bp → Nd (V M w') p (atomF (bs s) (orF (bs s) n) st).1) → K p w') : regex_parser_atom.C (some ⟨bp, 0, none⟩) w K := by
  refine regex_parser_atom.ok _ _ _ ?_
  simp only [regex_parser_atom.M, NilC_some]
  have hbw : bp < w.heap.size := lt_of_some h
  have hsz : s.size = (bs s).length := size_bs s
  refine regex_reader_is_spec (b := 40) h hs hat fun w1 k1 h1 => ?_
  have L1 := isB_lex (bs s) 40 st
  have T1 : (isB (bs s) 40 st).1 = true → Lex (bs s).length st (isB (bs s) 40 st).2 := isB_true
  have hb1 : (isB (bs s) 40 st).2.bad = false := by unfold isB; split <;> exact hb
  unfold atomF at hk
  generalize isB (bs s) 40 st = a at *
  have hat1 : a.2.at_ ≤ s.size := by rw [hsz] at hat ⊢; exact L1.le hat
  have failed : ∀ {w2 : World} {st2 : PS}, PO w2 bp s st2 → Keeps (· = bp) w w2 → (∀ p w', Keeps (· = bp) w w' → PO w' bp s st2.fail → (∀ M : Nat → Prop, Old M w → M bp → Nd (V M w') p .empty) → K p w') → regex_parser_fail.C (some ⟨bp, 0, none⟩) w2 fun p w' => K p w' := fun h2 k2 hK =>
    regex_parser_fail_spec h2 fun p w3 k3 h3 hN => hK p w3 (k2.trans k3) h3 fun M hM hm => hN M (hM.mono k2.size)
  refine Br.mk (fun ht => ?_) (fun hf => ?_)
  · simp only [ht, if_true] at hk
    refine Ld.int (cell_of h1 rfl) ?_
    have hdeep : a.2.deep = st.deep := L1.deep
    rw [w64_eq (by omega)]
    refine PO.st (st' := { a.2 with deep := a.2.deep + 1 }) h1 (by simp) (by simp [pobj]) fun w2 h2 k2 => ?_
    refine Ld.int (cell_of h2 rfl) ?_
    refine Br.mk (fun ht2 => ?_) (fun hf2 => ?_)
    · have ht2 : 50 < a.2.deep + 1 := by
        have : (50 : Int) < ((a.2.deep + 1 : Nat) : Int) := of_decide_eq_true ht2
        omega
      simp only [ht2, if_true] at hk
      refine PO.st (st' := { a.2 with deep := a.2.deep + 1, long := true }) h2 (by simp) (by simp [pobj]) fun w3 h3 k3 => ?_
      exact failed h3 ((k1.trans k2).trans k3) hk
    · have hf2 : ¬ 50 < a.2.deep + 1 := by
        have : ¬ (50 : Int) < ((a.2.deep + 1 : Nat) : Int) := of_decide_eq_false hf2
        omega
      simp only [hf2, if_false] at hk
      have hO := orF_or (bs s) n { a.2 with deep := a.2.deep + 1 } (by dsimp only; omega)
      refine hor h2 hs hat1 hb1 (by dsimp only; omega) (by dsimp only; omega) fun p w3 k3 h3 hN => ?_
      generalize orF (bs s) n { a.2 with deep := a.2.deep + 1 } = r at *
      have k13 := (k1.trans k2).trans k3
      have hge := hO.ge
      have hub := hO.ub (by dsimp only; omega)
      dsimp only at hge hub
      have hat3 : r.2.at_ ≤ s.size := by rw [hsz] at hat1 ⊢; exact hO.le hat1
      have hN3 : ∀ M : Nat → Prop, Old M w → M bp → Nd (V M w3) p r.1 := fun M hM hm => hN M (hM.mono (k1.trans k2).size) hm
      refine Join.cut (fun t w4 => ∃ st4, PO w4 bp s st4 ∧ Keeps (· = bp) w3 w4 ∧ ((t = false ∧ r.2.bad = true ∧ st4 = r.2) ∨ (r.2.bad = false ∧ st4 = (isB (bs s) 41 r.2).2 ∧ t = !(isB (bs s) 41 r.2).1))) ?_ ?_
      · rintro t w4 ⟨st4, h4, k4, hc⟩
        refine Br.mk (fun ht4 => ?_) (fun hf4 => ?_)
        · subst ht4
          obtain ⟨hrb, rfl, hi⟩ : r.2.bad = false ∧ st4 = (isB (bs s) 41 r.2).2 ∧ (isB (bs s) 41 r.2).1 = false := by
            rcases hc with ⟨h, _⟩ | ⟨h1, h2, h3⟩
            · cases h
            · exact ⟨h1, h2, by simpa using h3.symm⟩
          simp only [hrb, hi] at hk
          exact failed h4 (k13.trans k4) hk
        · subst hf4
          have hde : st4.deep = r.2.deep := by
            rcases hc with ⟨_, _, rfl⟩ | ⟨_, rfl, _⟩
            · rfl
            · exact (isB_lex (bs s) 41 r.2).deep
          refine Ld.int (cell_of h4 rfl) ?_
          rw [w64_eq (by omega)]
          refine PO.st (st' := { st4 with deep := st4.deep - 1 }) h4 (by simp) (by simp [pobj]; omega) fun w5 h5 k5 => ?_
          have hN5 : ∀ M : Nat → Prop, Old M w → M bp → Nd (V M w5) p r.1 := fun M hM hm => nd_old (hN3 M hM hm) (k4.trans k5) fun b hb => by subst hb; exact hm
          have k15 := (k13.trans k4).trans k5
          rcases hc with ⟨_, hrb, rfl⟩ | ⟨hrb, rfl, hi⟩
          · simp only [hrb, if_true] at hk
            exact hk p w5 k15 (by rw [hrb] at h5; exact h5) hN5
          · have hi : (isB (bs s) 41 r.2).1 = true := by simpa using hi.symm
            simp only [hrb, hi, if_true] at hk
            exact hk p w5 k15 h5 hN5
      · intro j hj
        refine Ld.bool (cell_of h3 rfl) ?_
        cases hrb : r.2.bad with
        | true => exact hj _ _ ⟨r.2, h3, Keeps.refl, .inl ⟨rfl, hrb, rfl⟩⟩
        | false =>
          refine regex_reader_is_spec (b := 41) h3 hs hat3 fun w4 k4 h4 => ?_
          exact hj _ _ ⟨_, h4, k4, .inr ⟨hrb, rfl, rfl⟩⟩
  · simp only [hf, if_false, Bool.false_eq_true] at hk
    refine regex_reader_is_spec (b := 46) h1 hs hat1 fun w2 k2 h2 => ?_
    have L2 := isB_lex (bs s) 46 a.2
    generalize isB (bs s) 46 a.2 = d at *
    have hat2 : d.2.at_ ≤ s.size := by rw [hsz] at hat1 ⊢; exact L2.le hat1
    refine Br.mk (fun ht2 => ?_) (fun hf2 => ?_)
    · simp only [ht2, if_true] at hk
      refine regex_one_spec (c := 10) (by decide) fun n0 n1 n2 n3 w3 k3 hW => ?_
      refine Al.mk fun b3 w4 h4 => ?_
      refine St.blk h4.at_ (by simp) fun w5 u5 => St.blk u5.at_ (by simp) fun w6 u6 => St.blk u6.at_ (by simp) fun w7 u7 => St.blk u7.at_ (by simp) fun w8 u8 => ?_
      have hs1 := k1.size; have hs2 := k2.size; have hs3 := k3.size; have e4 := h4.eq
      have hne : bp ≠ b3 := by omega
      have kk : Keeps (· = b3) w4 w8 := ((u5.keeps.trans u6.keeps).trans u7.keeps).trans u8.keeps
      refine neg_loop (f := fun i => i == 10) ⟨n0, n1, n2, n3, u8.at_, hW⟩ fun w9 hw9 k9 => set_of hw9 fun p w10 k10 hN => ?_
      have k49 := kk.trans k9
      have k1_4 : Keeps (· = bp) w w4 := ((k1.trans k2).then0 k3).then0 h4.keeps
      have k1_10 : Keeps (· = bp) w w10 := (k1_4.then k49 fun i hi e => by subst e; omega).then0 k10
      refine hk p w10 k1_10 ?_ fun M hM hm => hN M (hM.mono (by have := k1_4.size; have := k49.size; omega))
      exact PO.keep (w := w9) (k49.blk ((h2.keep k3).keep h4.keeps) hne) k10
    · simp only [hf2, if_false, Bool.false_eq_true] at hk
      refine regex_reader_is_spec (b := 91) h2 hs hat2 fun w3 k3 h3 => ?_
      have L3 := isB_lex (bs s) 91 d.2
      generalize isB (bs s) 91 d.2 = c at *
      have hat3 : c.2.at_ ≤ s.size := by rw [hsz] at hat2 ⊢; exact L3.le hat2
      have k13 := (k1.trans k2).trans k3
      refine Br.mk (fun ht3 => ?_) (fun hf3 => ?_)
      · simp only [ht3, if_true] at hk
        exact regex_parser_class_spec h3 hs hat3 fun p w4 k4 h4 hN => hk p w4 (k13.trans k4) h4 fun M hM hm => hN M (hM.mono k13.size)
      · simp only [hf3, if_false, Bool.false_eq_true] at hk
        refine regex_parser_letter_spec h3 hs hat3 fun w4 k4 h4 => ?_
        have e0 : letterF (bs s) (bs ⟨#[124, 42, 43, 63, 40, 41, 91, 93, 46, 92]⟩) c.2 = letterF (bs s) specialOut c.2 := rfl
        rw [e0] at h4 ⊢
        refine regex_one_spec (letterF_lt _ _ _) fun n0 n1 n2 n3 w5 k5 hW => ?_
        refine regex_Set_spec hW fun p w6 k6 hN => ?_
        have k14 := k13.trans k4
        exact hk p w6 ((k14.then0 k5).then0 k6) ((h4.keep k5).keep k6) fun M hM hm => hN M (hM.mono (by have := k14.size; have := k5.size; omega))

end Go.Fk
end

section
set_option linter.unusedVariables false
set_option linter.unusedSimpArgs false
namespace Go.Fk
open Go

/-- All blocks below a number. -/
def Lt (n : Nat) : Nat → Prop := fun b => b < n
theorem Old.lt {w : World} : Old (Lt w.heap.size) w := fun _ h => h
theorem nd_all {n : Nat} {w' : World} {p : Option Addr} {x : Re} (h : Nd (V (Lt n) w') p x) {M : Nat → Prop} (hM : ∀ b, M b → b < n) : Nd (V M w') p x :=
  h.mono fun b o ⟨h1, h2⟩ => ⟨fun hm => h1 (hM b hm), h2⟩

theorem regex_parser_factor_spec {n : Nat} (hor : OrSpec n) {w : World} {bp : Nat} {s : ByteArray} {st : PS} {K : Option Addr → World → Prop} (h : PO w bp s st) (hs : Small s) (hat : st.at_ ≤ s.size)
    (hb : st.bad = false) (hd : st.deep + (n + 1) = 51)
    (hk : ∀ p w', Keeps (· = bp) w w' → PO w' bp s (factorF (bs s) (orF (bs s) n) st).2 → (∀ M : Nat → Prop, Old M w → M bp → Nd (V M w') p (factorF (bs s) (orF (bs s) n) st).1) → K p w') : regex_parser_factor.C (some ⟨bp, 0, none⟩) w K := by
  refine regex_parser_factor.ok _ _ _ ?_
  simp only [regex_parser_factor.M, NilC_some]
  have hbw : bp < w.heap.size := lt_of_some h
  have hsz : s.size = (bs s).length := size_bs s
  have hF := atomF_fr (s := bs s) (g := orF (bs s) n) (fun st h => orF_or _ _ _ h) st (by omega)
  refine regex_parser_atom_spec hor h hs hat hb hd fun p0 w1 k1 h1 hN1 => ?_
  unfold factorF at hk
  generalize atomF (bs s) (orF (bs s) n) st = a at *
  generalize hFF : factorLoop (bs s) ((bs s).length + 1) a.1 a.2 = F at *
  have hat1 : a.2.at_ ≤ s.size := by rw [hsz] at hat ⊢; exact hF.le hat
  have fin : ∀ {p : Option Addr} {x : Re} {st' : PS} {w' : World}, F = (x, st') → Keeps (· = bp) w w' → PO w' bp s st' → Nd (V (Lt w.heap.size) w') p x → K p w' := by
    rintro p x st' w' rfl k' h' hN
    exact hk p w' k' h' fun M hM hm => nd_all hN hM
  refine Loop.mkn (fun m p w2 => ∃ (x : Re) (st2 : PS), Keeps (· = bp) w w2 ∧ PO w2 bp s st2 ∧ Nd (V (Lt w.heap.size) w2) p x ∧ factorLoop (bs s) m x st2 = F ∧ FR (bs s).length st (x, st2) ∧ (st2.bad = true ∨ s.size < st2.at_ + m)) ((bs s).length + 1)
    ⟨a.1, a.2, k1, h1, hN1 _ Old.lt hbw, hFF, hF, .inr (by omega)⟩ ?_
  rintro m p w2 ⟨x, st2, k2, h2, hN2, hL, hfr, hgo⟩ R hR
  have hat2 : st2.at_ ≤ s.size := by rw [hsz] at hat ⊢; exact hfr.le hat
  refine Ld.bool (cell_of h2 rfl) ?_
  cases hbad : st2.bad with
  | true =>
    refine fin ?_ k2 h2 hN2
    rw [← hL]; cases m <;> simp [factorLoop, hbad]
  | false =>
    obtain ⟨m, rfl⟩ : ∃ m', m = m' + 1 := ⟨m - 1, by rcases hgo with h | h; (rw [hbad] at h; cases h); omega⟩
    have hgo : s.size < st2.at_ + (m + 1) := by rcases hgo with h | h; (rw [hbad] at h; cases h); exact h
    have hszx := (hfr.go hbad).2.2.2
    dsimp only at hszx
    unfold factorLoop at hL
    simp only [hbad, Bool.false_eq_true, if_false] at hL
    simp only [Bool.not_false, Br_true]
    have move : ∀ {w' : World} {N : Nat → Prop}, Keeps N w2 w' → (∀ b, N b → b = bp) → Nd (V (Lt w.heap.size) w') p x := fun k hN => nd_old hN2 k fun b hb => by have := hN b hb; subst this; exact hbw
    -- behind an operator: the size is asked
    refine Join.cut (fun q w3 => ∃ (y : Re) (st3 : PS), Keeps (· = bp) w w3 ∧ PO w3 bp s st3 ∧ Nd (V (Lt w.heap.size) w3) q y ∧ y.size ≤ 2 * x.size + 2 ∧
        F = (if 400 < y.size then (Re.empty, { st3 with long := true, bad := true }) else factorLoop (bs s) m y st3) ∧ Lex (bs s).length st2 st3) ?_ ?_
    · rintro q w3 ⟨y, st3, k3, h3, hN3, hys, hF3, hlex⟩
      have hsm := hs; unfold Small at hsm
      refine regex_Size_spec y.size y (Nat.le_refl _) (by omega) hN3 fun w4 k4 => ?_
      refine Br.mk (fun ht => ?_) (fun hf => ?_)
      · have ht : 400 < y.size := by have : (400 : Int) < (y.size : Int) := of_decide_eq_true ht; omega
        rw [if_pos ht] at hF3
        refine PO.st (st' := { st3 with long := true }) (h3.keep k4) (by simp) (by simp [pobj]) fun w5 h5 k5 => ?_
        refine regex_parser_fail_spec h5 fun q w6 k6 h6 hN6 => ?_
        have k36 := (k3.then0 k4).trans k5
        exact fin hF3 (k36.trans k6) h6 (hN6 _ (Old.mono Old.lt k36.size))
      · have hf : ¬ 400 < y.size := by have : ¬ (400 : Int) < (y.size : Int) := of_decide_eq_false hf; omega
        rw [if_neg hf] at hF3
        refine hR m _ _ (Nat.lt_succ_self _) ⟨y, st3, k3.then0 k4, h3.keep k4, hN3.mono (V.keeps0 k4), hF3.symm, ?_, ?_⟩
        · refine ⟨fun e => hlex.le (hfr.le e), fun e => ?_, by dsimp only; rw [hlex.deep]; exact hfr.ge, fun e => by dsimp only; rw [hlex.deep]; exact hfr.ub e⟩
          have h5 := hlex.go e
          have h6 := hfr.go h5.1
          dsimp only at h6 ⊢
          exact ⟨h6.1, by omega, by rw [hlex.deep]; exact h6.2.2.1, by omega⟩
        · cases hb3 : st3.bad with
          | true => exact .inl rfl
          | false => right; have := (hlex.go hb3).2; omega
    · intro j hj
      refine regex_reader_is_spec (b := 42) h2 hs hat2 fun w3 k3 h3 => ?_
      have La := isB_lex (bs s) 42 st2
      have Ta : (isB (bs s) 42 st2).1 = true → Lex (bs s).length st2 (isB (bs s) 42 st2).2 := isB_true
      generalize isB (bs s) 42 st2 = a1 at *
      have hata : a1.2.at_ ≤ s.size := by rw [hsz] at hat2 ⊢; exact La.le hat2
      have k03 := k2.trans k3
      have hN3 := move k3 fun b hb => hb
      refine Br.mk (fun ht => ?_) (fun hf => ?_)
      · simp only [ht, if_true] at hL
        refine regex_Star_spec (Old.mono Old.lt k03.size) hN3 fun q w4 k4 hN4 => ?_
        exact hj _ _ ⟨_, a1.2, k03.then0 k4, h3.keep k4, hN4, by simp only [Re.size]; omega, hL.symm, Ta ht⟩
      · simp only [hf, Bool.false_eq_true, if_false] at hL
        refine regex_reader_is_spec (b := 43) h3 hs hata fun w4 k4 h4 => ?_
        have Lb := isB_lex (bs s) 43 a1.2
        have Tb : (isB (bs s) 43 a1.2).1 = true → Lex (bs s).length a1.2 (isB (bs s) 43 a1.2).2 := isB_true
        generalize isB (bs s) 43 a1.2 = b1 at *
        have hatb : b1.2.at_ ≤ s.size := by rw [hsz] at hata ⊢; exact Lb.le hata
        have k04 := k03.trans k4
        have hN4 := move (k3.trans k4) fun b hb => hb
        refine Br.mk (fun ht => ?_) (fun hf => ?_)
        · simp only [ht, if_true] at hL
          refine regex_Star_spec (Old.mono Old.lt k04.size) hN4 fun q w5 k5 hN5 => ?_
          refine Al.mk fun b5 w6 h6 => ?_
          have k06 := (k04.then0 k5).then0 h6.keeps
          have hO : Old (Lt w.heap.size) w6 := Old.mono Old.lt k06.size
          have e6 := h6.eq; have s05 := (k04.then0 k5).size
          have hb5 : V (Lt w.heap.size) w6 b5 _ := ⟨fun hm => by have : b5 < w.heap.size := hm; omega, h6.at_⟩
          refine regex_Cat_spec hO (row2 hb5) (.cons (hN4.mono (V.keeps0 (k5.trans h6.keeps))) (.cons (hN5.mono (V.keeps0 h6.keeps)) .nil)) (by simp) fun r w7 k7 hN7 => ?_
          exact hj _ _ ⟨.cat x (.star x), b1.2, k06.then0 k7, ((h4.keep k5).keep h6.keeps).keep k7, hN7, by simp only [Re.size]; omega, hL.symm, La.then (Tb ht)⟩
        · simp only [hf, Bool.false_eq_true, if_false] at hL
          refine regex_reader_is_spec (b := 63) h4 hs hatb fun w5 k5 h5 => ?_
          have Lc := isB_lex (bs s) 63 b1.2
          have Tc : (isB (bs s) 63 b1.2).1 = true → Lex (bs s).length b1.2 (isB (bs s) 63 b1.2).2 := isB_true
          generalize isB (bs s) 63 b1.2 = c1 at *
          have k05 := k04.trans k5
          have hN5 := move ((k3.trans k4).trans k5) fun b hb => hb
          refine Br.mk (fun ht => ?_) (fun hf => ?_)
          · simp only [ht, if_true] at hL
            refine regex_Empty_spec fun q w6 k6 hN6 => ?_
            refine Al.mk fun b6 w7 h7 => ?_
            have k07 := (k05.then0 k6).then0 h7.keeps
            have hO : Old (Lt w.heap.size) w7 := Old.mono Old.lt k07.size
            have e7 := h7.eq; have s06 := (k05.then0 k6).size
            have hb6 : V (Lt w.heap.size) w7 b6 _ := ⟨fun hm => by have : b6 < w.heap.size := hm; omega, h7.at_⟩
            refine regex_Or_spec hO (row2 hb6) (.cons (hN5.mono (V.keeps0 (k6.trans h7.keeps))) (.cons ((hN6 _ (Old.mono Old.lt k05.size)).mono (V.keeps0 h7.keeps)) .nil)) (by simp) fun r w8 k8 hN8 => ?_
            exact hj _ _ ⟨.or x .empty, c1.2, k07.then0 k8, ((h5.keep k6).keep h7.keeps).keep k8, hN8, by simp only [Re.size]; omega, hL.symm, (La.trans Lb).then (Tc ht)⟩
          · simp only [hf, Bool.false_eq_true, if_false] at hL
            exact fin hL.symm k05 h5 hN5

end Go.Fk
end

section
set_option linter.unusedVariables false
set_option linter.unusedSimpArgs false
namespace Go.Fk
open Go

/-- Behind an append: what lay apart from the old row lies apart from the new one. -/
theorem V.grown {M : Nat → Prop} {w w' : World} {l l' : Sl} (hk : Keeps l.blk w w') (h : ∃ g, l'.a = some ⟨g, 0, none⟩ ∧ (l.blk g ∨ w.heap.size ≤ g)) :
    Vle (V (fun b => M b ∨ l.blk b) w) (V (fun b => M b ∨ l'.blk b) w') :=
  V.move hk (fun b _ hb => .inr hb) fun b hlt hb => by
    rcases hb with hb | ⟨a, ha, rfl⟩
    · exact .inl hb
    · obtain ⟨g, hg, hc⟩ := h
      rw [hg] at ha; simp at ha; subst ha
      rcases hc with hc | hc
      · exact .inr hc
      · dsimp only at hlt; omega

theorem V.ofOwn {M : Nat → Prop} {w : World} {l : Sl} : Vle (V (fun b => M b ∨ l.blk b) w) (V M w) := V.sub fun b _ h => .inl h

/-- A list of nodes that is gathered. -/
structure Gath (w : World) (base : Nat) (l : Sl) (ps : List (Option Addr)) (xs : List Re) : Prop where
  own : Own w base T.p_regex_Node 1 l (ps.map (Ty.enc .ptr))
  nds : All2 (Nd (V (fun b => Lt base b ∨ l.blk b) w)) ps xs

theorem Gath.keep {w w' : World} {base : Nat} {l : Sl} {ps : List (Option Addr)} {xs : List Re} {N : Nat → Prop} (h : Gath w base l ps xs) (hk : Keeps N w w') (hN : ∀ b, N b → b < base) : Gath w' base l ps xs :=
  ⟨h.own.keep hk fun b hb hl => by have := hN b hb; have := (h.own.ge hl).1; omega, h.nds.mono fun _ _ x => nd_old x hk fun b hb => .inl (hN b hb)⟩

theorem Gath.n {w : World} {base : Nat} {l : Sl} {ps : List (Option Addr)} {xs : List Re} (h : Gath w base l ps xs) : l.n = ps.length := by have := h.own.len; simp at this; exact this.symm

/-- One more node is gathered. -/
theorem Gath.add {w : World} {base : Nat} {l : Sl} {ps : List (Option Addr)} {xs : List Re} {p : Option Addr} {x : Re} {k : Sl → World → Prop} (h : Gath w base l ps xs) (hb : base ≤ w.heap.size) (hlen : ps.length < 1000000000)
    (hN : Nd (V (fun b => Lt base b ∨ l.blk b) w) p x)
    (hk : ∀ l' w', Gath w' base l' (ps ++ [p]) (xs ++ [x]) → Keeps (fun b => base ≤ b) w w' → k l' w') :
    Al (.cells #[.pointer p] T.p_regex_Node (0, 0)) w fun b w1 => App P (Builtin.append_ #[T.sl_p_regex_Node, T.sl_p_regex_Node] T.sl_p_regex_Node #[.slice l.a l.n l.c, .slice (some ⟨b, 0, none⟩) 1 1]) (.one .sl) w1 k := by
  have hn := h.n
  refine append1 (t := .ptr) (x := p) E_pNode h.own rfl (by omega) (by omega) hb fun l' w' h1 h2 h3 h4 => ?_
  have hv := V.grown (M := Lt base) h3 h4
  exact hk l' w' ⟨h1, (h.nds.append (.cons hN .nil)).mono fun _ _ x => x.mono hv⟩ (h3.mono fun b _ hb => (h.own.ge hb).1)

theorem Gath.nil {w : World} : Gath w w.heap.size ⟨none, 0, 0⟩ [] [] := ⟨Own.nil _ _ _ _, .nil⟩

/-- What was gathered, as an argument. -/
theorem Gath.reads {w : World} {base : Nat} {l : Sl} {ps : List (Option Addr)} {xs : List Re} (h : Gath w base l ps xs) : SlT .ptr (V (Lt base) w) l ps ∧ All2 (Nd (V (Lt base) w)) ps xs :=
  ⟨h.own.reads fun b hb hlt => by have := (h.own.ge hb).1; have : b < base := hlt; omega, h.nds.mono fun _ _ x => x.mono V.ofOwn⟩

theorem Keeps.new {bp : Nat} {w a b : World} (h : Keeps (· = bp) w a) (k : Keeps (fun b => w.heap.size ≤ b) a b) : Keeps (· = bp) w b := h.then k fun i hi e => by omega

theorem regex_parser_cat_spec {n : Nat} (hor : OrSpec n) {w : World} {bp : Nat} {s : ByteArray} {st : PS} {K : Option Addr → World → Prop} (h : PO w bp s st) (hs : Small s) (hat : st.at_ ≤ s.size)
    (hb : st.bad = false) (hd : st.deep + (n + 1) = 51)
    (hk : ∀ p w', Keeps (· = bp) w w' → PO w' bp s (catF (bs s) (orF (bs s) n) st).2 → Nd (V (Lt w.heap.size) w') p (catF (bs s) (orF (bs s) n) st).1 → K p w') : regex_parser_cat.C (some ⟨bp, 0, none⟩) w K := by
  refine regex_parser_cat.ok _ _ _ ?_
  simp only [regex_parser_cat.M, NilC_some]
  have hbw : bp < w.heap.size := lt_of_some h
  have hsz : s.size = (bs s).length := size_bs s
  have hsm := hs; unfold Small at hsm
  have hg : ∀ st : PS, st.deep ≤ 50 → OR (bs s).length st (orF (bs s) n st) := fun st h => orF_or _ _ _ h
  unfold catF at hk
  generalize hFF : catLoop (bs s) (orF (bs s) n) ((bs s).length + 1) [] st = F at *
  have fin : ∀ {l : Sl} {ps : List (Option Addr)} {xs : List Re} {st' : PS} {w' : World}, F = (xs, st') → Keeps (· = bp) w w' → PO w' bp s st' → Gath w' w.heap.size l ps xs → ps.length < 1000000000 →
      regex_Cat.C l w' fun x34 w4 => K x34 w4 := by
    rintro l ps xs st' w' rfl k' h' hG hlen
    exact regex_Cat_spec (Old.mono Old.lt k'.size) hG.reads.1 hG.reads.2 hlen fun p w4 k4 hN => hk p w4 (k'.then0 k4) (h'.keep k4) hN
  refine Loop.mkn (fun m l w2 => ∃ (ps : List (Option Addr)) (xs : List Re) (st2 : PS), Keeps (· = bp) w w2 ∧ PO w2 bp s st2 ∧ Gath w2 w.heap.size l ps xs ∧ catLoop (bs s) (orF (bs s) n) m xs st2 = F ∧
      CL (bs s).length st 0 (xs, st2) ∧ st2.at_ ≤ s.size ∧ (st2.bad = true ∨ s.size < st2.at_ + m) ∧ ps.length ≤ s.size + 1 ∧ (st2.bad = false → ps.length ≤ st2.at_)) ((bs s).length + 1)
    ⟨[], [], st, Keeps.refl, h, Gath.nil, hFF, ⟨id, fun e => ⟨e, Nat.le_refl _, rfl, by simp⟩, Nat.le_refl _, id⟩, hat, .inr (by omega), by simp, by simp⟩ ?_
  rintro m l w2 ⟨ps, xs, st2, k2, h2, hG, hL, hcl, hat2, hgo, hpl, hpl2⟩ R hR
  refine Ld.bool (cell_of h2 rfl) ?_
  cases hbad : st2.bad with
  | true =>
    refine fin ?_ k2 h2 hG (by omega)
    rw [← hL]; cases m <;> simp [catLoop, hbad]
  | false =>
    obtain ⟨m, rfl⟩ : ∃ m', m = m' + 1 := ⟨m - 1, by rcases hgo with h | h; (rw [hbad] at h; cases h); omega⟩
    have hgo : s.size < st2.at_ + (m + 1) := by rcases hgo with h | h; (rw [hbad] at h; cases h); exact h
    have hpl2 := hpl2 hbad
    unfold catLoop at hL
    simp only [hbad, Bool.false_eq_true, if_false] at hL
    simp only [Bool.not_false, Br_true]
    refine regex_reader_peek_spec h2 hs fun w3 k3 => ?_
    have h3 := h2.keep k3
    have hG3 := hG.keep k3 fun _ h => h.elim
    have k03 := k2.then0 k3
    refine Join.cut (fun t w4 => w4 = w3 ∧ (t = true → F = (xs, st2)) ∧ (t = false → F = catLoop (bs s) (orF (bs s) n) m (xs ++ [(factorF (bs s) (orF (bs s) n) st2).1]) (factorF (bs s) (orF (bs s) n) st2).2)) ?_ ?_
    · rintro t w4 ⟨rfl, ht, hf⟩
      refine Br.mk (fun e => ?_) (fun e => ?_)
      · exact fin (ht e) k03 h3 hG3 (by omega)
      · have hf := hf e
        have h0 := hcl.go hbad
        dsimp only at h0
        refine regex_parser_factor_spec hor h3 hs hat2 hbad (by omega) fun p w5 k5 h5 hN5 => ?_
        have hfr := factorF_fr hg st2 (by omega)
        generalize factorF (bs s) (orF (bs s) n) st2 = f at *
        have k05 := k03.trans k5
        have hG5 := hG3.keep k5 fun b hb => by subst hb; exact hbw
        refine Gath.add hG5 k05.size (by omega) (hN5 _ (fun b hb => ?_) (.inl hbw)) fun l' w7 hG7 k7 => ?_
        · rcases hb with hb | hb
          · exact Nat.lt_of_lt_of_le hb k03.size
          · exact (hG3.own.ge hb).2
        have h7 : PO w7 bp s f.2 := k7.blk h5 (by omega)
        have hatf : f.2.at_ ≤ s.size := by rw [hsz] at hat2 ⊢; exact hfr.le hat2
        refine hR m _ _ (Nat.lt_succ_self _) ⟨_, _, f.2, Keeps.new k05 k7, h7, hG7, hf.symm, ?_, hatf, ?_, ?_, ?_⟩
        · refine ⟨fun e => hfr.le (hcl.le e), fun e => ?_, Nat.le_trans hcl.ge hfr.ge, fun e => hfr.ub (hcl.ub e)⟩
          have h1 := hfr.go e
          dsimp only at h1 ⊢
          refine ⟨h0.1, by omega, by omega, ?_⟩
          simp only [List.map_append, List.sum_append, List.length_append, List.map_cons, List.map_nil, List.sum_cons, List.sum_nil, List.length_cons, List.length_nil]
          omega
        · cases hb3 : f.2.bad with
          | true => exact .inl rfl
          | false => right; have := (hfr.go hb3).2.1; omega
        · simp only [List.length_append, List.length_cons, List.length_nil]
          omega
        · intro hb3
          have := (hfr.go hb3).2.1
          simp only [List.length_append, List.length_cons, List.length_nil]; omega
    · intro j hj
      cases hc : (bs s)[st2.at_]? with
      | none =>
        rw [hc] at hL
        exact hj _ _ ⟨rfl, fun _ => hL.symm, fun e => by cases e⟩
      | some c =>
        rw [hc] at hL
        simp only [] at hL
        simp only [Bool.not_true, Br_false]
        rw [beq_lit (n := 124) 124 rfl, beq_lit (n := 41) 41 rfl]
        by_cases c1 : c = 124
        · simp only [c1, true_or, if_true] at hL
          simp only [c1, decide_true, Br_true]
          exact hj _ _ ⟨rfl, fun _ => hL.symm, fun e => by cases e⟩
        · simp only [c1, decide_false, Br_false]
          by_cases c2 : c = 41
          · simp only [c2, or_true, if_true] at hL
            exact hj _ _ ⟨rfl, fun _ => hL.symm, fun e => by simp [c2] at e⟩
          · simp only [c1, c2, or_self, if_false] at hL
            exact hj _ _ ⟨rfl, fun e => by simp [c2] at e, fun _ => hL.symm⟩


theorem regex_parser_or_spec : ∀ n, OrSpec n := by
  intro n
  induction n with
  | zero => intro w bp s st K _ _ _ _ h1 h2; omega
  | succ n hor =>
    intro w bp s st K h hs hat hb hd50 hd hk
    refine regex_parser_or.ok _ _ _ ?_
    simp only [regex_parser_or.M, NilC_some]
    have hbw : bp < w.heap.size := lt_of_some h
    have hsz : s.size = (bs s).length := size_bs s
    have hsm := hs; unfold Small at hsm
    have hg : ∀ st : PS, st.deep ≤ 50 → OR (bs s).length st (orF (bs s) n st) := fun st h => orF_or _ _ _ h
    refine regex_parser_cat_spec hor h hs hat hb hd fun p0 w1 k1 h1 hN1 => ?_
    have hO1 := catF_or hg st (by omega)
    unfold orF at hk
    generalize catF (bs s) (orF (bs s) n) st = c at *
    dsimp only at hk
    generalize hFF : orLoop (bs s) (orF (bs s) n) ((bs s).length + 1) [c.1] c.2 = F at *
    have hatc : c.2.at_ ≤ s.size := by rw [hsz] at hat ⊢; exact hO1.le hat
    refine Al.mk fun b1 w2 h2 => ?_
    have fin : ∀ {l : Sl} {ps : List (Option Addr)} {xs : List Re} {st' : PS} {w' : World}, F = (xs, st') → Keeps (· = bp) w w' → PO w' bp s st' → Gath w' w.heap.size l ps xs → ps.length < 1000000000 →
        regex_Or.C l w' fun x34 w4 => K x34 w4 := by
      rintro l ps xs st' w' rfl k' h' hG hlen
      exact regex_Or_spec (Old.mono Old.lt k'.size) hG.reads.1 hG.reads.2 hlen fun p w4 k4 hN => hk p w4 (k'.then0 k4) (h'.keep k4) fun M hM _ => nd_all hN hM
    have e2 := h2.eq; have s1 := k1.size
    have hG0 : Gath w2 w.heap.size ⟨some ⟨b1, 0, none⟩, 1, 1⟩ [p0] [c.1] := by
      refine ⟨⟨rfl, .inr ⟨b1, 1, _, rfl, by omega, h2.at_, by simp, by decide, by simp, by simp [Ty.enc]⟩⟩, .cons ?_ .nil⟩
      refine hN1.mono (V.move h2.keeps (fun _ _ h => h.elim) fun b hlt hb => ?_)
      rcases hb with hb | ⟨a, ha, rfl⟩
      · exact hb
      · simp at ha; subst ha; dsimp only at hlt; omega
    refine Loop.mkn (fun m l w2 => ∃ (ps : List (Option Addr)) (xs : List Re) (st2 : PS), Keeps (· = bp) w w2 ∧ PO w2 bp s st2 ∧ Gath w2 w.heap.size l ps xs ∧ orLoop (bs s) (orF (bs s) n) m xs st2 = F ∧
        CL (bs s).length st 2 (xs, st2) ∧ st2.at_ ≤ s.size ∧ (st2.bad = true ∨ s.size < st2.at_ + m) ∧ ps.length ≤ s.size + 2 ∧ (st2.bad = false → ps.length ≤ st2.at_ + 1)) ((bs s).length + 1)
      ⟨[p0], [c.1], c.2, k1.then0 h2.keeps, h1.keep h2.keeps, hG0, hFF, ⟨hO1.le, fun e => ?_, hO1.ge, hO1.ub⟩, hatc, .inr (by omega), by simp, by simp⟩ ?_
    · have := hO1.go e
      refine ⟨this.1, this.2.1, this.2.2.1, ?_⟩
      simp only [List.map_cons, List.map_nil, List.sum_cons, List.sum_nil, List.length_cons, List.length_nil]; omega
    rintro m l w2 ⟨ps, xs, st2, k2, h2, hG, hL, hcl, hat2, hgo, hpl, hpl2⟩ R hR
    refine Join.cut (fun t w4 => ∃ st4, PO w4 bp s st4 ∧ Keeps (· = bp) w2 w4 ∧ ((t = false ∧ F = (xs, st4)) ∨ (t = true ∧ st2.bad = false ∧ st4 = (isB (bs s) 124 st2).2 ∧ (isB (bs s) 124 st2).1 = true))) ?_ ?_
    · rintro t w4 ⟨st4, h4, k4, hc⟩
      have hG4 := hG.keep k4 fun b hb => by subst hb; exact hbw
      have k04 := k2.trans k4
      refine Br.mk (fun e => ?_) (fun e => ?_)
      · subst e
        obtain ⟨hbad, rfl, hi⟩ : st2.bad = false ∧ st4 = (isB (bs s) 124 st2).2 ∧ (isB (bs s) 124 st2).1 = true := by
          rcases hc with ⟨h, _⟩ | ⟨_, h⟩
          · cases h
          · exact h
        obtain ⟨m, rfl⟩ : ∃ m', m = m' + 1 := ⟨m - 1, by rcases hgo with h | h; (rw [hbad] at h; cases h); omega⟩
        have hgo : s.size < st2.at_ + (m + 1) := by rcases hgo with h | h; (rw [hbad] at h; cases h); exact h
        have h0 := hcl.go hbad
        dsimp only at h0
        unfold orLoop at hL
        simp only [hbad, hi, Bool.false_eq_true, if_false, if_true] at hL
        have La := isB_true hi
        have hba : (isB (bs s) 124 st2).2.bad = false := by unfold isB; split <;> exact hbad
        generalize isB (bs s) 124 st2 = a at *
        have hata : a.2.at_ ≤ s.size := by rw [hsz] at hat2 ⊢; exact La.le hat2
        have hdeep := La.deep
        refine regex_parser_cat_spec hor h4 hs hata hba (by omega) fun p w5 k5 h5 hN5 => ?_
        have hO := catF_or hg a.2 (by omega)
        generalize catF (bs s) (orF (bs s) n) a.2 = f at *
        have k05 := k04.trans k5
        have hG5 := hG4.keep k5 fun b hb => by subst hb; exact hbw
        refine Gath.add hG5 k05.size (by omega) (nd_all hN5 fun b hb => ?_) fun l' w7 hG7 k7 => ?_
        · rcases hb with hb | hb
          · exact Nat.lt_of_lt_of_le hb k04.size
          · exact (hG4.own.ge hb).2
        have h7 : PO w7 bp s f.2 := k7.blk h5 (by omega)
        have hatf : f.2.at_ ≤ s.size := by rw [hsz] at hata ⊢; exact hO.le hata
        refine hR m _ _ (Nat.lt_succ_self _) ⟨_, _, f.2, Keeps.new k05 k7, h7, hG7, hL, ?_, hatf, ?_, ?_, ?_⟩
        · have hge := hO.ge; have hub := hO.ub
          rw [hdeep] at hge hub
          refine ⟨fun e => hO.le (La.le (hcl.le e)), fun e => ?_, Nat.le_trans hcl.ge hge, fun e => hub (hcl.ub e)⟩
          have h1 := hO.go e
          have h2 := La.go h1.1
          dsimp only at h1 ⊢
          refine ⟨h0.1, by omega, by omega, ?_⟩
          simp only [List.map_append, List.sum_append, List.length_append, List.map_cons, List.map_nil, List.sum_cons, List.sum_nil, List.length_cons, List.length_nil]
          omega
        · cases hb3 : f.2.bad with
          | true => exact .inl rfl
          | false => right; have h1 := hO.go hb3; have h2 := La.go h1.1; omega
        · have := hpl2 hbad
          simp only [List.length_append, List.length_cons, List.length_nil]; omega
        · intro hb3
          have h1 := hO.go hb3; have h2 := La.go h1.1; have := hpl2 hbad
          simp only [List.length_append, List.length_cons, List.length_nil]; omega
      · subst e
        have hF : F = (xs, st4) := by
          rcases hc with ⟨_, h⟩ | ⟨h, _⟩
          · exact h
          · cases h
        exact fin hF k04 h4 hG4 (by omega)
    · intro j hj
      refine Ld.bool (cell_of h2 rfl) ?_
      cases hbad : st2.bad with
      | true =>
        refine hj _ _ ⟨st2, h2, Keeps.refl, .inl ⟨rfl, ?_⟩⟩
        rw [← hL]; cases m <;> simp [orLoop, hbad]
      | false =>
        refine regex_reader_is_spec (b := 124) h2 hs hat2 fun w3 k3 h3 => ?_
        cases hi : (isB (bs s) 124 st2).1 with
        | true => exact hj _ _ ⟨_, h3, k3, .inr ⟨rfl, hbad, rfl, hi⟩⟩
        | false =>
          refine hj _ _ ⟨_, h3, k3, .inl ⟨rfl, ?_⟩⟩
          obtain ⟨m, rfl⟩ : ∃ m', m = m' + 1 := ⟨m - 1, by rcases hgo with h | h; (rw [hbad] at h; cases h); omega⟩
          rw [← hL]; unfold orLoop; simp [hbad, hi]


/-- The parser's answer as the call hands it over. -/
theorem regex_Parse_spec {w : World} {s : ByteArray} {K : (Option Addr × Int × Int) → World → Prop} (hs : Small s)
    (hk : ∀ p w', Keeps No w w' → ((parseF (bs s)).2.2 = 0 → Nd (V (Lt w.heap.size) w') p (parseF (bs s)).1) → ((parseF (bs s)).2.2 ≠ 0 → p = none) →
      K (p, ((parseF (bs s)).2.1 : Int), ((parseF (bs s)).2.2 : Int)) w') : regex_Parse.C s w K := by
  refine regex_Parse.ok _ _ _ ?_
  simp only [regex_Parse.M, NilC_some]
  have hsz : s.size = (bs s).length := size_bs s
  refine Al.mk fun b1 w1 h1 => ?_
  have hp : PO w1 b1 s ⟨0, false, false, 0⟩ := h1.at_
  refine regex_parser_or_spec 51 hp hs (by dsimp only; omega) rfl (by dsimp only; omega) rfl fun p w2 k2 h2 hN2 => ?_
  have hO := orF_or (bs s) 51 ⟨0, false, false, 0⟩ (by dsimp only; omega)
  unfold parseF at hk
  generalize orF (bs s) 51 ⟨0, false, false, 0⟩ = r at *
  have e1 := h1.eq; have s1 := h1.size
  have k02 : Keeps No w w2 := h1.keeps.then k2 fun i hi e => by omega
  have hN : Nd (V (Lt w.heap.size) w2) p r.1 := nd_all (hN2 _ Old.lt (by show b1 < _; omega)) fun b hb => Nat.lt_of_lt_of_le hb (by omega)
  refine Ld.bool (cell_of h2 rfl) ?_
  cases hl : r.2.long with
  | true =>
    simp only [hl, if_true] at hk
    exact hk none w2 k02 (fun h => by cases h) fun _ => rfl
  | false =>
    simp only [hl, Bool.false_eq_true, if_false] at hk
    have hat : r.2.at_ ≤ s.size := by rw [hsz]; exact hO.le (by dsimp only; omega)
    simp only [Br_false]
    refine Join.cut (fun t w3 => w3 = w2 ∧ t = (r.2.bad || decide (r.2.at_ < (bs s).length))) ?_ ?_
    · rintro t w3 ⟨rfl, rfl⟩
      refine Br.mk (fun e => ?_) (fun e => ?_)
      · simp only [e, if_true] at hk
        refine Draw.mk fun w4 e4 k4 => ?_
        exact LdS.int (cell_of (h2.heap e4) rfl) (hk none w4 (k02.trans k4) (fun h => by cases h) fun _ => rfl)
      · simp only [e, Bool.false_eq_true, if_false] at hk
        have hb : r.2.bad = false := by cases hbb : r.2.bad with | true => simp [hbb] at e | false => rfl
        have hgo := (hO.go hb).2.2.2
        have hsm := hs; unfold Small at hsm
        refine regex_Size_spec r.1.size r.1 (Nat.le_refl _) (by omega) hN fun w4 k4 => ?_
        refine Br.mk (fun e => ?_) (fun e => ?_)
        · have e : 400 < r.1.size := by have : (400 : Int) < (r.1.size : Int) := of_decide_eq_true e; omega
          simp only [e, if_true] at hk
          exact hk none w4 (k02.trans k4) (fun h => by cases h) fun _ => rfl
        · have e : ¬ 400 < r.1.size := by have : ¬ (400 : Int) < (r.1.size : Int) := of_decide_eq_false e; omega
          simp only [e, if_false] at hk
          exact hk p w4 (k02.trans k4) (fun _ => hN.mono (V.keeps0 k4)) fun h => absurd rfl h
    · intro j hj
      refine Ld.bool (cell_of h2 rfl) ?_
      cases hb : r.2.bad with
      | true => exact hj _ _ ⟨rfl, by rw [hb]; rfl⟩
      | false =>
        refine Ld.int (cell_of h2 rfl) (hj _ _ ⟨rfl, ?_⟩)
        rw [hb, Bool.false_or, ← hsz]
        simp only [Int.ofNat_lt]

end Go.Fk
end

section
set_option linter.unusedVariables false
namespace Go.Fk
open Go Go.MapKept

theorem nfa_New_none {M : Nat → Prop} {w : World} {l : Sl} {ps : List (Option Addr)} {K : (Option Addr × Int) → World → Prop} (hl : SlT .ptr (V M w) l ps) (hlen : ps.length < 1000000000) (h : ps = [] ∨ none ∈ ps) (hK : K (none, 1) w) : nfa_New.C l w K := by
  refine nfa_New.ok _ _ _ ?_
  simp only [nfa_New.M]
  have hn := hl.1
  refine Join.cut (fun s w' => s = true ∧ w' = w) ?_ ?_
  · rintro s w' ⟨rfl, rfl⟩
    exact hK
  · intro j hj
    refine Br.mk (fun _ => hj _ _ ⟨rfl, rfl⟩) fun hf => ?_
    refine slices_Contains_nil hl hlen fun b hb => hj _ _ ⟨?_, rfl⟩
    rcases h with rfl | h
    · simp at hn; simp [hn] at hf
    · exact hb.2 h

theorem Mach.rl {w w' : World} {bm base : Nat} {fs : List ((Nat → Bool) × Int)} {F : Int → Int → Prop} {l rl rl' : Sl} {vs : List PosV} {Ft : Nat → Prop} (h : MachAt w bm base fs F l rl vs Ft) 
    (u : Upd bm (.cells #[.slice l.a l.n l.c, .slice rl'.a rl'.n rl'.c] T.nfa_Machine (0, 0)) w w') : MachAt w' bm base fs F l rl' vs Ft where
  at_ := u.at_
  own := h.own.keep u.keeps fun b e hb => by
    subst e
    obtain ⟨a, ha, hab⟩ := hb
    rcases h.own.2 with ⟨hv, _⟩ | ⟨g, cap, cur, hv, _, hg, _⟩
    · simp [Sl.val, ha] at hv
    · simp [Sl.val, ha] at hv
      obtain ⟨rfl, _⟩ := hv
      have : g = b := hab
      subst this
      rw [h.at_] at hg
      cases hg
  pos := h.pos
  sets := fun i v hv => (h.sets i v hv).keep u.keeps (fun e => by
    obtain ⟨es, clock, ⟨_, h1⟩, _⟩ := h.sets i v hv
    rw [e, h.at_] at h1
    cases h1) id
  apart := h.apart
  foot := h.foot
  old := fun b hb => ⟨(h.old b hb).1, Nat.lt_of_lt_of_le (h.old b hb).2 u.keeps.size⟩
  fin := h.fin
  few := h.few

theorem mCnt_take_succ {xs : List Re} {i : Nat} {x : Re} (h : xs[i]? = some x) : mCnt (xs.take (i + 1)) = mCnt (xs.take i) + x.cnt := by
  rw [List.take_add_one, h]; simp [mCnt]
theorem mCnt_take_le (xs : List Re) (i : Nat) : mCnt (xs.take i) ≤ mCnt xs := by
  have := sum_take_le (xs.map Re.cnt) i
  simpa [mCnt, List.map_take] using this
theorem mFs_len' (xs : List Re) (r : Int) : ((mFs r xs).length : Int) = mCnt xs := by rw [mFs_len]

theorem mKs_in (xs : List Re) : ∀ (n : Int), ∀ k ∈ mKs n xs, ∀ p, (k.first p ∨ k.last p) → n ≤ p ∧ p < n + mCnt xs := by
  induction xs with
  | nil => intro n k hk; simp [mKs] at hk
  | cons y xs ih =>
    intro n k hk p hp
    have e : ((mCnt (y :: xs) : Nat) : Int) = y.cnt + mCnt xs := by simp [mCnt]
    rw [e]
    simp only [mKs, List.mem_cons] at hk
    rcases hk with rfl | hk
    · have : n ≤ p ∧ p < n + y.cnt := by rcases hp with h | h; { exact Re.first_in h }; { exact Re.last_in h }
      omega
    · have := ih _ k hk p hp
      omega

/-- The rules so far. -/
structure RulesAt (w : World) (base : Nat) (rl : Sl) (kvs : List KnV) (ks : List Kn) (Ft : Nat → Prop) : Prop where
  own : Own w base T.nfa_known 3 rl (kvs.map KnV.cells).flatten
  out : ∀ b, rl.blk b → ¬ Ft b
  sets : All2 (fun v k => SetAt (V Ft w) v.a k.first ∧ SetAt (V Ft w) v.b k.last ∧ v.e = k.emp) kvs ks

theorem All2.and_mem {α β : Type} {R : α → β → Prop} {l : List α} {m : List β} (x : All2 R l m) {S : α → β → Prop} (h : ∀ a b, a ∈ l → b ∈ m → R a b → S a b) : All2 S l m := by
  induction x with
  | nil => exact .nil
  | cons hd _ ih => exact .cons (h _ _ (by simp) (by simp) hd) (ih fun a b ha hb => h a b (by simp [ha]) (by simp [hb]))

theorem RulesAt.move {w w' : World} {base : Nat} {rl : Sl} {kvs : List KnV} {ks : List Kn} {Ft Ft' N : Nat → Prop} (h : RulesAt w base rl kvs ks Ft) (hk : Keeps N w w') (hN : ∀ b, b < w.heap.size → N b → Ft b) (hF : ∀ i, Ft' i → Ft i ∨ w.heap.size ≤ i) : RulesAt w' base rl kvs ks Ft' where
  own := by
    refine ⟨h.own.1, ?_⟩
    rcases h.own.2 with h2 | ⟨g, cap, cur, hv, hge, hg, h3⟩
    · exact .inl h2
    · refine .inr ⟨g, cap, cur, hv, hge, hk.blk hg (fun hm => h.out g ?_ (hN g (lt_of_some hg) hm)), h3⟩
      simp only [Sl.val, Value.slice.injEq] at hv
      exact ⟨_, hv.1, rfl⟩
  out := fun b hb hf => by
    rcases hF b hf with h1 | h1
    · exact h.out b hb h1
    · have := (h.own.ge hb).2; omega
  sets := h.sets.mono fun a b ⟨h1, h2, h3⟩ => by
    have hv : Vle (V Ft w) (V Ft' w') := V.move hk hN fun b hb hf => (hF b hf).resolve_right (by omega)
    exact ⟨h1.mono hv, h2.mono hv, h3⟩

theorem kcell_len {kvs : List KnV} : ∀ c ∈ kvs.map KnV.cells, c.length = 3 := fun c hc => by obtain ⟨v, _, rfl⟩ := List.mem_map.1 hc; rfl
theorem pcell_len {kvs : List PosV} : ∀ c ∈ kvs.map PosV.cells, c.length = 6 := fun c hc => by obtain ⟨v, _, rfl⟩ := List.mem_map.1 hc; rfl

theorem RulesAt.push {w wA : World} {bm base b : Nat} {fs : List ((Nat → Bool) × Int)} {F : Int → Int → Prop} {l rl : Sl} {vs : List PosV} {Ft : Nat → Prop} {kvs : List KnV} {ks : List Kn} {v : KnV} {kn : Kn} {k : World → Prop}
    (hm : MachAt w bm base fs F l rl vs Ft) (hr : RulesAt w base rl kvs ks Ft) (hbase : base ≤ w.heap.size) (hk : Keeps No w wA) (hb : wA.heap[b]? = some (.cells #[.map (some v.a), .map (some v.b), .bool v.e] T.nfa_known (0, 0)))
    (hv : SetAt (V Ft w) v.a kn.first ∧ SetAt (V Ft w) v.b kn.last ∧ v.e = kn.emp) (hfew : kvs.length ≤ 1000000)
    (hK : ∀ w' rl', Keeps (fun i => base ≤ i) w w' → w.heap.size ≤ w'.heap.size → MachAt w' bm base fs F l rl' vs Ft → RulesAt w' base rl' (kvs ++ [v]) (ks ++ [kn]) Ft → k w') :
    App P (Builtin.append_ #[T.sl_nfa_known, T.sl_nfa_known] T.sl_nfa_known #[.slice rl.a rl.n rl.c, .slice (some ⟨b, 0, none⟩) 1 1]) (.one .sl) wA fun x34 w16 =>
      St ⟨bm, 1, none⟩ (.slice x34.a x34.n x34.c) w16 fun w17 => k w17 := by
  have hmA := hm.keep hk fun _ h => h.elim
  have hrA := hr.move hk (fun _ _ h => h.elim) (fun i h => .inl h)
  have hn : rl.n = kvs.length := by
    have := hrA.own.len
    rw [flatten_len kcell_len, List.length_map] at this
    omega
  refine appendC (c := KnV.cells v) (base := base) elKnown hrA.own rfl hb ?_ (by omega) (by omega) (Nat.le_trans hbase hk.size) fun rl' w16 o16 e16 k16 g16 => ?_
  · intro u hu
    simp [KnV.cells] at hu
    rcases hu with rfl | rfl | rfl <;> rfl
  · have nbm : ¬ rl.blk bm := fun h => hrA.out _ h (hm.foot _ (.inl rfl))
    refine St.blk (k16.blk hmA.at_ nbm) (by simp) fun w17 u17 => ?_
    have hsz := hk.size; have hsz2 := k16.size; have hsz3 := u17.size
    have hbm := hm.old bm (hm.foot _ (.inl rfl))
    obtain ⟨g, hg1, hg2⟩ := g16
    have hgF : ¬ Ft g := by
      rcases hg2 with h | h
      · exact hrA.out _ h
      · intro hf
        have := (hmA.old g hf).2
        omega
    have nbm' : ¬ bm = g := fun e => hgF (e ▸ hm.foot _ (.inl rfl))
    have m16 := hmA.keep k16 fun b' h hf => hrA.out b' h hf
    refine hK w17 rl' ?_ (by omega) (Mach.rl m16 u17) ⟨?_, ?_, ?_⟩
    · refine ((hk.no (M := fun i => base ≤ i)).trans (k16.mono fun i _ hi => (hrA.own.ge hi).1)).then u17.keeps fun i _ e => e ▸ hbm.1
    · rw [List.map_append]
      refine o16.keep u17.keeps fun b' e h => ?_
      obtain ⟨a, ha, hab⟩ := h
      rw [hg1] at ha
      cases ha
      exact nbm' (e ▸ hab.symm)
    · rintro b' ⟨a, ha, hab⟩ hf
      rw [hg1] at ha
      cases ha
      have : g = b' := hab
      exact hgF (this ▸ hf)
    · have mv : ∀ {m : Nat} {S : Int → Prop}, SetAt (V Ft w) m S → SetAt (V Ft w17) m S := fun {m S} h => by
        have hA : SetAt (V Ft wA) m S := h.mono (V.keeps0 hk)
        have hA' := hA
        obtain ⟨es, clock, ⟨_, h1⟩, _⟩ := hA'
        refine MapAt.keep (MapAt.keep (M' := Ft) hA k16 (fun hb' => ?_) h.out) u17.keeps (fun e => ?_) h.out
        · obtain ⟨a, ha, hab⟩ := hb'
          rcases hrA.own.2 with ⟨hv, _⟩ | ⟨g', cap, cur, hv, _, hg', _⟩
          · simp [Sl.val, ha] at hv
          · simp [Sl.val, ha] at hv
            obtain ⟨rfl, _⟩ := hv
            have : g' = m := hab
            subst this
            rw [h1] at hg'
            cases hg'
        · subst e
          rw [hmA.at_] at h1
          cases h1
      refine All2.append (hr.sets.mono fun a b ⟨h1, h2, h3⟩ => ⟨mv h1, mv h2, h3⟩) (.cons ⟨mv hv.1, mv hv.2.1, hv.2.2⟩ .nil)

/-- New(l...) -/
theorem nfa_New_spec {M : Nat → Prop} {w : World} {l : Sl} {ps : List (Option Addr)} {xs : List Re} {K : (Option Addr × Int) → World → Prop} (hM : Old M w) (hl : SlT .ptr (V M w) l ps) (ha : All2 (Nd (V M w)) ps xs) (hne : ps ≠ []) (hlen : ps.length ≤ 1000000) (hsz : ∀ x ∈ xs, x.size < 1000000000000)
    (hK : ∀ p e w', Keeps No w w' → (mCnt xs ≤ 2000 → e = 0 ∧ MachV (V No w') p (mFs 0 xs) (mFol 0 xs) (mKs 0 xs)) → (2000 < mCnt xs → e = 3 ∧ p = none) → K (p, e) w') : nfa_New.C l w K := by
  refine nfa_New.ok _ _ _ ?_
  simp only [nfa_New.M]
  have hn := hl.1; have hal := ha.length
  have hpos : 0 < ps.length := by cases ps with | nil => exact absurd rfl hne | cons a l => simp
  have hnone : none ∉ ps := fun h => by
    obtain ⟨i, hi⟩ := List.getElem?_of_mem h
    obtain ⟨x, _, hx⟩ := ha.get _ _ hi
    obtain ⟨_, _, _, _, _, _, _, h, _⟩ := hx.out
    cases h
  refine Join.cut (fun s w' => s = false ∧ w' = w) ?_ ?_
  · rintro s w' ⟨rfl, rfl⟩
    show Loop _ _ _
    refine Loop.mk (fun s w1 => Keeps No w' w1 ∧ ∃ i : Nat, i ≤ ps.length ∧ s = (((mCnt (xs.take i) : Nat) : Int), (i : Int)) ∧ mCnt (xs.take i) ≤ 2000) (fun s => (ps.length : Nat) - s.2.toNat) ⟨Keeps.refl, 0, by omega, by simp [mCnt]⟩ ?_
    rintro s w1 ⟨k1, i, hi, rfl, hc⟩ R hR
    refine Br.mk (fun ht => ?_) (fun hf => ?_)
    · have ht : i < ps.length := by simpa [hn] using ht
      refine IdxS.get (M := M) (hl.mono (V.keeps0 k1)) (by simp) (by simp; omega) fun q hq => ?_
      simp at hq
      obtain ⟨x, hx, hN⟩ := ha.get _ _ hq
      have h4 := mCnt_take_succ hx
      have h5 := mCnt_take_le xs (i + 1)
      have hxs := hsz x (List.mem_of_getElem? hx)
      have hcs := x.cnt_size
      refine nfa_count_spec (by omega) (by omega) x.size x (Nat.le_refl _) (hM.keeps k1) hxs (hN.mono (V.keeps0 k1)) fun r w2 k2 r0 r1 r2 r3 => ?_
      dsimp only
      rw [w64_eq (by omega), w64_eq (by omega)]
      refine Br.mk (fun ht2 => ?_) (fun hf2 => ?_)
      · have ht2 := of_decide_eq_true ht2
        refine hK none 3 w2 (k1.trans k2) (fun h => by omega) (fun _ => ⟨rfl, rfl⟩)
      · have hf2 := of_decide_eq_false hf2
        refine hR _ _ ⟨k1.trans k2, i + 1, by omega, ?_, by omega⟩ (by dsimp only; omega)
        simp only [Prod.mk.injEq]; constructor <;> omega
    · have hf : ps.length ≤ i := by simpa [hn] using hf
      have e : xs.take i = xs := List.take_of_length_le (by omega)
      rw [e] at hc
      -- the machine is laid
      refine Al.mk fun bm w2 n2 => ?_
      have e2 := n2.eq; have s2 := n2.size; have s1 := k1.size
      have k02 : Keeps No w' w2 := k1.trans n2.keeps
      have m0 : MachAt w2 bm w'.heap.size [] (fun _ _ => False) ⟨none, 0, 0⟩ ⟨none, 0, 0⟩ [] (fun b => b = bm) := by
        refine ⟨n2.at_, by simpa using Own.nil _ _ _ _, .nil, by simp, by simp, ?_, ?_, by simp, by simp⟩
        · rintro b (h | ⟨a, h, _⟩ | ⟨v, h, _⟩)
          · exact h
          · cases h
          · cases h
        · rintro b rfl; omega
      have r0 : RulesAt w2 w'.heap.size ⟨none, 0, 0⟩ [] [] (fun b => b = bm) := ⟨by simpa using Own.nil _ _ _ _, (fun b ⟨a, h, _⟩ => by cases h), .nil⟩
      refine Loop.mk (fun s w3 => Keeps No w' w3 ∧ ∃ (i : Nat) (rl : Sl) (kvs : List KnV) (Ft : Nat → Prop), i ≤ ps.length ∧ s = (i : Int) ∧ Mach w3 bm w'.heap.size (mFs 0 (xs.take i)) (mFol 0 (xs.take i)) rl Ft ∧ RulesAt w3 w'.heap.size rl kvs (mKs 0 (xs.take i)) Ft)
        (fun s => (ps.length : Nat) - s.toNat) ⟨k02, 0, ⟨none, 0, 0⟩, [], (fun b => b = bm), by omega, by simp, ⟨⟨none, 0, 0⟩, [], m0⟩, r0⟩ ?_
      rintro s w3 ⟨k3, i, rl, kvs, Ft, hi, rfl, m3, r3⟩ R hR
      have s3 := k3.size
      refine Br.mk (fun ht => ?_) (fun hf => ?_)
      · have ht : i < ps.length := by simpa [hn] using ht
        refine IdxS.get (M := M) (hl.mono (V.keeps0 k3)) (by simp) (by simp; omega) fun q hq => ?_
        simp at hq
        obtain ⟨x, hx, hN⟩ := ha.get _ _ hq
        have h4 := mCnt_take_succ hx
        have h5 := mCnt_take_le xs (i + 1)
        have htk : xs.take (i + 1) = xs.take i ++ [x] := by rw [List.take_add_one, hx]; rfl
        have hli : (xs.take i).length = i := by rw [List.length_take]; omega
        have hlk : kvs.length = i := by have := r3.sets.length; rw [mKs_len, hli] at this; exact this
        have ge : ∀ {b : Nat}, Ft b → w'.heap.size ≤ b := fun {b} h => by obtain ⟨l3, vs3, m3⟩ := m3; exact (m3.old b h).1
        refine DrawN.mk fun w4 hh k4 => ?_
        simp only [true_and]
        have s34 : w4.heap.size = w3.heap.size := by rw [hh]
        have m4 := m3.keep0 k4
        have r4 := r3.move k4 (fun _ _ h => h.elim) (fun i h => .inl h) (Ft' := Ft)
        have hN4 : Nd (V Ft w4) q x := hN.mono (V.move (k3.trans k4) (fun _ _ h => h.elim) fun b hb h => absurd (ge h) (by omega))
        have cfs : (mFs 0 (xs.take i)).length = mCnt (xs.take i) := mFs_len _ _
        have addc : ∀ {K : (Option Nat × Option Nat × Bool) → World → Prop}, (∀ (a b : Nat) (w5 : World) (Ft' : Nat → Prop) , Keeps No w' w5 → Mach w5 bm w'.heap.size (mFs 0 (xs.take (i + 1))) (mFol 0 (xs.take (i + 1))) rl Ft' → RulesAt w5 w'.heap.size rl kvs (mKs 0 (xs.take i)) Ft' →
            SetAt (V Ft' w5) a (x.first (mCnt (xs.take i))) → SetAt (V Ft' w5) b (x.last (mCnt (xs.take i))) → K (some a, some b, x.emp) w5) → nfa_Machine_add.C (some ⟨bm, 0, none⟩) i q w4 K := by
          intro K hK'
          refine nfa_Machine_add_spec x.size x (Nat.le_refl _) m4 hN4 (by omega) (by omega) fun a b w5 Ft' k5 g5 m5 sa sb => ?_
          rw [cfs] at sa sb
          refine hK' a b w5 Ft' ?_ ?_ (r4.move k5 (fun _ _ h => h) g5) sa sb
          · exact ((k3.trans k4).no (M := No)).then k5 fun b hb h => absurd (ge h) (by omega)
          · rw [htk, mFs_snoc, hli]
            have e0 : (0 : Int) + (i : Int) = i := by omega
            rw [e0]
            refine m5.congr fun p q => ?_
            rw [mFol_snoc, cfs]
            have e1 : (0 : Int) + ((mCnt (xs.take i) : Nat) : Int) = (mCnt (xs.take i) : Nat) := by omega
            rw [e1]
        have tail : ∀ {w5 wA : World} {a b b8 : Nat} {Ft' : Nat → Prop}, Keeps No w' w5 → Mach w5 bm w'.heap.size (mFs 0 (xs.take (i + 1))) (mFol 0 (xs.take (i + 1))) rl Ft' → RulesAt w5 w'.heap.size rl kvs (mKs 0 (xs.take i)) Ft' → SetAt (V Ft' w5) a (x.first (mCnt (xs.take i))) → SetAt (V Ft' w5) b (x.last (mCnt (xs.take i))) →
            New b8 (.cells #[.map (some a), .map (some b), .bool x.emp] T.nfa_known (0, 0)) w5 wA → App P (Builtin.append_ #[T.sl_nfa_known, T.sl_nfa_known] T.sl_nfa_known #[.slice rl.a rl.n rl.c, .slice (some ⟨b8, 0, none⟩) 1 1]) (.one .sl) wA fun x34 w16 =>
              St ⟨bm, 1, none⟩ (.slice x34.a x34.n x34.c) w16 fun w17 => R (w64 ((i : Int) + (1 : Int))) w17 := by
          intro w5 wA a b b8 Ft' k5 m5 r5 sa sb n8
          obtain ⟨l5, vs5, m5⟩ := m5
          have s5 := k5.size
          refine RulesAt.push (v := ⟨a, b, x.emp⟩) (kn := ⟨x.first (mCnt (xs.take i)), x.last (mCnt (xs.take i)), x.emp⟩) m5 r5 (by omega) n8.keeps n8.at_ ⟨sa, sb, rfl⟩ (by omega) fun w9 rl9 k9 s9 m9 r9 => ?_
          rw [w64_eq (by omega)]
          refine hR _ w9 ⟨(k5.no (M := No)).then k9 fun b hb h => absurd h (by omega), i + 1, rl9, kvs ++ [⟨a, b, x.emp⟩], Ft', by omega, by omega, ⟨l5, vs5, m9⟩, ?_⟩ (by omega)
          rw [htk, mKs_snoc]
          have e1 : (0 : Int) + ((mCnt (xs.take i) : Nat) : Int) = (mCnt (xs.take i) : Nat) := by omega
          rw [e1]
          exact r9
        have ldr : ∀ {wA : World} {fs : List ((Nat → Bool) × Int)} {F : Int → Int → Prop} {Ft' : Nat → Prop} {k : Sl → Prop}, Mach wA bm w'.heap.size fs F rl Ft' → k rl → Ld .sl ⟨bm, 1, none⟩ wA k := by
          rintro wA fs F Ft' k ⟨l5, vs5, m5⟩ h
          exact Ld.sl (cell_of m5.at_ rfl) h
        refine ⟨ldr m4 (addc fun a b w5 Ft' k5 m5 r5 sa sb => Al.mk fun b8 w6 n8 => tail k5 m5 r5 sa sb n8), addc fun a b w5 Ft' k5 m5 r5 sa sb => ⟨ldr m5 (Al.mk fun b8 w6 n8 => tail k5 m5 r5 sa sb n8), Al.mk fun b8 w6 n8 => ldr (m5.keep0 n8.keeps) (tail k5 m5 r5 sa sb n8)⟩⟩
      · have hf : ps.length ≤ i := by simpa [hn] using hf
        have e : xs.take i = xs := List.take_of_length_le (by omega)
        rw [e] at m3 r3
        refine hK _ 0 w3 k3 (fun _ => ⟨rfl, ?_⟩) (fun h => by omega)
        obtain ⟨l3, vs3, m3⟩ := m3
        refine ⟨⟨bm, l3, rl, vs3, kvs, rfl, ⟨id, m3.at_⟩, m3.rows, m3.pos, m3.sets, Own.readsC r3.own (by omega) kcell_len fun _ _ h => h, r3.sets.mono fun a b ⟨h1, h2, h3⟩ => ⟨h1.mono (V.sub fun _ _ h => h.elim), h2.mono (V.sub fun _ _ h => h.elim), h3⟩⟩, m3.fin, ?_, m3.few, ?_⟩
        · rw [mFs_len]
          intro k hk p hp
          have := mKs_in xs 0 k hk p hp
          omega
        · rw [mKs_len]; omega
  · intro j hj
    refine Br.mk (fun ht => ?_) fun hf => ?_
    · exfalso
      have : l.n = 0 := by simpa using ht
      omega
    · refine slices_Contains_nil hl (by omega) fun b hb => hj _ _ ⟨?_, rfl⟩
      cases b with
      | false => rfl
      | true => exact absurd (hb.1 rfl) hnone
end Go.Fk
end

section
set_option linter.unusedVariables false
namespace Go.Fk
open Go Go.MapKept

/-! ## What is asked of a machine -/

/-- A machine, or none. -/
def MachO (H : View) (p : Option Addr) (fs : List ((Nat → Bool) × Int)) (F : Int → Int → Prop) (ks : List Kn) : Prop := (p = none ∧ fs = [] ∧ ks = []) ∨ MachV H p fs F ks

theorem MachO.mono {H H' : View} {p : Option Addr} {fs : List ((Nat → Bool) × Int)} {F : Int → Int → Prop} {ks : List Kn} (h : MachO H p fs F ks) (hv : Vle H H') : MachO H' p fs F ks := h.imp id fun h => h.mono hv

section
variable {M : Nat → Prop} {w : World} {p : Option Addr} {fs : List ((Nat → Bool) × Int)} {F : Int → Int → Prop} {ks : List Kn}

theorem nfa_Machine_Rules_spec (h : MachO (V M w) p fs F ks) {K : Int → World → Prop} (hK : K ks.length w) : nfa_Machine_Rules.C p w K := by
  refine nfa_Machine_Rules.ok _ _ _ ?_
  rcases h with ⟨rfl, rfl, rfl⟩ | h
  · simp only [nfa_Machine_Rules.M]
    exact hK
  · obtain ⟨bm, l, rl, vs, kvs, rfl, h2, h3, h4, h5, h6, h7⟩ := h.ex
    simp only [nfa_Machine_Rules.M, NilC_some]
    refine Ld.sl (cell_of h2.2 rfl) ?_
    have := h6.1; have := h7.length
    simp at *
    have e : (rl.n : Int) = (ks.length : Int) := by omega
    rw [e]; exact hK

theorem nfa_Machine_Len_spec (h : MachO (V M w) p fs F ks) {K : Int → World → Prop} (hK : K fs.length w) : nfa_Machine_Len.C p w K := by
  refine nfa_Machine_Len.ok _ _ _ ?_
  rcases h with ⟨rfl, rfl, rfl⟩ | h
  · simp only [nfa_Machine_Len.M]
    exact hK
  · obtain ⟨bm, l, rl, vs, kvs, rfl, h2, h3, h4, h5, h6, h7⟩ := h.ex
    simp only [nfa_Machine_Len.M, NilC_some]
    refine Ld.sl (cell_of h2.2 rfl) ?_
    have := h3.1; have := h4.length
    simp at *
    have e : (l.n : Int) = (fs.length : Int) := by omega
    rw [e]; exact hK

/-- The rule's known; of none: nothing. -/
def knAt (ks : List Kn) (i : Int) : Kn := if 0 ≤ i then (ks[i.toNat]?).getD ⟨fun _ => False, fun _ => False, false⟩ else ⟨fun _ => False, fun _ => False, false⟩

theorem knAt_in {ks : List Kn} {i : Int} {k : Kn} (h0 : 0 ≤ i) (h : ks[i.toNat]? = some k) : knAt ks i = k := by simp [knAt, h0, h]
theorem knAt_out {ks : List Kn} {i : Int} (h : ¬ (0 ≤ i ∧ i < ks.length)) : knAt ks i = ⟨fun _ => False, fun _ => False, false⟩ := by
  unfold knAt
  split
  · rw [List.getElem?_eq_none (by omega)]; rfl
  · rfl
theorem MachO.kin (h : MachO (V M w) p fs F ks) (i : Int) : ∀ q, ((knAt ks i).first q ∨ (knAt ks i).last q) → 0 ≤ q ∧ q < fs.length := by
  intro q hq
  by_cases hi : 0 ≤ i ∧ i < ks.length
  · have hx : ks[i.toNat]? = some ks[i.toNat] := List.getElem?_eq_getElem (by omega)
    rw [knAt_in hi.1 hx] at hq
    rcases h with ⟨_, _, rfl⟩ | h
    · simp at hi; omega
    · exact h.kin _ (List.mem_of_getElem? hx) q hq
  · rw [knAt_out hi] at hq
    rcases hq with h | h <;> exact h.elim
theorem MachO.few (h : MachO (V M w) p fs F ks) : fs.length ≤ 2000 := by
  rcases h with ⟨_, rfl, _⟩ | h
  · simp
  · exact h.few

theorem nfa_Machine_rule_spec (h : MachO (V M w) p fs F ks) {i : Int} {K : (Option Nat × Option Nat × Bool) → World → Prop}
    (hK : ∀ a b w', Keeps No w w' → SetO (V M w') a (knAt ks i).first → SetO (V M w') b (knAt ks i).last → (0 ≤ i ∧ i < ks.length → a ≠ none ∧ b ≠ none) → K (a, b, (knAt ks i).emp) w') : nfa_Machine_rule.C p i w K := by
  refine nfa_Machine_rule.ok _ _ _ _ ?_
  simp only [nfa_Machine_rule.M]
  refine Al.mk fun b1 w1 n1 => ?_
  have e1 := n1.eq
  refine Join.cut (fun s w' => w' = w1 ∧ (s = true ↔ ¬ (0 ≤ i ∧ i < ks.length))) ?_ ?_
  · rintro s w' ⟨rfl, hs⟩
    refine Br.mk (fun ht => ?_) (fun hf => ?_)
    · refine St3 n1.at_ fun w2 u2 => Ld3 (k := fun a b c => K (a, b, c) w2) u2.at_ ?_
      have hk := u2.keeps0 n1.keeps (by omega)
      have e := knAt_out (hs.1 ht)
      have := hK none none w2 hk (by rw [e]; intro x y h; exact h.1) (by rw [e]; intro x y h; exact h.1) fun h => absurd h (hs.1 ht)
      rw [e] at this
      exact this
    · have hi : 0 ≤ i ∧ i < ks.length := by
        refine Decidable.byContradiction fun h => ?_
        rw [hs.2 h] at hf; cases hf
      rcases h with ⟨_, _, rfl⟩ | h
      · simp at hi; omega
      · obtain ⟨bm, l, rl, vs, kvs, rfl, h2, h3, h4, h5, h6, h7⟩ := h.ex
        simp only [NilC_some]
        have hb := n1.keeps.blk0 h2.2
        have hlen := h7.length
        refine Ld.sl (cell_of hb rfl) ?_
        refine IdxS.recd (M := M) (h6.mono (V.keeps0 n1.keeps)) hi.1 (by simp; omega) fun g off c hc hcell => ?_
        rw [List.getElem?_map] at hc
        obtain ⟨v, hv, rfl⟩ := Option.map_eq_some_iff.1 hc
        obtain ⟨k, hk, s1, s2, s3⟩ := h7.get _ _ hv
        simp only [add_eq]
        refine Ld.map (hcell 0 _ rfl) (Ld.map (hcell 1 _ rfl) (Ld.bool (hcell 2 _ rfl) ?_))
        refine St3 n1.at_ fun w2 u2 => Ld3 (k := fun a b c => K (a, b, c) w2) u2.at_ ?_
        have hkk := u2.keeps0 n1.keeps (by omega)
        have := hK (some v.a) (some v.b) w2 hkk (by rw [knAt_in hi.1 hk]; exact MapAt.mono s1 (V.keeps0 hkk)) (by rw [knAt_in hi.1 hk]; exact MapAt.mono s2 (V.keeps0 hkk)) fun _ => ⟨by simp, by simp⟩
        rw [knAt_in hi.1 hk, ← s3] at this
        exact this
  · intro j hj
    refine Br.mk (fun ht => ?_) (fun hf => ?_)
    · have ht := of_decide_eq_true ht
      exact hj _ _ ⟨rfl, ⟨fun _ h => by omega, fun _ => rfl⟩⟩
    · have hf := of_decide_eq_false hf
      refine nfa_Machine_Rules_spec (h.mono (V.keeps0 n1.keeps)) ?_
      refine hj _ _ ⟨rfl, ?_⟩
      rw [decide_eq_true_iff]
      constructor
      · intro h1 h2; omega
      · intro h1; omega

/-- A list that is what a set is, rising. -/
def Rising (xs : List Int) (S : Int → Prop) : Prop := xs.Pairwise (· < ·) ∧ ∀ k, k ∈ xs ↔ S k

theorem nfa_Machine_First_spec (h : MachO (V M w) p fs F ks) {i : Int} {K : Sl → World → Prop}
    (hK : ∀ l xs w', Keeps No w w' → Own w' w.heap.size T.int 1 l (xs.map (Ty.int .i64).enc) → Rising xs (knAt ks i).first → K l w') : nfa_Machine_First.C p i w K := by
  refine nfa_Machine_First.ok _ _ _ _ ?_
  simp only [nfa_Machine_First.M]
  have hin := h.kin i; have hfew := h.few
  refine nfa_Machine_rule_spec h fun a b w1 k1 s1 s2 _ => ?_
  refine nfa_set_sorted_spec s1 (fun k hk => by have := hin k (.inl hk); unfold Pos; omega) fun l xs w2 k2 o2 p2 m2 => ?_
  refine hK l xs w2 (k1.trans k2) ?_ ⟨p2, m2⟩
  refine ⟨o2.1, o2.2.imp id ?_⟩
  rintro ⟨g, cap, cur, hv, hge, hrest⟩
  exact ⟨g, cap, cur, hv, Nat.le_trans k1.size hge, hrest⟩

theorem nfa_Machine_Last_spec (h : MachO (V M w) p fs F ks) {i : Int} {K : Sl → World → Prop}
    (hK : ∀ l xs w', Keeps No w w' → Own w' w.heap.size T.int 1 l (xs.map (Ty.int .i64).enc) → Rising xs (knAt ks i).last → K l w') : nfa_Machine_Last.C p i w K := by
  refine nfa_Machine_Last.ok _ _ _ _ ?_
  simp only [nfa_Machine_Last.M]
  have hin := h.kin i; have hfew := h.few
  refine nfa_Machine_rule_spec h fun a b w1 k1 s1 s2 _ => ?_
  refine nfa_set_sorted_spec s2 (fun k hk => by have := hin k (.inr hk); unfold Pos; omega) fun l xs w2 k2 o2 p2 m2 => ?_
  refine hK l xs w2 (k1.trans k2) ?_ ⟨p2, m2⟩
  refine ⟨o2.1, o2.2.imp id ?_⟩
  rintro ⟨g, cap, cur, hv, hge, hrest⟩
  exact ⟨g, cap, cur, hv, Nat.le_trans k1.size hge, hrest⟩

/-- A position's row, as it is handed on. -/
abbrev posobj (n0 n1 n2 n3 rule : Int) (m : Option Nat) : Obj := .cells #[.int .u64 n0, .int .u64 n1, .int .u64 n2, .int .u64 n3, .int .i64 rule, .map m] T.nfa_position (0, 0)

theorem Ld6 {b : Nat} {n0 n1 n2 n3 rule : Int} {m : Option Nat} {w : World} {k : Int → Int → Int → Int → Int → Option Nat → Prop} (hb : w.heap[b]? = some (posobj n0 n1 n2 n3 rule m)) (h : k n0 n1 n2 n3 rule m) :
    Ld (.int .u64) ⟨b, 0, none⟩ w fun r0 => Ld (.int .u64) ⟨b, 1, none⟩ w fun r1 => Ld (.int .u64) ⟨b, 2, none⟩ w fun r2 => Ld (.int .u64) ⟨b, 3, none⟩ w fun r3 => Ld (.int .i64) ⟨b, 4, none⟩ w fun r4 => Ld .map ⟨b, 5, none⟩ w fun r5 => k r0 r1 r2 r3 r4 r5 :=
  Ld.int (cell_of hb rfl) (Ld.int (cell_of hb rfl) (Ld.int (cell_of hb rfl) (Ld.int (cell_of hb rfl) (Ld.int (cell_of hb rfl) (Ld.map (cell_of hb rfl) h)))))

theorem nfa_Machine_at_spec (h : MachO (V M w) p fs F ks) {i : Int} {K : ((Int × Int × Int × Int × Int × Option Nat) × Bool) → World → Prop}
    (hin : ∀ x (n0 n1 n2 n3 : Nat) m w', 0 ≤ i → fs[i.toNat]? = some x → Words x.1 n0 n1 n2 n3 → Keeps No w w' → SetAt (V M w') m (F i) → K ((n0, n1, n2, n3, x.2, some m), true) w')
    (hout : ¬ (0 ≤ i ∧ i < fs.length) → ∀ w', Keeps No w w' → K ((0, 0, 0, 0, 0, none), false) w') : nfa_Machine_at.C p i w K := by
  refine nfa_Machine_at.ok _ _ _ _ ?_
  simp only [nfa_Machine_at.M]
  refine Al.mk fun b1 w1 n1 => ?_
  have e1 := n1.eq
  refine Join.cut (fun s w' => w' = w1 ∧ (s = true ↔ ¬ (0 ≤ i ∧ i < fs.length))) ?_ ?_
  · rintro s w' ⟨rfl, hs⟩
    refine Br.mk (fun ht => ?_) (fun hf => ?_)
    · refine St6 n1.at_ fun w2 u2 => Ld6 (k := fun a b c d e f => K ((a, b, c, d, e, f), false) w2) u2.at_ ?_
      exact hout (hs.1 ht) w2 (u2.keeps0 n1.keeps (by omega))
    · have hi : 0 ≤ i ∧ i < fs.length := by
        refine Decidable.byContradiction fun h => ?_
        rw [hs.2 h] at hf; cases hf
      rcases h with ⟨_, rfl, _⟩ | h
      · simp at hi; omega
      · obtain ⟨bm, l, rl, vs, kvs, rfl, h2, h3, h4, h5, h6, h7⟩ := h.ex
        simp only [NilC_some]
        have hb := n1.keeps.blk0 h2.2
        have hlen := h4.length
        refine Ld.sl (cell_of hb rfl) ?_
        refine IdxS.recd (M := M) (h3.mono (V.keeps0 n1.keeps)) hi.1 (by simp; omega) fun g off c hc hcell => ?_
        rw [List.getElem?_map] at hc
        obtain ⟨v, hv, rfl⟩ := Option.map_eq_some_iff.1 hc
        obtain ⟨k, hk, s1, s2⟩ := h4.get _ _ hv
        simp only [add_eq]
        refine Ld.int (hcell 0 _ rfl) (Ld.int (hcell 1 _ rfl) (Ld.int (hcell 2 _ rfl) (Ld.int (hcell 3 _ rfl) (Ld.int (hcell 4 _ rfl) (Ld.map (hcell 5 _ rfl) ?_)))))
        refine St6 n1.at_ fun w2 u2 => Ld6 (k := fun a b c d e f => K ((a, b, c, d, e, f), true) w2) u2.at_ ?_
        have hkk := u2.keeps0 n1.keeps (by omega)
        rw [s2]
        refine hin k v.n0 v.n1 v.n2 v.n3 v.m w2 hi.1 hk s1 hkk ?_
        have := h5 _ v hv
        have e : ((i.toNat : Nat) : Int) = i := by omega
        rw [e] at this
        exact this.mono (V.keeps0 hkk)
  · intro j hj
    refine Br.mk (fun ht => ?_) (fun hf => ?_)
    · have ht := of_decide_eq_true ht
      exact hj _ _ ⟨rfl, ⟨fun _ h => by omega, fun _ => rfl⟩⟩
    · have hf := of_decide_eq_false hf
      refine nfa_Machine_Len_spec (h.mono (V.keeps0 n1.keeps)) ?_
      refine hj _ _ ⟨rfl, ?_⟩
      rw [decide_eq_true_iff]
      constructor
      · intro h1 h2; omega
      · intro h1; omega

theorem MachO.fin (h : MachO (V M w) p fs F ks) {i : Int} (hi : 0 ≤ i ∧ i < fs.length) {q : Int} (hq : F i q) : 0 ≤ q ∧ q < fs.length := by
  rcases h with ⟨_, rfl, _⟩ | h
  · simp at hi; omega
  · exact (h.fin i q hq).2

theorem nfa_Machine_Follow_spec (h : MachO (V M w) p fs F ks) {i : Int} {K : Sl → World → Prop}
    (hK : ∀ l xs w', Keeps No w w' → Own w' w.heap.size T.int 1 l (xs.map (Ty.int .i64).enc) → Rising xs (fun q => (0 ≤ i ∧ i < fs.length) ∧ F i q) → K l w') : nfa_Machine_Follow.C p i w K := by
  refine nfa_Machine_Follow.ok _ _ _ _ ?_
  simp only [nfa_Machine_Follow.M]
  have hfew := h.few
  have fin : ∀ {w1 w3 : World} {l : Sl} {xs : List Int} {S : Int → Prop}, Keeps No w w1 → Keeps No w1 w3 → Own w3 w1.heap.size T.int 1 l (xs.map (Ty.int .i64).enc) → xs.Pairwise (· < ·) → (∀ k, k ∈ xs ↔ S k) → (∀ q, S q ↔ ((0 ≤ i ∧ i < fs.length) ∧ F i q)) → K l w3 := by
    intro w1 w3 l xs S k1 k3 o p m e
    refine hK l xs w3 (k1.trans k3) ?_ ⟨p, fun k => by rw [m, e]⟩
    refine ⟨o.1, o.2.imp id ?_⟩
    rintro ⟨g, cap, cur, hv, hge, hrest⟩
    exact ⟨g, cap, cur, hv, Nat.le_trans k1.size hge, hrest⟩
  refine nfa_Machine_at_spec h (fun x n0 n1 n2 n3 m w1 h0 hx hw k1 s1 => ?_) (fun ho w1 k1 => ?_)
  · refine Al.mk fun b2 w2 a2 => St6 a2.at_ fun w3 u3 => Ld.map (cell_of u3.at_ rfl) ?_
    have hi : 0 ≤ i ∧ i < fs.length := ⟨h0, by have := (List.getElem?_eq_some_iff.1 hx).1; omega⟩
    have k3 : Keeps No w1 w3 := u3.keeps0 a2.keeps (by have := a2.eq; omega)
    refine nfa_set_sorted_spec (mo := some m) (MapAt.mono s1 (V.keeps0 k3)) (fun k hk => by have := h.fin hi hk; unfold Pos; omega) fun l xs w4 k4 o4 p4 m4 => ?_
    exact fin (k1.trans k3) k4 o4 p4 m4 fun q => by simp [hi]
  · refine Al.mk fun b2 w2 a2 => St6 a2.at_ fun w3 u3 => Ld.map (cell_of u3.at_ rfl) ?_
    have k3 : Keeps No w1 w3 := u3.keeps0 a2.keeps (by have := a2.eq; omega)
    refine nfa_set_sorted_spec (mo := none) (M := No) (S := fun _ => False) (by intro x y h; exact h.1) (fun k hk => hk.elim) fun l xs w4 k4 o4 p4 m4 => ?_
    exact fin (k1.trans k3) k4 o4 p4 m4 fun q => ⟨fun h => h.elim, fun h => absurd h.1 ho⟩

/-- Whose position it is. -/
def ruleAt (fs : List ((Nat → Bool) × Int)) (i : Int) : Int := if 0 ≤ i then ((fs[i.toNat]?).map (·.2)).getD (-1) else -1

theorem nfa_Machine_Rule_spec (h : MachO (V M w) p fs F ks) {i : Int} {K : Int → World → Prop} (hK : ∀ w', Keeps No w w' → K (ruleAt fs i) w') : nfa_Machine_Rule.C p i w K := by
  refine nfa_Machine_Rule.ok _ _ _ _ ?_
  simp only [nfa_Machine_Rule.M]
  refine nfa_Machine_at_spec h (fun x n0 n1 n2 n3 m w1 h0 hx hw k1 s1 => ?_) (fun ho w1 k1 => ?_)
  · refine Al.mk fun b2 w2 a2 => St6 a2.at_ fun w3 u3 => ?_
    refine Br.mk (fun ht => absurd ht (by simp)) fun _ => Ld.int (cell_of u3.at_ rfl) ?_
    have := hK w3 (k1.trans (u3.keeps0 a2.keeps (by have := a2.eq; omega)))
    simpa [ruleAt, h0, hx] using this
  · refine Al.mk fun b2 w2 a2 => St6 a2.at_ fun w3 u3 => ?_
    refine Br.mk (fun _ => ?_) fun hf => absurd hf (by simp)
    have := hK w3 (k1.trans (u3.keeps0 a2.keeps (by have := a2.eq; omega)))
    have e : ruleAt fs i = -1 := by
      unfold ruleAt
      split
      · rw [List.getElem?_eq_none (by omega)]; rfl
      · rfl
    rw [e] at this
    exact this

/-- Whether a byte is in a position's set. -/
def hasAt (fs : List ((Nat → Bool) × Int)) (i : Int) (b : Nat) : Bool := if 0 ≤ i then ((fs[i.toNat]?).map fun x => x.1 b).getD false else false

theorem shr_bit {n b : Nat} (hn : n < 2 ^ 64) : ((bAnd .u64 (Int.fdiv (n : Int) (2 ^ min (Int.toNat (Int.tmod (b : Int) (64 : Int))) (IntKind.bits .u64))) (1 : Int)) == (1 : Int)) = n.testBit (b % 64) := by
  have e1 : min (Int.toNat (Int.tmod (b : Int) (64 : Int))) (IntKind.bits .u64) = b % 64 := by
    have : Int.tmod (b : Int) 64 = ((b % 64 : Nat) : Int) := by rw [Int.tmod_eq_emod_of_nonneg (by omega)]; omega
    rw [this]
    have : IntKind.bits .u64 = 64 := rfl
    omega
  have e2 : Int.fdiv (n : Int) (2 ^ (b % 64)) = ((n / 2 ^ (b % 64) : Nat) : Int) := by
    rw [Int.fdiv_eq_ediv_of_nonneg _ (by exact_mod_cast Nat.zero_le _)]
    push_cast
    rfl
  rw [e1, e2]
  have hlt : n / 2 ^ (b % 64) < 2 ^ 64 := Nat.lt_of_le_of_lt (Nat.div_le_self _ _) hn
  have := bAnd_nat (x := n / 2 ^ (b % 64)) (y := 1) hlt (by decide)
  rw [show ((1 : Nat) : Int) = 1 from rfl] at this
  rw [this]
  rw [Nat.testBit, Nat.shiftRight_eq_div_pow, Nat.and_comm 1]
  rw [Nat.and_one_is_mod]
  rcases Nat.mod_two_eq_zero_or_one (n / 2 ^ (b % 64)) with h | h <;> rw [h] <;> rfl

theorem hasAt_in {i : Int} {x : (Nat → Bool) × Int} {b : Nat} (h0 : 0 ≤ i) (h : fs[i.toNat]? = some x) : hasAt fs i b = x.1 b := by simp [hasAt, h0, h]
theorem hasAt_out {i : Int} {b : Nat} (h : ¬ (0 ≤ i ∧ i < fs.length)) : hasAt fs i b = false := by
  unfold hasAt
  split
  · rw [List.getElem?_eq_none (by omega)]; rfl
  · rfl

theorem nfa_Machine_Has_spec (h : MachO (V M w) p fs F ks) {i : Int} {b : Nat} (hb : b < 256) {K : Bool → World → Prop} (hK : ∀ w', Keeps No w w' → K (hasAt fs i b) w') : nfa_Machine_Has.C p i b w K := by
  refine nfa_Machine_Has.ok _ _ _ _ _ ?_
  simp only [nfa_Machine_Has.M]
  refine nfa_Machine_at_spec h (fun x n0 n1 n2 n3 m w1 h0 hx hw k1 s1 => ?_) (fun ho w1 k1 => ?_)
  · refine Al.mk fun b2 w2 a2 => St6 a2.at_ fun w3 u3 => ?_
    refine Br.mk (fun _ => ?_) fun hf => absurd hf (by simp)
    refine ⟨by decide, ?_⟩
    have hdiv : IntKind.wrap .u8 (Int.tdiv (b : Int) 64) = ((b / 64 : Nat) : Int) := by
      rw [Int.tdiv_eq_ediv_of_nonneg (by omega)]
      have : (b : Int) / 64 = ((b / 64 : Nat) : Int) := by omega
      rw [this]
      exact IntWalk.u8_in _ (by omega)
    rw [hdiv]
    refine ⟨⟨by omega, by omega⟩, ?_⟩
    have hK' := hK w3 (k1.trans (u3.keeps0 a2.keeps (by have := a2.eq; omega)))
    rw [hasAt_in h0 hx] at hK'
    have leaf : ∀ (k n : Nat), b / 64 = k → Word x.1 k n → w3.cell? ⟨b2, k, none⟩ = some (.int .u64 n) → Ld (.int .u64) (Addr.add ⟨b2, 0, none⟩ ((((b / 64 : Nat) : Int)).toNat * 1)) w3 fun x21 => Need ((64 : Int) ≠ 0) (Need (0 ≤ (Int.tmod (b : Int) (64 : Int))) (K (((bAnd .u64 (Int.fdiv x21 (2 ^ min (Int.toNat (Int.tmod (b : Int) (64 : Int))) (IntKind.bits .u64))) (1 : Int)) == (1 : Int))) w3)) := by
      intro k n hk hwd hc
      refine Ld.int (i := (n : Int)) ?_ ⟨by decide, ?_, ?_⟩
      · rw [add_eq]
        have : 0 + ((b / 64 : Nat) : Int).toNat * 1 = k := by omega
        rw [this]; exact hc
      · rw [Int.tmod_eq_emod_of_nonneg (by omega)]; omega
      · rw [shr_bit hwd.1, hwd.2 _ (by omega)]
        have : 64 * k + b % 64 = b := by omega
        rw [this]; exact hK'
    obtain ⟨g0, g1, g2, g3⟩ := hw
    have hb4 : b / 64 = 0 ∨ b / 64 = 1 ∨ b / 64 = 2 ∨ b / 64 = 3 := by omega
    rcases hb4 with e | e | e | e
    · exact leaf 0 n0 e g0 (cell_of u3.at_ rfl)
    · exact leaf 1 n1 e g1 (cell_of u3.at_ rfl)
    · exact leaf 2 n2 e g2 (cell_of u3.at_ rfl)
    · exact leaf 3 n3 e g3 (cell_of u3.at_ rfl)
  · refine Al.mk fun b2 w2 a2 => St6 a2.at_ fun w3 u3 => ?_
    refine Br.mk (fun ht => absurd ht (by simp)) fun _ => ?_
    have := hK w3 (k1.trans (u3.keeps0 a2.keeps (by have := a2.eq; omega)))
    rw [hasAt_out ho] at this
    exact this
end
end Go.Fk
end

section
set_option linter.unusedVariables false
namespace Go.Fk
open Go Go.MapKept

/-- A new row of numbers. -/
theorem Al.ints {w : World} {vs : List Int} {n : Nat} {k : Nat → World → Prop} (hn : vs.length = n) (hk : ∀ b w', Keeps No w w' → w.heap.size ≤ b → SlT (.int .i64) (V No w') ⟨some ⟨b, 0, none⟩, n, n⟩ vs → k b w') :
    Al (.cells (vs.map (Value.int .i64)).toArray T.int (0, 0)) w k := by
  refine Al.mk fun b w1 n1 => hk b w1 n1.keeps (by have := n1.eq; omega) ⟨hn.symm, .inr ⟨b, 0, _, _, _, rfl, ⟨id, n1.at_⟩, fun i x hx => ?_⟩⟩
  simp [hx, Ty.enc]

theorem rising_unique {xs ys : List Int} {S : Int → Prop} (h : Rising xs S) (h' : ys.Pairwise (· < ·)) (e : ∀ k, k ∈ ys ↔ S k) : xs = ys := sorted_unique h.1 h' fun k => by rw [h.2, e]

theorem size_in {x : Re} (h : x.size < 1000) : x.size < 1000000000000 := by omega

theorem rising_len {xs : List Int} {S : Int → Prop} (h : Rising xs S) (hp : ∀ k, S k → 0 ≤ k ∧ k < 1000000) : xs.length < 1000000000 := by
  have := nodup_bound 1000000 xs (h.1.imp fun {a b} h => by intro e; omega) fun k hk => by have := hp k ((h.2 k).1 hk); omega
  omega

end Go.Fk
end

section
set_option linter.unusedVariables false
namespace Go.Fk

/-! ## What an expression means; Glushkov's law -/

inductive Clo (R : Nat → Nat → Prop) : Nat → Nat → Prop
  | refl {i} : Clo R i i
  | snoc {i j k} (h : Clo R i j) (r : R j k) : Clo R i k

theorem Clo.mono {R S : Nat → Nat → Prop} (h : ∀ i j, R i j → S i j) {i j : Nat} (c : Clo R i j) : Clo S i j := by
  induction c with
  | refl => exact .refl
  | snoc _ r ih => exact .snoc ih (h _ _ r)

/-- It means the part of the text from one place to another. -/
def Re.m (s : List UInt8) : Re → Nat → Nat → Prop
  | .set f, i, j => j = i + 1 ∧ ∃ c, s[i]? = some c ∧ f c.toNat = true
  | .empty, i, j => i = j
  | .cat a b, i, j => ∃ k, a.m s i k ∧ b.m s k j
  | .or a b, i, j => a.m s i j ∨ b.m s i j
  | .star a, i, j => Clo (a.m s) i j

theorem Re.m_le {s : List UInt8} {x : Re} : ∀ {i j : Nat}, x.m s i j → i ≤ j ∧ (j = i ∨ j ≤ s.length) := by
  induction x with
  | set f => rintro i j ⟨rfl, c, hc, _⟩; have := (List.getElem?_eq_some_iff.1 hc).1; exact ⟨by omega, .inr (by omega)⟩
  | empty => rintro i j rfl; exact ⟨Nat.le_refl _, .inl rfl⟩
  | cat a b iha ihb => rintro i j ⟨k, h1, h2⟩; have := iha h1; have := ihb h2; omega
  | or a b iha ihb => rintro i j (h | h); exact iha h; exact ihb h
  | star a ih =>
    intro i j h
    change Clo (a.m s) i j at h
    induction h with
    | refl => exact ⟨Nat.le_refl _, .inl rfl⟩
    | snoc _ r ih2 => have := ih r; omega

/-- A path: one position reads the first byte, .., another the last one. -/
inductive Pth (F : Int → Int → Prop) (H : Int → Nat → Bool) (s : List UInt8) : Nat → Int → Nat → Int → Prop
  | one {i : Nat} {p : Int} {c : UInt8} (hc : s[i]? = some c) (h : H p c.toNat = true) : Pth F H s i p (i + 1) p
  | snoc {i : Nat} {p : Int} {j : Nat} {q q' : Int} {c : UInt8} (t : Pth F H s i p j q) (f : F q q') (hc : s[j]? = some c) (h : H q' c.toNat = true) : Pth F H s i p (j + 1) q'

section
variable {F G : Int → Int → Prop} {H : Int → Nat → Bool} {s : List UInt8}
theorem Pth.mono (h : ∀ p q, F p q → G p q) {i j : Nat} {p q : Int} (t : Pth F H s i p j q) : Pth G H s i p j q := by
  induction t with
  | one hc hh => exact .one hc hh
  | snoc _ f hc hh ih => exact .snoc ih (h _ _ f) hc hh
theorem Pth.lt {i j : Nat} {p q : Int} (t : Pth F H s i p j q) : i < j := by
  induction t with
  | one => omega
  | snoc _ _ _ _ ih => omega
/-- One path behind the other. -/
theorem Pth.join {i j k : Nat} {p q p' q' : Int} (t : Pth F H s i p j q) (f : F q p') (u : Pth F H s j p' k q') : Pth F H s i p k q' := by
  induction u with
  | one hc hh => exact .snoc t f hc hh
  | snoc _ f' hc hh ih => exact .snoc ih f' hc hh

/-- A path from one part may go over into a second one. -/
theorem Pth.split {A B : Int → Int → Prop} {P Q : Int → Prop} {L : Int → Int → Prop} (hF : ∀ p q, F p q → P p → (A p q ∧ P q) ∨ (L p q ∧ Q q)) (hF2 : ∀ p q, F p q → Q p → B p q ∧ Q q)
    {i j : Nat} {p q : Int} (t : Pth F H s i p j q) (hp : P p) : (P q ∧ Pth A H s i p j q) ∨ (Q q ∧ ∃ k r r', Pth A H s i p k r ∧ L r r' ∧ Pth B H s k r' j q) := by
  induction t with
  | one hc hh => exact .inl ⟨hp, .one hc hh⟩
  | snoc _ f hc hh ih =>
    rcases ih with ⟨h1, h2⟩ | ⟨h1, k, r, r', h2, h3, h4⟩
    · rcases hF _ _ f h1 with ⟨h5, h6⟩ | ⟨h5, h6⟩
      · exact .inl ⟨h6, .snoc h2 h5 hc hh⟩
      · exact .inr ⟨h6, _, _, _, h2, h5, .one hc hh⟩
    · obtain ⟨h5, h6⟩ := hF2 _ _ f h1
      exact .inr ⟨h6, k, r, r', h2, h3, .snoc h4 h5 hc hh⟩
theorem Pth.stay {B : Int → Int → Prop} {Q : Int → Prop} (hF : ∀ p q, F p q → Q p → B p q ∧ Q q) {i j : Nat} {p q : Int} (t : Pth F H s i p j q) (hp : Q p) : Q q ∧ Pth B H s i p j q := by
  induction t with
  | one hc hh => exact ⟨hp, .one hc hh⟩
  | snoc _ f hc hh ih =>
    obtain ⟨h1, h2⟩ := ih
    obtain ⟨h3, h4⟩ := hF _ _ f h1
    exact ⟨h4, .snoc h2 h3 hc hh⟩
end

/-- The bytes of positions are an expression's. -/
def Fits (H : Int → Nat → Bool) (x : Re) (n : Int) : Prop := ∀ (i : Nat) f, x.poss[i]? = some f → ∀ c, c < 256 → H (n + i) c = f c

theorem Fits.left {H : Int → Nat → Bool} {a : Re} {l : List (Nat → Bool)} {x : Re} {n : Int} (hx : x.poss = a.poss ++ l) (h : Fits H x n) : Fits H a n := by
  intro i f hi
  refine h i f ?_
  rw [hx, List.getElem?_append_left (List.getElem?_eq_some_iff.1 hi).1]; exact hi
theorem Fits.right {H : Int → Nat → Bool} {a b x : Re} {n : Int} (hx : x.poss = a.poss ++ b.poss) (h : Fits H x n) : Fits H b (n + a.cnt) := by
  intro i f hi c hc
  have := h (a.cnt + i) f (by rw [hx, List.getElem?_append_right (by rw [Re.poss_len]; omega), Re.poss_len]; simpa using hi) c hc
  rw [← this]
  congr 1
  push_cast; omega

/-- By its positions: from one place to another. -/
def Acc (H : Int → Nat → Bool) (s : List UInt8) (x : Re) (n : Int) (i j : Nat) : Prop := (i = j ∧ x.emp = true) ∨ ∃ p q, x.first n p ∧ x.last n q ∧ Pth (x.fol n) H s i p j q

theorem acc_iff {H : Int → Nat → Bool} {s : List UInt8} (x : Re) : ∀ (n : Int), Fits H x n → ∀ i j, x.m s i j ↔ Acc H s x n i j := by
  induction x with
  | set f =>
    intro n hf i j
    have hH : ∀ c : UInt8, H n c.toNat = f c.toNat := fun c => by have := hf 0 f rfl c.toNat (by have := c.toNat_lt; omega); simpa using this
    constructor
    · rintro ⟨rfl, c, hc, h⟩
      exact .inr ⟨n, n, rfl, rfl, .one hc (by rw [hH]; exact h)⟩
    · rintro (⟨_, h⟩ | ⟨p, q, h1, h2, t⟩)
      · cases h
      · change p = n at h1
        subst h1
        cases t with
        | one hc h => exact ⟨rfl, _, hc, by rw [← hH]; exact h⟩
        | snoc _ f _ _ => exact f.elim
  | empty =>
    intro n hf i j
    constructor
    · intro h; exact .inl ⟨h, rfl⟩
    · rintro (⟨h, _⟩ | ⟨p, q, h1, _⟩)
      · exact h
      · exact h1.elim
  | cat a b iha ihb =>
    intro n hf i j
    have ha := iha n (hf.left rfl)
    have hb := ihb (n + a.cnt) (hf.right rfl)
    have ma : ∀ p q, a.fol n p q → (Re.cat a b).fol n p q := fun p q h => .inl (.inl h)
    have mb : ∀ p q, b.fol (n + a.cnt) p q → (Re.cat a b).fol n p q := fun p q h => .inl (.inr h)
    constructor
    · rintro ⟨k, h1, h2⟩
      rcases (ha i k).1 h1 with ⟨rfl, e1⟩ | ⟨p, q, f1, l1, t1⟩ <;> rcases (hb _ j).1 h2 with ⟨rfl, e2⟩ | ⟨p', q', f2, l2, t2⟩
      · exact .inl ⟨rfl, by simp [Re.emp, e1, e2]⟩
      · exact .inr ⟨p', q', .inr ⟨e1, f2⟩, .inl l2, t2.mono mb⟩
      · exact .inr ⟨p, q, .inl f1, .inr ⟨e2, l1⟩, t1.mono ma⟩
      · exact .inr ⟨p, q', .inl f1, .inl l2, (t1.mono ma).join (.inr ⟨l1, f2⟩) (t2.mono mb)⟩
    · rintro (⟨rfl, e⟩ | ⟨p, q, f, l, t⟩)
      · simp [Re.emp] at e
        exact ⟨i, (ha i i).2 (.inl ⟨rfl, e.1⟩), (hb i i).2 (.inl ⟨rfl, e.2⟩)⟩
      · have hQ : ∀ p q, (Re.cat a b).fol n p q → (n + a.cnt ≤ p) → b.fol (n + a.cnt) p q ∧ n + a.cnt ≤ q := by
          intro p q h hp
          rcases h with (h | h) | ⟨h, h'⟩
          · have := Re.fol_in h; omega
          · exact ⟨h, (Re.fol_in h).2.1⟩
          · have := Re.last_in h; omega
        rcases f with f | ⟨ea, f⟩
        · have hP : ∀ p q, (Re.cat a b).fol n p q → (p < n + a.cnt) → (a.fol n p q ∧ q < n + a.cnt) ∨ ((a.last n p ∧ b.first (n + a.cnt) q) ∧ n + a.cnt ≤ q) := by
            intro p q h hp
            rcases h with (h | h) | ⟨h, h'⟩
            · exact .inl ⟨h, (Re.fol_in h).2.2⟩
            · have := Re.fol_in h; omega
            · exact .inr ⟨⟨h, h'⟩, (Re.first_in h').1⟩
          rcases t.split (P := fun p => p < n + a.cnt) (Q := fun p => n + a.cnt ≤ p) hP hQ (Re.first_in f).2 with ⟨h1, t1⟩ | ⟨h1, k, r, r', t1, ⟨l1, f2⟩, t2⟩
          · rcases l with l | ⟨eb, l⟩
            · have := Re.last_in l; omega
            · exact ⟨j, (ha i j).2 (.inr ⟨p, q, f, l, t1⟩), (hb j j).2 (.inl ⟨rfl, eb⟩)⟩
          · rcases l with l | ⟨eb, l⟩
            · exact ⟨k, (ha i k).2 (.inr ⟨p, r, f, l1, t1⟩), (hb k j).2 (.inr ⟨r', q, f2, l, t2⟩)⟩
            · have := Re.last_in l; omega
        · obtain ⟨h1, t1⟩ := t.stay (Q := fun p => n + a.cnt ≤ p) hQ (Re.first_in f).1
          rcases l with l | ⟨eb, l⟩
          · exact ⟨i, (ha i i).2 (.inl ⟨rfl, ea⟩), (hb i j).2 (.inr ⟨p, q, f, l, t1⟩)⟩
          · have := Re.last_in l; omega
  | or a b iha ihb =>
    intro n hf i j
    have ha := iha n (hf.left rfl)
    have hb := ihb (n + a.cnt) (hf.right rfl)
    constructor
    · rintro (h | h)
      · rcases (ha i j).1 h with ⟨rfl, e⟩ | ⟨p, q, f, l, t⟩
        · exact .inl ⟨rfl, by simp [Re.emp, e]⟩
        · exact .inr ⟨p, q, .inl f, .inl l, t.mono fun _ _ h => .inl h⟩
      · rcases (hb i j).1 h with ⟨rfl, e⟩ | ⟨p, q, f, l, t⟩
        · exact .inl ⟨rfl, by simp [Re.emp, e]⟩
        · exact .inr ⟨p, q, .inr f, .inr l, t.mono fun _ _ h => .inr h⟩
    · rintro (⟨rfl, e⟩ | ⟨p, q, f, l, t⟩)
      · simp [Re.emp] at e
        rcases e with e | e
        · exact .inl ((ha i i).2 (.inl ⟨rfl, e⟩))
        · exact .inr ((hb i i).2 (.inl ⟨rfl, e⟩))
      · rcases f with f | f
        · obtain ⟨h1, t1⟩ := t.stay (B := a.fol n) (Q := fun p => p < n + a.cnt) (fun p q h hp => by
            rcases h with h | h
            · exact ⟨h, (Re.fol_in h).2.2⟩
            · have := Re.fol_in h; omega) (Re.first_in f).2
          rcases l with l | l
          · exact .inl ((ha i j).2 (.inr ⟨p, q, f, l, t1⟩))
          · have := Re.last_in l; omega
        · obtain ⟨h1, t1⟩ := t.stay (B := b.fol (n + a.cnt)) (Q := fun p => n + a.cnt ≤ p) (fun p q h hp => by
            rcases h with h | h
            · have := Re.fol_in h; omega
            · exact ⟨h, (Re.fol_in h).2.1⟩) (Re.first_in f).1
          rcases l with l | l
          · have := Re.last_in l; omega
          · exact .inr ((hb i j).2 (.inr ⟨p, q, f, l, t1⟩))
  | star a ih =>
    intro n hf i j
    have ha := ih n (hf.left (l := []) (by simp [Re.poss]))
    have hm : ∀ p q, a.fol n p q → (Re.star a).fol n p q := fun _ _ h => .inl h
    constructor
    · intro h
      change Clo (a.m s) i j at h
      induction h with
      | refl => exact .inl ⟨rfl, rfl⟩
      | snoc _ r ih2 =>
        rcases (ha _ _).1 r with ⟨rfl, e⟩ | ⟨p', q', f2, l2, t2⟩
        · exact ih2
        · rcases ih2 with ⟨rfl, _⟩ | ⟨p, q, f1, l1, t1⟩
          · exact .inr ⟨p', q', f2, l2, t2.mono hm⟩
          · exact .inr ⟨p, q', f1, l2, t1.join (.inr ⟨l1, f2⟩) (t2.mono hm)⟩
    · rintro (⟨rfl, _⟩ | ⟨p, q, f, l, t⟩)
      · exact Clo.refl
      · have key : ∀ {i j : Nat} {p q : Int}, Pth ((Re.star a).fol n) H s i p j q → a.first n p → ∃ i' p', Clo (a.m s) i i' ∧ a.first n p' ∧ Pth (a.fol n) H s i' p' j q := by
          intro i j p q t f
          induction t with
          | one hc hh => exact ⟨_, _, .refl, f, .one hc hh⟩
          | snoc _ g hc hh ih2 =>
            obtain ⟨i', p', h1, h2, h3⟩ := ih2
            rcases g with g | ⟨g1, g2⟩
            · exact ⟨i', p', h1, h2, .snoc h3 g hc hh⟩
            · exact ⟨_, _, .snoc h1 ((ha _ _).2 (.inr ⟨p', _, h2, g1, h3⟩)), g2, .one hc hh⟩
        obtain ⟨i', p', h1, h2, h3⟩ := key t f
        exact Clo.snoc h1 ((ha _ _).2 (.inr ⟨p', q, h2, l, h3⟩))
end Go.Fk
end

section
set_option linter.unusedVariables false
namespace Go.Fk
open Go Go.MapKept

/-! ## What the run is -/
def nowP (fs : List ((Nat → Bool) × Int)) (F : Int → Int → Prop) (k : Kn) (s : List UInt8) (t : Nat) (q : Int) : Prop := ∃ p, k.first p ∧ Pth F (hasAt fs) s 0 p t q
def nextP (fs : List ((Nat → Bool) × Int)) (F : Int → Int → Prop) (k : Kn) (s : List UInt8) (t : Nat) (q : Int) : Prop := (t = 0 ∧ k.first q) ∨ ∃ p, nowP fs F k s t p ∧ F p q
def okP (fs : List ((Nat → Bool) × Int)) (F : Int → Int → Prop) (k : Kn) (s : List UInt8) (t : Nat) : Prop := (t = 0 ∧ k.emp = true) ∨ ∃ q, nowP fs F k s t q ∧ k.last q

section
variable {fs : List ((Nat → Bool) × Int)} {F : Int → Int → Prop} {k : Kn} {s : List UInt8}
theorem nowP_zero {q : Int} : ¬ nowP fs F k s 0 q := fun ⟨p, _, t⟩ => by have := t.lt; omega
theorem nowP_succ {t : Nat} {q : Int} {c : UInt8} (hc : s[t]? = some c) : nowP fs F k s (t + 1) q ↔ nextP fs F k s t q ∧ hasAt fs q c.toNat = true := by
  constructor
  · rintro ⟨p, hp, h⟩
    generalize hj : t + 1 = j at h
    cases h with
    | one hc' hh =>
      have : t = 0 := by omega
      subst this
      rw [hc] at hc'; cases hc'
      exact ⟨.inl ⟨rfl, hp⟩, hh⟩
    | snoc h' f hc' hh =>
      rename_i j' q0 c'
      have : t = j' := by omega
      subst this
      rw [hc] at hc'; cases hc'
      exact ⟨.inr ⟨_, ⟨p, hp, h'⟩, f⟩, hh⟩
  · rintro ⟨⟨rfl, hp⟩ | ⟨p, ⟨p0, hp0, h⟩, f⟩, hh⟩
    · exact ⟨q, hp, .one hc hh⟩
    · exact ⟨p0, hp0, .snoc h f hc hh⟩
theorem okP_succ {t : Nat} : okP fs F k s (t + 1) ↔ ∃ q, nowP fs F k s (t + 1) q ∧ k.last q := by simp [okP]
theorem nextP_succ {t : Nat} {q : Int} : nextP fs F k s (t + 1) q ↔ ∃ p, nowP fs F k s (t + 1) p ∧ F p q := by simp [nextP]
end
end Go.Fk
end

section
set_option linter.unusedVariables false
namespace Go.Fk
open Go Go.MapKept

theorem IdxStr.get {s : ByteArray} {i : Int} {K : UInt8 → Prop} (h0 : 0 ≤ i) (h1 : i < s.size) (hk : ∀ c, (bs s)[i.toNat]? = some c → K c) : IdxStr s i K := by
  have hsz := size_bs s
  have hx : (bs s)[i.toNat]? = some (bs s)[i.toNat] := List.getElem?_eq_getElem (by omega)
  refine ⟨h0, (bs s)[i.toNat], ?_, hk _ hx⟩
  rw [← hx]
  show s[i.toNat]? = s.data.toList[i.toNat]?
  rw [Array.getElem?_toList]
  have : i.toNat < s.size := by omega
  rw [getElem?_pos s i.toNat this]
  have h2 : i.toNat < s.data.size := this
  rw [getElem?_pos s.data i.toNat h2]
  rfl

/-- The numbers below n that are so. -/
noncomputable def runL (Q : Nat → Prop) (n : Nat) : List Int := ((List.range n).filter fun i => @decide (Q i) (Classical.propDecidable _)).map Int.ofNat
theorem runL_yes {Q : Nat → Prop} {n : Nat} (h : Q n) : runL Q (n + 1) = runL Q n ++ [(n : Int)] := by simp [runL, List.range_succ, h]
theorem runL_no {Q : Nat → Prop} {n : Nat} (h : ¬ Q n) : runL Q (n + 1) = runL Q n := by simp [runL, List.range_succ, h]
theorem runL_len {Q : Nat → Prop} {n : Nat} : (runL Q n).length ≤ n := by
  unfold runL
  rw [List.length_map]
  exact Nat.le_trans (List.length_filter_le _ _) (by simp)
theorem runL_congr {Q R : Nat → Prop} {n : Nat} (h : ∀ i, i < n → (Q i ↔ R i)) : runL Q n = runL R n := by
  induction n with
  | zero => rfl
  | succ n ih =>
    have ih := ih fun i hi => h i (by omega)
    by_cases hq : Q n
    · rw [runL_yes hq, runL_yes ((h n (by omega)).1 hq), ih]
    · rw [runL_no hq, runL_no (fun hr => hq ((h n (by omega)).2 hr)), ih]

theorem run_zero {P : Program} {t : TypeId} {z : Value} (h : ((P.info? t).bind fun i => i.zero) = some z) (w : World) : (zeroValue t).run P w = .ok z w := by
  cases hi : P.info? t with
  | none => rw [hi] at h; cases h
  | some i =>
    rw [hi] at h
    have h : i.zero = some z := h
    simp [zeroValue, typeInfo, hi, h]
theorem run_zero4 (w : World) : (zeroValue T.bool).run P w = .ok (.bool false) w := run_zero (by kernel_rfl) w

end Go.Fk
end

section
set_option linter.unusedVariables false
namespace Go.Fk
open Go

/-! ## Rows of one-cell elements that are made, written, copied -/

abbrev rowObj (t : Ty) (E : TypeId) (xs : List t.T) : Obj := .cells (xs.map t.enc).toArray E (0, 0)

theorem Row.sl {t : Ty} {E : TypeId} {xs : List t.T} {w : World} {b n c : Nat} {M : Nat → Prop} (h : w.heap[b]? = some (rowObj t E xs)) (hM : ¬ M b) (hn : n = xs.length) : SlT t (V M w) ⟨some ⟨b, 0, none⟩, n, c⟩ xs :=
  ⟨hn, .inr ⟨b, 0, _, _, _, rfl, ⟨hM, h⟩, fun i x hx => by simp [hx]⟩⟩

theorem App.make1 {P : Program} {T E : TypeId} {bytes n : Nat} {t : Ty} {z : t.T} {w : World} {k : Sl → World → Prop} (hE : Elem P T E (t.enc z) 1 bytes) (hz : (t.enc z).cells = #[t.enc z]) (hb : bytes * n ≤ 281474976710656) (hn : n ≤ 9223372036854775807)
    (hk : ∀ b w', New b (rowObj t E (List.replicate n z)) w w' → k ⟨some ⟨b, 0, none⟩, n, n⟩ w') : App P (Instr.makeSlice T (.int .i64 (n : Int)) (.int .i64 (n : Int))) (.one .sl) w k := by
  obtain ⟨i, hi, hzz⟩ := Option.map_eq_some_iff.1 hE.inf
  simp only [Prod.mk.injEq] at hzz
  obtain ⟨h1, h2, h3⟩ := hzz
  have hr := run_make (P := P) w T E i (t.enc z) hE.sl hi h1 .i64 .i64 n n (by omega) (by omega) (by rw [h3]; have := Int.ofNat_le.2 hb; simpa using this) (by have := Int.ofNat_le.2 hn; simpa using this)
  have e : madeCells (t.enc z).cells ((n : Int).toNat * i.size) = ((List.replicate n z).map t.enc).toArray := by
    rw [hz, h2, Nat.mul_one, Int.toNat_natCast, List.map_replicate]
    rw [← toList_madeCells_one]
  rw [e] at hr
  refine Al.mk (o := rowObj t E (List.replicate n z)) (w := w) (k := fun b w' => b = w.heap.size → App P (Instr.makeSlice T (.int .i64 (n : Int)) (.int .i64 (n : Int))) (.one .sl) w k) (fun b w' hb' hbe => ?_) rfl
  refine Al.mk (o := rowObj t E (List.replicate n z)) (w := w) (k := fun b w' => w' = w.alloc (rowObj t E (List.replicate n z)) → App P (Instr.makeSlice T (.int .i64 (n : Int)) (.int .i64 (n : Int))) (.one .sl) w k) (fun b2 w2 hb2 hbe2 => ?_) rfl
  refine ⟨⟨some ⟨w.heap.size, 0, none⟩, n, n⟩, w2, ?_, ?_⟩
  · rw [hbe2]
    simp only [Int.toNat_natCast] at hr
    exact hr
  · have := hk b2 w2 hb2
    rw [hb2.eq] at this
    exact this

theorem IdxS.put {t : Ty} {E : TypeId} {xs : List t.T} {w : World} {b n c : Nat} {i : Int} {v : t.T} {k : World → Prop} (h : w.heap[b]? = some (rowObj t E xs)) (h0 : 0 ≤ i) (h1 : i < n) (hn : n = xs.length)
    (hk : ∀ w', Upd b (rowObj t E (xs.set i.toNat v)) w w' → k w') : IdxS ⟨some ⟨b, 0, none⟩, n, c⟩ i 1 fun p => St p (t.enc v) w k := by
  refine ⟨_, rfl, ⟨h0, h1⟩, ?_⟩
  rw [add_eq, Nat.mul_one, Nat.zero_add]
  refine St.blk h (by simp; omega) fun w' u => hk w' ?_
  have e : ((xs.map t.enc).toArray.setIfInBounds i.toNat (t.enc v)) = ((xs.set i.toNat v).map t.enc).toArray := by
    rw [List.map_set]; simp
  rw [e] at u
  exact u

theorem App.copy1 {P : Program} {T E E' : TypeId} {bytes : Nat} {t : Ty} {z : Value} {w : World} {M : Nat → Prop} {b n c : Nat} {l : Sl} {xs ys : List t.T} {k : Int → World → Prop} {R : TypeId} (hE : Elem P T E z 1 bytes) (h : w.heap[b]? = some (rowObj t E' xs)) (hn : n = xs.length)
    (hl : SlT t (V M w) l ys) (hy : ys.length = xs.length) (hne : ys ≠ []) (h1 : ∀ y ∈ ys, (t.enc y).oneCell' = true)
    (hk : ∀ w', Upd b (rowObj t E' ys) w w' → k n w') : App P (Builtin.copy_ #[T, T] R #[.slice (some ⟨b, 0, none⟩) n c, .slice l.a l.n l.c]) (.one (.int .i64)) w k := by
  obtain ⟨e1, e2⟩ := hl
  obtain ⟨i, hi, hzz⟩ := Option.map_eq_some_iff.1 hE.inf
  simp only [Prod.mk.injEq] at hzz
  rcases e2 with rfl | ⟨b', off, cs, E2, fr, e3, e4, e5⟩
  · exact absurd rfl hne
  · have hr := run_copy_row (P := P) w T T R E b 0 n c ⟨b', off, none⟩ l.n l.c (xs.map t.enc).toArray E' (ys.map t.enc) hE.sl (by rw [hi]; simp [hzz.2.1]) h (by rw [List.length_map, e1, hn, hy]; exact (Nat.min_self _).symm)
      (fun j v hv => by
        rw [add_eq]
        rw [List.getElem?_map] at hv
        obtain ⟨y, hy1, rfl⟩ := Option.map_eq_some_iff.1 hv
        exact cell_of e4.2 (e5 _ _ hy1)) (by simp [hy]) (fun v hv => by obtain ⟨y, hy1, rfl⟩ := List.mem_map.1 hv; exact h1 y hy1)
    have e : ((xs.map t.enc).toArray.toList.take 0 ++ ys.map t.enc ++ (xs.map t.enc).toArray.toList.drop (0 + (ys.map t.enc).length)).toArray = (ys.map t.enc).toArray := by
      simp [hy]
    rw [e] at hr
    refine ⟨(n : Int), w.setRow b (ys.map t.enc).toArray, ?_, hk _ ?_⟩
    · rw [e3]
      have : ((ys.map t.enc).length : Int) = n := by rw [List.length_map, hn, hy]
      rw [hr]
      simp [goInt, RTy.enc, Ty.enc, this, hn, hy]
    · have hr := setRow_heap w b _ (ys.map t.enc).toArray _ _ h
      refine ⟨hr, ⟨rfl, rfl, rfl, by simp [World.setRow], fun i _ hi => ?_⟩, by simp [World.setRow]⟩
      simp only [World.setRow, Array.getElem?_modify]
      rw [if_neg (fun h => hi h.symm)]

abbrev tBool : TypeId := T.bool
theorem elBool : Elem P T.sl_bool tBool (Ty.bool.enc false) 1 1 := ⟨by kernel_rfl, by kernel_rfl, rfl, by decide⟩
end Go.Fk
end

section
set_option linter.unusedVariables false
namespace Go.Fk
open Go

/-! ## Numbers as a text -/

theorem elU8 : Elem P T.sl_uint8 T.uint8 (.int .u8 0) 1 1 := ⟨by kernel_rfl, by kernel_rfl, rfl, by decide⟩

def twoB (x : Int) : List Int := [x % 256, x / 256 % 256]
def txt (xs : List Int) : ByteArray := strOfNums (xs.flatMap twoB)

theorem u8_wrap {x : Int} (h : 0 ≤ x) : IntKind.wrap .u8 x = x % 256 := by
  have h1 : 0 ≤ x % 256 ∧ x % 256 < 256 := by omega
  have : IntKind.wrap .u8 (x % 256) = x % 256 := IntWalk.u8_in _ (by omega)
  have e : IntKind.wrap .u8 x = IntKind.wrap .u8 (x % 256) := by
    simp only [IntKind.wrap]
    have hb : IntKind.bits .u8 = 8 := rfl
    simp [IntKind.signed, hb, BitVec.toNat_ofInt]
    try omega
  rw [e, this]

theorem strOf_inj {xs ys : List Int} (hx : ∀ x ∈ xs, 0 ≤ x ∧ x < 256) (hy : ∀ x ∈ ys, 0 ≤ x ∧ x < 256) (h : strOfNums xs = strOfNums ys) : xs = ys := by
  have h1 : xs.map (fun n => UInt8.ofNat n.toNat) = ys.map fun n => UInt8.ofNat n.toNat := by
    have := congrArg (fun s : ByteArray => s.data.toList) h
    simpa [strOfNums_data] using this
  have key : ∀ (xs ys : List Int), (∀ x ∈ xs, 0 ≤ x ∧ x < 256) → (∀ x ∈ ys, 0 ≤ x ∧ x < 256) → xs.map (fun n => UInt8.ofNat n.toNat) = ys.map (fun n => UInt8.ofNat n.toNat) → xs = ys := by
    intro xs
    induction xs with
    | nil => intro ys _ _ h; cases ys with | nil => rfl | cons b l => simp at h
    | cons a l ih =>
      intro ys hx hy h
      cases ys with
      | nil => simp at h
      | cons b m =>
        simp only [List.map_cons, List.cons.injEq] at h
        have ha := hx a (by simp); have hb := hy b (by simp)
        have e : a = b := by
          have := congrArg UInt8.toNat h.1
          simp at this
          omega
        rw [e, ih m (fun x hx' => hx x (by simp [hx'])) (fun x hx' => hy x (by simp [hx'])) h.2]
  exact key xs ys hx hy h1

theorem twoB_in {xs : List Int} : ∀ x ∈ xs.flatMap twoB, 0 ≤ x ∧ x < 256 := by
  intro x hx
  obtain ⟨y, _, hy⟩ := List.mem_flatMap.1 hx
  simp [twoB] at hy
  omega

theorem twoB_inj : ∀ {xs ys : List Int}, (∀ x ∈ xs, 0 ≤ x ∧ x < 65536) → (∀ x ∈ ys, 0 ≤ x ∧ x < 65536) → xs.flatMap twoB = ys.flatMap twoB → xs = ys
  | [], [], _, _, _ => rfl
  | [], b :: m, _, _, h => by simp [twoB] at h
  | a :: l, [], _, _, h => by simp [twoB] at h
  | a :: l, b :: m, hx, hy, h => by
    simp only [List.flatMap_cons, twoB, List.cons_append, List.nil_append, List.cons.injEq] at h
    have ha := hx a (by simp); have hb := hy b (by simp)
    have e : a = b := by omega
    rw [e, twoB_inj (fun x hx' => hx x (by simp [hx'])) (fun x hx' => hy x (by simp [hx'])) h.2.2]

theorem txt_inj {xs ys : List Int} (hx : ∀ x ∈ xs, 0 ≤ x ∧ x < 65536) (hy : ∀ x ∈ ys, 0 ≤ x ∧ x < 65536) (h : txt xs = txt ys) : xs = ys :=
  twoB_inj hx hy (strOf_inj twoB_in twoB_in h)

theorem strTy : P.underlying T.string = some .string := by kernel_rfl
theorem u8Ty : P.underlying T.uint8 = some (.int .u8) := by kernel_rfl

theorem dfa_text_spec {M : Nat → Prop} {w : World} {l : Sl} {xs : List Int} {K : ByteArray → World → Prop} (hl : SlT (.int .i64) (V M w) l xs) (hx : ∀ x ∈ xs, 0 ≤ x ∧ x < 65536) (hlen : xs.length ≤ 1000000)
    (hK : ∀ w', Keeps No w w' → K (txt xs) w') : dfa_text.C l w K := by
  have hn := hl.1
  refine dfa_text.ok _ _ _ ?_
  simp only [dfa_text.M]
  rw [w64_eq (by omega)]
  obtain ⟨i, hi, hzz⟩ := Option.map_eq_some_iff.1 elU8.inf
  simp only [Prod.mk.injEq] at hzz
  obtain ⟨w1, hr1, ho1, hg1⟩ := run_make_own (P := P) w w.heap.size T.sl_uint8 T.uint8 i (.int .u8 0) 1 elU8.sl hi hzz.1 hzz.2.1 .i64 .i64 (2 * l.n) (by rw [hzz.2.2]; omega) (by have : (9223372036854775807 : Nat) = maxLen := rfl; omega) (Nat.le_refl _)
  refine ⟨⟨some ⟨w.heap.size, 0, none⟩, 0, 2 * l.n⟩, w1, by simpa [RTy.enc, Ty.enc] using hr1, ?_⟩
  have k1 : Keeps No w w1 := (Keeps.of_grown hg1).mono fun b _ h => by cases h
  have z1 := k1.size
  refine Loop.mk (fun t w' => Keeps No w w' ∧ ∃ k : Nat, k ≤ xs.length ∧ t.2 = (k : Int) ∧ Own w' w.heap.size T.uint8 1 t.1 (((xs.take k).flatMap twoB).map (Ty.int .u8).enc)) (fun t => xs.length - t.2.toNat) ⟨k1, 0, by omega, rfl, by rw [List.take_zero]; exact ho1⟩ ?_
  rintro ⟨o, kk⟩ w2 ⟨k2, k, hk, hkk, ho⟩ R hR
  dsimp only at hkk ho ⊢
  subst hkk
  refine Br.mk (fun ht => ?_) (fun hf => ?_)
  · have ht : k < xs.length := by have := of_decide_eq_true ht; omega
    refine IdxS.get (M := M) (hl.mono (V.keeps0 k2)) (by omega) (by omega) fun x hxk => ⟨by decide, ?_⟩
    simp only [Int.toNat_natCast] at hxk
    have hxr := hx x (List.mem_of_getElem? hxk)
    have e1 : IntKind.wrap .u8 x = x % 256 := u8_wrap hxr.1
    have e2 : Int.fdiv x (2 ^ min (Int.toNat (8 : Int)) (IntKind.bits .i64)) = x / 256 := by
      have : min (Int.toNat (8 : Int)) (IntKind.bits .i64) = 8 := rfl
      rw [this, Int.fdiv_eq_ediv_of_nonneg _ (by decide)]
      rfl
    rw [e1, e2, u8_wrap (Int.ediv_nonneg hxr.1 (by decide))]
    refine Al.mk fun b3 w3 n3 => ?_
    have e3 := n3.eq
    have hol := ho.len
    have hfl : ∀ ys : List Int, (ys.flatMap twoB).length = 2 * ys.length := by
      intro ys
      induction ys with
      | nil => rfl
      | cons y ys ih => simp [List.flatMap_cons, twoB, ih]; omega
    simp only [List.length_map, hfl, List.length_take, Nat.mul_one] at hol
    have z2 := k2.size
    refine append_own (news := [.int .u8 (x % 256), .int .u8 (x / 256 % 256)]) elU8 (ho.keep0 n3.keeps) rfl (fun j u hu => ?_) (fun u hu => ?_) (by omega) (by omega) (by have := n3.size; omega) fun o' w4 o4 m4 k4 g4 => ?_
    · rcases j with _ | _ | j
      · simp at hu; subst hu; exact cell_of n3.at_ rfl
      · simp at hu; subst hu; exact cell_of n3.at_ rfl
      · simp at hu
    · simp at hu; rcases hu with rfl | rfl <;> rfl
    · have e4 : w64 ((k : Int) + 1) = ((k + 1 : Nat) : Int) := by rw [w64_eq (by omega)]; omega
      rw [e4]
      refine hR _ w4 ⟨((k2.trans n3.keeps).no (M := No)).then k4 fun c hc h => by have := (ho.ge h).1; have : c < w.heap.size := hc; omega, k + 1, by omega, rfl, ?_⟩ (by dsimp only; omega)
      rw [List.take_add_one, hxk]
      simpa [twoB, Ty.enc] using o4
  · have hf : k = xs.length := by have := of_decide_eq_false hf; omega
    subst hf
    rw [List.take_length] at ho
    have hr := ho.reads (M := No) fun _ _ h => h
    refine ⟨txt xs, w2, ?_, hK w2 k2⟩
    rcases hr.2 with he | ⟨b, off, cs, E, fr, h1, h2, h3⟩
    · have hn0 := hr.1
      rw [he] at hn0
      have : txt xs = ByteArray.empty := by unfold txt; rw [he]; rfl
      rw [this]
      have hol := ho.2
      rcases hol with ⟨hv, _⟩ | ⟨g, cap, cur, hv, _⟩
      · simp only [Sl.val, Value.slice.injEq] at hv
        rw [hv.1, hv.2.1, hv.2.2]
        exact run_convert_bytes_nil w2 T.sl_uint8 T.uint8 elU8.sl u8Ty 0 0 T.string strTy
      · simp only [Sl.val, Value.slice.injEq] at hv
        rw [hv.1]
        have := run_convert_bytes_arg (P := P) w2 T.sl_uint8 T.uint8 elU8.sl u8Ty g 0 0 o.c [] rfl (by omega) T.string strTy
        have hn0 : o.n = 0 := by simpa using hn0
        rw [hn0]
        exact this
    · rw [h1]
      refine run_convert_bytes_arg (P := P) w2 T.sl_uint8 T.uint8 elU8.sl u8Ty b off o.n o.c (xs.flatMap twoB) hr.1.symm (fun i hi => ?_) T.string strTy
      have hlt : i < (xs.flatMap twoB).length := by rw [← hr.1]; exact hi
      rw [List.getD_eq_getElem?_getD, List.getElem?_eq_getElem hlt]
      exact cell_of h2.2 (h3 i _ (List.getElem?_eq_getElem hlt))

/-! ## slices.Contains, slices.Index of numbers -/

theorem Index_int_spec {M : Nat → Prop} {w : World} {l : Sl} {xs : List Int} {v : Int} {K : Int → World → Prop} (hl : SlT (.int .i64) (V M w) l xs) (hlen : xs.length ≤ 1000000000) (hK : ∀ r, (0 ≤ r ↔ v ∈ xs) → K r w) : slices_Index_int.C l v w K := by
  have hn := hl.1
  refine slices_Index_int.ok _ _ _ _ ?_
  simp only [slices_Index_int.M]
  refine Loop.mk (fun s w' => w' = w ∧ 0 ≤ s ∧ s ≤ xs.length ∧ ∀ i : Nat, i < s → xs[i]? ≠ some v) (fun s => (xs.length : Nat) - s.toNat) ⟨rfl, by omega, by omega, fun i hi => by omega⟩ ?_
  rintro s w1 ⟨rfl, h0, h1, h2⟩ R hR
  refine Br.mk (fun ht => ?_) (fun hf => ?_)
  · have ht : s < xs.length := by simpa [hn] using ht
    refine IdxS.get (M := M) hl h0 ht fun q hq => ?_
    refine Br.mk (fun hz => ?_) (fun hz => ?_)
    · have : v = q := by simpa using hz
      subst this
      exact hK s ⟨fun _ => List.mem_of_getElem? hq, fun _ => h0⟩
    · have hne : v ≠ q := by simpa using hz
      rw [w64_eq (by omega)]
      refine hR _ _ ⟨rfl, by omega, by omega, fun i hi => ?_⟩ (by omega)
      by_cases e : (i : Int) = s
      · have : s.toNat = i := by omega
        rw [this] at hq
        rw [hq]
        rintro ⟨⟩
        exact hne rfl
      · exact h2 i (by omega)
  · have hf : (xs.length : Int) ≤ s := by have := of_decide_eq_false hf; omega
    refine hK (-1) ⟨fun h => by omega, fun h => ?_⟩
    obtain ⟨i, hi⟩ := List.getElem?_of_mem h
    have := (List.getElem?_eq_some_iff.1 hi).1
    exact absurd hi (h2 i (by omega))

theorem Contains_int_spec {M : Nat → Prop} {w : World} {l : Sl} {xs : List Int} {v : Int} {K : Bool → World → Prop} (hl : SlT (.int .i64) (V M w) l xs) (hlen : xs.length ≤ 1000000000) (hK : ∀ b, (b = true ↔ v ∈ xs) → K b w) : slices_Contains_int.C l v w K := by
  refine slices_Contains_int.ok _ _ _ _ ?_
  simp only [slices_Contains_int.M]
  exact Index_int_spec hl hlen fun r hr => hK _ (by rw [decide_eq_true_iff]; exact hr)
end Go.Fk
end

section
set_option linter.unusedVariables false
namespace Go.Fk
open Go

/-! ## The reference's nodes: their cells -/

structure NV where
  k : Int
  B : Nat → Bool
  l : Sl

def bits (B : Nat → Bool) : List Value := (List.range 256).map fun i => .bool (B i)
def NV.cells (v : NV) : List Value := .int .i64 v.k :: (bits v.B ++ [.slice v.l.a v.l.n v.l.c])

theorem bits_len (B : Nat → Bool) : (bits B).length = 256 := by simp [bits]
theorem NV.len (v : NV) : v.cells.length = 258 := by simp [NV.cells, bits_len]
theorem NV.get0 (v : NV) : v.cells[0]? = some (.int .i64 v.k) := rfl
theorem NV.getB (v : NV) {i : Nat} (h : i < 256) : v.cells[1 + i]? = some (.bool (v.B i)) := by
  rw [Nat.add_comm, NV.cells, List.getElem?_cons_succ, List.getElem?_append_left (by rw [bits_len]; exact h)]
  simp [bits, h]
theorem NV.getL (v : NV) : v.cells[257]? = some (.slice v.l.a v.l.n v.l.c) := by
  show (bits v.B ++ [_])[256]? = _
  rw [List.getElem?_append_right (by rw [bits_len]; omega), bits_len]; rfl
theorem NV.one (v : NV) : ∀ u ∈ v.cells, u.oneCell' = true := by
  intro u hu
  simp only [NV.cells, bits, List.mem_cons, List.mem_append, List.mem_map, List.mem_range, List.not_mem_nil, or_false] at hu
  rcases hu with rfl | ⟨i, _, rfl⟩ | rfl <;> rfl

theorem NV.set (v : NV) {i : Nat} (h : i < 256) (b : Bool) : v.cells.toArray.setIfInBounds (1 + i) (.bool b) = (NV.cells ⟨v.k, fun j => if j = i then b else v.B j, v.l⟩).toArray := by
  have : v.cells.set (1 + i) (.bool b) = NV.cells ⟨v.k, fun j => if j = i then b else v.B j, v.l⟩ := by
    rw [Nat.add_comm, NV.cells, List.set_cons_succ, List.set_append_left _ _ (by rw [bits_len]; exact h)]
    simp only [NV.cells]
    congr 2
    refine List.ext_getElem? fun j => ?_
    rw [List.getElem?_set]
    simp only [bits, List.length_map, List.length_range]
    by_cases hj : j < 256
    · by_cases e : i = j
      · subst e; simp [h]
      · simp [e, hj, Ne.symm e]
    · have : i ≠ j := by omega
      simp [this, hj]
  rw [← this]; simp

theorem NV.congr {v v' : NV} (hk : v.k = v'.k) (hB : ∀ i, i < 256 → v.B i = v'.B i) (hl : v.l = v'.l) : v.cells = v'.cells := by
  simp only [NV.cells, hk, hl]
  congr 2
  refine List.map_congr_left fun i hi => ?_
  rw [hB i (by simpa using hi)]

abbrev nil3 : Sl := ⟨none, 0, 0⟩
def noB : Nat → Bool := fun _ => false

theorem zero_cells : (#[(.int .i64 0 : Value)] ++ Array.replicate 256 (.bool false : Value) ++ #[(.slice none 0 0 : Value)]) = (NV.cells ⟨0, noB, nil3⟩).toArray := by kernel_rfl

abbrev nodeObj (v : NV) : Obj := .cells v.cells.toArray T.frisketref05_Node (0, 0)

/-- The type of a node, as the table of types has it. -/
theorem elNode : Elem P T.sl_frisketref05_Node T.frisketref05_Node (.agg (NV.cells ⟨0, noB, nil3⟩).toArray) 258 288 := ⟨by kernel_rfl, by kernel_rfl, by simp [Value.cells, NV.len], by decide⟩

theorem build0 : P.built T.frisketref05_Node [] = some (NV.cells ⟨0, noB, nil3⟩).toArray := by kernel_rfl
theorem build1 (k : Int) : P.built T.frisketref05_Node [(0, .int .i64 k)] = some (NV.cells ⟨k, noB, nil3⟩).toArray := by kernel_rfl
theorem build2 (k : Int) (a : Option Addr) (n c : Nat) : P.built T.frisketref05_Node [(0, .int .i64 k), (2, .slice a n c)] = some (NV.cells ⟨k, noB, ⟨a, n, c⟩⟩).toArray := by kernel_rfl

theorem App.build {w : World} {parts : Array (Nat × Value)} {cs : Array Value} {K : Array Value → World → Prop} (h : P.built T.frisketref05_Node parts.toList = some cs) (hK : K cs w) : App P (Instr.build T.frisketref05_Node parts) .big w K :=
  ⟨cs, w, run_build w _ parts cs h, hK⟩
theorem AppS.build {S : World → Prop} {parts : Array (Nat × Value)} {cs : Array Value} {K : Array Value → Prop} (h : P.built T.frisketref05_Node parts.toList = some cs) (hK : K cs) : AppS P S (Instr.build T.frisketref05_Node parts) .big K :=
  ⟨cs, fun w _ => run_build w _ parts cs h, hK⟩

theorem sizeNode : (P.info? T.frisketref05_Node).map (·.size) = some 258 := by kernel_rfl

theorem App.slices {w : World} {n : Nat} {vs : List NV} {parts : Array (Nat × Value)} {K : Sl → World → Prop} (hp : parts.toList = (((vs.map fun v => Value.agg v.cells.toArray).zipIdx 0).map fun x => (x.2, x.1))) (hn : vs.length = n) (h0 : 0 < n) (h1 : n ≤ 100)
    (hK : ∀ b w', New b (.cells ((vs.map NV.cells).flatten).toArray T.frisketref05_Node (0, 0)) w w' → K ⟨some ⟨b, 0, none⟩, n, n⟩ w') : App P (Instr.buildSlice T.sl_frisketref05_Node n parts) (.one .sl) w K := by
  obtain ⟨i, hi, hzz⟩ := Option.map_eq_some_iff.1 elNode.inf
  simp only [Prod.mk.injEq] at hzz
  obtain ⟨hz, hs, hb⟩ := hzz
  have hsz : ∀ v ∈ vs.map (fun v => Value.agg v.cells.toArray), v.cells.size = 258 := by
    intro v hv
    obtain ⟨x, _, rfl⟩ := List.mem_map.1 hv
    simp [Value.cells, NV.len]
  have hf := Go.Great.fill_whole (s := 258) (by omega) (vs.map fun v => Value.agg v.cells.toArray) ((Array.range (n * 258)).map ((Value.agg (NV.cells ⟨0, noB, nil3⟩).toArray).cells[· % (Value.agg (NV.cells ⟨0, noB, nil3⟩).toArray).cells.size]!)) hsz (by simp; omega)
  have e : (vs.map fun v => Value.agg v.cells.toArray).flatMap (fun v => v.cells.toList) = (vs.map NV.cells).flatten := by
    rw [List.flatMap_map, List.flatMap_def]
    rfl
  rw [e] at hf
  refine Al.mk (o := .cells ((vs.map NV.cells).flatten).toArray T.frisketref05_Node) (w := w) (k := fun b w' => b = w.heap.size → App P (Instr.buildSlice T.sl_frisketref05_Node n parts) (.one .sl) w K) (fun b w' hb' hbe => ?_) rfl
  refine Al.mk (o := .cells ((vs.map NV.cells).flatten).toArray T.frisketref05_Node) (w := w) (k := fun b w' => w' = w.alloc (.cells ((vs.map NV.cells).flatten).toArray T.frisketref05_Node) → App P (Instr.buildSlice T.sl_frisketref05_Node n parts) (.one .sl) w K) (fun b2 w2 hb2 hbe2 => ?_) rfl
  refine ⟨⟨some ⟨w.heap.size, 0, none⟩, n, n⟩, w2, ?_, ?_⟩
  · rw [hbe2]
    refine run_buildSlice w _ _ n parts _ i _ elNode.sl hi hz (by rw [hs]; omega) (by rw [hs]; omega) ?_
    rw [hs, hp]
    exact hf
  · have := hK b2 w2 hb2
    rw [hb2.eq] at this
    exact this

theorem App.slice1 {w : World} {v : NV} {K : Sl → World → Prop} (hK : ∀ b w', New b (nodeObj v) w w' → K ⟨some ⟨b, 0, none⟩, 1, 1⟩ w') : App P (Instr.buildSlice T.sl_frisketref05_Node 1 #[(0, .agg v.cells.toArray)]) (.one .sl) w K :=
  App.slices (vs := [v]) rfl rfl (by omega) (by omega) fun b w' h => hK b w' (by simpa using h)
theorem App.slice2 {w : World} {v u : NV} {K : Sl → World → Prop} (hK : ∀ b w', New b (.cells (v.cells ++ u.cells).toArray T.frisketref05_Node (0, 0)) w w' → K ⟨some ⟨b, 0, none⟩, 2, 2⟩ w') : App P (Instr.buildSlice T.sl_frisketref05_Node 2 #[(0, .agg v.cells.toArray), (1, .agg u.cells.toArray)]) (.one .sl) w K :=
  App.slices (vs := [v, u]) rfl rfl (by omega) (by omega) fun b w' h => hK b w' (by simpa using h)

theorem StA.node {w : World} {b : Nat} {v u : NV} {k : World → Prop} (hb : w.heap[b]? = some (nodeObj u)) (hk : ∀ w', Upd b (nodeObj v) w w' → k w') : StA P T.frisketref05_Node ⟨b, 0, none⟩ v.cells.toArray w k := by
  refine ⟨w.setRow b v.cells.toArray, ?_, hk _ ?_⟩
  · refine run_storeVar_row w b _ _ _ _ hb (by rw [sizeNode]; simp [NV.len]) (by simp [NV.len]) ?_
    rw [Array.all_eq_true_iff_forall_mem]
    intro x hx
    exact v.one x (by simpa using hx)
  · have hr := setRow_heap w b _ v.cells.toArray _ _ hb
    refine ⟨hr, ⟨rfl, rfl, rfl, by simp [World.setRow], fun i _ hi => ?_⟩, by simp [World.setRow]⟩
    simp only [World.setRow, Array.getElem?_modify]
    rw [if_neg (fun h => hi h.symm)]

theorem LdA.node {w : World} {b : Nat} {v : NV} {k : Array Value → Prop} (hb : w.heap[b]? = some (nodeObj v)) (hk : k v.cells.toArray) : LdA 258 ⟨b, 0, none⟩ w k := by
  refine ⟨v.cells.toArray, ⟨by simp [NV.len], fun i u hu => ?_⟩, hk⟩
  rw [add_eq, Nat.zero_add]
  exact cell_of hb hu
end Go.Fk
end
