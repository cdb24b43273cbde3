/-
  A part of the proof: what the functions of the program come to, read off the model: no premise of its own, no axiom. By an AI agent.
-/
import Derived.Test.YtdhgbfbmcingoaaRq
set_option linter.all false
set_option linter.unusedVariables false
set_option linter.unusedSimpArgs false
namespace Go.Fk
open Go

theorem u64_wrap {n : Nat} (h : n < 2 ^ 64) : IntKind.wrap .u64 (n : Int) = n := IntWalk.u64_in _ (by omega)

theorem ofInt_nat (n : Nat) : BitVec.ofInt 64 (n : Int) = BitVec.ofNat 64 n := by
  apply BitVec.eq_of_toNat_eq
  simp

theorem bOr_nat {x y : Nat} (hx : x < 2 ^ 64) (hy : y < 2 ^ 64) : bOr .u64 (x : Int) (y : Int) = ((x ||| y : Nat) : Int) := by
  have e : (BitVec.ofInt (IntKind.bits .u64) (x : Int) ||| BitVec.ofInt (IntKind.bits .u64) (y : Int)).toNat = x ||| y := by
    show (BitVec.ofInt 64 (x : Int) ||| BitVec.ofInt 64 (y : Int)).toNat = x ||| y
    rw [ofInt_nat, ofInt_nat, BitVec.toNat_or, BitVec.toNat_ofNat, BitVec.toNat_ofNat, Nat.mod_eq_of_lt hx, Nat.mod_eq_of_lt hy]
  unfold bOr
  rw [e, u64_wrap (Nat.or_lt_two_pow hx hy)]

theorem bAnd_nat {x y : Nat} (hx : x < 2 ^ 64) (hy : y < 2 ^ 64) : bAnd .u64 (x : Int) (y : Int) = ((x &&& y : Nat) : Int) := by
  have e : (BitVec.ofInt (IntKind.bits .u64) (x : Int) &&& BitVec.ofInt (IntKind.bits .u64) (y : Int)).toNat = x &&& y := by
    show (BitVec.ofInt 64 (x : Int) &&& BitVec.ofInt 64 (y : Int)).toNat = x &&& y
    rw [ofInt_nat, ofInt_nat, BitVec.toNat_and, BitVec.toNat_ofNat, BitVec.toNat_ofNat, Nat.mod_eq_of_lt hx, Nat.mod_eq_of_lt hy]
  unfold bAnd
  rw [e, u64_wrap (Nat.and_lt_two_pow _ hy)]

theorem bNot_nat {x : Nat} (hx : x < 2 ^ 64) : bNot .u64 (x : Int) = (((2 ^ 64 - 1) ^^^ x : Nat) : Int) := by
  have hm : (2 ^ 64 - 1 : Nat) < 2 ^ 64 := by decide
  have e : (BitVec.ofInt (IntKind.bits .u64) ((2 ^ 64 - 1 : Nat) : Int) ^^^ BitVec.ofInt (IntKind.bits .u64) (x : Int)).toNat = (2 ^ 64 - 1) ^^^ x := by
    show (BitVec.ofInt 64 ((2 ^ 64 - 1 : Nat) : Int) ^^^ BitVec.ofInt 64 (x : Int)).toNat = _
    rw [ofInt_nat, ofInt_nat, BitVec.toNat_xor, BitVec.toNat_ofNat, BitVec.toNat_ofNat, Nat.mod_eq_of_lt hm, Nat.mod_eq_of_lt hx]
  have e2 : (if IntKind.signed .u64 then (-1 : Int) else IntKind.max .u64) = ((2 ^ 64 - 1 : Nat) : Int) := by decide
  unfold bNot bXor
  rw [e2, e, u64_wrap (Nat.xor_lt_two_pow hm hx)]

theorem Word.not {f : Nat → Bool} {k n : Nat} (h : Word f k n) : Word (fun i => !f i) k ((2 ^ 64 - 1) ^^^ n) := by
  refine ⟨Nat.xor_lt_two_pow (by decide) h.1, fun i hi => ?_⟩
  rw [Nat.testBit_xor, h.2 i hi, Nat.testBit_two_pow_sub_one]
  simp [hi]

theorem Word.congr {f g : Nat → Bool} {k n : Nat} (h : Word f k n) (e : ∀ i, 64 * k ≤ i → i < 64 * k + 64 → f i = g i) : Word g k n :=
  ⟨h.1, fun i hi => by rw [h.2 i hi]; exact e _ (by omega) (by omega)⟩

theorem Word.zero (k : Nat) : Word (fun _ => false) k 0 := ⟨by decide, fun i _ => by simp⟩

/-- One bit is set in the word in which it lies. -/
theorem Word.set {f : Nat → Bool} {k n b : Nat} (h : Word f k n) (hb : b / 64 = k) : Word (fun i => f i || (i == b)) k (n ||| 2 ^ (b % 64)) := by
  have h2 : 2 ^ (b % 64) < 2 ^ 64 := Nat.pow_lt_pow_right (by decide) (Nat.mod_lt _ (by decide))
  refine ⟨Nat.or_lt_two_pow h.1 h2, fun i hi => ?_⟩
  rw [Nat.testBit_or, h.2 i hi, Nat.testBit_two_pow]
  congr 1
  by_cases e : b % 64 = i
  · simp [e]; omega
  · have : ¬ 64 * k + i = b := by omega
    simp [e, this]

theorem shl_nat (b : Nat) : IntKind.wrap .u64 ((1 : Int) * 2 ^ min (Int.toNat (Int.tmod (b : Int) (64 : Int))) (IntKind.bits .u64)) = ((2 ^ (b % 64) : Nat) : Int) := by
  have e : Int.tmod (b : Int) 64 = ((b % 64 : Nat) : Int) := by rw [Int.tmod_eq_emod_of_nonneg (by omega)]; omega
  have e2 : min (Int.toNat ((b % 64 : Nat) : Int)) (IntKind.bits .u64) = b % 64 := by
    rw [Int.toNat_natCast]; exact Nat.min_eq_left (Nat.le_of_lt (Nat.mod_lt _ (by decide)))
  rw [e, e2, Int.one_mul]
  have h2 : 2 ^ (b % 64) < 2 ^ 64 := Nat.pow_lt_pow_right (by decide) (Nat.mod_lt _ (by decide))
  have e3 : (2 : Int) ^ (b % 64) = ((2 ^ (b % 64) : Nat) : Int) := by simp
  rw [e3, u64_wrap h2]

/-- Four words that lie in a block. -/
def WO (w : World) (b : Nat) (f : Nat → Bool) : Prop := ∃ n0 n1 n2 n3 : Nat, w.heap[b]? = some (.cells #[.int .u64 n0, .int .u64 n1, .int .u64 n2, .int .u64 n3] T.a4_uint64 (0, 0)) ∧ Words f n0 n1 n2 n3

theorem WO.keep {w w' : World} {b : Nat} {f : Nat → Bool} {M : Nat → Prop} (h : WO w b f) (hk : Keeps M w w') (hm : ¬ M b) : WO w' b f := by
  obtain ⟨n0, n1, n2, n3, h1, h2⟩ := h
  exact ⟨n0, n1, n2, n3, hk.blk h1 hm, h2⟩
theorem WO.heap {w w' : World} {b : Nat} {f : Nat → Bool} (h : WO w b f) (hk : w'.heap = w.heap) : WO w' b f := by unfold WO at *; rw [hk]; exact h
theorem WO.lt {w : World} {b : Nat} {f : Nat → Bool} (h : WO w b f) : b < w.heap.size := by obtain ⟨_, _, _, _, h1, _⟩ := h; exact lt_of_some h1

theorem Words.zero : Words (fun _ => false) 0 0 0 0 := ⟨Word.zero _, Word.zero _, Word.zero _, Word.zero _⟩

/-- The word in which a bit lies is read, and written with that bit. -/
theorem WO.setBit {w : World} {sb b : Nat} {f : Nat → Bool} (h : WO w sb f) (hb : b < 256) : ∃ x : Nat, x < 2 ^ 64 ∧ w.cell? ⟨sb, b / 64, none⟩ = some (.int .u64 x) ∧
    ∀ k : World → Prop, (∀ w', WO w' sb (fun i => f i || (i == b)) → Keeps (· = sb) w w' → k w') → St ⟨sb, b / 64, none⟩ (.int .u64 ((x ||| 2 ^ (b % 64) : Nat) : Int)) w k := by
  obtain ⟨n0, n1, n2, n3, h1, g0, g1, g2, g3⟩ := h
  have other : ∀ k n, Word f k n → b / 64 ≠ k → Word (fun i => f i || (i == b)) k n := fun k n hw hne =>
    hw.congr fun i h1 h2 => by
      have : ¬ i = b := by omega
      simp [this]
  have c : b / 64 = 0 ∨ b / 64 = 1 ∨ b / 64 = 2 ∨ b / 64 = 3 := by omega
  rcases c with c | c | c | c <;> rw [c]
  · exact ⟨n0, g0.1, cell_of h1 rfl, fun k hk => St.blk h1 (by simp) fun w' hu => hk w' ⟨_, n1, n2, n3, hu.at_, g0.set c, other _ _ g1 (by omega), other _ _ g2 (by omega), other _ _ g3 (by omega)⟩ hu.keeps⟩
  · exact ⟨n1, g1.1, cell_of h1 rfl, fun k hk => St.blk h1 (by simp) fun w' hu => hk w' ⟨n0, _, n2, n3, hu.at_, other _ _ g0 (by omega), g1.set c, other _ _ g2 (by omega), other _ _ g3 (by omega)⟩ hu.keeps⟩
  · exact ⟨n2, g2.1, cell_of h1 rfl, fun k hk => St.blk h1 (by simp) fun w' hu => hk w' ⟨n0, n1, _, n3, hu.at_, other _ _ g0 (by omega), other _ _ g1 (by omega), g2.set c, other _ _ g3 (by omega)⟩ hu.keeps⟩
  · exact ⟨n3, g3.1, cell_of h1 rfl, fun k hk => St.blk h1 (by simp) fun w' hu => hk w' ⟨n0, n1, n2, _, hu.at_, other _ _ g0 (by omega), other _ _ g1 (by omega), other _ _ g2 (by omega), g3.set c⟩ hu.keeps⟩

end Go.Fk
