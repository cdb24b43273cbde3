/-
  A part of the proof: what the functions of the program come to, read off the model: no premise of its own, no axiom. By an AI agent.
-/
import Derived.Test.YtdhgbfbmcingoaaNt
set_option linter.all false
set_option linter.unusedVariables false
namespace Go.Fk
open Go Go.MapKept

/-! ## New -/

structure Kn where
  first : Int → Prop
  last : Int → Prop
  emp : Bool

structure KnV where
  a : Nat
  b : Nat
  e : Bool
def KnV.cells (v : KnV) : List Value := [.map (some v.a), .map (some v.b), .bool v.e]

/-- The expressions' positions, one behind the other. -/
def mFs : Int → List Re → List ((Nat → Bool) × Int)
  | _, [] => []
  | r, x :: xs => (x.poss.map fun f => (f, r)) ++ mFs (r + 1) xs
def mFol : Int → List Re → Int → Int → Prop
  | _, [], _, _ => False
  | n, x :: xs, p, q => x.fol n p q ∨ mFol (n + x.cnt) xs p q
def mKs : Int → List Re → List Kn
  | _, [] => []
  | n, x :: xs => ⟨x.first n, x.last n, x.emp⟩ :: mKs (n + x.cnt) xs
def mCnt (xs : List Re) : Nat := (xs.map Re.cnt).sum

theorem mFs_snoc (xs : List Re) (x : Re) : ∀ r, mFs r (xs ++ [x]) = mFs r xs ++ x.poss.map fun f => (f, r + xs.length) := by
  induction xs with
  | nil => intro r; simp [mFs]
  | cons y xs ih =>
    intro r
    simp only [List.cons_append, mFs, ih (r + 1), List.append_assoc, List.length_cons]
    congr 2
    refine List.map_congr_left fun f _ => ?_
    congr 1; omega
theorem mFol_snoc (xs : List Re) (x : Re) (p q : Int) : ∀ n, mFol n (xs ++ [x]) p q ↔ mFol n xs p q ∨ x.fol (n + mCnt xs) p q := by
  induction xs with
  | nil => intro n; simp [mFol, mCnt]
  | cons y xs ih =>
    intro n
    simp only [List.cons_append, mFol, ih, or_assoc]
    have : n + (y.cnt : Int) + (mCnt xs : Int) = n + mCnt (y :: xs) := by simp [mCnt]; omega
    rw [this]
theorem mKs_snoc (xs : List Re) (x : Re) : ∀ n, mKs n (xs ++ [x]) = mKs n xs ++ [⟨x.first (n + mCnt xs), x.last (n + mCnt xs), x.emp⟩] := by
  induction xs with
  | nil => intro n; simp [mKs, mCnt]
  | cons y xs ih =>
    intro n
    simp only [List.cons_append, mKs, ih]
    have : n + (y.cnt : Int) + (mCnt xs : Int) = n + mCnt (y :: xs) := by simp [mCnt]; omega
    rw [this]
theorem mFs_len (xs : List Re) : ∀ r, (mFs r xs).length = mCnt xs := by
  induction xs with
  | nil => intro r; rfl
  | cons y xs ih => intro r; simp [mFs, ih, mCnt, Re.poss_len]
theorem mKs_len (xs : List Re) : ∀ r, (mKs r xs).length = xs.length := by
  induction xs with
  | nil => intro r; rfl
  | cons y xs ih => intro r; simp [mKs, ih]

/-- A machine that is ready. -/
structure MachV (H : View) (p : Option Addr) (fs : List ((Nat → Bool) × Int)) (F : Int → Int → Prop) (ks : List Kn) : Prop where
  ex : ∃ bm l rl vs kvs, p = some ⟨bm, 0, none⟩ ∧ H bm (.cells #[.slice l.a l.n l.c, .slice rl.a rl.n rl.c] T.nfa_Machine (0, 0)) ∧ SlC H l 6 (vs.map PosV.cells) ∧ All2 (fun v x => Words x.1 v.n0 v.n1 v.n2 v.n3 ∧ v.rule = x.2) vs fs ∧
    (∀ (i : Nat) v, vs[i]? = some v → SetAt H v.m (F i)) ∧ SlC H rl 3 (kvs.map KnV.cells) ∧ All2 (fun v k => SetAt H v.a k.first ∧ SetAt H v.b k.last ∧ v.e = k.emp) kvs ks
  fin : ∀ p q, F p q → (0 ≤ p ∧ p < fs.length) ∧ 0 ≤ q ∧ q < fs.length
  kin : ∀ k ∈ ks, ∀ p, (k.first p ∨ k.last p) → 0 ≤ p ∧ p < fs.length
  few : fs.length ≤ 2000
  kew : ks.length ≤ 1000000

theorem MachV.mono {H H' : View} {p : Option Addr} {fs : List ((Nat → Bool) × Int)} {F : Int → Int → Prop} {ks : List Kn} (h : MachV H p fs F ks) (hv : Vle H H') : MachV H' p fs F ks := by
  obtain ⟨⟨bm, l, rl, vs, kvs, h1, h2, h3, h4, h5, h6, h7⟩, h8, h9, h10, h11⟩ := h
  exact ⟨⟨bm, l, rl, vs, kvs, h1, hv _ _ h2, h3.mono hv, h4, fun i v hi => (h5 i v hi).mono hv, h6.mono hv, h7.mono fun a b ⟨g1, g2, g3⟩ => ⟨g1.mono hv, g2.mono hv, g3⟩⟩, h8, h9, h10, h11⟩

theorem equalIn_nil_ptr {Q : Program} {w : World} (d : Nat) {t e : TypeId} {x : Option Addr} (ht : Q.underlying t = some (.pointer e)) : (Op.equalIn (d + 1) t (.pointer none) (.pointer x)).run Q w = .ok x.isNone w := by
  cases x <;> simp [Op.equalIn, run_underlying ht]
theorem ptr_nil_eql {Q : Program} {w : World} {t : TypeId} {x : Option Addr} {o1 o2 : Operand} {K : Bool → World → Prop} (ht : ∃ e, Q.underlying t = some (.pointer e)) (hK : K x.isNone w) :
    App Q (do eqGuard .eql t o1 o2 (.pointer none) (.pointer x); binOp .eql t (.pointer none) (.pointer x)) (.one .bool) w K := by
  obtain ⟨e, ht⟩ := ht
  refine ⟨x.isNone, w, ?_, hK⟩
  have h1 : (Op.equal t (.pointer none) (.pointer x)).run Q w = .ok x.isNone w := equalIn_nil_ptr 9999 ht
  simp [eqGuard, binOp, h1, Result.andThen, RTy.enc, Ty.enc]

theorem slices_Index_nil {M : Nat → Prop} {w : World} {l : Sl} {ps : List (Option Addr)} {K : Int → World → Prop} (hl : SlT .ptr (V M w) l ps) (hlen : ps.length < 1000000000)
    (hK : ∀ r, (0 ≤ r ↔ none ∈ ps) → K r w) : slices_Index.C l none w K := by
  refine slices_Index.ok _ _ _ _ ?_
  simp only [slices_Index.M]
  have hn := hl.1
  refine Loop.mk (fun s w' => w' = w ∧ 0 ≤ s ∧ s ≤ ps.length ∧ ∀ i : Nat, i < s → ps[i]? ≠ some none) (fun s => (ps.length : Nat) - s.toNat) ⟨rfl, by omega, by omega, fun i hi => by omega⟩ ?_
  rintro s w1 ⟨rfl, h0, h1, h2⟩ R hR
  refine Br.mk (fun ht => ?_) (fun hf => ?_)
  · have ht : s < ps.length := by simpa [hn] using ht
    refine IdxS.get (M := M) hl h0 ht fun q hq => ?_
    refine ptr_nil_eql ⟨_, Go.Proofs.Try.underlying47⟩ ?_
    refine Br.mk (fun hz => ?_) (fun hz => ?_)
    · refine hK s ⟨fun _ => ?_, fun _ => h0⟩
      have : q = none := by simpa using hz
      subst this
      exact List.mem_of_getElem? hq
    · rw [w64_eq (by omega)]
      refine hR _ _ ⟨rfl, by omega, by omega, fun i hi => ?_⟩ (by omega)
      by_cases e : (i : Int) = s
      · have : s.toNat = i := by omega
        rw [this] at hq
        rw [hq]
        rintro ⟨⟩
        simp at hz
      · exact h2 i (by omega)
  · have hf : (ps.length : Int) ≤ s := by have := of_decide_eq_false hf; omega
    refine hK (-1) ⟨fun h => by omega, fun h => ?_⟩
    obtain ⟨i, hi⟩ := List.getElem?_of_mem h
    have := (List.getElem?_eq_some_iff.1 hi).1
    exact absurd hi (h2 i (by omega))

theorem slices_Contains_nil {M : Nat → Prop} {w : World} {l : Sl} {ps : List (Option Addr)} {K : Bool → World → Prop} (hl : SlT .ptr (V M w) l ps) (hlen : ps.length < 1000000000)
    (hK : ∀ b, (b = true ↔ none ∈ ps) → K b w) : slices_Contains.C l none w K := by
  refine slices_Contains.ok _ _ _ _ ?_
  simp only [slices_Contains.M]
  exact slices_Index_nil hl hlen fun r hr => hK _ (by rw [decide_eq_true_iff]; exact hr)
end Go.Fk
