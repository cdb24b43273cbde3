/-
  A part of the proof: what the functions of the program come to, read off the model: no premise of its own, no axiom. By an AI agent.
-/
import Derived.Test.YtdhgbfbmcingoaaNv
import Derived.Test.YtdhgbfbmcingoaaRb
set_option linter.all false
set_option linter.unusedVariables false
namespace Go.Fk
open Go Go.MapKept

/-! ## What is asked of a machine -/

/-- A machine, or none. -/
def MachO (H : View) (p : Option Addr) (fs : List ((Nat → Bool) × Int)) (F : Int → Int → Prop) (ks : List Kn) : Prop := (p = none ∧ fs = [] ∧ ks = []) ∨ MachV H p fs F ks

theorem MachO.mono {H H' : View} {p : Option Addr} {fs : List ((Nat → Bool) × Int)} {F : Int → Int → Prop} {ks : List Kn} (h : MachO H p fs F ks) (hv : Vle H H') : MachO H' p fs F ks := h.imp id fun h => h.mono hv

section
variable {M : Nat → Prop} {w : World} {p : Option Addr} {fs : List ((Nat → Bool) × Int)} {F : Int → Int → Prop} {ks : List Kn}

theorem nfa_Machine_Rules_spec (h : MachO (V M w) p fs F ks) {K : Int → World → Prop} (hK : K ks.length w) : nfa_Machine_Rules.C p w K := by
  refine nfa_Machine_Rules.ok _ _ _ ?_
  rcases h with ⟨rfl, rfl, rfl⟩ | h
  · simp only [nfa_Machine_Rules.M]
    exact hK
  · obtain ⟨bm, l, rl, vs, kvs, rfl, h2, h3, h4, h5, h6, h7⟩ := h.ex
    simp only [nfa_Machine_Rules.M, NilC_some]
    refine Ld.sl (cell_of h2.2 rfl) ?_
    have := h6.1; have := h7.length
    simp at *
    have e : (rl.n : Int) = (ks.length : Int) := by omega
    rw [e]; exact hK

theorem nfa_Machine_Len_spec (h : MachO (V M w) p fs F ks) {K : Int → World → Prop} (hK : K fs.length w) : nfa_Machine_Len.C p w K := by
  refine nfa_Machine_Len.ok _ _ _ ?_
  rcases h with ⟨rfl, rfl, rfl⟩ | h
  · simp only [nfa_Machine_Len.M]
    exact hK
  · obtain ⟨bm, l, rl, vs, kvs, rfl, h2, h3, h4, h5, h6, h7⟩ := h.ex
    simp only [nfa_Machine_Len.M, NilC_some]
    refine Ld.sl (cell_of h2.2 rfl) ?_
    have := h3.1; have := h4.length
    simp at *
    have e : (l.n : Int) = (fs.length : Int) := by omega
    rw [e]; exact hK

/-- The rule's known; of none: nothing. -/
def knAt (ks : List Kn) (i : Int) : Kn := if 0 ≤ i then (ks[i.toNat]?).getD ⟨fun _ => False, fun _ => False, false⟩ else ⟨fun _ => False, fun _ => False, false⟩

theorem knAt_in {ks : List Kn} {i : Int} {k : Kn} (h0 : 0 ≤ i) (h : ks[i.toNat]? = some k) : knAt ks i = k := by simp [knAt, h0, h]
theorem knAt_out {ks : List Kn} {i : Int} (h : ¬ (0 ≤ i ∧ i < ks.length)) : knAt ks i = ⟨fun _ => False, fun _ => False, false⟩ := by
  unfold knAt
  split
  · rw [List.getElem?_eq_none (by omega)]; rfl
  · rfl
theorem MachO.kin (h : MachO (V M w) p fs F ks) (i : Int) : ∀ q, ((knAt ks i).first q ∨ (knAt ks i).last q) → 0 ≤ q ∧ q < fs.length := by
  intro q hq
  by_cases hi : 0 ≤ i ∧ i < ks.length
  · have hx : ks[i.toNat]? = some ks[i.toNat] := List.getElem?_eq_getElem (by omega)
    rw [knAt_in hi.1 hx] at hq
    rcases h with ⟨_, _, rfl⟩ | h
    · simp at hi; omega
    · exact h.kin _ (List.mem_of_getElem? hx) q hq
  · rw [knAt_out hi] at hq
    rcases hq with h | h <;> exact h.elim
theorem MachO.few (h : MachO (V M w) p fs F ks) : fs.length ≤ 2000 := by
  rcases h with ⟨_, rfl, _⟩ | h
  · simp
  · exact h.few

theorem nfa_Machine_rule_spec (h : MachO (V M w) p fs F ks) {i : Int} {K : (Option Nat × Option Nat × Bool) → World → Prop}
    (hK : ∀ a b w', Keeps No w w' → SetO (V M w') a (knAt ks i).first → SetO (V M w') b (knAt ks i).last → (0 ≤ i ∧ i < ks.length → a ≠ none ∧ b ≠ none) → K (a, b, (knAt ks i).emp) w') : nfa_Machine_rule.C p i w K := by
  refine nfa_Machine_rule.ok _ _ _ _ ?_
  simp only [nfa_Machine_rule.M]
  refine Al.mk fun b1 w1 n1 => ?_
  have e1 := n1.eq
  refine Join.cut (fun s w' => w' = w1 ∧ (s = true ↔ ¬ (0 ≤ i ∧ i < ks.length))) ?_ ?_
  · rintro s w' ⟨rfl, hs⟩
    refine Br.mk (fun ht => ?_) (fun hf => ?_)
    · refine St3 n1.at_ fun w2 u2 => Ld3 (k := fun a b c => K (a, b, c) w2) u2.at_ ?_
      have hk := u2.keeps0 n1.keeps (by omega)
      have e := knAt_out (hs.1 ht)
      have := hK none none w2 hk (by rw [e]; intro x y h; exact h.1) (by rw [e]; intro x y h; exact h.1) fun h => absurd h (hs.1 ht)
      rw [e] at this
      exact this
    · have hi : 0 ≤ i ∧ i < ks.length := by
        refine Decidable.byContradiction fun h => ?_
        rw [hs.2 h] at hf; cases hf
      rcases h with ⟨_, _, rfl⟩ | h
      · simp at hi; omega
      · obtain ⟨bm, l, rl, vs, kvs, rfl, h2, h3, h4, h5, h6, h7⟩ := h.ex
        simp only [NilC_some]
        have hb := n1.keeps.blk0 h2.2
        have hlen := h7.length
        refine Ld.sl (cell_of hb rfl) ?_
        refine IdxS.recd (M := M) (h6.mono (V.keeps0 n1.keeps)) hi.1 (by simp; omega) fun g off c hc hcell => ?_
        rw [List.getElem?_map] at hc
        obtain ⟨v, hv, rfl⟩ := Option.map_eq_some_iff.1 hc
        obtain ⟨k, hk, s1, s2, s3⟩ := h7.get _ _ hv
        simp only [add_eq]
        refine Ld.map (hcell 0 _ rfl) (Ld.map (hcell 1 _ rfl) (Ld.bool (hcell 2 _ rfl) ?_))
        refine St3 n1.at_ fun w2 u2 => Ld3 (k := fun a b c => K (a, b, c) w2) u2.at_ ?_
        have hkk := u2.keeps0 n1.keeps (by omega)
        have := hK (some v.a) (some v.b) w2 hkk (by rw [knAt_in hi.1 hk]; exact MapAt.mono s1 (V.keeps0 hkk)) (by rw [knAt_in hi.1 hk]; exact MapAt.mono s2 (V.keeps0 hkk)) fun _ => ⟨by simp, by simp⟩
        rw [knAt_in hi.1 hk, ← s3] at this
        exact this
  · intro j hj
    refine Br.mk (fun ht => ?_) (fun hf => ?_)
    · have ht := of_decide_eq_true ht
      exact hj _ _ ⟨rfl, ⟨fun _ h => by omega, fun _ => rfl⟩⟩
    · have hf := of_decide_eq_false hf
      refine nfa_Machine_Rules_spec (h.mono (V.keeps0 n1.keeps)) ?_
      refine hj _ _ ⟨rfl, ?_⟩
      rw [decide_eq_true_iff]
      constructor
      · intro h1 h2; omega
      · intro h1; omega

/-- A list that is what a set is, rising. -/
def Rising (xs : List Int) (S : Int → Prop) : Prop := xs.Pairwise (· < ·) ∧ ∀ k, k ∈ xs ↔ S k

theorem nfa_Machine_First_spec (h : MachO (V M w) p fs F ks) {i : Int} {K : Sl → World → Prop}
    (hK : ∀ l xs w', Keeps No w w' → Own w' w.heap.size T.int 1 l (xs.map (Ty.int .i64).enc) → Rising xs (knAt ks i).first → K l w') : nfa_Machine_First.C p i w K := by
  refine nfa_Machine_First.ok _ _ _ _ ?_
  simp only [nfa_Machine_First.M]
  have hin := h.kin i; have hfew := h.few
  refine nfa_Machine_rule_spec h fun a b w1 k1 s1 s2 _ => ?_
  refine nfa_set_sorted_spec s1 (fun k hk => by have := hin k (.inl hk); unfold Pos; omega) fun l xs w2 k2 o2 p2 m2 => ?_
  refine hK l xs w2 (k1.trans k2) ?_ ⟨p2, m2⟩
  refine ⟨o2.1, o2.2.imp id ?_⟩
  rintro ⟨g, cap, cur, hv, hge, hrest⟩
  exact ⟨g, cap, cur, hv, Nat.le_trans k1.size hge, hrest⟩

theorem nfa_Machine_Last_spec (h : MachO (V M w) p fs F ks) {i : Int} {K : Sl → World → Prop}
    (hK : ∀ l xs w', Keeps No w w' → Own w' w.heap.size T.int 1 l (xs.map (Ty.int .i64).enc) → Rising xs (knAt ks i).last → K l w') : nfa_Machine_Last.C p i w K := by
  refine nfa_Machine_Last.ok _ _ _ _ ?_
  simp only [nfa_Machine_Last.M]
  have hin := h.kin i; have hfew := h.few
  refine nfa_Machine_rule_spec h fun a b w1 k1 s1 s2 _ => ?_
  refine nfa_set_sorted_spec s2 (fun k hk => by have := hin k (.inr hk); unfold Pos; omega) fun l xs w2 k2 o2 p2 m2 => ?_
  refine hK l xs w2 (k1.trans k2) ?_ ⟨p2, m2⟩
  refine ⟨o2.1, o2.2.imp id ?_⟩
  rintro ⟨g, cap, cur, hv, hge, hrest⟩
  exact ⟨g, cap, cur, hv, Nat.le_trans k1.size hge, hrest⟩

theorem nfa_Machine_Empty_spec (h : MachO (V M w) p fs F ks) {i : Int} {K : Bool → World → Prop} (hK : ∀ w', Keeps No w w' → K (knAt ks i).emp w') : nfa_Machine_Empty.C p i w K := by
  refine nfa_Machine_Empty.ok _ _ _ _ ?_
  simp only [nfa_Machine_Empty.M]
  exact nfa_Machine_rule_spec h fun a b w1 k1 s1 s2 _ => hK w1 k1

/-- A position's row, as it is handed on. -/
abbrev posobj (n0 n1 n2 n3 rule : Int) (m : Option Nat) : Obj := .cells #[.int .u64 n0, .int .u64 n1, .int .u64 n2, .int .u64 n3, .int .i64 rule, .map m] T.nfa_position (0, 0)

theorem Ld6 {b : Nat} {n0 n1 n2 n3 rule : Int} {m : Option Nat} {w : World} {k : Int → Int → Int → Int → Int → Option Nat → Prop} (hb : w.heap[b]? = some (posobj n0 n1 n2 n3 rule m)) (h : k n0 n1 n2 n3 rule m) :
    Ld (.int .u64) ⟨b, 0, none⟩ w fun r0 => Ld (.int .u64) ⟨b, 1, none⟩ w fun r1 => Ld (.int .u64) ⟨b, 2, none⟩ w fun r2 => Ld (.int .u64) ⟨b, 3, none⟩ w fun r3 => Ld (.int .i64) ⟨b, 4, none⟩ w fun r4 => Ld .map ⟨b, 5, none⟩ w fun r5 => k r0 r1 r2 r3 r4 r5 :=
  Ld.int (cell_of hb rfl) (Ld.int (cell_of hb rfl) (Ld.int (cell_of hb rfl) (Ld.int (cell_of hb rfl) (Ld.int (cell_of hb rfl) (Ld.map (cell_of hb rfl) h)))))

theorem nfa_Machine_at_spec (h : MachO (V M w) p fs F ks) {i : Int} {K : ((Int × Int × Int × Int × Int × Option Nat) × Bool) → World → Prop}
    (hin : ∀ x (n0 n1 n2 n3 : Nat) m w', 0 ≤ i → fs[i.toNat]? = some x → Words x.1 n0 n1 n2 n3 → Keeps No w w' → SetAt (V M w') m (F i) → K ((n0, n1, n2, n3, x.2, some m), true) w')
    (hout : ¬ (0 ≤ i ∧ i < fs.length) → ∀ w', Keeps No w w' → K ((0, 0, 0, 0, 0, none), false) w') : nfa_Machine_at.C p i w K := by
  refine nfa_Machine_at.ok _ _ _ _ ?_
  simp only [nfa_Machine_at.M]
  refine Al.mk fun b1 w1 n1 => ?_
  have e1 := n1.eq
  refine Join.cut (fun s w' => w' = w1 ∧ (s = true ↔ ¬ (0 ≤ i ∧ i < fs.length))) ?_ ?_
  · rintro s w' ⟨rfl, hs⟩
    refine Br.mk (fun ht => ?_) (fun hf => ?_)
    · refine St6 n1.at_ fun w2 u2 => Ld6 (k := fun a b c d e f => K ((a, b, c, d, e, f), false) w2) u2.at_ ?_
      exact hout (hs.1 ht) w2 (u2.keeps0 n1.keeps (by omega))
    · have hi : 0 ≤ i ∧ i < fs.length := by
        refine Decidable.byContradiction fun h => ?_
        rw [hs.2 h] at hf; cases hf
      rcases h with ⟨_, rfl, _⟩ | h
      · simp at hi; omega
      · obtain ⟨bm, l, rl, vs, kvs, rfl, h2, h3, h4, h5, h6, h7⟩ := h.ex
        simp only [NilC_some]
        have hb := n1.keeps.blk0 h2.2
        have hlen := h4.length
        refine Ld.sl (cell_of hb rfl) ?_
        refine IdxS.recd (M := M) (h3.mono (V.keeps0 n1.keeps)) hi.1 (by simp; omega) fun g off c hc hcell => ?_
        rw [List.getElem?_map] at hc
        obtain ⟨v, hv, rfl⟩ := Option.map_eq_some_iff.1 hc
        obtain ⟨k, hk, s1, s2⟩ := h4.get _ _ hv
        simp only [add_eq]
        refine Ld.int (hcell 0 _ rfl) (Ld.int (hcell 1 _ rfl) (Ld.int (hcell 2 _ rfl) (Ld.int (hcell 3 _ rfl) (Ld.int (hcell 4 _ rfl) (Ld.map (hcell 5 _ rfl) ?_)))))
        refine St6 n1.at_ fun w2 u2 => Ld6 (k := fun a b c d e f => K ((a, b, c, d, e, f), true) w2) u2.at_ ?_
        have hkk := u2.keeps0 n1.keeps (by omega)
        rw [s2]
        refine hin k v.n0 v.n1 v.n2 v.n3 v.m w2 hi.1 hk s1 hkk ?_
        have := h5 _ v hv
        have e : ((i.toNat : Nat) : Int) = i := by omega
        rw [e] at this
        exact this.mono (V.keeps0 hkk)
  · intro j hj
    refine Br.mk (fun ht => ?_) (fun hf => ?_)
    · have ht := of_decide_eq_true ht
      exact hj _ _ ⟨rfl, ⟨fun _ h => by omega, fun _ => rfl⟩⟩
    · have hf := of_decide_eq_false hf
      refine nfa_Machine_Len_spec (h.mono (V.keeps0 n1.keeps)) ?_
      refine hj _ _ ⟨rfl, ?_⟩
      rw [decide_eq_true_iff]
      constructor
      · intro h1 h2; omega
      · intro h1; omega

theorem MachO.fin (h : MachO (V M w) p fs F ks) {i : Int} (hi : 0 ≤ i ∧ i < fs.length) {q : Int} (hq : F i q) : 0 ≤ q ∧ q < fs.length := by
  rcases h with ⟨_, rfl, _⟩ | h
  · simp at hi; omega
  · exact (h.fin i q hq).2

theorem nfa_Machine_Follow_spec (h : MachO (V M w) p fs F ks) {i : Int} {K : Sl → World → Prop}
    (hK : ∀ l xs w', Keeps No w w' → Own w' w.heap.size T.int 1 l (xs.map (Ty.int .i64).enc) → Rising xs (fun q => (0 ≤ i ∧ i < fs.length) ∧ F i q) → K l w') : nfa_Machine_Follow.C p i w K := by
  refine nfa_Machine_Follow.ok _ _ _ _ ?_
  simp only [nfa_Machine_Follow.M]
  have hfew := h.few
  have fin : ∀ {w1 w3 : World} {l : Sl} {xs : List Int} {S : Int → Prop}, Keeps No w w1 → Keeps No w1 w3 → Own w3 w1.heap.size T.int 1 l (xs.map (Ty.int .i64).enc) → xs.Pairwise (· < ·) → (∀ k, k ∈ xs ↔ S k) → (∀ q, S q ↔ ((0 ≤ i ∧ i < fs.length) ∧ F i q)) → K l w3 := by
    intro w1 w3 l xs S k1 k3 o p m e
    refine hK l xs w3 (k1.trans k3) ?_ ⟨p, fun k => by rw [m, e]⟩
    refine ⟨o.1, o.2.imp id ?_⟩
    rintro ⟨g, cap, cur, hv, hge, hrest⟩
    exact ⟨g, cap, cur, hv, Nat.le_trans k1.size hge, hrest⟩
  refine nfa_Machine_at_spec h (fun x n0 n1 n2 n3 m w1 h0 hx hw k1 s1 => ?_) (fun ho w1 k1 => ?_)
  · refine Al.mk fun b2 w2 a2 => St6 a2.at_ fun w3 u3 => Ld.map (cell_of u3.at_ rfl) ?_
    have hi : 0 ≤ i ∧ i < fs.length := ⟨h0, by have := (List.getElem?_eq_some_iff.1 hx).1; omega⟩
    have k3 : Keeps No w1 w3 := u3.keeps0 a2.keeps (by have := a2.eq; omega)
    refine nfa_set_sorted_spec (mo := some m) (MapAt.mono s1 (V.keeps0 k3)) (fun k hk => by have := h.fin hi hk; unfold Pos; omega) fun l xs w4 k4 o4 p4 m4 => ?_
    exact fin (k1.trans k3) k4 o4 p4 m4 fun q => by simp [hi]
  · refine Al.mk fun b2 w2 a2 => St6 a2.at_ fun w3 u3 => Ld.map (cell_of u3.at_ rfl) ?_
    have k3 : Keeps No w1 w3 := u3.keeps0 a2.keeps (by have := a2.eq; omega)
    refine nfa_set_sorted_spec (mo := none) (M := No) (S := fun _ => False) (by intro x y h; exact h.1) (fun k hk => hk.elim) fun l xs w4 k4 o4 p4 m4 => ?_
    exact fin (k1.trans k3) k4 o4 p4 m4 fun q => ⟨fun h => h.elim, fun h => absurd h.1 ho⟩

/-- Whose position it is. -/
def ruleAt (fs : List ((Nat → Bool) × Int)) (i : Int) : Int := if 0 ≤ i then ((fs[i.toNat]?).map (·.2)).getD (-1) else -1

theorem nfa_Machine_Rule_spec (h : MachO (V M w) p fs F ks) {i : Int} {K : Int → World → Prop} (hK : ∀ w', Keeps No w w' → K (ruleAt fs i) w') : nfa_Machine_Rule.C p i w K := by
  refine nfa_Machine_Rule.ok _ _ _ _ ?_
  simp only [nfa_Machine_Rule.M]
  refine nfa_Machine_at_spec h (fun x n0 n1 n2 n3 m w1 h0 hx hw k1 s1 => ?_) (fun ho w1 k1 => ?_)
  · refine Al.mk fun b2 w2 a2 => St6 a2.at_ fun w3 u3 => ?_
    refine Br.mk (fun ht => absurd ht (by simp)) fun _ => Ld.int (cell_of u3.at_ rfl) ?_
    have := hK w3 (k1.trans (u3.keeps0 a2.keeps (by have := a2.eq; omega)))
    simpa [ruleAt, h0, hx] using this
  · refine Al.mk fun b2 w2 a2 => St6 a2.at_ fun w3 u3 => ?_
    refine Br.mk (fun _ => ?_) fun hf => absurd hf (by simp)
    have := hK w3 (k1.trans (u3.keeps0 a2.keeps (by have := a2.eq; omega)))
    have e : ruleAt fs i = -1 := by
      unfold ruleAt
      split
      · rw [List.getElem?_eq_none (by omega)]; rfl
      · rfl
    rw [e] at this
    exact this

/-- Whether a byte is in a position's set. -/
def hasAt (fs : List ((Nat → Bool) × Int)) (i : Int) (b : Nat) : Bool := if 0 ≤ i then ((fs[i.toNat]?).map fun x => x.1 b).getD false else false

theorem shr_bit {n b : Nat} (hn : n < 2 ^ 64) : ((bAnd .u64 (Int.fdiv (n : Int) (2 ^ min (Int.toNat (Int.tmod (b : Int) (64 : Int))) (IntKind.bits .u64))) (1 : Int)) == (1 : Int)) = n.testBit (b % 64) := by
  have e1 : min (Int.toNat (Int.tmod (b : Int) (64 : Int))) (IntKind.bits .u64) = b % 64 := by
    have : Int.tmod (b : Int) 64 = ((b % 64 : Nat) : Int) := by rw [Int.tmod_eq_emod_of_nonneg (by omega)]; omega
    rw [this]
    have : IntKind.bits .u64 = 64 := rfl
    omega
  have e2 : Int.fdiv (n : Int) (2 ^ (b % 64)) = ((n / 2 ^ (b % 64) : Nat) : Int) := by
    rw [Int.fdiv_eq_ediv_of_nonneg _ (by exact_mod_cast Nat.zero_le _)]
    push_cast
    rfl
  rw [e1, e2]
  have hlt : n / 2 ^ (b % 64) < 2 ^ 64 := Nat.lt_of_le_of_lt (Nat.div_le_self _ _) hn
  have := bAnd_nat (x := n / 2 ^ (b % 64)) (y := 1) hlt (by decide)
  rw [show ((1 : Nat) : Int) = 1 from rfl] at this
  rw [this]
  rw [Nat.testBit, Nat.shiftRight_eq_div_pow, Nat.and_comm 1]
  rw [Nat.and_one_is_mod]
  rcases Nat.mod_two_eq_zero_or_one (n / 2 ^ (b % 64)) with h | h <;> rw [h] <;> rfl

theorem hasAt_in {i : Int} {x : (Nat → Bool) × Int} {b : Nat} (h0 : 0 ≤ i) (h : fs[i.toNat]? = some x) : hasAt fs i b = x.1 b := by simp [hasAt, h0, h]
theorem hasAt_out {i : Int} {b : Nat} (h : ¬ (0 ≤ i ∧ i < fs.length)) : hasAt fs i b = false := by
  unfold hasAt
  split
  · rw [List.getElem?_eq_none (by omega)]; rfl
  · rfl

theorem nfa_Machine_Has_spec (h : MachO (V M w) p fs F ks) {i : Int} {b : Nat} (hb : b < 256) {K : Bool → World → Prop} (hK : ∀ w', Keeps No w w' → K (hasAt fs i b) w') : nfa_Machine_Has.C p i b w K := by
  refine nfa_Machine_Has.ok _ _ _ _ _ ?_
  simp only [nfa_Machine_Has.M]
  refine nfa_Machine_at_spec h (fun x n0 n1 n2 n3 m w1 h0 hx hw k1 s1 => ?_) (fun ho w1 k1 => ?_)
  · refine Al.mk fun b2 w2 a2 => St6 a2.at_ fun w3 u3 => ?_
    refine Br.mk (fun _ => ?_) fun hf => absurd hf (by simp)
    refine ⟨by decide, ?_⟩
    have hdiv : IntKind.wrap .u8 (Int.tdiv (b : Int) 64) = ((b / 64 : Nat) : Int) := by
      rw [Int.tdiv_eq_ediv_of_nonneg (by omega)]
      have : (b : Int) / 64 = ((b / 64 : Nat) : Int) := by omega
      rw [this]
      exact IntWalk.u8_in _ (by omega)
    rw [hdiv]
    refine ⟨⟨by omega, by omega⟩, ?_⟩
    have hK' := hK w3 (k1.trans (u3.keeps0 a2.keeps (by have := a2.eq; omega)))
    rw [hasAt_in h0 hx] at hK'
    have leaf : ∀ (k n : Nat), b / 64 = k → Word x.1 k n → w3.cell? ⟨b2, k, none⟩ = some (.int .u64 n) → Ld (.int .u64) (Addr.add ⟨b2, 0, none⟩ ((((b / 64 : Nat) : Int)).toNat * 1)) w3 fun x21 => Need ((64 : Int) ≠ 0) (Need (0 ≤ (Int.tmod (b : Int) (64 : Int))) (K (((bAnd .u64 (Int.fdiv x21 (2 ^ min (Int.toNat (Int.tmod (b : Int) (64 : Int))) (IntKind.bits .u64))) (1 : Int)) == (1 : Int))) w3)) := by
      intro k n hk hwd hc
      refine Ld.int (i := (n : Int)) ?_ ⟨by decide, ?_, ?_⟩
      · rw [add_eq]
        have : 0 + ((b / 64 : Nat) : Int).toNat * 1 = k := by omega
        rw [this]; exact hc
      · rw [Int.tmod_eq_emod_of_nonneg (by omega)]; omega
      · rw [shr_bit hwd.1, hwd.2 _ (by omega)]
        have : 64 * k + b % 64 = b := by omega
        rw [this]; exact hK'
    obtain ⟨g0, g1, g2, g3⟩ := hw
    have hb4 : b / 64 = 0 ∨ b / 64 = 1 ∨ b / 64 = 2 ∨ b / 64 = 3 := by omega
    rcases hb4 with e | e | e | e
    · exact leaf 0 n0 e g0 (cell_of u3.at_ rfl)
    · exact leaf 1 n1 e g1 (cell_of u3.at_ rfl)
    · exact leaf 2 n2 e g2 (cell_of u3.at_ rfl)
    · exact leaf 3 n3 e g3 (cell_of u3.at_ rfl)
  · refine Al.mk fun b2 w2 a2 => St6 a2.at_ fun w3 u3 => ?_
    refine Br.mk (fun ht => absurd ht (by simp)) fun _ => ?_
    have := hK w3 (k1.trans (u3.keeps0 a2.keeps (by have := a2.eq; omega)))
    rw [hasAt_out ho] at this
    exact this
end
end Go.Fk
