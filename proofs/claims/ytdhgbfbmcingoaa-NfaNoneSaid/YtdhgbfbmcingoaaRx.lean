/-
  A part of the proof: what the functions of the program come to, read off the model: no premise of its own, no axiom. By an AI agent.
-/
import Derived.Test.YtdhgbfbmcingoaaHp2
import Derived.Test.YtdhgbfbmcingoaaM2
set_option linter.all false
set_option linter.unusedVariables false
namespace Go.Fk
open Go

/-! ## Regular expressions -/

inductive Re where
  | set (f : Nat → Bool) | empty | cat (a b : Re) | or (a b : Re) | star (a : Re)

def Word (f : Nat → Bool) (k n : Nat) : Prop := n < 2 ^ 64 ∧ ∀ i, i < 64 → n.testBit i = f (64 * k + i)
def Words (f : Nat → Bool) (n0 n1 n2 n3 : Nat) : Prop := Word f 0 n0 ∧ Word f 1 n1 ∧ Word f 2 n2 ∧ Word f 3 n3

def nobj (kind : Int) (n0 n1 n2 n3 : Nat) (l : Sl) : Obj :=
  .cells #[.int .i64 kind, .int .u64 n0, .int .u64 n1, .int .u64 n2, .int .u64 n3, .slice l.a l.n l.c] T.regex_Node (0, 0)

inductive Nd (H : View) : Option Addr → Re → Prop
  | set {b n0 n1 n2 n3 : Nat} {f : Nat → Bool} (h : H b (nobj 0 n0 n1 n2 n3 ⟨none, 0, 0⟩)) (hw : Words f n0 n1 n2 n3) : Nd H (some ⟨b, 0, none⟩) (.set f)
  | empty {b : Nat} (h : H b (nobj 1 0 0 0 0 ⟨none, 0, 0⟩)) : Nd H (some ⟨b, 0, none⟩) .empty
  | cat {b c : Nat} {p q : Option Addr} {x y : Re} (h : H b (nobj 2 0 0 0 0 ⟨some ⟨c, 0, none⟩, 2, 2⟩)) (h' : H c (.cells #[.pointer p, .pointer q] T.p_regex_Node (0, 0))) (hp : Nd H p x) (hq : Nd H q y) : Nd H (some ⟨b, 0, none⟩) (.cat x y)
  | or {b c : Nat} {p q : Option Addr} {x y : Re} (h : H b (nobj 3 0 0 0 0 ⟨some ⟨c, 0, none⟩, 2, 2⟩)) (h' : H c (.cells #[.pointer p, .pointer q] T.p_regex_Node (0, 0))) (hp : Nd H p x) (hq : Nd H q y) : Nd H (some ⟨b, 0, none⟩) (.or x y)
  | star {b c : Nat} {p : Option Addr} {x : Re} (h : H b (nobj 4 0 0 0 0 ⟨some ⟨c, 0, none⟩, 1, 1⟩)) (h' : H c (.cells #[.pointer p] T.p_regex_Node (0, 0))) (hp : Nd H p x) : Nd H (some ⟨b, 0, none⟩) (.star x)

theorem Nd.mono {H H' : View} {p : Option Addr} {x : Re} (h : Nd H p x) (hv : Vle H H') : Nd H' p x := by
  induction h with
  | set h hw => exact .set (hv _ _ h) hw
  | empty h => exact .empty (hv _ _ h)
  | cat h h' _ _ ih1 ih2 => exact .cat (hv _ _ h) (hv _ _ h') ih1 ih2
  | or h h' _ _ ih1 ih2 => exact .or (hv _ _ h) (hv _ _ h') ih1 ih2
  | star h h' _ ih => exact .star (hv _ _ h) (hv _ _ h') ih

def Re.kind : Re → Int
  | .set _ => 0 | .empty => 1 | .cat _ _ => 2 | .or _ _ => 3 | .star _ => 4
def Re.parts : Re → List Re
  | .cat a b => [a, b] | .or a b => [a, b] | .star a => [a] | _ => []
def Re.size : Re → Nat
  | .set _ => 1 | .empty => 1 | .cat a b => 1 + a.size + b.size | .or a b => 1 + a.size + b.size | .star a => 1 + a.size

theorem row1 {H : View} {c : Nat} {p : Option Addr} {E : Nat} (h : H c (.cells #[.pointer p] E (0, 0))) : SlT .ptr H ⟨some ⟨c, 0, none⟩, 1, 1⟩ [p] :=
  ⟨rfl, .inr ⟨c, 0, _, _, _, rfl, h, fun i x hx => by
    rcases i with _ | i
    · simp at hx; subst hx; rfl
    · simp at hx⟩⟩
theorem row2 {H : View} {c : Nat} {p q : Option Addr} {E : Nat} (h : H c (.cells #[.pointer p, .pointer q] E (0, 0))) : SlT .ptr H ⟨some ⟨c, 0, none⟩, 2, 2⟩ [p, q] :=
  ⟨rfl, .inr ⟨c, 0, _, _, _, rfl, h, fun i x hx => by
    rcases i with _ | _ | i
    · simp at hx; subst hx; rfl
    · simp at hx; subst hx; rfl
    · simp at hx⟩⟩

/-- What is known of a node at large. -/
theorem Nd.out {H : View} {p : Option Addr} {x : Re} (h : Nd H p x) : ∃ b n0 n1 n2 n3 l ps, p = some ⟨b, 0, none⟩ ∧ H b (nobj x.kind n0 n1 n2 n3 l) ∧ SlT .ptr H l ps ∧ All2 (Nd H) ps x.parts := by
  cases h with
  | set h hw => exact ⟨_, _, _, _, _, _, [], rfl, h, SlT.nil, .nil⟩
  | empty h => exact ⟨_, 0, 0, 0, 0, _, [], rfl, h, SlT.nil, .nil⟩
  | cat h h' hp hq => exact ⟨_, 0, 0, 0, 0, _, [_, _], rfl, h, row2 h', .cons hp (.cons hq .nil)⟩
  | or h h' hp hq => exact ⟨_, 0, 0, 0, 0, _, [_, _], rfl, h, row2 h', .cons hp (.cons hq .nil)⟩
  | star h h' hp => exact ⟨_, 0, 0, 0, 0, _, [_], rfl, h, row1 h', .cons hp .nil⟩

theorem Re.size_parts (x : Re) : x.size = 1 + (x.parts.map Re.size).sum := by cases x <;> simp [Re.size, Re.parts] <;> omega

/-- Blocks that are there. -/
def Old (M : Nat → Prop) (w : World) : Prop := ∀ b, M b → b < w.heap.size
theorem Old.keeps {M N : Nat → Prop} {w w' : World} (h : Old M w) (hk : Keeps N w w') : Old M w' := fun b hb => Nat.lt_of_lt_of_le (h b hb) hk.size

theorem regex_Kind_spec {M : Nat → Prop} {w : World} {p : Option Addr} {x : Re} {K : Int → World → Prop} (h : Nd (V M w) p x) (hk : K x.kind w) : regex_Kind.C p w K := by
  obtain ⟨b, n0, n1, n2, n3, l, ps, rfl, hb, -⟩ := h.out
  refine regex_Kind.ok _ _ _ ?_
  unfold regex_Kind.M
  exact Ld.int (cell_of hb.2 rfl) hk

theorem size_pos (x : Re) : 1 ≤ x.size := by rw [Re.size_parts]; omega

theorem sum_take_succ (l : List Nat) (i : Nat) (x : Nat) (h : l[i]? = some x) : (l.take (i + 1)).sum = (l.take i).sum + x := by
  rw [List.take_add_one, h]; simp
theorem sum_take_le (l : List Nat) (i : Nat) : (l.take i).sum ≤ l.sum := by
  have h := congrArg List.sum (List.take_append_drop i l)
  rw [List.sum_append] at h; omega

theorem regex_Size_spec : ∀ (n : Nat) (x : Re), x.size ≤ n → ∀ {M : Nat → Prop} {w : World} {p : Option Addr} {K : Int → World → Prop} (hs : x.size < 1000000000000) (h : Nd (V M w) p x) (hk : ∀ w', Keeps No w w' → K x.size w'), regex_Size.C p w K := by
  intro n
  induction n with
  | zero => intro x hx; have := size_pos x; omega
  | succ n ih =>
    intro x hx M w p K hs h hk
    obtain ⟨b, n0, n1, n2, n3, l, ps, rfl, hb, hl, ha⟩ := h.out
    have hsz := Re.size_parts x
    have hp2 : x.parts.length ≤ 2 := by cases x <;> simp [Re.parts]
    refine regex_Size.ok _ _ _ ?_
    unfold regex_Size.M
    refine Ld.sl (cell_of hb.2 rfl) ?_
    have hlen := hl.1; have hal := ha.length
    refine Loop.mk (fun s w' => Keeps No w w' ∧ ∃ k : Nat, k ≤ ps.length ∧ s = (((1 + ((x.parts.map Re.size).take k).sum : Nat) : Int), (k : Int))) (fun s => (ps.length : Nat) - s.2.toNat) ⟨Keeps.refl, 0, by omega, by simp⟩ ?_
    rintro s w1 ⟨hk1, k, hkl, rfl⟩ R hR
    refine Br.mk (fun ht => ?_) (fun hf => ?_)
    · have ht : k < ps.length := by simpa [hlen] using ht
      refine IdxS.get (M := M) (hl.mono (V.keeps0 hk1)) (by simp) (by simp; omega) fun q hq => ?_
      simp at hq
      obtain ⟨y, hy, hN⟩ := ha.get _ _ hq
      have hy' : (x.parts.map Re.size)[k]? = some y.size := by simp [hy]
      have h2 := sum_take_succ _ _ _ hy'
      have h3 := sum_take_le (x.parts.map Re.size) (k + 1)
      refine ih y (by omega) (by omega) (hN.mono (V.keeps0 hk1)) fun w2 hk2 => ?_
      refine hR _ _ ⟨hk1.trans hk2, k + 1, by omega, ?_⟩ ?_
      · rw [w64_eq (by simp; omega), w64_eq (by simp; omega), h2]
        simp; omega
      · dsimp only; rw [w64_eq (by omega)]; omega
    · have hf : ps.length ≤ k := by simpa [hlen] using hf
      have : k = x.parts.length := by omega
      subst this
      have := hk w1 hk1
      rw [hsz] at this
      simpa [List.take_of_length_le] using this

theorem regex_Set_spec {w : World} {f : Nat → Bool} {n0 n1 n2 n3 : Nat} {K : Option Addr → World → Prop} (hw : Words f n0 n1 n2 n3)
    (hk : ∀ p w', Keeps No w w' → (∀ M : Nat → Prop, Old M w → Nd (V M w') p (.set f)) → K p w') : regex_Set.C (n0, n1, n2, n3) w K := by
  refine regex_Set.ok _ _ _ ?_
  unfold regex_Set.M
  refine Al.mk fun b1 w1 h1 => ?_
  refine Ld.int (cell_of h1.at_ rfl) (Ld.int (cell_of h1.at_ rfl) (Ld.int (cell_of h1.at_ rfl) (Ld.int (cell_of h1.at_ rfl) ?_)))
  refine Al.mk fun b2 w2 h2 => ?_
  refine hk _ _ (h1.keeps.trans h2.keeps) fun M hM => ?_
  refine .set (n0 := n0) (n1 := n1) (n2 := n2) (n3 := n3) ⟨fun hm => ?_, h2.at_⟩ hw
  have := hM _ hm; have := h1.size; have := h2.eq; omega

theorem regex_Empty_spec {w : World} {K : Option Addr → World → Prop}
    (hk : ∀ p w', Keeps No w w' → (∀ M : Nat → Prop, Old M w → Nd (V M w') p .empty) → K p w') : regex_Empty.C w K := by
  refine regex_Empty.ok _ _ ?_
  unfold regex_Empty.M
  refine Al.mk fun b1 w1 h1 => ?_
  exact hk _ _ h1.keeps fun M hM => .empty ⟨fun hm => by have := hM _ hm; have := h1.eq; omega, h1.at_⟩

/-- What 'two' makes of several. -/
def twoOf (f : Re → Re → Re) (none : Re) : List Re → Re
  | [] => none
  | [a] => a
  | a :: b :: l => f a (twoOf f none (b :: l))

theorem twoOf_cons (f : Re → Re → Re) (none a : Re) {l : List Re} (h : l ≠ []) : twoOf f none (a :: l) = f a (twoOf f none l) := by
  cases l with
  | nil => exact absurd rfl h
  | cons b l => rfl

theorem regex_two_spec {kind : Int} {f : Re → Re → Re} {M : Nat → Prop} {w : World} {none : Option Addr} {nx : Re} {l : Sl} {ps : List (Option Addr)} {xs : List Re} {K : Option Addr → World → Prop}
    (hkf : (kind = 2 ∧ f = .cat) ∨ (kind = 3 ∧ f = .or)) (hM : Old M w) (hl : SlT .ptr (V M w) l ps) (ha : All2 (Nd (V M w)) ps xs) (hn : Nd (V M w) none nx) (hlen : ps.length < 1000000000)
    (hk : ∀ p w', Keeps No w w' → Nd (V M w') p (twoOf f nx xs) → K p w') : regex_two.C kind none l w K := by
  refine regex_two.ok _ _ _ _ _ ?_
  unfold regex_two.M
  have hln := hl.1; have hal := ha.length
  refine Loop.mk (fun s w' => w' = w ∧ 0 ≤ s ∧ s ≤ ps.length) (fun s => (ps.length : Nat) - s.toNat) ⟨rfl, by omega, by omega⟩ ?_
  rintro s w1 ⟨rfl, h0, h1⟩ R hR
  refine Br.mk (fun ht => ?_) (fun hf => ?_)
  · have ht : s < ps.length := by simpa [hln] using ht
    refine IdxS.get (M := M) hl h0 ht fun q hq => ?_
    obtain ⟨y, hy, hN⟩ := ha.get _ _ hq
    obtain ⟨b, _, _, _, _, _, _, rfl, -⟩ := hN.out
    refine hR _ _ ⟨rfl, ?_, ?_⟩ ?_ <;> rw [w64_eq (by omega)] <;> omega
  · refine Br.mk (fun ht => ?_) (fun hf => ?_)
    · have : ps.length = 0 := by simpa [hln] using ht
      have hx : xs = [] := List.eq_nil_of_length_eq_zero (by omega)
      subst hx
      exact hk _ _ Keeps.refl hn
    · have hpos : 0 < ps.length := by
        have : ¬ ps.length = 0 := by simpa [hln] using hf
        omega
      rw [w64_eq (by omega), w64_eq (by omega)]
      refine IdxS.get (M := M) hl (by omega) (by omega) fun q hq => ?_
      obtain ⟨y, hy, hN⟩ := ha.get _ _ hq
      refine Loop.mk (fun s w' => Keeps No w1 w' ∧ ∃ k : Nat, k < ps.length ∧ s.2 = (k : Int) - 1 ∧ Nd (V M w') s.1 (twoOf f nx (xs.drop k))) (fun s => (s.2 + 1).toNat) ?_ ?_
      · refine ⟨Keeps.refl, ps.length - 1, by omega, by simp only []; omega, ?_⟩
        have e : ((l.n : Int) - 1).toNat = ps.length - 1 := by omega
        rw [e] at hy
        have h2 : xs.drop (ps.length - 1) = [y] := by
          rw [List.drop_eq_getElem_cons (by omega), List.drop_of_length_le (by omega)]
          rw [List.getElem?_eq_getElem (by omega)] at hy
          simpa using hy
        rw [h2]; exact hN
      · rintro ⟨o, i⟩ w2 ⟨hk2, k, hkl, hi, hNo⟩ R hR
        simp only [] at hi hNo ⊢
        refine Br.mk (fun ht => ?_) (fun hf2 => ?_)
        · have ht : 0 ≤ i := by simpa using ht
          refine IdxS.get (M := M) (hl.mono (V.keeps0 hk2)) (by omega) (by omega) fun q hq => ?_
          obtain ⟨y, hy, hN⟩ := ha.get _ _ hq
          refine Al.mk fun b1 w3 h3 => Al.mk fun b2 w4 h4 => ?_
          have hk4 := hk2.trans (h3.keeps.trans h4.keeps)
          have e : i.toNat = k - 1 := by omega
          rw [e] at hy
          have hd : xs.drop (k - 1) = y :: xs.drop k := by
            have hy2 := hy
            rw [List.getElem?_eq_getElem (by omega)] at hy2
            rw [List.drop_eq_getElem_cons (by omega), show k - 1 + 1 = k from by omega]
            simp at hy2; rw [hy2]
          have hne : xs.drop k ≠ [] := by
            intro h; have := congrArg List.length h; simp at this; omega
          have hs3 := h3.size; have hs4 := h4.size; have he3 := h3.eq; have he4 := h4.eq; have hs2 := hk2.size
          have hb2 : V M w4 b2 (nobj kind 0 0 0 0 ⟨some ⟨b1, 0, Option.none⟩, 2, 2⟩) := ⟨fun hm => by have := hM _ hm; omega, h4.at_⟩
          have hb1 : V M w4 b1 (.cells #[.pointer q, .pointer o] T.p_regex_Node (0, 0)) := ⟨fun hm => by have := hM _ hm; omega, h4.keeps.blk0 h3.at_⟩
          have hNq := hN.mono (V.keeps0 hk4)
          have hNo' := hNo.mono (V.keeps0 (h3.keeps.trans h4.keeps))
          refine hR _ _ ⟨hk4, k - 1, by omega, ?_, ?_⟩ ?_
          · simp only []; rw [w64_eq (by omega)]; omega
          · simp only []
            rw [hd, twoOf_cons _ _ _ hne]
            rcases hkf with ⟨rfl, rfl⟩ | ⟨rfl, rfl⟩
            · exact .cat hb2 hb1 hNq hNo'
            · exact .or hb2 hb1 hNq hNo'
          · simp only []; rw [w64_eq (by omega)]; omega
        · have : k = 0 := by simp at hf2; omega
          subst this
          exact hk _ _ hk2 (by simpa using hNo)

end Go.Fk
