/-
  A part of the proof: what the functions of the program come to, read off the model: no premise of its own, no axiom. By an AI agent.
-/
import Derived.Test.YtdhgbfbmcingoaaHp
import Derived.Maps.AppendAt
set_option linter.all false
set_option linter.unusedVariables false
namespace Go.Fk
open Go

/-! ## Lists side by side -/
inductive All2 {α β : Type} (R : α → β → Prop) : List α → List β → Prop where
  | nil : All2 R [] []
  | cons {a b l m} (h : R a b) (t : All2 R l m) : All2 R (a :: l) (b :: m)

theorem All2.mono {α β : Type} {R S : α → β → Prop} (h : ∀ a b, R a b → S a b) {l : List α} {m : List β} (x : All2 R l m) : All2 S l m := by
  induction x with
  | nil => exact .nil
  | cons hd _ ih => exact .cons (h _ _ hd) ih
theorem All2.length {α β : Type} {R : α → β → Prop} {l : List α} {m : List β} (x : All2 R l m) : l.length = m.length := by
  induction x with
  | nil => rfl
  | cons _ _ ih => simp [ih]
theorem All2.append {α β : Type} {R : α → β → Prop} {l l' : List α} {m m' : List β} (x : All2 R l m) (y : All2 R l' m') : All2 R (l ++ l') (m ++ m') := by
  induction x with
  | nil => exact y
  | cons hd _ ih => exact .cons hd ih
theorem All2.get {α β : Type} {R : α → β → Prop} {l : List α} {m : List β} (x : All2 R l m) : ∀ (i : Nat) (a : α), l[i]? = some a → ∃ b, m[i]? = some b ∧ R a b := by
  induction x with
  | nil => intro i a h; simp at h
  | cons hd _ ih =>
    intro i a h
    cases i with
    | zero => simp at h; subst h; exact ⟨_, rfl, hd⟩
    | succ i => simp at h; simpa using ih i a h

/-! ## Rows of one-cell elements -/

/-- The slice reads as the list. -/
def SlT (t : Ty) (H : View) (l : Sl) (xs : List t.T) : Prop :=
  l.n = xs.length ∧ (xs = [] ∨ ∃ b off cs E fr, l.a = some ⟨b, off, none⟩ ∧ H b (.cells cs E fr) ∧ ∀ i x, xs[i]? = some x → cs[off + i]? = some (t.enc x))

theorem SlT.mono {t : Ty} {H H' : View} {l : Sl} {xs : List t.T} (h : SlT t H l xs) (hv : Vle H H') : SlT t H' l xs := by
  obtain ⟨h1, h2⟩ := h
  refine ⟨h1, h2.imp id ?_⟩
  rintro ⟨b, off, cs, E, fr, h3, h4, h5⟩
  exact ⟨b, off, cs, E, fr, h3, hv _ _ h4, h5⟩

theorem SlT.nil {t : Ty} {H : View} {a : Option Addr} {c : Nat} : SlT t H ⟨a, 0, c⟩ [] := ⟨rfl, .inl rfl⟩

theorem add_eq (b off n : Nat) : (⟨b, off, none⟩ : Addr).add n = ⟨b, off + n, none⟩ := by
  unfold Addr.add; split
  · rename_i h; subst h; rfl
  · rfl

theorem IdxS.get {t : Ty} {M : Nat → Prop} {w : World} {l : Sl} {xs : List t.T} {i : Int} {K : t.T → Prop} (h : SlT t (V M w) l xs) (h0 : 0 ≤ i) (h1 : i < xs.length)
    (hk : ∀ x, xs[i.toNat]? = some x → K x) : IdxS l i 1 fun p => Ld t p w K := by
  obtain ⟨e1, e2⟩ := h
  have hlt : i.toNat < xs.length := by omega
  have hx : xs[i.toNat]? = some xs[i.toNat] := List.getElem?_eq_getElem hlt
  rcases e2 with rfl | ⟨b, off, cs, E, fr, e3, e4, e5⟩
  · simp at hlt
  · refine ⟨_, e3, ⟨h0, by omega⟩, xs[i.toNat], ?_, hk _ hx⟩
    rw [add_eq, Nat.mul_one]
    exact cell_of e4.2 (e5 _ _ hx)

/-! ## Rows of the call's own -/

/-- What is known of an element type. -/
structure Elem (P : Program) (T E : TypeId) (z : Value) (size bytes : Nat) : Prop where
  sl : P.underlying T = some (.slice E)
  inf : (P.info? E).map (fun i => (i.zero, i.size, i.bytes)) = some (some z, size, bytes)
  cells : z.cells.size = size
  pos : 0 < size

def Sl.val (l : Sl) : Value := .slice l.a l.n l.c
/-- The block in which a slice lies. -/
def Sl.blk (l : Sl) : Nat → Prop := fun b => ∃ a, l.a = some a ∧ a.block = b

/-- The slice is the call's own: it may be appended to. Its block is one from 'base' on. -/
def Own (w : World) (base : Nat) (E size : Nat) (l : Sl) (xs : List Value) : Prop := w.ownsRow base E size l.val l.n xs

theorem ownBlock_val (l : Sl) : l.val.ownBlock = l.a.map (·.block) := by
  unfold Sl.val Value.ownBlock; cases l.a <;> rfl

theorem Keeps.of_grown {w w' : World} {row : Option Nat} (h : w.grownBy w' row) : Keeps (fun b => row = some b) w w' :=
  ⟨h.os, h.tape, h.output, h.size, fun b hb hm => h.block b hb fun e => hm e.symm⟩

theorem Own.nil (w : World) (base E size : Nat) : Own w base E size ⟨none, 0, 0⟩ [] := World.ownsRow_nil w base E size

theorem Own.ge {w : World} {base E size : Nat} {l : Sl} {xs : List Value} (h : Own w base E size l xs) {b : Nat} (hb : l.blk b) : base ≤ b ∧ b < w.heap.size := by
  obtain ⟨a, ha, rfl⟩ := hb
  rcases h.2 with ⟨hv, _⟩ | ⟨g, cap, cur, hv, hge, hg, _⟩
  · simp [Sl.val, ha] at hv
  · simp [Sl.val, ha] at hv
    obtain ⟨rfl, _⟩ := hv
    exact ⟨hge, lt_of_some hg⟩

theorem Own.len {w : World} {base E size : Nat} {l : Sl} {xs : List Value} (h : Own w base E size l xs) : xs.length = l.n * size := h.1

theorem Own.keep {w w' : World} {base E size : Nat} {l : Sl} {xs : List Value} {M : Nat → Prop} (h : Own w base E size l xs) (hk : Keeps M w w') (hM : ∀ b, M b → ¬ l.blk b) : Own w' base E size l xs := by
  refine ⟨h.1, ?_⟩
  rcases h.2 with h2 | ⟨g, cap, cur, hv, hge, hg, h3⟩
  · exact .inl h2
  · refine .inr ⟨g, cap, cur, hv, hge, hk.blk hg (fun hm => hM g hm ?_), h3⟩
    simp only [Sl.val, Value.slice.injEq] at hv
    exact ⟨_, hv.1, rfl⟩

theorem Own.keep0 {w w' : World} {base E size : Nat} {l : Sl} {xs : List Value} (h : Own w base E size l xs) (hk : Keeps No w w') : Own w' base E size l xs := h.keep hk fun _ h => h.elim

/-- What is the call's own may be read. -/
theorem Own.reads {t : Ty} {w : World} {base E : Nat} {l : Sl} {xs : List t.T} {M : Nat → Prop} (h : Own w base E 1 l (xs.map t.enc)) (hM : ∀ b, l.blk b → ¬ M b) : SlT t (V M w) l xs := by
  have h1 := h.1
  simp at h1
  refine ⟨h1.symm, ?_⟩
  rcases h.2 with ⟨hv, hn⟩ | ⟨g, cap, cur, hv, hge, hg, hnc, hcm, hcs, htake⟩
  · exact .inl (List.eq_nil_of_length_eq_zero (by omega))
  · simp only [Sl.val, Value.slice.injEq] at hv
    refine .inr ⟨g, 0, cur, E, (0, 0), hv.1, ⟨hM g ⟨_, hv.1, rfl⟩, hg⟩, fun i x hx => ?_⟩
    have : (xs.map t.enc)[i]? = some (t.enc x) := by simp [hx]
    rw [← htake, List.getElem?_take] at this
    split at this
    · simpa using this
    · cases this

/-- An append of one slice to one of the call's own. -/
theorem append_own {P : Program} {T T' E size bytes base : Nat} {z : Value} {w : World} {l : Sl} {xs : List Value} {b off m c : Nat} {news : List Value} {k : Sl → World → Prop} (hE : Elem P T E z size bytes)
    (hown : Own w base E size l xs) (hl : news.length = m * size) (hnews : ∀ j u, news[j]? = some u → w.cell? ⟨b, off + j, none⟩ = some u) (h1 : ∀ u ∈ news, u.oneCell' = true)
    (hbytes : (l.n + m) * bytes ≤ 140737488355328) (h63 : l.n + m ≤ 9223372036854775807) (hbase : base ≤ w.heap.size)
    (hk : ∀ l' w', Own w' base E size l' (xs ++ news) → l'.n = l.n + m → Keeps l.blk w w' → ((l'.a = none ∧ l.a = none ∧ m = 0) ∨ ∃ g, l'.a = some ⟨g, 0, none⟩ ∧ (l.blk g ∨ w.heap.size ≤ g)) → k l' w') :
    App P (Builtin.append_ #[T, T] T' #[.slice l.a l.n l.c, .slice (some ⟨b, off, none⟩) m c]) (.one .sl) w k := by
  obtain ⟨i, hi, hzz⟩ := Option.map_eq_some_iff.1 hE.inf
  simp only [Prod.mk.injEq] at hzz
  obtain ⟨hz, hs, hb⟩ := hzz
  obtain ⟨v', w', hr, h2, h3, h4, h5⟩ := run_append_own_at (P := P) w base T T' E i z size bytes hE.sl hi hz hs hb hE.cells hE.pos l.val l.n xs hown ⟨b, off, none⟩ m c news hl
    (fun j u hu => by rw [add_eq]; exact hnews j u hu) h1 h63 hbytes hbase
  obtain ⟨a', n', c', rfl, rfl⟩ : ∃ a' n' c', v' = .slice a' n' c' ∧ n' = l.n + m := by
    rcases h2.2 with ⟨rfl, h⟩ | ⟨g, cap, cur, rfl, _⟩
    · exact ⟨none, 0, 0, rfl, h.symm⟩
    · exact ⟨_, _, _, rfl, rfl⟩
  refine ⟨⟨a', l.n + m, c'⟩, w', hr, hk _ _ h2 rfl ((Keeps.of_grown h3).mono fun b _ hb => ?_) ?_⟩
  · rw [ownBlock_val] at hb
    cases ha : l.a with
    | none => simp [ha] at hb
    | some a => simp [ha] at hb; exact ⟨a, ha, hb⟩
  · rcases h2.2 with ⟨hv, hn⟩ | ⟨g, cap, cur, hv, hge, hg, _⟩
    · simp only [Value.slice.injEq] at hv
      obtain ⟨rfl, h6, h7⟩ := hv
      have hln : l.n = 0 := by omega
      have hm : m = 0 := by omega
      subst hm
      refine .inl ⟨rfl, ?_, rfl⟩
      have := (h4.1 (by simp [hln, h7])).1
      simpa [Sl.val] using congrArg (fun v => match v with | .slice a _ _ => a | _ => none) this
    · simp only [Value.slice.injEq] at hv
      obtain ⟨rfl, -, -⟩ := hv
      refine .inr ⟨g, rfl, ?_⟩
      rw [ownBlock_val] at h5
      simp only [Value.ownBlock] at h5
      rcases h5 with h5 | h5
      · left
        cases ha : l.a with
        | none => simp [ha] at h5
        | some a => simp [ha] at h5; exact ⟨a, ha, h5.symm⟩
      · right; simp at h5; omega

/-- 'append(l, x)' of one cell. -/
theorem append1 {P : Program} {T T' E bytes base : Nat} {t : Ty} {z : Value} {w : World} {l : Sl} {xs : List t.T} {x : t.T} {k : Sl → World → Prop} (hE : Elem P T E z 1 bytes)
    (hown : Own w base E 1 l (xs.map t.enc)) (h1 : (t.enc x).oneCell' = true) (hbytes : (l.n + 1) * bytes ≤ 140737488355328) (h63 : l.n + 1 ≤ 9223372036854775807) (hbase : base ≤ w.heap.size)
    (hk : ∀ l' w', Own w' base E 1 l' ((xs ++ [x]).map t.enc) → l'.n = l.n + 1 → Keeps l.blk w w' → (∃ g, l'.a = some ⟨g, 0, none⟩ ∧ (l.blk g ∨ w.heap.size ≤ g)) → k l' w') :
    Al (.cells #[t.enc x] E (0, 0)) w fun b w1 => App P (Builtin.append_ #[T, T] T' #[.slice l.a l.n l.c, .slice (some ⟨b, 0, none⟩) 1 1]) (.one .sl) w1 k := by
  refine Al.mk fun b w1 h => ?_
  refine append_own (news := [t.enc x]) hE (hown.keep0 h.keeps) (by simp) (fun j u hu => ?_) (by simpa using h1) hbytes h63 (by have := h.size; omega) fun l' w' h1 h2 h3 h4 => ?_
  · cases j with
    | zero => simp at hu; subst hu; exact cell_of h.at_ rfl
    | succ j => simp at hu
  · refine hk l' w' (by simpa using h1) h2 ((h.keeps.no).trans h3) ?_
    rcases h4 with ⟨_, _, h4⟩ | ⟨g, h4, h5⟩
    · cases h4
    · exact ⟨g, h4, h5.imp id fun h5 => by have := h.size; omega⟩

end Go.Fk
