/-
  A part of the proof: what the functions of the program come to, read off the model: no premise of its own, no axiom. By an AI agent.
-/
import Derived.Test.YtdhgbfbmcingoaaHp2
set_option linter.all false
set_option linter.unusedVariables false
namespace Go.Fk
open Go

/-! ## Rows of records -/

/-- The slice reads as the list of records, each a list of cells. -/
def SlC (H : View) (l : Sl) (sz : Nat) (xs : List (List Value)) : Prop :=
  l.n = xs.length ∧ (xs = [] ∨ ∃ b off cs E fr, l.a = some ⟨b, off, none⟩ ∧ H b (.cells cs E fr) ∧ ∀ i c, xs[i]? = some c → ∀ j u, c[j]? = some u → cs[off + i * sz + j]? = some u)

theorem SlC.mono {H H' : View} {l : Sl} {sz : Nat} {xs : List (List Value)} (h : SlC H l sz xs) (hv : Vle H H') : SlC H' l sz xs := by
  obtain ⟨h1, h2⟩ := h
  refine ⟨h1, h2.imp id ?_⟩
  rintro ⟨b, off, cs, E, fr, h3, h4, h5⟩
  exact ⟨b, off, cs, E, fr, h3, hv _ _ h4, h5⟩
theorem SlC.nil {H : View} {a : Option Addr} {c sz : Nat} : SlC H ⟨a, 0, c⟩ sz [] := ⟨rfl, .inl rfl⟩

theorem IdxS.recd {M : Nat → Prop} {w : World} {l : Sl} {sz : Nat} {xs : List (List Value)} {i : Int} {K : Addr → Prop} (h : SlC (V M w) l sz xs) (h0 : 0 ≤ i) (h1 : i < xs.length)
    (hk : ∀ g off c, xs[i.toNat]? = some c → (∀ j u, c[j]? = some u → w.cell? ⟨g, off + j, none⟩ = some u) → K ⟨g, off, none⟩) : IdxS l i sz K := by
  obtain ⟨e1, e2⟩ := h
  have hlt : i.toNat < xs.length := by omega
  have hx : xs[i.toNat]? = some xs[i.toNat] := List.getElem?_eq_getElem hlt
  rcases e2 with rfl | ⟨b, off, cs, E, fr, e3, e4, e5⟩
  · simp at hlt
  · refine ⟨_, e3, ⟨h0, by omega⟩, ?_⟩
    rw [add_eq]
    exact hk _ _ _ hx fun j u hu => cell_of e4.2 (e5 _ _ hx _ _ hu)

theorem flatten_get {α : Type} {sz : Nat} : ∀ {xs : List (List α)}, (∀ c ∈ xs, c.length = sz) → ∀ {i : Nat} {c : List α} {j : Nat} {u : α}, xs[i]? = some c → c[j]? = some u → xs.flatten[i * sz + j]? = some u
  | [], _, i, c, j, u, h, _ => by simp at h
  | x :: xs, hl, 0, c, j, u, h, hu => by
    simp at h; subst h
    have := (List.getElem?_eq_some_iff.1 hu).1
    rw [Nat.zero_mul, Nat.zero_add, List.flatten_cons, List.getElem?_append_left this]; exact hu
  | x :: xs, hl, i + 1, c, j, u, h, hu => by
    simp at h
    have h1 := flatten_get (fun c hc => hl c (by simp [hc])) h hu
    have h2 := hl x (by simp)
    rw [List.flatten_cons, List.getElem?_append_right (by rw [h2, Nat.add_mul]; omega), h2]
    rw [← h1]
    congr 1
    rw [Nat.add_mul]; omega

theorem flatten_len {α : Type} {sz : Nat} : ∀ {xs : List (List α)}, (∀ c ∈ xs, c.length = sz) → xs.flatten.length = xs.length * sz
  | [], _ => by simp
  | x :: xs, hl => by
    rw [List.flatten_cons, List.length_append, flatten_len (fun c hc => hl c (by simp [hc])), hl x (by simp), List.length_cons, Nat.add_mul]; omega

theorem Own.readsC {w : World} {base E sz : Nat} {l : Sl} {xs : List (List Value)} {M : Nat → Prop} (h : Own w base E sz l xs.flatten) (hsz : 0 < sz) (hl : ∀ c ∈ xs, c.length = sz) (hM : ∀ b, l.blk b → ¬ M b) : SlC (V M w) l sz xs := by
  have h1 := h.1
  rw [flatten_len hl] at h1
  have hn : l.n = xs.length := (Nat.eq_of_mul_eq_mul_right hsz h1).symm
  refine ⟨hn, ?_⟩
  rcases h.2 with ⟨hv, hn0⟩ | ⟨g, cap, cur, hv, hge, hg, hnc, hcm, hcs, htake⟩
  · exact .inl (List.eq_nil_of_length_eq_zero (by omega))
  · simp only [Sl.val, Value.slice.injEq] at hv
    refine .inr ⟨g, 0, cur, E, (0, 0), hv.1, ⟨hM g ⟨_, hv.1, rfl⟩, hg⟩, fun i c hc j u hu => ?_⟩
    have := flatten_get hl hc hu
    rw [← htake, List.getElem?_take] at this
    split at this
    · simpa using this
    · cases this

/-- An append of one record. -/
theorem appendC {P : Program} {T T' E sz bytes base : Nat} {z : Value} {w : World} {l : Sl} {xs : List (List Value)} {c : List Value} {b : Nat} {k : Sl → World → Prop} (hE : Elem P T E z sz bytes)
    (hown : Own w base E sz l xs.flatten) (hl : c.length = sz) (hb : w.heap[b]? = some (.cells c.toArray E (0, 0))) (h1 : ∀ u ∈ c, u.oneCell' = true) 
    (hbytes : (l.n + 1) * bytes ≤ 140737488355328) (h63 : l.n + 1 ≤ 9223372036854775807) (hbase : base ≤ w.heap.size)
    (hk : ∀ l' w', Own w' base E sz l' (xs ++ [c]).flatten → l'.n = l.n + 1 → Keeps l.blk w w' → (∃ g, l'.a = some ⟨g, 0, none⟩ ∧ (l.blk g ∨ w.heap.size ≤ g)) → k l' w') :
    App P (Builtin.append_ #[T, T] T' #[.slice l.a l.n l.c, .slice (some ⟨b, 0, none⟩) 1 1]) (.one .sl) w k := by
  refine append_own (news := c) hE hown (by simp [hl]) (fun j u hu => ?_) h1 hbytes h63 hbase fun l' w' h1 h2 h3 h4 => ?_
  · rw [Nat.zero_add]; exact cell_of hb (by simpa using hu)
  · refine hk l' w' (by simpa using h1) h2 h3 ?_
    rcases h4 with ⟨_, _, h4⟩ | h4
    · cases h4
    · exact h4

end Go.Fk
