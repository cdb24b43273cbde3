/-
  A part of the proof: what the functions of the program come to, read off the model: no premise of its own, no axiom. By an AI agent.
-/
import Derived.Test.YtdhgbfbmcingoaaMs
import Derived.Test.YtdhgbfbmcingoaaM2
import Derived.Test.YtdhgbfbmcingoaaMaps
set_option linter.all false
set_option linter.unusedVariables false
namespace Go.Fk
open Go Go.MapKept Go.Maps
open Go.WideElems (Fit rd rg rg_of)

/-! ## Sets of numbers -/

theorem setTy : MapTy P T.nfa_set T.int 4 (.int .i64) .bool := ⟨Go.Proofs.Try.underlying59, int_keyed Go.Proofs.Try.underlying3⟩

abbrev SetAt (H : View) (m : Nat) (S : Int → Prop) : Prop := MapAt P T.int (.int .i64) .bool H m fun k v => S k ∧ v = true
abbrev SetO (H : View) (mo : Option Nat) (S : Int → Prop) : Prop := MapO P T.int (.int .i64) .bool H mo fun k v => S k ∧ v = true

theorem SetO.congr {H : View} {mo : Option Nat} {S S' : Int → Prop} (h : SetO H mo S) (hr : ∀ k, S k ↔ S' k) : SetO H mo S' := MapO.congr h fun x y => by rw [hr x]
theorem SetAt.congr {H : View} {m : Nat} {S S' : Int → Prop} (h : SetAt H m S) (hr : ∀ k, S k ↔ S' k) : SetAt H m S' := MapAt.congr h fun x y => by rw [hr x]

/-- A number that may be a position. -/
def Pos (k : Int) : Prop := 0 ≤ k ∧ k < 1000000

theorem Pos.ok {k : Int} (h : Pos k) : OkKey P T.int (.int .i64 k) := by
  refine ⟨.int .i64 k, keyOf_int_mk Go.Proofs.Try.underlying3 ?_⟩
  obtain ⟨h1, h2⟩ := h
  have e1 : IntKind.min .i64 = -9223372036854775808 := rfl
  have e2 : IntKind.max .i64 = 9223372036854775807 := rfl
  simp only [Lit.wf, Bool.and_eq_true, decide_eq_true_eq, e1, e2]
  omega

/-- maps.Copy(dst, src) -/
theorem maps_Copy_spec {w : World} {dst : Nat} {src : Option Nat} {M M' : Nat → Prop} {D S : Int → Prop} {K : Unit → World → Prop} (hd : SetAt (V M' w) dst D) (hs : SetO (V M w) src S) (hne : src ≠ some dst) (hp : ∀ k, S k → Pos k)
    (hK : ∀ w', Keeps (· = dst) w w' → SetAt (V M' w') dst (fun k => D k ∨ S k) → K () w') : maps_Copy.C (some dst) src w K := by
  refine maps_Copy.ok _ _ _ _ ?_
  simp only [maps_Copy.M]
  have hlt := hd.lt
  have hout := hd.out
  refine range_map setTy.ty hs (fun r d _ w' => Keeps (fun b => b = dst) w w' ∧ SetAt (V M' w') dst fun k => D k ∨ d k) ?_ ?_ ?_ ?_
  · intro r w' hr hk
    exact ⟨hk.no, SetAt.congr (hd.keep hk id hout) fun k => by simp⟩
  · intro r d _ w1 w2 hr ⟨h1, h2⟩ hk
    exact ⟨h1.then hk fun i hi e => by omega, h2.keep hk (fun e => by omega) hout⟩
  · rintro r d _ w2 x y hr hr2 ⟨h1, h2⟩ ⟨hx, rfl⟩ hnd hm again hagain
    refine App0.put (M := M') (kt := .int .i64) (vt := .bool) (x := x) (y := true) setTy h2 (hp x hx).ok fun w' hk hz hs' => ?_
    refine hagain () w' ⟨h1.trans hk, ?_⟩ ?_ ?_
    · refine MapAt.congr hs' fun a b => ?_
      by_cases hax : a = x
      · subst hax; simp
      · simp [hax]
    · exact hk.keep r hr2 (by omega)
    · rintro m rfl
      by_cases hm2 : m < w2.heap.size
      · exact hk.keep m hm2 fun e => hne (by rw [e])
      · rw [Array.getElem?_eq_none (by omega), Array.getElem?_eq_none (by omega)]
  · rintro r d _ w2 hr ⟨h1, h2⟩ hd
    exact hK w2 h1 (h2.congr fun k => by rw [hd k]; simp)

/-- s.with(more) -/
theorem nfa_set_with_spec {w : World} {a b : Option Nat} {M : Nat → Prop} {A B : Int → Prop} {K : Option Nat → World → Prop} (ha : SetO (V M w) a A) (ha0 : a ≠ none) (hb : SetO (V M w) b B) (hp : ∀ k, B k → Pos k)
    (hK : ∀ m w', Keeps No w w' → w.heap.size ≤ m → SetAt (V No w') m (fun k => A k ∨ B k) → K (some m) w') : nfa_set_with.C a b w K := by
  refine nfa_set_with.ok _ _ _ _ ?_
  simp only [nfa_set_with.M]
  cases a with
  | none => exact absurd rfl ha0
  | some a =>
    obtain ⟨es, clock, ⟨h0, h1⟩, h2⟩ := ha
    refine Calls.mono (Go.Proofs.Try.maps_Clone a es clock w h1) ?_
    rintro e w' ⟨rfl, rfl⟩
    refine ⟨some w.heap.size, rfl, ?_⟩
    refine Al.mk (o := .map es clock) (w := w) (k := fun b' w' => b' = w.heap.size → maps_Copy.C (some b') b w' fun _ w2 => K (some b') w2) (fun b' w1 hn hb' => ?_) rfl
    have h3 : SetAt (V No w1) b' A := ⟨es, clock, ⟨id, hn.at_⟩, h2⟩
    refine maps_Copy_spec h3 (hb.mono (V.keeps0 hn.keeps)) ?_ hp fun w2 hk h4 => ?_
    · rintro rfl
      have := MapAt.lt hb
      omega
    · exact hK b' w2 ((hn.keeps.no (M := No)).then hk fun i hi e => by omega) (by omega) h4

theorem nodup_bound : ∀ (n : Nat) (l : List Int), l.Nodup → (∀ k ∈ l, 0 ≤ k ∧ k < n) → l.length ≤ n := by
  intro n
  induction n with
  | zero =>
    intro l _ h
    cases l with
    | nil => simp
    | cons a l => have := h a (by simp); omega
  | succ n ih =>
    intro l hn h
    have h1 : (l.erase (n : Int)).length ≤ n := ih _ (hn.erase _) fun k hk => by
      have h2 := (hn.mem_erase_iff).1 hk
      have h3 := h k h2.2
      have h4 : k ≠ (n : Int) := h2.1
      omega
    have := List.length_erase (a := (n : Int)) (l := l)
    split at this <;> omega

def boolElem (v : Value) : Option (DataW Unit × List MemPlace) := match v with
  | .bool b => some (.lit (.bool b), [])
  | _ => none

theorem sorted_unique : ∀ {l l' : List Int}, l.Pairwise (· < ·) → l'.Pairwise (· < ·) → (∀ k, k ∈ l ↔ k ∈ l') → l = l'
  | [], [], _, _, _ => rfl
  | [], b :: l', _, _, h => by have := (h b).2 (by simp); simp at this
  | a :: l, [], _, _, h => by have := (h a).1 (by simp); simp at this
  | a :: l, b :: l', h1, h2, h => by
    rw [List.pairwise_cons] at h1 h2
    have hab : a = b := by
      have h3 := (h a).1 (by simp)
      have h4 := (h b).2 (by simp)
      rcases List.mem_cons.1 h3 with h3 | h3
      · exact h3
      · rcases List.mem_cons.1 h4 with h4 | h4
        · exact h4.symm
        · have := h2.1 a h3; have := h1.1 b h4; omega
    subst hab
    rw [sorted_unique h1.2 h2.2 fun k => ?_]
    have := h k
    simp only [List.mem_cons] at this
    constructor
    · intro hk
      rcases this.1 (.inr hk) with rfl | h5
      · have := h1.1 _ hk; omega
      · exact h5
    · intro hk
      rcases this.2 (.inr hk) with rfl | h5
      · have := h2.1 _ hk; omega
      · exact h5

/-- s.sorted() -/
theorem nfa_set_sorted_spec {w : World} {mo : Option Nat} {M : Nat → Prop} {S : Int → Prop} {K : Sl → World → Prop} (h : SetO (V M w) mo S) (hp : ∀ k, S k → Pos k)
    (hK : ∀ (l : Sl) (xs : List Int) w', Keeps No w w' → Own w' w.heap.size T.int 1 l (xs.map (Ty.int .i64).enc) → xs.Pairwise (· < ·) → (∀ k, k ∈ xs ↔ S k) → K l w') : nfa_set_sorted.C mo w K := by
  refine nfa_set_sorted.ok _ _ _ ?_
  simp only [nfa_set_sorted.M]
  refine Calls.mono (Go.Proofs.Try.maps_Keys mo w) ?_
  rintro e w1 ⟨rfl, rfl⟩
  refine ⟨.func (.func 54) #[] #[.pointer (some ⟨w.heap.size, 0, none⟩)], rfl, ?_⟩
  have hk0 : Keeps No w (w.alloc (.cells #[.map mo] 59)) := Al.mk (o := .cells #[.map mo] 59) (w := w) (k := fun b' w' => Keeps No w w') (fun _ _ hn => hn.keeps) 
  cases mo with
  | none =>
    refine Calls.mono (Go.Proofs.Try.slices_Sorted_nil w) ?_
    rintro e w2 ⟨rfl, hb⟩
    refine ⟨⟨none, 0, 0⟩, rfl, hK _ [] w2 (hk0.trans (Keeps.of_below (by simpa using hb))) (Own.nil _ _ _ _) .nil fun k => ?_⟩
    simp
    intro hk
    exact h k true ⟨hk, rfl⟩
  | some m =>
    obtain ⟨es, clock, ⟨h0, hb⟩, hs, h3, h4⟩ := h
    have hread : ∀ e ∈ es.toList, ∃ k : Int, e.key = .int .i64 k ∧ S k ∧ rd P T.int boolElem e = some (.int .i64 k, .lit (.bool true)) := by
      intro e he
      obtain ⟨⟨l, hl⟩, k, v, h5, h6, h7, rfl⟩ := h3 e he
      refine ⟨k, h5, h7, ?_⟩
      have h8 := hl
      rw [h5] at h8
      obtain ⟨k', h9, rfl, _⟩ := keyOf_i64 Go.Proofs.Try.underlying3 h8
      cases encZ_inj h9
      simp [rd, hl, h6, boolElem, Ty.enc]
    have hrg : ∀ e ∈ es.toList, ∃ k : Int, e.key = .int .i64 k ∧ S k ∧ rg P T.int boolElem e = (.int .i64 k, .lit (.bool true)) := by
      intro e he
      obtain ⟨k, h5, h6, h7⟩ := hread e he
      exact ⟨k, h5, h6, rg_of h7⟩
    have hkeys : ∀ k, k ∈ es.toList.map (fun e => intOf (rg P T.int boolElem e).1) ↔ S k := by
      intro k
      rw [List.mem_map]
      constructor
      · rintro ⟨e, he, rfl⟩
        obtain ⟨k, _, h6, h7⟩ := hrg e he
        rw [h7]; exact h6
      · intro hk
        obtain ⟨e, he, h5, _⟩ := h4 k true ⟨hk, rfl⟩
        obtain ⟨k', h8, h6, h7⟩ := hrg e he
        rw [h5] at h8
        cases encZ_inj h8
        exact ⟨e, he, by rw [h7]; rfl⟩
    have hnd : (es.toList.map (fun e => intOf (rg P T.int boolElem e).1)).Nodup := by
      rw [List.Nodup, List.pairwise_map]
      refine List.Pairwise.imp_of_mem ?_ ((stamped_iff es clock).1 hs).2.2
      intro a b ha hb hne he
      obtain ⟨k, h5, _, h7⟩ := hrg a ha
      obtain ⟨k', h5', _, h7'⟩ := hrg b hb
      rw [h7, h7'] at he
      simp only [intOf] at he
      exact hne (by rw [h5, h5', he])
    have hlen : es.size ≤ 1000000 := by
      have := nodup_bound 1000000 _ hnd fun k hk => hp k ((hkeys k).1 hk)
      simpa using this
    have hown : World.ownsMap w P T.int boolElem m es.size (.map ((es.toList.map (rg P T.int boolElem)).foldr DataW.insert [])) := by
      refine ⟨es, clock, hb, ⟨?_, hs, fun e he => ?_⟩, Nat.le_refl _, rfl⟩
      · have : (1000000 : Nat) ≤ maxLen := by decide
        omega
      · obtain ⟨k, _, _, h7⟩ := hread e he
        exact ⟨_, h7⟩
    have hsize : Maps.size (DataW.map ((es.toList.map (rg P T.int boolElem)).foldr DataW.insert [])) = es.size := by
      rw [size_eq, length_sorted]; simp
    refine Calls.mono (Go.Proofs.Try.slices_Sorted m es.size _ boolElem w hown ?_ ?_) ?_
    · rw [hsize]
      have : (1000000 : Nat) ≤ maxLen := by decide
      omega
    · rw [hsize]; omega
    · rintro e w2 ⟨v, ss, rfl, hperm, hrow, _, hbelow⟩
      have hperm2 : ss.Perm (es.toList.map (fun e => intOf (rg P T.int boolElem e).1)) := by
        refine hperm.trans ?_
        have : intKeys (DataW.map ((es.toList.map (rg P T.int boolElem)).foldr DataW.insert [])) = ((es.toList.map (rg P T.int boolElem)).foldr DataW.insert []).map fun p => intOf p.1 := rfl
        rw [this]
        have h9 := (Go.WideShapes.sorted_perm (es.toList.map (rg P T.int boolElem))).map fun p => intOf p.1
        rw [List.map_map] at h9
        simpa only [Function.comp_def] using h9
      have hms := List.mergeSort_perm ss (fun x y => decide (x ≤ y))
      have hnd2 : (ss.mergeSort (fun x y => decide (x ≤ y))).Nodup := (hms.trans hperm2).nodup_iff.2 hnd
      have hsorted : (ss.mergeSort (fun x y => decide (x ≤ y))).Pairwise (· < ·) := by
        have h1 := List.pairwise_mergeSort (le := fun x y : Int => decide (x ≤ y)) (fun a b c h1 h2 => by simp only [decide_eq_true_eq] at *; omega) (fun a b => by simp only [Bool.or_eq_true, decide_eq_true_eq]; omega) ss
        exact (h1.and hnd2).imp fun {a b} ⟨h2, h3⟩ => by simp only [decide_eq_true_eq] at h2; have h3 : a ≠ b := h3; omega
      obtain ⟨a, n, c, rfl⟩ : ∃ a n c, v = .slice a n c := by
        rcases hrow.2 with ⟨rfl, h⟩ | ⟨g, cap, cur, rfl, _⟩
        · exact ⟨_, _, _, rfl⟩
        · exact ⟨_, _, _, rfl⟩
      have hlen2 : n = ss.length := by
        rcases hrow.2 with ⟨hv, h⟩ | ⟨g, cap, cur, hv, _⟩
        · cases hv; omega
        · cases hv; rfl
      subst hlen2
      refine ⟨⟨a, ss.length, c⟩, rfl, hK _ (ss.mergeSort (fun x y => decide (x ≤ y))) w2 ?_ ?_ hsorted fun k => ?_⟩
      · have : w.heap.size + 1 = (w.alloc (.cells #[.map (some m)] 59)).heap.size := by simp
        rw [this] at hbelow
        exact hk0.trans (Keeps.of_below hbelow)
      · obtain ⟨h1, h2⟩ := hrow
        refine ⟨h1, h2.imp id ?_⟩
        rintro ⟨g, cap, cur, hv, hge, hrest⟩
        exact ⟨g, cap, cur, hv, by omega, hrest⟩
      · rw [hms.mem_iff, hperm2.mem_iff, hkeys]
end Go.Fk
