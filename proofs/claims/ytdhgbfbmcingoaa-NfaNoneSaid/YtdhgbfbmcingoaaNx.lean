/-
  A part of the proof: what the functions of the program come to, read off the model: no premise of its own, no axiom. By an AI agent.
-/
import Derived.Test.YtdhgbfbmcingoaaNw
set_option linter.all false
set_option linter.unusedVariables false
namespace Go.Fk
open Go Go.MapKept

theorem parse_awake : parseF (bs ⟨#[97, 98, 42]⟩) = (.cat (.set fun i => i == 97) (.star (.set fun i => i == 98)), 0, 0) := by rfl

theorem ints_spec {M : Nat → Prop} {w : World} {a b : Sl} {xs ys : List Int} {K : Bool → World → Prop} (ha : SlT (.int .i64) (V M w) a xs) (hb : SlT (.int .i64) (V M w) b ys) (hlen : xs.length < 1000000000)
    (hK : ∀ w', Keeps No w w' → K (decide (xs = ys)) w') : frisketlaw06_ints.C a b w K := by
  refine frisketlaw06_ints.ok _ _ _ _ ?_
  simp only [frisketlaw06_ints.M]
  have h1 := ha.1; have h2 := hb.1
  refine Br.mk (fun ht => ?_) (fun hf => ?_)
  · have hne : xs ≠ ys := fun e => by subst e; simp [h1, h2] at ht
    have := hK w Keeps.refl
    rwa [decide_eq_false hne] at this
  · have hl : xs.length = ys.length := by
      have : (a.n : Int) = b.n := by simpa using hf
      omega
    refine Loop.mk (fun s w' => Keeps No w w' ∧ 0 ≤ s ∧ s ≤ xs.length ∧ ∀ i : Nat, i < s → xs[i]? = ys[i]?) (fun s => (xs.length : Nat) - s.toNat) ⟨Keeps.refl, by omega, by omega, fun i hi => by omega⟩ ?_
    rintro s w1 ⟨k1, g0, g1, g2⟩ R hR
    refine Br.mk (fun ht => ?_) (fun hf => ?_)
    · have ht : s < xs.length := by simpa [h1] using ht
      refine Draw.mk fun w2 e2 k2 => ?_
      have hS : ∀ w', w' = w2 → Vle (V M w) (V No w') := fun w' e => e ▸ (V.keeps0 (k1.trans k2)).trans (V.sub fun _ _ h => h.elim)
      refine IdxS.getS ha hS g0 ht fun x hx => IdxS.getS hb hS g0 (by omega) fun y hy => ?_
      refine Br.mk (fun he => ?_) (fun he => ?_)
      · have hne : x ≠ y := by simpa using he
        have hne2 : xs ≠ ys := fun e => by subst e; rw [hx] at hy; cases hy; exact hne rfl
        have := hK w2 (k1.trans k2)
        rwa [decide_eq_false hne2] at this
      · have heq : x = y := by simpa using he
        rw [w64_eq (by omega)]
        refine hR _ w2 ⟨k1.trans k2, by omega, by omega, fun i hi => ?_⟩ (by omega)
        by_cases e : (i : Int) = s
        · have : s.toNat = i := by omega
          rw [this] at hx hy
          rw [hx, hy, heq]
        · exact g2 i (by omega)
    · have hf : (xs.length : Int) ≤ s := by have := of_decide_eq_false hf; omega
      have he : xs = ys := by
        refine List.ext_getElem? fun i => ?_
        by_cases hi : i < xs.length
        · exact g2 i (by omega)
        · rw [List.getElem?_eq_none (by omega), List.getElem?_eq_none (by omega)]
      have := hK w1 k1
      rwa [decide_eq_true he] at this

/-- A new row of numbers. -/
theorem Al.ints {w : World} {vs : List Int} {n : Nat} {k : Nat → World → Prop} (hn : vs.length = n) (hk : ∀ b w', Keeps No w w' → w.heap.size ≤ b → SlT (.int .i64) (V No w') ⟨some ⟨b, 0, none⟩, n, n⟩ vs → k b w') :
    Al (.cells (vs.map (Value.int .i64)).toArray T.int (0, 0)) w k := by
  refine Al.mk fun b w1 n1 => hk b w1 n1.keeps (by have := n1.eq; omega) ⟨hn.symm, .inr ⟨b, 0, _, _, _, rfl, ⟨id, n1.at_⟩, fun i x hx => ?_⟩⟩
  simp [hx, Ty.enc]

theorem rising_unique {xs ys : List Int} {S : Int → Prop} (h : Rising xs S) (h' : ys.Pairwise (· < ·)) (e : ∀ k, k ∈ ys ↔ S k) : xs = ys := sorted_unique h.1 h' fun k => by rw [h.2, e]

theorem size_in {x : Re} (h : x.size < 1000) : x.size < 1000000000000 := by omega

theorem rising_len {xs : List Int} {S : Int → Prop} (h : Rising xs S) (hp : ∀ k, S k → 0 ≤ k ∧ k < 1000000) : xs.length < 1000000000 := by
  have := nodup_bound 1000000 xs (h.1.imp fun {a b} h => by intro e; omega) fun k hk => by have := hp k ((h.2 k).1 hk); omega
  omega

theorem awake_spec {w : World} {K : Bool → World → Prop} (hK : ∀ w', Keeps No w w' → K true w') : frisketlaw06_awake.C w K := by
  refine frisketlaw06_awake.ok _ _ ?_
  simp only [frisketlaw06_awake.M]
  refine regex_Parse_spec (by unfold Small; decide) fun p w1 k1 hN _ => ?_
  rw [parse_awake] at hN ⊢
  have hN := hN rfl
  have hN : Nd (V No w1) p _ := hN.mono (V.sub fun _ _ h => h.elim)
  refine Al.mk fun b1 w2 n2 => ?_
  have k2 : Keeps No w w2 := k1.trans n2.keeps
  refine nfa_New_spec (M := No) (xs := [.cat (.set fun i => i == 97) (.star (.set fun i => i == 98))]) (fun b h => h.elim) (row1 ⟨id, n2.at_⟩) (.cons (hN.mono (V.keeps0 n2.keeps)) .nil) (by simp) (by simp) (by simp [Re.size]) fun m e w3 k3 h3 _ => ?_
  obtain ⟨rfl, hm⟩ := h3 (by simp [mCnt, Re.cnt])
  have k3 := k2.trans k3
  dsimp only
  show nfa_Machine_First.C _ _ _ _
  have hm : MachO (V No w3) m _ _ _ := .inr hm
  have s0 : ∀ i q, ((knAt (mKs 0 [.cat (.set fun i => i == 97) (.star (.set fun i => i == 98))]) i).first q ∨ (knAt (mKs 0 [.cat (.set fun i => i == 97) (.star (.set fun i => i == 98))]) i).last q) → 0 ≤ q ∧ q < 1000000 := fun i q hq => by
    have h1 := hm.kin i q hq
    have h2 := hm.few
    omega
  refine nfa_Machine_First_spec hm fun l xs w4 k4 o4 r4 => ?_
  refine Al.ints (vs := [0]) rfl fun b5 w5 k5 g5 t5 => ?_
  refine ints_spec (M := No) ((o4.keep0 k5).reads fun _ _ h => h) t5 (rising_len r4 fun q hq => s0 0 q (.inl hq)) fun w6 k6 => ?_
  have e4 : xs = [0] := rising_unique r4 (by simp) fun k => by simp [knAt, mKs, Re.first, Re.emp]
  subst e4
  show nfa_Machine_Last.C _ _ _ _
  have k36 := (k4.trans k5).trans k6
  refine nfa_Machine_Last_spec (hm.mono (V.keeps0 k36)) fun l7 xs7 w7 k7 o7 r7 => ?_
  refine Al.ints (vs := [0, 1]) rfl fun b8 w8 k8 g8 t8 => ?_
  refine ints_spec (M := No) ((o7.keep0 k8).reads fun _ _ h => h) t8 (rising_len r7 fun q hq => s0 0 q (.inr hq)) fun w9 k9 => ?_
  have e7 : xs7 = [0, 1] := rising_unique r7 (by simp) fun k => by simp [knAt, mKs, Re.last, Re.emp, Re.cnt]; omega
  subst e7
  show nfa_Machine_Follow.C _ _ _ _
  have k39 := k36.trans ((k7.trans k8).trans k9)
  refine nfa_Machine_Follow_spec (hm.mono (V.keeps0 k39)) fun l10 xs10 w10 k10 o10 r10 => ?_
  have f10 := hm.few
  refine Al.ints (vs := [1]) rfl fun b11 w11 k11 g11 t11 => ?_
  refine ints_spec (M := No) ((o10.keep0 k11).reads fun _ _ h => h) t11 (rising_len r10 fun q hq => by have := hm.fin hq.1 hq.2; omega) fun w12 k12 => ?_
  have e10 : xs10 = [1] := rising_unique r10 (by simp) fun k => by
    simp [mFol, mFs, Re.fol, Re.poss, Re.last, Re.first, Re.cnt]
  subst e10
  exact hK w12 ((k3.trans k39).trans ((k10.trans k11).trans k12))

theorem nfa_Machine_Run_none {w : World} {s : ByteArray} {K : Sl → World → Prop} (hK : K ⟨none, 0, 0⟩ w) : nfa_Machine_Run.C none s w K := by
  refine nfa_Machine_Run.ok _ _ _ _ ?_
  simp only [nfa_Machine_Run.M]
  refine nfa_Machine_Rules_spec (M := No) (F := fun _ _ => False) (.inl ⟨rfl, rfl, rfl⟩) ?_
  refine Loop.mk (fun s w' => w' = w ∧ s = (⟨none, 0, 0⟩, 0)) (fun _ => 0) ⟨rfl, rfl⟩ ?_
  rintro s w1 ⟨rfl, rfl⟩ R hR
  exact hK
end Go.Fk
