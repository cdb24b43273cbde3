/-
  A part of the proof: what the functions of the program come to, read off the model: no premise of its own, no axiom. By an AI agent.
-/
import Derived.Test.YtdhgbfbmcingoaaNm
set_option linter.all false
set_option linter.unusedVariables false
namespace Go.Fk
open Go Go.MapKept

theorem Upd.trans {b : Nat} {o o' : Obj} {w w1 w2 : World} (h : Upd b o w w1) (h' : Upd b o' w1 w2) : Upd b o' w w2 := ⟨h'.at_, h.keeps.trans h'.keeps, h'.size.trans h.size⟩

theorem St3 {b : Nat} {x0 x1 x2 v0 v1 v2 : Value} {E : TypeId} {w : World} {k : World → Prop} (hb : w.heap[b]? = some (.cells #[x0, x1, x2] E (0, 0))) (h : ∀ w', Upd b (.cells #[v0, v1, v2] E (0, 0)) w w' → k w') :
    St ⟨b, 0, none⟩ v0 w fun w1 => St ⟨b, 1, none⟩ v1 w1 fun w2 => St ⟨b, 2, none⟩ v2 w2 k :=
  St.blk hb (by simp) fun w1 u1 => St.blk u1.at_ (by simp) fun w2 u2 => St.blk u2.at_ (by simp) fun w3 u3 => h w3 ((u1.trans u2).trans u3)
theorem St6 {b : Nat} {x0 x1 x2 x3 x4 x5 v0 v1 v2 v3 v4 v5 : Value} {E : TypeId} {w : World} {k : World → Prop} (hb : w.heap[b]? = some (.cells #[x0, x1, x2, x3, x4, x5] E (0, 0))) (h : ∀ w', Upd b (.cells #[v0, v1, v2, v3, v4, v5] E (0, 0)) w w' → k w') :
    St ⟨b, 0, none⟩ v0 w fun w1 => St ⟨b, 1, none⟩ v1 w1 fun w2 => St ⟨b, 2, none⟩ v2 w2 fun w3 => St ⟨b, 3, none⟩ v3 w3 fun w4 => St ⟨b, 4, none⟩ v4 w4 fun w5 => St ⟨b, 5, none⟩ v5 w5 k :=
  St.blk hb (by simp) fun w1 u1 => St.blk u1.at_ (by simp) fun w2 u2 => St.blk u2.at_ (by simp) fun w3 u3 => St.blk u3.at_ (by simp) fun w4 u4 => St.blk u4.at_ (by simp) fun w5 u5 => St.blk u5.at_ (by simp) fun w6 u6 => h w6 (((((u1.trans u2).trans u3).trans u4).trans u5).trans u6)

abbrev kobj (a b : Option Nat) (e : Bool) : Obj := .cells #[.map a, .map b, .bool e] T.nfa_known (0, 0)

theorem Ld3 {b : Nat} {x y : Option Nat} {e : Bool} {w : World} {k : Option Nat → Option Nat → Bool → Prop} (hb : w.heap[b]? = some (kobj x y e)) (h : k x y e) :
    Ld .map ⟨b, 0, none⟩ w fun r0 => Ld .map ⟨b, 1, none⟩ w fun r1 => Ld .bool ⟨b, 2, none⟩ w fun r2 => k r0 r1 r2 :=
  Ld.map (cell_of hb rfl) (Ld.map (cell_of hb rfl) (Ld.bool (cell_of hb rfl) h))

section
variable {w : World} {bm base : Nat} {fs : List ((Nat → Bool) × Int)} {F : Int → Int → Prop} {rl : Sl} {Ft : Nat → Prop}

/-- The state of 'cat' behind the link. -/
structure CatSt (w w5 : World) (bm base : Nat) (fs : List ((Nat → Bool) × Int)) (F : Int → Int → Prop) (rl : Sl) (Ft : Nat → Prop) (x1 x2 x3 bo a1 a2 b1 b2 c1 c2 : Nat) (ea eb e : Bool) : Prop where
  k : Keeps Ft w w5
  m : Mach w5 bm base fs F rl Ft
  h1 : w5.heap[x1]? = some (kobj (some a1) (some a2) ea)
  h2 : w5.heap[x2]? = some (kobj (some b1) (some b2) eb)
  h3 : w5.heap[x3]? = some (kobj none none false)
  ho : w5.heap[bo]? = some (kobj (some c1) (some c2) e)
  n1 : bo ≠ x1
  n2 : bo ≠ x2
  n3 : bo ≠ x3
  ge : w.heap.size ≤ x1 ∧ w.heap.size ≤ x2 ∧ w.heap.size ≤ x3 ∧ w.heap.size ≤ bo

theorem CatSt.keep0 {w w5 w6 : World} {x1 x2 x3 bo a1 a2 b1 b2 c1 c2 : Nat} {ea eb e : Bool} (h : CatSt w w5 bm base fs F rl Ft x1 x2 x3 bo a1 a2 b1 b2 c1 c2 ea eb e) (hk : Keeps No w5 w6) : CatSt w w6 bm base fs F rl Ft x1 x2 x3 bo a1 a2 b1 b2 c1 c2 ea eb e :=
  ⟨h.k.then0 hk, h.m.keep0 hk, hk.blk0 h.h1, hk.blk0 h.h2, hk.blk0 h.h3, hk.blk0 h.ho, h.n1, h.n2, h.n3, h.ge⟩

theorem CatSt.put {w w5 w6 : World} {x1 x2 x3 bo a1 a2 b1 b2 c1 c2 d1 d2 : Nat} {ea eb e : Bool} (hold : Old Ft w) (h : CatSt w w5 bm base fs F rl Ft x1 x2 x3 bo a1 a2 b1 b2 c1 c2 ea eb e) (u : Upd bo (kobj (some d1) (some d2) e) w5 w6) : CatSt w w6 bm base fs F rl Ft x1 x2 x3 bo a1 a2 b1 b2 d1 d2 ea eb e :=
  ⟨h.k.then u.keeps fun i hi e => by have := h.ge; omega, h.m.keep u.keeps fun b e hf => by have := hold b hf; have := h.ge; omega, u.keeps.blk h.h1 (Ne.symm h.n1), u.keeps.blk h.h2 (Ne.symm h.n2), u.keeps.blk h.h3 (Ne.symm h.n3), u.at_, h.n1, h.n2, h.n3, h.ge⟩

/-- m.cat(a, b) -/
theorem nfa_Machine_cat_spec {a1 a2 b1 b2 : Nat} {ea eb : Bool} {A1 A2 B1 B2 : Int → Prop} {K : (Option Nat × Option Nat × Bool) → World → Prop} (hm : Mach w bm base fs F rl Ft)
    (hA1 : SetAt (V Ft w) a1 A1) (hA2 : SetAt (V Ft w) a2 A2) (hB1 : SetAt (V Ft w) b1 B1) (hB2 : SetAt (V Ft w) b2 B2)
    (iA2 : ∀ k, A2 k → 0 ≤ k ∧ k < fs.length) (iB1 : ∀ k, B1 k → 0 ≤ k ∧ k < fs.length)
    (hK : ∀ c1 c2 w', Keeps Ft w w' → Mach w' bm base fs (fun p q => F p q ∨ (A2 p ∧ B1 q)) rl Ft → SetAt (V Ft w') c1 (fun k => A1 k ∨ (ea = true ∧ B1 k)) → SetAt (V Ft w') c2 (fun k => B2 k ∨ (eb = true ∧ A2 k)) → K (some c1, some c2, ea && eb) w') :
    nfa_Machine_cat.C (some ⟨bm, 0, none⟩) (some a1, some a2, ea) (some b1, some b2, eb) w K := by
  have hold := hm.old
  have hfew := hm.few
  have pA2 : ∀ k, A2 k → Pos k := fun k hk => by have := iA2 k hk; unfold Pos; omega
  have pB1 : ∀ k, B1 k → Pos k := fun k hk => by have := iB1 k hk; unfold Pos; omega
  refine nfa_Machine_cat.ok _ _ _ _ _ ?_
  simp only [nfa_Machine_cat.M]
  refine Al.mk fun x1 w1 n1 => Al.mk fun x2 w2 n2 => Al.mk fun x3 w3 n3 => ?_
  have e1 := n1.eq; have e2 := n2.eq; have e3 := n3.eq; have s1 := n1.size; have s2 := n2.size; have s3 := n3.size
  have k3 : Keeps No w w3 := (n1.keeps.trans n2.keeps).trans n3.keeps
  have g1 := n3.keeps.blk0 (n2.keeps.blk0 n1.at_)
  have g2 := n3.keeps.blk0 n2.at_
  refine Ld.map (cell_of g1 rfl) (Ld.map (cell_of g2 rfl) ?_)
  refine nfa_Machine_link_spec (hm.keep0 k3) (hA2.mono (V.keeps0 k3)) (hB1.mono (V.keeps0 k3)) iA2 iB1 fun w4 k4 m4 => ?_
  have kk4 : Keeps Ft w w4 := (k3.no).trans k4
  have nf : ∀ b, w.heap.size ≤ b → ¬ Ft b := fun b hb hf => by have := hold b hf; omega
  have f1 := k4.blk g1 (nf _ (by omega))
  have f2 := k4.blk g2 (nf _ (by omega))
  have f3 := k4.blk n3.at_ (nf _ (by omega))
  -- the first Join: the row of the answer is laid
  refine Join.cut (fun s w5 => ∃ bo, s = ⟨bo, 0, none⟩ ∧ CatSt w w5 bm base fs (fun p q => F p q ∨ (A2 p ∧ B1 q)) rl Ft x1 x2 x3 bo a1 a2 b1 b2 a1 b2 ea eb (ea && eb)) ?_ ?_
  · rintro _ w5 ⟨bo, rfl, c5⟩
    refine Join.cut (fun _ w6 => ∃ c1, CatSt w w6 bm base fs (fun p q => F p q ∨ (A2 p ∧ B1 q)) rl Ft x1 x2 x3 bo a1 a2 b1 b2 c1 b2 ea eb (ea && eb) ∧ SetAt (V Ft w6) c1 (fun k => A1 k ∨ (ea = true ∧ B1 k))) ?_ ?_
    · rintro _ w6 ⟨c1, c6, hc1⟩
      have fin : ∀ {w7 : World} {c2 : Nat}, CatSt w w7 bm base fs (fun p q => F p q ∨ (A2 p ∧ B1 q)) rl Ft x1 x2 x3 bo a1 a2 b1 b2 c1 c2 ea eb (ea && eb) → SetAt (V Ft w7) c1 (fun k => A1 k ∨ (ea = true ∧ B1 k)) → SetAt (V Ft w7) c2 (fun k => B2 k ∨ (eb = true ∧ A2 k)) →
          Ld .map ⟨bo, 0, none⟩ w7 fun x41_0 => Ld .map (Addr.add ⟨bo, 0, none⟩ 1) w7 fun x41_1 => Ld .bool (Addr.add ⟨bo, 0, none⟩ 2) w7 fun x41_2 => St (⟨x3, 0, none⟩) (.map x41_0) w7 fun w9 => St (⟨x3, 1, none⟩) (.map x41_1) w9 fun w10 => St (⟨x3, 2, none⟩) (.bool x41_2) w10 fun w11 => Ld .map (⟨x3, 0, none⟩) w11 fun r0_0 => Ld .map (⟨x3, 1, none⟩) w11 fun r0_1 => Ld .bool (⟨x3, 2, none⟩) w11 fun r0_2 => K (r0_0, r0_1, r0_2) w11 := by
        intro w7 c2 c7 h1 h2
        refine Ld3 (k := fun x41_0 x41_1 x41_2 => St (⟨x3, 0, none⟩) (.map x41_0) w7 fun w9 => St (⟨x3, 1, none⟩) (.map x41_1) w9 fun w10 => St (⟨x3, 2, none⟩) (.bool x41_2) w10 fun w11 => Ld .map (⟨x3, 0, none⟩) w11 fun r0_0 => Ld .map (⟨x3, 1, none⟩) w11 fun r0_1 => Ld .bool (⟨x3, 2, none⟩) w11 fun r0_2 => K (r0_0, r0_1, r0_2) w11) c7.ho ?_
        refine St3 c7.h3 fun w8 u8 => Ld3 (k := fun a b c => K (a, b, c) w8) u8.at_ ?_
        have hx3 := c7.ge.2.2.1
        have hv : ∀ {m : Nat} {S : Int → Prop}, SetAt (V Ft w7) m S → SetAt (V Ft w8) m S := fun {m S} h => h.keep u8.keeps (fun e => by
          subst e
          obtain ⟨es, clock, ⟨_, h⟩, _⟩ := h
          rw [c7.h3] at h
          cases h) h.out
        refine hK c1 c2 w8 (c7.k.then u8.keeps fun i hi e => by omega) (c7.m.keep u8.keeps fun b e hf => by subst e; exact nf _ hx3 hf) (hv h1) (hv h2)
      refine Ld.bool (cell_of c6.h2 rfl) (Br.mk (fun ht => ?_) (fun hf => ?_))
      · refine Ld.map (cell_of c6.h2 rfl) (Ld.map (cell_of c6.h1 rfl) ?_)
        refine nfa_set_with_spec (a := some b2) (b := some a2) (M := Ft) (hB2.mono (V.keeps c6.k)) (by simp) (hA2.mono (V.keeps c6.k)) pA2 fun m w7 k7 hge hs7 => ?_
        have c7 := c6.keep0 k7
        refine St.blk c7.ho (by simp) fun w8 u8 => ?_
        have c8 := c7.put hold (d1 := c1) (d2 := m) u8
        have hne : ∀ {m' : Nat} {S : Int → Prop} {M : Nat → Prop}, SetAt (V M w7) m' S → ¬ m' = bo := fun {m' S M} h e => by
          subst e
          obtain ⟨es, clock, ⟨_, h⟩, _⟩ := h
          rw [c7.ho] at h
          cases h
        have hc7 := hc1.mono (V.keeps0 k7)
        refine fin c8 (hc7.keep u8.keeps (hne hc7) hc7.out) ((hs7.keep u8.keeps (hne hs7) (nf _ (Nat.le_trans c6.k.size hge))).congr fun k => by simp [ht])
      · refine fin c6 hc1 ((hB2.mono (V.keeps c6.k)).congr fun k => by simp [hf])
    · intro j hj
      refine Ld.bool (cell_of c5.h1 rfl) (Br.mk (fun ht => ?_) (fun hf => ?_))
      · refine Ld.map (cell_of c5.h1 rfl) (Ld.map (cell_of c5.h2 rfl) ?_)
        refine nfa_set_with_spec (a := some a1) (b := some b1) (M := Ft) (hA1.mono (V.keeps c5.k)) (by simp) (hB1.mono (V.keeps c5.k)) pB1 fun m w7 k7 hge hs7 => ?_
        have c7 := c5.keep0 k7
        refine St.blk c7.ho (by simp) fun w8 u8 => ?_
        have hne : ∀ {m' : Nat} {S : Int → Prop} {M : Nat → Prop}, SetAt (V M w7) m' S → ¬ m' = bo := fun {m' S M} h e => by
          subst e
          obtain ⟨es, clock, ⟨_, h⟩, _⟩ := h
          rw [c7.ho] at h
          cases h
        refine hj () w8 ⟨m, c7.put hold (d1 := m) (d2 := b2) u8, (hs7.keep u8.keeps (hne hs7) (nf _ (Nat.le_trans c5.k.size hge))).congr fun k => by simp [ht]⟩
      · refine hj () w5 ⟨a1, c5, (hA1.mono (V.keeps c5.k)).congr fun k => by simp [hf]⟩
  · intro j hj
    refine Ld.map (cell_of f1 rfl) (Ld.map (cell_of f2 rfl) (Ld.bool (cell_of f1 rfl) ?_))
    have hs4 := k4.size
    have mk : ∀ {e : Bool} {w5 : World} {bo : Nat}, New bo (kobj none none false) w4 w5 → (ea && eb) = e → St ⟨bo, 0, none⟩ (.map (some a1)) w5 fun w9 => St ⟨bo, 1, none⟩ (.map (some b2)) w9 fun w10 => St ⟨bo, 2, none⟩ (.bool e) w10 fun w11 => j ⟨bo, 0, none⟩ w11 := by
      intro e w5 bo n5 he
      refine St3 n5.at_ fun w6 u6 => hj _ w6 ⟨bo, rfl, ?_⟩
      have e5 := n5.eq
      refine ⟨(kk4.then0 n5.keeps).then u6.keeps fun i hi e => by omega, (m4.keep0 n5.keeps).keep u6.keeps fun b e hf => nf _ (by omega) hf, u6.keeps.blk (n5.keeps.blk0 f1) (by omega), u6.keeps.blk (n5.keeps.blk0 f2) (by omega), u6.keeps.blk (n5.keeps.blk0 f3) (by omega), ?_, by omega, by omega, by omega, by omega⟩
      rw [he]; exact u6.at_
    refine Br.mk (fun ht => ?_) (fun hf => ?_)
    · refine Ld.bool (cell_of f2 rfl) (Al.mk fun bo w5 n5 => ?_)
      exact mk n5 (by rw [ht]; rfl)
    · refine Al.mk fun bo w5 n5 => ?_
      exact mk n5 (by rw [hf]; rfl)
end
end Go.Fk
