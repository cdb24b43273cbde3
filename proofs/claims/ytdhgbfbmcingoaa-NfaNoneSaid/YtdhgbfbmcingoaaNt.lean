/-
  A part of the proof: what the functions of the program come to, read off the model: no premise of its own, no axiom. By an AI agent.
-/
import Derived.Test.YtdhgbfbmcingoaaNr
set_option linter.all false
set_option linter.unusedVariables false
namespace Go.Fk
open Go Go.MapKept

section
variable {w : World} {bm base : Nat} {fs : List ((Nat → Bool) × Int)} {F : Int → Int → Prop} {rl : Sl} {Ft : Nat → Prop} {p : Option Addr} {rule : Int} {K : (Option Nat × Option Nat × Bool) → World → Prop}

theorem add_endS {w1 : World} {Ft' : Nat → Prop} {b1 a b : Nat} {x y : Option Nat} {e0 e : Bool} {fs' : List ((Nat → Bool) × Int)} {F' : Int → Int → Prop} {A B : Int → Prop} {S : World → Prop} (h1 : w1.heap[b1]? = some (kobj x y e0)) (hk : Keeps Ft w w1) (hF : ∀ i, Ft' i → Ft i ∨ w.heap.size ≤ i) (hb : w.heap.size ≤ b1) (hn : ¬ Ft' b1)
    (hS : ∀ w', Keeps (· = b1) w1 w' → S w')
    (hm : Mach w1 bm base fs' F' rl Ft') (hA : SetAt (V Ft' w1) a A) (hB : SetAt (V Ft' w1) b B)
    (hK : ∀ w', Keeps Ft w w' → Mach w' bm base fs' F' rl Ft' → SetAt (V Ft' w') a A → SetAt (V Ft' w') b B → K (some a, some b, e) w') :
    St ⟨b1, 0, none⟩ (.map (some a)) w1 fun w2 => St ⟨b1, 1, none⟩ (.map (some b)) w2 fun w3 => St ⟨b1, 2, none⟩ (.bool e) w3 fun w4 => (S w4 ∧ Ld .map ⟨b1, 0, none⟩ w4 fun r0 => Ld .map ⟨b1, 1, none⟩ w4 fun r1 => Ld .bool ⟨b1, 2, none⟩ w4 fun r2 => K (r0, r1, r2) w4) := by
  refine St3 h1 fun w2 u2 => ⟨hS _ u2.keeps, Ld3 (k := fun a b c => K (a, b, c) w2) u2.at_ ?_⟩
  have hv : ∀ {m : Nat} {S : Int → Prop}, SetAt (V Ft' w1) m S → SetAt (V Ft' w2) m S := fun {m S} h => h.keep u2.keeps (fun e => by
    subst e
    obtain ⟨es, clock, ⟨_, h⟩, _⟩ := h
    rw [h1] at h
    cases h) h.out
  exact hK w2 (hk.then u2.keeps fun i hi e => by omega) (hm.keep u2.keeps fun i e hf => hn (e ▸ hf)) (hv hA) (hv hB)

/-- Both are added; their rows are laid. -/
structure OrSt (w3 w54 : World) (bm base : Nat) (rl : Sl) (Ft : Nat → Prop) (fs' : List ((Nat → Bool) × Int)) (F' : Int → Int → Prop) (A1 A2 B1 B2 : Int → Prop) (ea eb : Bool) (bA bB : Nat) : Prop where
  st : ∃ a1 a2 c1 c2 G, Ph w3 w54 bm base rl Ft G fs' F' ∧ w54.heap[bA]? = some (kobj (some a1) (some a2) ea) ∧ w54.heap[bB]? = some (kobj (some c1) (some c2) eb) ∧ SetAt (V G w54) a1 A1 ∧ SetAt (V G w54) a2 A2 ∧ SetAt (V G w54) c1 B1 ∧ SetAt (V G w54) c2 B2
  gA : w3.heap.size ≤ bA
  gB : w3.heap.size ≤ bB

theorem or_fin {w3 wc : World} {G : Nat → Prop} {fs' : List ((Nat → Bool) × Int)} {F' : Int → Int → Prop} {a1 a2 c1 c2 bA bB : Nat} {ea eb : Bool} {A1 A2 B1 B2 : Int → Prop} {j : Addr × Addr → World → Prop}
    (h : Ph w3 wc bm base rl Ft G fs' F') (hA1 : SetAt (V G wc) a1 A1) (hA2 : SetAt (V G wc) a2 A2) (hB1 : SetAt (V G wc) c1 B1) (hB2 : SetAt (V G wc) c2 B2) (hbA : V G wc bA (kobj none none false)) (hbB : V G wc bB (kobj none none false))
    (gA : w3.heap.size ≤ bA) (gB : w3.heap.size ≤ bB) (hne : bA ≠ bB)
    (hj : ∀ w', Keeps Ft w3 w' → OrSt w3 w' bm base rl Ft fs' F' A1 A2 B1 B2 ea eb bA bB → j (⟨bA, 0, none⟩, ⟨bB, 0, none⟩) w') :
    St ⟨bA, 0, none⟩ (.map (some a1)) wc fun w69 => St ⟨bA, 1, none⟩ (.map (some a2)) w69 fun w70 => St ⟨bA, 2, none⟩ (.bool ea) w70 fun w71 => (Keeps Ft w3 w71 ∧ St ⟨bB, 0, none⟩ (.map (some c1)) w71 fun w72 => St ⟨bB, 1, none⟩ (.map (some c2)) w72 fun w73 => St ⟨bB, 2, none⟩ (.bool eb) w73 fun w74 => (Keeps Ft w3 w74 ∧ j (⟨bA, 0, none⟩, ⟨bB, 0, none⟩) w74)) := by
  refine St3 hbA.2 fun w1 u1 => ?_
  have k1 : Keeps Ft w3 w1 := h.k.then u1.keeps fun i hi e => by omega
  refine ⟨k1, St3 (u1.keeps.blk hbB.2 (Ne.symm hne)) fun w2 u2 => ?_⟩
  have k2 : Keeps Ft w3 w2 := k1.then u2.keeps fun i hi e => by omega
  refine ⟨k2, hj w2 k2 ⟨⟨a1, a2, c1, c2, G, ⟨k2, h.g, (h.m.keep u1.keeps fun i e hg => hbA.1 (e ▸ hg)).keep u2.keeps fun i e hg => hbB.1 (e ▸ hg)⟩, u2.keeps.blk u1.at_ hne, u2.at_, ?_⟩, gA, gB⟩⟩
  have hv : ∀ {m : Nat} {S : Int → Prop}, SetAt (V G wc) m S → SetAt (V G w2) m S := fun {m S} h => by
    have h0 := h
    obtain ⟨es, clock, ⟨_, h0⟩, _⟩ := h0
    refine MapAt.keep (MapAt.keep h u1.keeps (fun e => ?_) h.out) u2.keeps (fun e => ?_) h.out
    · subst e; rw [hbA.2] at h0; cases h0
    · subst e; rw [hbB.2] at h0; cases h0
  exact ⟨hv hA1, hv hA2, hv hB1, hv hB2⟩

theorem LdS.of {t : Ty} {S : World → Prop} {a : Addr} {k : t.T → Prop} {v : t.T} (h : ∀ w', S w' → w'.cell? a = some (t.enc v)) (hk : k v) : LdS S t a k := ⟨v, h, hk⟩

theorem or_rest {w0 w3 w54 : World} {fs' : List ((Nat → Bool) × Int)} {F' : Int → Int → Prop} {A1 A2 B1 B2 : Int → Prop} {ea eb : Bool} {bA bB b1 : Nat} (h0 : Keeps No w0 w3) (hold : Old Ft w0) (hb1 : w3.heap[b1]? = some (kobj none none false)) (hge : w0.heap.size ≤ b1)
    (h : OrSt w3 w54 bm base rl Ft fs' F' A1 A2 B1 B2 ea eb bA bB) (pB1 : ∀ k, B1 k → Pos k) (pB2 : ∀ k, B2 k → Pos k)
    (hK : ∀ (a b : Nat) (w' : World) (Ft' : Nat → Prop), Keeps Ft w0 w' → (∀ i, Ft' i → Ft i ∨ w0.heap.size ≤ i) → Mach w' bm base fs' F' rl Ft' → SetAt (V Ft' w') a (fun k => A1 k ∨ B1 k) → SetAt (V Ft' w') b (fun k => A2 k ∨ B2 k) → K (some a, some b, ea || eb) w') :
    Draw w54 fun S22 w55 => LdS S22 .map ⟨bA, 0, none⟩ fun x75 => LdS S22 .map ⟨bB, 0, none⟩ fun x77 => LdS S22 .map (Addr.add ⟨bA, 0, none⟩ 1) fun x80 => LdS S22 .map (Addr.add ⟨bB, 0, none⟩ 1) fun x82 => LdS S22 .bool (Addr.add ⟨bA, 0, none⟩ 2) fun x85 => nfa_set_with.C x75 x77 w55 fun x78 w56 => (S22 w56 ∧ nfa_set_with.C x80 x82 w56 fun x83 w57 => (S22 w57 ∧
      Br x85 (St (⟨b1, 0, none⟩) (.map x78) w57 fun w58 => St (⟨b1, 1, none⟩) (.map x83) w58 fun w59 => St (⟨b1, 2, none⟩) (.bool true) w59 fun w60 => (S22 w60 ∧ Ld .map (⟨b1, 0, none⟩) w60 fun r0_0 => Ld .map (⟨b1, 1, none⟩) w60 fun r0_1 => Ld .bool (⟨b1, 2, none⟩) w60 fun r0_2 => K (r0_0, r0_1, r0_2) w60))
        (LdS S22 .bool (Addr.add ⟨bB, 0, none⟩ 2) fun x88 => St (⟨b1, 0, none⟩) (.map x78) w57 fun w61 => St (⟨b1, 1, none⟩) (.map x83) w61 fun w62 => St (⟨b1, 2, none⟩) (.bool x88) w62 fun w63 => (S22 w63 ∧ Ld .map (⟨b1, 0, none⟩) w63 fun r0_0 => Ld .map (⟨b1, 1, none⟩) w63 fun r0_1 => Ld .bool (⟨b1, 2, none⟩) w63 fun r0_2 => K (r0_0, r0_1, r0_2) w63)))) := by
  obtain ⟨⟨a1, a2, c1, c2, G, d, hA, hB, sA1, sA2, sB1, sB2⟩, gA, gB⟩ := h
  have hlt := lt_of_some hb1
  have s03 := h0.size
  refine ⟨fun x => Keeps (· = b1) w54 x, Keeps.drew.no, ?_⟩
  have hcA : ∀ w', Keeps (· = b1) w54 w' → w'.heap[bA]? = some (kobj (some a1) (some a2) ea) := fun w' hk => hk.blk hA (by omega)
  have hcB : ∀ w', Keeps (· = b1) w54 w' → w'.heap[bB]? = some (kobj (some c1) (some c2) eb) := fun w' hk => hk.blk hB (by omega)
  refine LdS.of (v := some a1) (fun w' hw' => cell_of (hcA w' hw') rfl) <| LdS.of (v := some c1) (fun w' hw' => cell_of (hcB w' hw') rfl) <| LdS.of (v := some a2) (fun w' hw' => cell_of (hcA w' hw') rfl) <| LdS.of (v := some c2) (fun w' hw' => cell_of (hcB w' hw') rfl) <| LdS.of (v := ea) (fun w' hw' => cell_of (hcA w' hw') rfl) ?_
  have mv : ∀ {m : Nat} {S : Int → Prop}, SetAt (V G w54) m S → SetAt (V G w54.drew) m S := fun h => h.mono (V.keeps0 .drew)
  refine nfa_set_with_spec (a := some a1) (b := some c1) (M := G) (mv sA1) (by simp) (mv sB1) pB1 fun m1 w6 k6 g6 h6 => ?_
  have k6' : Keeps No w54 w6 := Keeps.drew.trans k6
  refine ⟨k6'.no, ?_⟩
  refine nfa_set_with_spec (a := some a2) (b := some c2) (M := G) (sA2.mono (V.keeps0 k6')) (by simp) (sB2.mono (V.keeps0 k6')) pB2 fun m2 w7 k7 g7 h7 => ?_
  have k7' := k6'.trans k7
  refine ⟨k7'.no, ?_⟩
  have hold2 := d.m.old
  have s6 := k6'.size
  have hd : w54.drew.heap.size = w54.heap.size := rfl
  have nG1 : ¬ G m1 := fun h => by have := hold2 _ h; omega
  have nG2 : ¬ G m2 := fun h => by have := hold2 _ h; omega
  have nFb : ¬ Ft b1 := fun h => by have := hold _ h; omega
  have nGb : ¬ G b1 := fun h => by rcases d.g _ h with h | h; { exact nFb h }; { omega }
  have x1 : SetAt (V G w7) m1 (fun k => A1 k ∨ B1 k) := h6.keep k7 (fun h => h.elim) nG1
  have x2 : SetAt (V G w7) m2 (fun k => A2 k ∨ B2 k) := h7.keep (Keeps.refl (M := No)) (fun h => h.elim) nG2
  have hb7 : w7.heap[b1]? = some (kobj none none false) := k7'.blk0 (d.k.blk hb1 nFb)
  have kk : Keeps Ft w0 w7 := ((h0.no (M := Ft)).trans d.k).then0 k7'
  have gg : ∀ i, G i → Ft i ∨ w0.heap.size ≤ i := fun i hi => (d.g i hi).imp id (by omega)
  refine Br.mk (fun ht => ?_) (fun hf => ?_)
  · refine add_endS hb7 kk gg hge nGb (fun w' hk => (k7'.no (M := (· = b1))).trans hk) (d.m.keep0 k7') x1 x2 fun w9 k9 m9 y1 y2 => ?_
    have := hK m1 m2 w9 G k9 gg m9 y1 y2
    rw [ht] at this
    exact this
  · refine LdS.of (v := eb) (fun w' hw' => cell_of (hcB w' hw') rfl) ?_
    refine add_endS hb7 kk gg hge nGb (fun w' hk => (k7'.no (M := (· = b1))).trans hk) (d.m.keep0 k7') x1 x2 fun w9 k9 m9 y1 y2 => ?_
    have := hK m1 m2 w9 G k9 gg m9 y1 y2
    rw [hf] at this
    exact this

theorem add_or {n : Nat} (ih : AddSpec n) {x y : Re} (hx : (Re.or x y).size ≤ n + 1) (hm : Mach w bm base fs F rl Ft) (hN : Nd (V Ft w) p (.or x y)) (hfew : fs.length + (x.cnt + y.cnt) ≤ 2000) (hbase : base ≤ w.heap.size)
    (hK : ∀ (a b : Nat) (w' : World) (Ft' : Nat → Prop), Keeps Ft w w' → (∀ i, Ft' i → Ft i ∨ w.heap.size ≤ i) → Mach w' bm base (fs ++ (Re.or x y).poss.map fun f => (f, rule)) (fun p q => F p q ∨ (Re.or x y).fol fs.length p q) rl Ft' →
      SetAt (V Ft' w') a ((Re.or x y).first fs.length) → SetAt (V Ft' w') b ((Re.or x y).last fs.length) → K (some a, some b, (Re.or x y).emp) w') : nfa_Machine_add.C (some ⟨bm, 0, none⟩) rule p w K := by
  simp only [Re.size] at hx
  refine nfa_Machine_add.ok _ _ _ _ _ ?_
  simp only [nfa_Machine_add.M, NilC_some]
  refine Al.mk fun b1 w1 n1 => ?_
  have e1 := n1.eq; have s1 := n1.size
  have hold := hm.old
  refine regex_Parts_spec (M := Ft) (hold.keeps n1.keeps) (hN.mono (V.keeps0 n1.keeps)) fun l0 ps0 w3 k3 hl0 ha0 => ?_
  have k03 : Keeps No w w3 := n1.keeps.trans k3
  refine regex_Kind_spec (M := Ft) (hN.mono (V.keeps0 k03)) ?_
  refine Br.mk (fun ht => absurd ht (by simp [Re.kind])) fun _ => Br.mk (fun ht => absurd ht (by simp [Re.kind])) fun _ => Br.mk (fun _ => ?_) fun ht => absurd ht (by simp [Re.kind])
  obtain ⟨p1, p2, rfl, hp1, hp2⟩ := parts2 ha0
  have s03 := k3.size
  have hb3 : w3.heap[b1]? = some (kobj none none false) := k3.blk0 n1.at_
  have hlen : ((fs ++ x.poss.map fun f => (f, rule)).length : Int) = fs.length + x.cnt := by simp [Re.poss_len]
  have pos : ∀ k, (y.first (fs.length + x.cnt) k ∨ y.last (fs.length + x.cnt) k) → Pos k := fun k hk => by
    have : (fs.length : Int) + x.cnt ≤ k ∧ k < fs.length + x.cnt + y.cnt := by rcases hk with h | h; { exact Re.first_in h }; { exact Re.last_in h }
    unfold Pos; omega
  refine Join.cut (fun s w54 => ∃ bA bB, s = (⟨bA, 0, none⟩, ⟨bB, 0, none⟩) ∧ OrSt w3 w54 bm base rl Ft ((fs ++ x.poss.map fun f => (f, rule)) ++ y.poss.map fun f => (f, rule)) (fun p q => (F p q ∨ x.fol fs.length p q) ∨ y.fol (fs.length + x.cnt) p q) (x.first fs.length) (x.last fs.length) (y.first (fs.length + x.cnt)) (y.last (fs.length + x.cnt)) x.emp y.emp bA bB) ?_ ?_
  · rintro _ w54 ⟨bA, bB, rfl, h54⟩
    refine or_rest k03 hold hb3 (by omega) h54 (fun k hk => pos k (.inl hk)) (fun k hk => pos k (.inr hk)) fun a b w' Ft' g1 g2 g3 g4 g5 => ?_
    refine hK a b w' Ft' g1 g2 ?_ g4 g5
    have e : (fs ++ x.poss.map fun f => (f, rule)) ++ (y.poss.map fun f => (f, rule)) = fs ++ (Re.or x y).poss.map fun f => (f, rule) := by simp [Re.poss]
    rw [e] at g3
    refine g3.congr fun p q => ?_
    simp only [Re.fol, or_assoc]
  · intro j hj
    refine ⟨fun x => Keeps Ft w3 x, Keeps.drew.no, ?_⟩
    have d0 : Ph w3 w3.drew bm base rl Ft Ft fs F := (Ph.start (hm.keep0 k03)).drew .drew
    have hS : ∀ w', Keeps Ft w3 w' → Vle (V Ft w3) (V No w') := fun w' hk => V.move hk (fun _ _ h => h) fun _ _ h => h.elim
    refine IdxS.getS hl0 hS (by omega) (by simp) fun q1 hq1 => IdxS.getS hl0 hS (by omega) (by simp) fun q2 hq2 => ?_
    simp at hq1 hq2
    subst hq1 hq2
    have A1 : ∀ {wc : World} {K : (Option Nat × Option Nat × Bool) → World → Prop}, Ph w3 wc bm base rl Ft Ft fs F → (∀ (a b : Nat) (wd : World) (G' : Nat → Prop), Ph w3 wd bm base rl Ft G' (fs ++ x.poss.map fun f => (f, rule)) (fun p q => F p q ∨ x.fol fs.length p q) → Vle (V Ft wc) (V G' wd) → 
      SetAt (V G' wd) a (x.first fs.length) → SetAt (V G' wd) b (x.last fs.length) → Keeps Ft w3 wd ∧ K (some a, some b, x.emp) wd) → nfa_Machine_add.C (some ⟨bm, 0, none⟩) rule p1 wc fun r wd => Keeps Ft w3 wd ∧ K r wd := fun d h => d.add ih hp1 (by omega) (by omega) (by omega) h
    have A2 : ∀ {wc : World} {G : Nat → Prop} {K : (Option Nat × Option Nat × Bool) → World → Prop}, Ph w3 wc bm base rl Ft G (fs ++ x.poss.map fun f => (f, rule)) (fun p q => F p q ∨ x.fol fs.length p q) →
      (∀ (a b : Nat) (wd : World) (G' : Nat → Prop), Ph w3 wd bm base rl Ft G' ((fs ++ x.poss.map fun f => (f, rule)) ++ y.poss.map fun f => (f, rule)) (fun p q => (F p q ∨ x.fol fs.length p q) ∨ y.fol (fs.length + x.cnt) p q) → Vle (V G wc) (V G' wd) → 
      SetAt (V G' wd) a (y.first (fs.length + x.cnt)) → SetAt (V G' wd) b (y.last (fs.length + x.cnt)) → Keeps Ft w3 wd ∧ K (some a, some b, y.emp) wd) → nfa_Machine_add.C (some ⟨bm, 0, none⟩) rule p2 wc fun r wd => Keeps Ft w3 wd ∧ K r wd := fun d h => by
      refine d.add ih hp2 (by omega) (by simp [Re.poss_len]; omega) (by omega) fun a b wd G' d' v sa sb => ?_
      rw [hlen] at d' sa sb
      exact h a b wd G' d' v sa sb
    have FJ : ∀ {bA bB : Nat} (w' : World), Keeps Ft w3 w' → OrSt w3 w' bm base rl Ft ((fs ++ x.poss.map fun f => (f, rule)) ++ y.poss.map fun f => (f, rule)) (fun p q => (F p q ∨ x.fol fs.length p q) ∨ y.fol (fs.length + x.cnt) p q) (x.first fs.length) (x.last fs.length) (y.first (fs.length + x.cnt)) (y.last (fs.length + x.cnt)) x.emp y.emp bA bB →
      j (⟨bA, 0, none⟩, ⟨bB, 0, none⟩) w' := fun w' _ h => hj _ w' ⟨_, _, rfl, h⟩
    refine ⟨?_, ?_, ?_⟩
    · refine A1 d0 fun m1 m1' w1 G1 d1 v1 sa1 sa1' => ⟨d1.k, ⟨?_, ?_, ?_⟩⟩
      · refine A2 d1 fun m2 m2' w2 G2 d2 v2 sb2 sb2' => ⟨d2.k, ⟨?_, ?_⟩⟩
        · refine d2.al fun b3 w3 d3 v3 hp3 gp3 fp3 k3 => ⟨d3.k, ?_⟩
          refine d3.al fun b4 w4 d4 v4 hq4 gq4 fq4 k4 => ⟨d4.k, ?_⟩
          exact or_fin d4 (sa1.mono (v2.trans (v3.trans v4))) (sa1'.mono (v2.trans (v3.trans v4))) (sb2.mono (v3.trans v4)) (sb2'.mono (v3.trans v4)) (v4 _ _ hp3) ((Vle.refl) _ _ hq4) gp3 gq4 (Nat.ne_of_lt (Nat.lt_of_lt_of_le (lt_of_some ((Vle.refl) _ _ hp3).2) fq4)) FJ
        · refine d2.al fun b5 w5 d5 v5 hq5 gq5 fq5 k5 => ⟨d5.k, ?_⟩
          refine d5.al fun b6 w6 d6 v6 hp6 gp6 fp6 k6 => ⟨d6.k, ?_⟩
          exact or_fin d6 (sa1.mono (v2.trans (v5.trans v6))) (sa1'.mono (v2.trans (v5.trans v6))) (sb2.mono (v5.trans v6)) (sb2'.mono (v5.trans v6)) ((Vle.refl) _ _ hp6) (v6 _ _ hq5) gp6 gq5 (Nat.ne_of_gt (Nat.lt_of_lt_of_le (lt_of_some ((Vle.refl) _ _ hq5).2) fp6)) FJ
      · refine d1.al fun b7 w7 d7 v7 hp7 gp7 fp7 k7 => ⟨d7.k, ⟨?_, ?_⟩⟩
        · refine A2 d7 fun m8 m8' w8 G8 d8 v8 sb8 sb8' => ⟨d8.k, ?_⟩
          refine d8.al fun b9 w9 d9 v9 hq9 gq9 fq9 k9 => ⟨d9.k, ?_⟩
          exact or_fin d9 (sa1.mono (v7.trans (v8.trans v9))) (sa1'.mono (v7.trans (v8.trans v9))) (sb8.mono v9) (sb8'.mono v9) ((v8.trans v9) _ _ hp7) ((Vle.refl) _ _ hq9) gp7 gq9 (Nat.ne_of_lt (Nat.lt_of_lt_of_le (lt_of_some (v8 _ _ hp7).2) fq9)) FJ
        · refine d7.al fun b10 w10 d10 v10 hq10 gq10 fq10 k10 => ⟨d10.k, ?_⟩
          refine A2 d10 fun m11 m11' w11 G11 d11 v11 sb11 sb11' => ⟨d11.k, ?_⟩
          exact or_fin d11 (sa1.mono (v7.trans (v10.trans v11))) (sa1'.mono (v7.trans (v10.trans v11))) (sb11.mono .refl) (sb11'.mono .refl) ((v10.trans v11) _ _ hp7) (v11 _ _ hq10) gp7 gq10 (Nat.ne_of_lt (Nat.lt_of_lt_of_le (lt_of_some ((Vle.refl) _ _ hp7).2) fq10)) FJ
      · refine d1.al fun b12 w12 d12 v12 hq12 gq12 fq12 k12 => ⟨d12.k, ⟨?_, ?_⟩⟩
        · refine A2 d12 fun m13 m13' w13 G13 d13 v13 sb13 sb13' => ⟨d13.k, ?_⟩
          refine d13.al fun b14 w14 d14 v14 hp14 gp14 fp14 k14 => ⟨d14.k, ?_⟩
          exact or_fin d14 (sa1.mono (v12.trans (v13.trans v14))) (sa1'.mono (v12.trans (v13.trans v14))) (sb13.mono v14) (sb13'.mono v14) ((Vle.refl) _ _ hp14) ((v13.trans v14) _ _ hq12) gp14 gq12 (Nat.ne_of_gt (Nat.lt_of_lt_of_le (lt_of_some (v13 _ _ hq12).2) fp14)) FJ
        · refine d12.al fun b15 w15 d15 v15 hp15 gp15 fp15 k15 => ⟨d15.k, ?_⟩
          refine A2 d15 fun m16 m16' w16 G16 d16 v16 sb16 sb16' => ⟨d16.k, ?_⟩
          exact or_fin d16 (sa1.mono (v12.trans (v15.trans v16))) (sa1'.mono (v12.trans (v15.trans v16))) (sb16.mono .refl) (sb16'.mono .refl) (v16 _ _ hp15) ((v15.trans v16) _ _ hq12) gp15 gq12 (Nat.ne_of_gt (Nat.lt_of_lt_of_le (lt_of_some ((Vle.refl) _ _ hq12).2) fp15)) FJ
    · refine d0.al fun b17 w17 d17 v17 hp17 gp17 fp17 k17 => ⟨d17.k, ⟨?_, ?_⟩⟩
      · refine A1 d17 fun m18 m18' w18 G18 d18 v18 sa18 sa18' => ⟨d18.k, ⟨?_, ?_⟩⟩
        · refine A2 d18 fun m19 m19' w19 G19 d19 v19 sb19 sb19' => ⟨d19.k, ?_⟩
          refine d19.al fun b20 w20 d20 v20 hq20 gq20 fq20 k20 => ⟨d20.k, ?_⟩
          exact or_fin d20 (sa18.mono (v19.trans v20)) (sa18'.mono (v19.trans v20)) (sb19.mono v20) (sb19'.mono v20) ((v18.trans (v19.trans v20)) _ _ hp17) ((Vle.refl) _ _ hq20) gp17 gq20 (Nat.ne_of_lt (Nat.lt_of_lt_of_le (lt_of_some ((v18.trans v19) _ _ hp17).2) fq20)) FJ
        · refine d18.al fun b21 w21 d21 v21 hq21 gq21 fq21 k21 => ⟨d21.k, ?_⟩
          refine A2 d21 fun m22 m22' w22 G22 d22 v22 sb22 sb22' => ⟨d22.k, ?_⟩
          exact or_fin d22 (sa18.mono (v21.trans v22)) (sa18'.mono (v21.trans v22)) (sb22.mono .refl) (sb22'.mono .refl) ((v18.trans (v21.trans v22)) _ _ hp17) (v22 _ _ hq21) gp17 gq21 (Nat.ne_of_lt (Nat.lt_of_lt_of_le (lt_of_some (v18 _ _ hp17).2) fq21)) FJ
      · refine d17.al fun b23 w23 d23 v23 hq23 gq23 fq23 k23 => ⟨d23.k, ?_⟩
        refine A1 d23 fun m24 m24' w24 G24 d24 v24 sa24 sa24' => ⟨d24.k, ?_⟩
        refine A2 d24 fun m25 m25' w25 G25 d25 v25 sb25 sb25' => ⟨d25.k, ?_⟩
        exact or_fin d25 (sa24.mono v25) (sa24'.mono v25) (sb25.mono .refl) (sb25'.mono .refl) ((v23.trans (v24.trans v25)) _ _ hp17) ((v24.trans v25) _ _ hq23) gp17 gq23 (Nat.ne_of_lt (Nat.lt_of_lt_of_le (lt_of_some ((Vle.refl) _ _ hp17).2) fq23)) FJ
    · refine d0.al fun b26 w26 d26 v26 hq26 gq26 fq26 k26 => ⟨d26.k, ⟨?_, ?_⟩⟩
      · refine A1 d26 fun m27 m27' w27 G27 d27 v27 sa27 sa27' => ⟨d27.k, ⟨?_, ?_⟩⟩
        · refine A2 d27 fun m28 m28' w28 G28 d28 v28 sb28 sb28' => ⟨d28.k, ?_⟩
          refine d28.al fun b29 w29 d29 v29 hp29 gp29 fp29 k29 => ⟨d29.k, ?_⟩
          exact or_fin d29 (sa27.mono (v28.trans v29)) (sa27'.mono (v28.trans v29)) (sb28.mono v29) (sb28'.mono v29) ((Vle.refl) _ _ hp29) ((v27.trans (v28.trans v29)) _ _ hq26) gp29 gq26 (Nat.ne_of_gt (Nat.lt_of_lt_of_le (lt_of_some ((v27.trans v28) _ _ hq26).2) fp29)) FJ
        · refine d27.al fun b30 w30 d30 v30 hp30 gp30 fp30 k30 => ⟨d30.k, ?_⟩
          refine A2 d30 fun m31 m31' w31 G31 d31 v31 sb31 sb31' => ⟨d31.k, ?_⟩
          exact or_fin d31 (sa27.mono (v30.trans v31)) (sa27'.mono (v30.trans v31)) (sb31.mono .refl) (sb31'.mono .refl) (v31 _ _ hp30) ((v27.trans (v30.trans v31)) _ _ hq26) gp30 gq26 (Nat.ne_of_gt (Nat.lt_of_lt_of_le (lt_of_some (v27 _ _ hq26).2) fp30)) FJ
      · refine d26.al fun b32 w32 d32 v32 hp32 gp32 fp32 k32 => ⟨d32.k, ?_⟩
        refine A1 d32 fun m33 m33' w33 G33 d33 v33 sa33 sa33' => ⟨d33.k, ?_⟩
        refine A2 d33 fun m34 m34' w34 G34 d34 v34 sb34 sb34' => ⟨d34.k, ?_⟩
        exact or_fin d34 (sa33.mono v34) (sa33'.mono v34) (sb34.mono .refl) (sb34'.mono .refl) ((v33.trans v34) _ _ hp32) ((v32.trans (v33.trans v34)) _ _ hq26) gp32 gq26 (Nat.ne_of_gt (Nat.lt_of_lt_of_le (lt_of_some ((Vle.refl) _ _ hq26).2) fp32)) FJ

theorem nfa_Machine_add_spec : ∀ n, AddSpec n := by
  intro n
  induction n with
  | zero => intro x hx; have := size_pos x; omega
  | succ n ih =>
    intro x hx w bm base fs F rl Ft p rule K hm hN hfew hbase hK
    cases x with
    | set f => exact add_set hm hN hfew hbase fun a b w' Ft' g1 g2 g3 g4 g5 => hK a b w' Ft' g1 g2 (g3.congr fun p q => by simp [Re.fol]) g4 g5
    | empty => exact add_empty hm hN fun a b w' g1 g3 g4 g5 => hK a b w' Ft g1 (fun i h => .inl h) (by simpa [Re.poss, Re.fol] using g3) g4 g5
    | cat x y => exact add_cat ih hx hm hN hfew hbase hK
    | or x y => exact add_or ih hx hm hN hfew hbase hK
    | star x => exact add_star ih hx hm hN hfew hbase hK
end
end Go.Fk
