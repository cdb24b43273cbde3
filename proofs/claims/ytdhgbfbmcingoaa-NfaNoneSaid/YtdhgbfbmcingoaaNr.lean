/-
  A part of the proof: what the functions of the program come to, read off the model: no premise of its own, no axiom. By an AI agent.
-/
import Derived.Test.YtdhgbfbmcingoaaNo
set_option linter.all false
set_option linter.unusedVariables false
namespace Go.Fk
open Go Go.MapKept

theorem okInt {k : Int} (h : Pos k) : OkKey P T.int ((Ty.int .i64).enc k) := h.ok

/-- A set of one. -/
theorem set1 {w : World} {x : Int} (hx : Pos x) {k : Nat → World → Prop} (hk : ∀ m w', Keeps No w w' → w.heap.size ≤ m → SetAt (V No w') m (fun y => y = x) → k m w') :
    Al (.map #[] 0) w fun m w1 => App0 P (Instr.mapUpdate T.nfa_set (.map (some m)) (.int .i64 x) (.bool true)) w1 fun w2 => k m w2 := by
  refine Al.mk fun m w1 n1 => ?_
  refine App0.put (M := No) (kt := .int .i64) (vt := .bool) (x := x) (y := true) setTy (MapAt.empty ⟨id, n1.at_⟩) (okInt hx) fun w2 k2 z2 h2 => ?_
  have e := n1.eq
  refine hk m w2 ((n1.keeps.no (M := No)).then k2 fun i hi e => by omega) (by omega) (h2.congr fun a b => ?_)
  simp

/-- What 'add' gives. -/
def AddSpec (n : Nat) : Prop := ∀ (x : Re), x.size ≤ n → ∀ {w : World} {bm base : Nat} {fs : List ((Nat → Bool) × Int)} {F : Int → Int → Prop} {rl : Sl} {Ft : Nat → Prop} {p : Option Addr} {rule : Int} {K : (Option Nat × Option Nat × Bool) → World → Prop},
  Mach w bm base fs F rl Ft → Nd (V Ft w) p x → fs.length + x.cnt ≤ 2000 → base ≤ w.heap.size →
  (∀ (a b : Nat) (w' : World) (Ft' : Nat → Prop), Keeps Ft w w' → (∀ i, Ft' i → Ft i ∨ w.heap.size ≤ i) → Mach w' bm base (fs ++ x.poss.map fun f => (f, rule)) (fun p q => F p q ∨ x.fol fs.length p q) rl Ft' →
    SetAt (V Ft' w') a (x.first fs.length) → SetAt (V Ft' w') b (x.last fs.length) → K (some a, some b, x.emp) w') → nfa_Machine_add.C (some ⟨bm, 0, none⟩) rule p w K

section
variable {w : World} {bm base : Nat} {fs : List ((Nat → Bool) × Int)} {F : Int → Int → Prop} {rl : Sl} {Ft : Nat → Prop} {p : Option Addr} {rule : Int} {K : (Option Nat × Option Nat × Bool) → World → Prop}

/-- The end of each way: the answer is laid in its row, and read. -/
theorem add_end {w1 : World} {Ft' : Nat → Prop} {b1 a b : Nat} {x y : Option Nat} {e0 e : Bool} {fs' : List ((Nat → Bool) × Int)} {F' : Int → Int → Prop} {A B : Int → Prop} (h1 : w1.heap[b1]? = some (kobj x y e0)) (hk : Keeps Ft w w1) (hF : ∀ i, Ft' i → Ft i ∨ w.heap.size ≤ i) (hb : w.heap.size ≤ b1) (hn : ¬ Ft' b1)
    (hm : Mach w1 bm base fs' F' rl Ft') (hA : SetAt (V Ft' w1) a A) (hB : SetAt (V Ft' w1) b B)
    (hK : ∀ w', Keeps Ft w w' → Mach w' bm base fs' F' rl Ft' → SetAt (V Ft' w') a A → SetAt (V Ft' w') b B → K (some a, some b, e) w') :
    St ⟨b1, 0, none⟩ (.map (some a)) w1 fun w2 => St ⟨b1, 1, none⟩ (.map (some b)) w2 fun w3 => St ⟨b1, 2, none⟩ (.bool e) w3 fun w4 => Ld .map ⟨b1, 0, none⟩ w4 fun r0 => Ld .map ⟨b1, 1, none⟩ w4 fun r1 => Ld .bool ⟨b1, 2, none⟩ w4 fun r2 => K (r0, r1, r2) w4 := by
  refine St3 h1 fun w2 u2 => Ld3 (k := fun a b c => K (a, b, c) w2) u2.at_ ?_
  have hv : ∀ {m : Nat} {S : Int → Prop}, SetAt (V Ft' w1) m S → SetAt (V Ft' w2) m S := fun {m S} h => h.keep u2.keeps (fun e => by
    subst e
    obtain ⟨es, clock, ⟨_, h⟩, _⟩ := h
    rw [h1] at h
    cases h) h.out
  exact hK w2 (hk.then u2.keeps fun i hi e => by omega) (hm.keep u2.keeps fun i e hf => hn (e ▸ hf)) (hv hA) (hv hB)

theorem add_set {f : Nat → Bool} (hm : Mach w bm base fs F rl Ft) (hN : Nd (V Ft w) p (.set f)) (hfew : fs.length + 1 ≤ 2000) (hbase : base ≤ w.heap.size)
    (hK : ∀ (a b : Nat) (w' : World) (Ft' : Nat → Prop), Keeps Ft w w' → (∀ i, Ft' i → Ft i ∨ w.heap.size ≤ i) → Mach w' bm base (fs ++ [(f, rule)]) F rl Ft' →
      SetAt (V Ft' w') a (fun k => k = fs.length) → SetAt (V Ft' w') b (fun k => k = fs.length) → K (some a, some b, false) w') : nfa_Machine_add.C (some ⟨bm, 0, none⟩) rule p w K := by
  refine nfa_Machine_add.ok _ _ _ _ _ ?_
  simp only [nfa_Machine_add.M, NilC_some]
  refine Al.mk fun b1 w1 n1 => ?_
  have e1 := n1.eq; have s1 := n1.size
  have hold := hm.old
  refine regex_Parts_spec (M := Ft) (hold.keeps n1.keeps) (hN.mono (V.keeps0 n1.keeps)) fun l0 ps0 w2 k2 _ _ => ?_
  refine regex_Kind_spec (M := Ft) (hN.mono (V.keeps0 (n1.keeps.trans k2))) ?_
  show Ld _ _ _ _
  have k02 : Keeps No w w2 := n1.keeps.trans k2
  obtain ⟨l, vs, m2⟩ := hm.keep0 k02
  have hl := m2.len
  refine Ld.sl (cell_of m2.at_ rfl) ?_
  dsimp only
  refine Join.cut (fun _ w4 => ∃ Ft', Keeps Ft w w4 ∧ (∀ i, Ft' i → Ft i ∨ w2.heap.size ≤ i) ∧ Mach w4 bm base (fs ++ [(f, rule)]) F rl Ft' ∧ w2.heap.size ≤ w4.heap.size ∧ w4.heap[b1]? = some (kobj none none false)) ?_ ?_
  · rintro _ w4 ⟨Ft', k4, hF, m4, s4, h4⟩
    have pn : Pos (l.n : Int) := by unfold Pos; omega
    have e : (l.n : Int) = (fs.length : Int) := by omega
    refine set1 (k := fun m3 w6 => Al (.map #[] 0) w6 fun m4 w7 => _) pn fun m5 w5 k5 g5 h5 => ?_
    refine set1 (k := fun m4 w8 => _) pn fun m6 w6 k6 g6 h6 => ?_
    have s2 := k2.size
    have hold4 := m4.old
    have nF5 : ¬ Ft' m5 := fun h => by have := hold4 _ h; omega
    have nF6 : ¬ Ft' m6 := fun h => by have := hold4 _ h; have := k5.size; omega
    refine add_end (k5.trans k6 |>.blk0 h4) (k4.then0 (k5.trans k6)) (fun i h => (hF i h).imp id (by have := k02.size; omega)) (by omega) ?_ (m4.keep0 (k5.trans k6)) ((h5.keep (M' := Ft') k6 (fun h => h.elim) nF5)) ((h6.keep (M' := Ft') (Keeps.refl (M := No)) (fun h => h.elim) nF6)) fun w7 k7 m7 a7 b7 => ?_
    · intro h
      rcases hF _ h with h | h
      · have := hold _ h; omega
      · omega
    · exact hK m5 m6 w7 Ft' k7 (fun i h => (hF i h).imp id (by have := k02.size; omega)) m7 (a7.congr fun k => by rw [e]) (b7.congr fun k => by rw [e])
  · intro j hj
    refine DrawN.mk fun w3 hh k3 => ?_
    simp only [true_and]
    have m3 := m2.keep k3 fun _ h => h.elim
    have s3 : w3.heap.size = w2.heap.size := by rw [hh]
    have k03 : Keeps No w w3 := k02.trans k3
    have hN3 := hN.mono (V.keeps0 (M := Ft) k03)
    have s03 := k03.size
    have hb3 : w3.heap[b1]? = some (kobj none none false) := k3.blk0 (k2.blk0 n1.at_)
    have nb : ¬ Ft b1 := fun h => by have := hold _ h; omega
    have tail : ∀ {wA : World} {b m n0 n1 n2 n3 : Nat}, Keeps No w3 wA → wA.heap[b]? = some (.cells #[.int .u64 n0, .int .u64 n1, .int .u64 n2, .int .u64 n3, .int .i64 rule, .map (some m)] T.nfa_position (0, 0)) → wA.heap[m]? = some (.map #[] 0) → w3.heap.size ≤ m → Words f n0 n1 n2 n3 →
        App P (Builtin.append_ #[T.sl_nfa_position, T.sl_nfa_position] T.sl_nfa_position #[.slice l.a l.n l.c, .slice (some ⟨b, 0, none⟩) 1 1]) (.one .sl) wA fun x34 w16 => St ⟨bm, 0, none⟩ (.slice x34.a x34.n x34.c) w16 fun w17 => j () w17 := by
      intro wA b m n0 n1 n2 n3 hk hb hmm hge hw
      refine Mach.push m3 (by omega) hk hb hmm hge hfew hw fun w' Ft' g1 g2 g3 => hj () w' ⟨Ft', (k03.no (M := Ft)).trans g1, fun i h => (g2 i h).imp id (by omega), g3, ?_, g1.blk hb3 nb⟩
      have := g1.size; omega
    have ldl : ∀ {wA : World} {k : Sl → Prop}, Keeps No w3 wA → k l → Ld .sl ⟨bm, 0, none⟩ wA k := fun {wA k} hk h => Ld.sl (cell_of (hk.blk0 m3.at_) rfl) h
    have byt : ∀ {wA : World} {k : (Int × Int × Int × Int) → World → Prop}, Keeps No w3 wA → (∀ (n0 n1 n2 n3 : Nat) w', Words f n0 n1 n2 n3 → Keeps No wA w' → k (n0, n1, n2, n3) w') → regex_Bytes.C p wA k := fun {wA k} hk h => regex_Bytes_spec (M := Ft) (hN3.mono (V.keeps0 hk)) h
    refine ⟨ldl .refl ⟨?_, ?_⟩, byt .refl fun c0 c1 c2 c3 w4 hw k4 => ⟨ldl k4 ?_, ?_⟩, ?_⟩
    · refine byt .refl fun c0 c1 c2 c3 w4 hw k4 => Al.mk fun m5 w5 n5 => Al.mk fun b6 w6 n6 => ?_
      exact tail ((k4.trans n5.keeps).trans n6.keeps) n6.at_ (n6.keeps.blk0 n5.at_) (by have := n5.eq; have := k4.size; omega) hw
    · refine Al.mk fun m5 w5 n5 => byt n5.keeps fun c0 c1 c2 c3 w4 hw k4 => Al.mk fun b6 w6 n6 => ?_
      exact tail ((n5.keeps.trans k4).trans n6.keeps) n6.at_ (n6.keeps.blk0 (k4.blk0 n5.at_)) (by have := n5.eq; omega) hw
    · refine Al.mk fun m5 w5 n5 => Al.mk fun b6 w6 n6 => ?_
      exact tail ((k4.trans n5.keeps).trans n6.keeps) n6.at_ (n6.keeps.blk0 n5.at_) (by have := n5.eq; have := k4.size; omega) hw
    · refine Al.mk fun m5 w5 n5 => ⟨ldl (k4.trans n5.keeps) (Al.mk fun b6 w6 n6 => ?_), Al.mk fun b6 w6 n6 => ldl ((k4.trans n5.keeps).trans n6.keeps) ?_⟩
      · exact tail ((k4.trans n5.keeps).trans n6.keeps) n6.at_ (n6.keeps.blk0 n5.at_) (by have := n5.eq; have := k4.size; omega) hw
      · exact tail ((k4.trans n5.keeps).trans n6.keeps) n6.at_ (n6.keeps.blk0 n5.at_) (by have := n5.eq; have := k4.size; omega) hw
    · refine Al.mk fun m5 w5 n5 => ⟨ldl n5.keeps ?_, ?_⟩
      · refine byt n5.keeps fun c0 c1 c2 c3 w4 hw k4 => Al.mk fun b6 w6 n6 => ?_
        exact tail ((n5.keeps.trans k4).trans n6.keeps) n6.at_ (n6.keeps.blk0 (k4.blk0 n5.at_)) (by have := n5.eq; omega) hw
      · refine byt n5.keeps fun c0 c1 c2 c3 w4 hw k4 => ⟨ldl (n5.keeps.trans k4) (Al.mk fun b6 w6 n6 => ?_), Al.mk fun b6 w6 n6 => ldl ((n5.keeps.trans k4).trans n6.keeps) ?_⟩
        · exact tail ((n5.keeps.trans k4).trans n6.keeps) n6.at_ (n6.keeps.blk0 (k4.blk0 n5.at_)) (by have := n5.eq; omega) hw
        · exact tail ((n5.keeps.trans k4).trans n6.keeps) n6.at_ (n6.keeps.blk0 (k4.blk0 n5.at_)) (by have := n5.eq; omega) hw

theorem add_empty (hm : Mach w bm base fs F rl Ft) (hN : Nd (V Ft w) p .empty)
    (hK : ∀ (a b : Nat) (w' : World), Keeps Ft w w' → Mach w' bm base fs F rl Ft → SetAt (V Ft w') a (fun _ => False) → SetAt (V Ft w') b (fun _ => False) → K (some a, some b, true) w') : nfa_Machine_add.C (some ⟨bm, 0, none⟩) rule p w K := by
  refine nfa_Machine_add.ok _ _ _ _ _ ?_
  simp only [nfa_Machine_add.M, NilC_some]
  refine Al.mk fun b1 w1 n1 => ?_
  have e1 := n1.eq; have s1 := n1.size
  have hold := hm.old
  refine regex_Parts_spec (M := Ft) (hold.keeps n1.keeps) (hN.mono (V.keeps0 n1.keeps)) fun l0 ps0 w2 k2 _ _ => ?_
  refine regex_Kind_spec (M := Ft) (hN.mono (V.keeps0 (n1.keeps.trans k2))) ?_
  refine Br.mk (fun ht => absurd ht (by decide)) fun _ => Br.mk (fun ht => absurd ht (by decide)) fun _ => Br.mk (fun ht => absurd ht (by decide)) fun _ => Br.mk (fun ht => absurd ht (by decide)) fun _ => ?_
  have k02 : Keeps No w w2 := n1.keeps.trans k2
  refine Al.mk fun m3 w3 n3 => Al.mk fun m4 w4 n4 => ?_
  have s2 := k2.size; have e3 := n3.eq; have e4 := n4.eq; have s3 := n3.size
  have nf : ∀ {b : Nat}, w.heap.size ≤ b → ¬ Ft b := fun {b} h hf => by have := hold b hf; omega
  have k4 : Keeps No w w4 := (k02.trans n3.keeps).trans n4.keeps
  refine add_end (Ft' := Ft) (A := fun _ => False) (B := fun _ => False) (n4.keeps.blk0 (n3.keeps.blk0 (k2.blk0 n1.at_))) k4.no (fun i h => .inl h) (by omega) (nf (by omega)) (hm.keep0 k4) (MapAt.congr (MapAt.empty ⟨nf (by omega), n4.keeps.blk0 n3.at_⟩) (by simp)) (MapAt.congr (MapAt.empty ⟨nf (by omega), n4.at_⟩) (by simp)) fun w7 k7 m7 a7 b7 => ?_
  exact hK m3 m4 w7 k7 m7 a7 b7

/-- Where an expression is being added. -/
structure Ph (w3 wc : World) (bm base : Nat) (rl : Sl) (Ft G : Nat → Prop) (fs : List ((Nat → Bool) × Int)) (F : Int → Int → Prop) : Prop where
  k : Keeps Ft w3 wc
  g : ∀ i, G i → Ft i ∨ w3.heap.size ≤ i
  m : Mach wc bm base fs F rl G

theorem Ph.al {w3 wc : World} {G : Nat → Prop} (h : Ph w3 wc bm base rl Ft G fs F) {o : Obj} {k : Nat → World → Prop} (hk : ∀ b wd, Ph w3 wd bm base rl Ft G fs F → Vle (V G wc) (V G wd) → V G wd b o → w3.heap.size ≤ b → wc.heap.size ≤ b → Keeps No wc wd → k b wd) : Al o wc k := by
  refine Al.mk fun b wd n => ?_
  have := h.k.size; have := n.eq; have hold := h.m.old
  exact hk b wd ⟨h.k.then0 n.keeps, h.g, h.m.keep0 n.keeps⟩ (V.keeps0 n.keeps) ⟨fun hg => by have := hold b hg; omega, n.at_⟩ (by omega) (by omega) n.keeps

theorem Ph.vle {w3 wc : World} {G : Nat → Prop} (h : Ph w3 wc bm base rl Ft G fs F) : Vle (V Ft w3) (V G wc) := V.move h.k (fun _ _ h => h) fun b hb hg => (h.g b hg).resolve_right (by omega)

theorem Ph.add {n : Nat} (ih : AddSpec n) {w3 wc : World} {G : Nat → Prop} {x : Re} (h : Ph w3 wc bm base rl Ft G fs F) (hN : Nd (V Ft w3) p x) (hx : x.size ≤ n) (hfew : fs.length + x.cnt ≤ 2000) (hbase : base ≤ w3.heap.size)
    (hK : ∀ (a b : Nat) (wd : World) (G' : Nat → Prop), Ph w3 wd bm base rl Ft G' (fs ++ x.poss.map fun f => (f, rule)) (fun p q => F p q ∨ x.fol fs.length p q) → Vle (V G wc) (V G' wd) → 
      SetAt (V G' wd) a (x.first fs.length) → SetAt (V G' wd) b (x.last fs.length) → K (some a, some b, x.emp) wd) : nfa_Machine_add.C (some ⟨bm, 0, none⟩) rule p wc K := by
  refine ih x hx h.m (hN.mono h.vle) hfew (Nat.le_trans hbase h.k.size) fun a b w' Ft' k1 g1 m1 sa sb => ?_
  have := h.k.size
  refine hK a b w' Ft' ⟨h.k.step k1 h.g, fun i hi => ?_, m1⟩ (V.move k1 (fun _ _ h => h) fun b hb hg => (g1 b hg).resolve_right (by omega)) sa sb
  rcases g1 i hi with h1 | h1
  · exact h.g i h1
  · exact .inr (by omega)

theorem Ph.start {w3 : World} (h : Mach w3 bm base fs F rl Ft) : Ph w3 w3 bm base rl Ft Ft fs F := ⟨.refl, fun _ h => .inl h, h⟩

theorem IdxS.getS {t : Ty} {M : Nat → Prop} {S : World → Prop} {w : World} {l : Sl} {xs : List t.T} {i : Int} {K : t.T → Prop} (h : SlT t (V M w) l xs) (hS : ∀ w', S w' → Vle (V M w) (V No w')) (h0 : 0 ≤ i) (h1 : i < xs.length)
    (hk : ∀ x, xs[i.toNat]? = some x → K x) : IdxS l i 1 fun p => LdS S t p K := by
  obtain ⟨e1, e2⟩ := h
  have hlt : i.toNat < xs.length := by omega
  have hx : xs[i.toNat]? = some xs[i.toNat] := List.getElem?_eq_getElem hlt
  rcases e2 with rfl | ⟨b, off, cs, E, fr, e3, e4, e5⟩
  · simp at hlt
  · refine ⟨_, e3, ⟨h0, by omega⟩, xs[i.toNat], fun w' hw' => ?_, hk _ hx⟩
    rw [add_eq, Nat.mul_one]
    exact cell_of (hS w' hw' _ _ e4).2 (e5 _ _ hx)

theorem parts2 {H : View} {ps : List (Option Addr)} {x y : Re} (h : All2 (Nd H) ps [x, y]) : ∃ p q, ps = [p, q] ∧ Nd H p x ∧ Nd H q y := by
  cases h with
  | cons h1 h2 => cases h2 with
    | cons h3 h4 => cases h4; exact ⟨_, _, rfl, h1, h3⟩
theorem parts1 {H : View} {ps : List (Option Addr)} {x : Re} (h : All2 (Nd H) ps [x]) : ∃ p, ps = [p] ∧ Nd H p x := by
  cases h with
  | cons h1 h2 => cases h2; exact ⟨_, rfl, h1⟩

theorem Ph.drew {w3 wc wd : World} {G : Nat → Prop} (h : Ph w3 wc bm base rl Ft G fs F) (k : Keeps No wc wd) : Ph w3 wd bm base rl Ft G fs F := ⟨h.k.then0 k, h.g, h.m.keep0 k⟩

theorem tail_cat {w3 w6 : World} {G6 : Nat → Prop} {b1 a1 a2 c1 c2 : Nat} {A1 A2 B1 B2 : Int → Prop} {fs' : List ((Nat → Bool) × Int)} {F' : Int → Int → Prop} {ea eb : Bool} {S : World → Prop}
    (hw : Keeps No w w3) (hb1 : w.heap.size ≤ b1 ∧ b1 < w3.heap.size) (hold : Old Ft w) (d6 : Ph w3 w6 bm base rl Ft G6 fs' F') (hS : ∀ x, Keeps (fun b => Ft b ∨ b = b1) w3 x → S x) (h6 : w6.heap[b1]? = some (kobj none none false))
    (hA1 : SetAt (V G6 w6) a1 A1) (hA2 : SetAt (V G6 w6) a2 A2) (hB1 : SetAt (V G6 w6) c1 B1) (hB2 : SetAt (V G6 w6) c2 B2)
    (iA2 : ∀ k, A2 k → 0 ≤ k ∧ k < fs'.length) (iB1 : ∀ k, B1 k → 0 ≤ k ∧ k < fs'.length)
    (hK : ∀ (a b : Nat) (w' : World) (Ft' : Nat → Prop), Keeps Ft w w' → (∀ i, Ft' i → Ft i ∨ w.heap.size ≤ i) → Mach w' bm base fs' (fun p q => F' p q ∨ (A2 p ∧ B1 q)) rl Ft' →
      SetAt (V Ft' w') a (fun k => A1 k ∨ (ea = true ∧ B1 k)) → SetAt (V Ft' w') b (fun k => B2 k ∨ (eb = true ∧ A2 k)) → K (some a, some b, ea && eb) w') :
    nfa_Machine_cat.C (some ⟨bm, 0, none⟩) (some a1, some a2, ea) (some c1, some c2, eb) w6 fun x59 w50 => (S w50 ∧ St (⟨b1, 0, none⟩) (.map x59.1) w50 fun w51 => St (⟨b1, 1, none⟩) (.map x59.2.1) w51 fun w52 => St (⟨b1, 2, none⟩) (.bool x59.2.2) w52 fun w53 => (S w53 ∧ Ld .map (⟨b1, 0, none⟩) w53 fun r0_0 => Ld .map (⟨b1, 1, none⟩) w53 fun r0_1 => Ld .bool (⟨b1, 2, none⟩) w53 fun r0_2 => K (r0_0, r0_1, r0_2) w53)) := by
  refine nfa_Machine_cat_spec d6.m hA1 hA2 hB1 hB2 iA2 iB1 fun d1 d2 w7 k7 m7 s1 s2 => ?_
  have nG : ¬ G6 b1 := fun h => by
    rcases d6.g _ h with h | h
    · have := hold _ h; omega
    · omega
  have h7 := k7.blk h6 nG
  have kk : Keeps Ft w3 w7 := d6.k.step k7 d6.g
  refine ⟨hS _ (kk.mono fun i _ h => .inl h), St3 h7 fun w8 u8 => ⟨hS _ ?_, ?_⟩⟩
  · exact (kk.mono (M := fun b => Ft b ∨ b = b1) fun i _ h => .inl h).then u8.keeps fun i _ h => .inr h
  · refine Ld3 (k := fun a b c => K (a, b, c) w8) u8.at_ ?_
    have hv : ∀ {m : Nat} {S : Int → Prop}, SetAt (V G6 w7) m S → SetAt (V G6 w8) m S := fun {m S} h => h.keep u8.keeps (fun e => by
      subst e
      obtain ⟨es, clock, ⟨_, h⟩, _⟩ := h
      rw [h7] at h
      cases h) h.out
    have hsz := hw.size
    refine hK d1 d2 w8 G6 (((hw.no (M := Ft)).trans kk).then u8.keeps fun i hi e => by omega) (fun i hi => (d6.g i hi).imp id (by omega)) (m7.keep u8.keeps fun i e hf => nG (e ▸ hf)) (hv s1) (hv s2)

theorem add_cat {n : Nat} (ih : AddSpec n) {x y : Re} (hx : (Re.cat x y).size ≤ n + 1) (hm : Mach w bm base fs F rl Ft) (hN : Nd (V Ft w) p (.cat x y)) (hfew : fs.length + (x.cnt + y.cnt) ≤ 2000) (hbase : base ≤ w.heap.size)
    (hK : ∀ (a b : Nat) (w' : World) (Ft' : Nat → Prop), Keeps Ft w w' → (∀ i, Ft' i → Ft i ∨ w.heap.size ≤ i) → Mach w' bm base (fs ++ (Re.cat x y).poss.map fun f => (f, rule)) (fun p q => F p q ∨ (Re.cat x y).fol fs.length p q) rl Ft' →
      SetAt (V Ft' w') a ((Re.cat x y).first fs.length) → SetAt (V Ft' w') b ((Re.cat x y).last fs.length) → K (some a, some b, (Re.cat x y).emp) w') : nfa_Machine_add.C (some ⟨bm, 0, none⟩) rule p w K := by
  simp only [Re.size] at hx
  refine nfa_Machine_add.ok _ _ _ _ _ ?_
  simp only [nfa_Machine_add.M, NilC_some]
  refine Al.mk fun b1 w1 n1 => ?_
  have e1 := n1.eq; have s1 := n1.size
  have hold := hm.old
  have nb : ¬ Ft b1 := fun h => by have := hold _ h; omega
  have hN1 : Nd (V (fun b => Ft b ∨ b = b1) w1) p (.cat x y) := hN.mono (V.move n1.keeps (fun _ _ h => h.elim) fun b hb h => h.resolve_right (by omega))
  refine regex_Parts_spec (M := fun b => Ft b ∨ b = b1) (fun b hb => by rcases hb with h | h; { have := hold b h; omega }; { omega }) hN1 fun l0 ps0 w3 k3 hl0 ha0 => ?_
  have k03 : Keeps No w w3 := n1.keeps.trans k3
  refine regex_Kind_spec (M := Ft) (hN.mono (V.keeps0 k03)) ?_
  refine Br.mk (fun ht => absurd ht (by simp [Re.kind])) fun _ => Br.mk (fun _ => ?_) fun ht => absurd ht (by simp [Re.kind])
  obtain ⟨p1, p2, rfl, hp1, hp2⟩ := parts2 ha0
  have s03 := k3.size
  have hb3 : w3.heap[b1]? = some (kobj none none false) := k3.blk0 n1.at_
  refine ⟨fun x => Keeps (fun b => Ft b ∨ b = b1) w3 x, Keeps.drew.no, ?_⟩
  have d0 : Ph w3 w3.drew bm base rl Ft Ft fs F := (Ph.start (hm.keep0 k03)).drew .drew
  have hS : ∀ w', Keeps (fun b => Ft b ∨ b = b1) w3 w' → Vle (V (fun b => Ft b ∨ b = b1) w3) (V No w') := fun w' hk => V.move hk (fun _ _ h => h) fun _ _ h => h.elim
  refine IdxS.getS hl0 hS (by omega) (by simp) fun q1 hq1 => IdxS.getS hl0 hS (by omega) (by simp) fun q2 hq2 => ?_
  simp at hq1 hq2
  subst hq1 hq2
  have sub : Vle (V (fun b => Ft b ∨ b = b1) w3) (V Ft w3) := V.sub fun b _ h => .inl h
  refine d0.add ih (hp1.mono sub) (by omega) (by omega) (by omega) fun a1 a2 w5 G5 d5 v5 sa1 sa2 => ⟨d5.k.mono fun i _ h => .inl h, ?_⟩
  refine d5.add ih (hp2.mono sub) (by omega) (by simp [Re.poss_len]; omega) (by omega) fun c1 c2 w6 G6 d6 v6 sb1 sb2 => ⟨d6.k.mono fun i _ h => .inl h, ?_⟩
  have hlen : ((fs ++ x.poss.map fun f => (f, rule)).length : Int) = fs.length + x.cnt := by simp [Re.poss_len]
  rw [hlen] at sb1 sb2 d6
  have hlen2 : (((fs ++ x.poss.map fun f => (f, rule)) ++ y.poss.map fun f => (f, rule)).length : Int) = fs.length + x.cnt + y.cnt := by simp [Re.poss_len]; omega
  refine tail_cat k03 ⟨by omega, lt_of_some hb3⟩ hold d6 (fun _ h => h) (d6.k.blk hb3 nb) (sa1.mono v6) (sa2.mono v6) sb1 sb2 (fun k hk => ?_) (fun k hk => ?_) fun a b w' Ft' g1 g2 g3 g4 g5 => ?_
  · have := Re.last_in hk; rw [hlen2]; omega
  · have := Re.first_in hk; rw [hlen2]; omega
  · refine hK a b w' Ft' g1 g2 ?_ g4 g5
    have e : (fs ++ x.poss.map fun f => (f, rule)) ++ (y.poss.map fun f => (f, rule)) = fs ++ (Re.cat x y).poss.map fun f => (f, rule) := by simp [Re.poss]
    rw [e] at g3
    refine g3.congr fun p q => ?_
    simp only [Re.fol]
    constructor
    · rintro ((h | h) | h)
      · rcases h with h | h
        · exact .inl h
        · exact .inr (.inl (.inl h))
      · exact .inr (.inl (.inr h))
      · exact .inr (.inr h)
    · rintro (h | (h | h) | h)
      · exact .inl (.inl (.inl h))
      · exact .inl (.inl (.inr h))
      · exact .inl (.inr h)
      · exact .inr h

theorem add_star {n : Nat} (ih : AddSpec n) {x : Re} (hx : (Re.star x).size ≤ n + 1) (hm : Mach w bm base fs F rl Ft) (hN : Nd (V Ft w) p (.star x)) (hfew : fs.length + x.cnt ≤ 2000) (hbase : base ≤ w.heap.size)
    (hK : ∀ (a b : Nat) (w' : World) (Ft' : Nat → Prop), Keeps Ft w w' → (∀ i, Ft' i → Ft i ∨ w.heap.size ≤ i) → Mach w' bm base (fs ++ (Re.star x).poss.map fun f => (f, rule)) (fun p q => F p q ∨ (Re.star x).fol fs.length p q) rl Ft' →
      SetAt (V Ft' w') a ((Re.star x).first fs.length) → SetAt (V Ft' w') b ((Re.star x).last fs.length) → K (some a, some b, (Re.star x).emp) w') : nfa_Machine_add.C (some ⟨bm, 0, none⟩) rule p w K := by
  simp only [Re.size] at hx
  refine nfa_Machine_add.ok _ _ _ _ _ ?_
  simp only [nfa_Machine_add.M, NilC_some]
  refine Al.mk fun b1 w1 n1 => ?_
  have e1 := n1.eq; have s1 := n1.size
  have hold := hm.old
  have nb : ¬ Ft b1 := fun h => by have := hold _ h; omega
  refine regex_Parts_spec (M := Ft) (hold.keeps n1.keeps) (hN.mono (V.keeps0 n1.keeps)) fun l0 ps0 w3 k3 hl0 ha0 => ?_
  have k03 : Keeps No w w3 := n1.keeps.trans k3
  refine regex_Kind_spec (M := Ft) (hN.mono (V.keeps0 k03)) ?_
  refine Br.mk (fun ht => absurd ht (by simp [Re.kind])) fun _ => Br.mk (fun ht => absurd ht (by simp [Re.kind])) fun _ => Br.mk (fun ht => absurd ht (by simp [Re.kind])) fun _ => Br.mk (fun _ => ?_) fun ht => absurd ht (by simp [Re.kind])
  obtain ⟨p1, rfl, hp1⟩ := parts1 ha0
  have s03 := k3.size
  have hb3 : w3.heap[b1]? = some (kobj none none false) := k3.blk0 n1.at_
  have d0 : Ph w3 w3 bm base rl Ft Ft fs F := Ph.start (hm.keep0 k03)
  refine IdxS.get hl0 (by omega) (by simp) fun q1 hq1 => ?_
  simp at hq1
  subst hq1
  refine d0.add ih hp1 (by omega) (by omega) (by omega) fun a1 a2 w5 G5 d5 v5 sa1 sa2 => ?_
  refine d5.al fun b2 w6 d6 v6 hb6 g6 g6' k6 => ?_
  refine St3 hb6.2 fun w7 u7 => ?_
  have nG : ∀ {i : Nat}, G5 i → i ≠ b2 := fun {i} hg e => hb6.1 (e ▸ hg)
  have hne : ∀ {m : Nat} {S : Int → Prop}, SetAt (V G5 w6) m S → SetAt (V G5 w7) m S := fun {m S} h => h.keep u7.keeps (fun e => by
    subst e
    obtain ⟨es, clock, ⟨_, h⟩, _⟩ := h
    rw [hb6.2] at h
    cases h) h.out
  have m7 : Mach w7 bm base (fs ++ x.poss.map fun f => (f, rule)) (fun p q => F p q ∨ x.fol fs.length p q) rl G5 := d6.m.keep u7.keeps fun i e hg => nG hg e
  have sa1' := hne (sa1.mono v6)
  have sa2' := hne (sa2.mono v6)
  have hlen : ((fs ++ x.poss.map fun f => (f, rule)).length : Int) = fs.length + x.cnt := by simp [Re.poss_len]
  refine Ld.map (cell_of u7.at_ rfl) (Ld.map (cell_of u7.at_ rfl) ?_)
  refine nfa_Machine_link_spec m7 sa2' sa1' (fun k hk => ?_) (fun k hk => ?_) fun w8 k8 m8 => ?_
  · have := Re.last_in hk; rw [hlen]; omega
  · have := Re.first_in hk; rw [hlen]; omega
  have h8 := k8.blk u7.at_ hb6.1
  refine Ld.map (cell_of h8 rfl) (Ld.map (cell_of h8 rfl) ?_)
  have k37 : Keeps Ft w3 w7 := d6.k.then u7.keeps fun i hi e => by omega
  have k38 : Keeps Ft w3 w8 := k37.step k8 d6.g
  have s8 := k38.size
  have sz3 := k03.size
  refine add_end (Ft' := G5) (k38.blk hb3 nb) ((k03.no (M := Ft)).trans k38) (fun i hi => (d6.g i hi).imp id (by omega)) (by omega) (fun h => ?_) m8 (sa1'.mono (V.keeps k8)) (sa2'.mono (V.keeps k8)) fun w9 k9 m9 h1 h2 => ?_
  · rcases d6.g _ h with h | h
    · exact nb h
    · have := lt_of_some hb3; omega
  · refine hK a1 a2 w9 G5 k9 (fun i hi => (d6.g i hi).imp id (by omega)) (m9.congr fun p q => ?_) h1 h2
    simp only [Re.fol, or_assoc]
end
end Go.Fk
