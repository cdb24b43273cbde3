/-
  A part of the proof: what the functions of the program come to, read off the model: no premise of its own, no axiom. By an AI agent.
-/
import Derived.Test.YtdhgbfbmcingoaaNq
set_option linter.all false
set_option linter.unusedVariables false
namespace Go.Fk
open Go Go.MapKept

structure PosV where
  n0 : Nat
  n1 : Nat
  n2 : Nat
  n3 : Nat
  rule : Int
  m : Nat

def PosV.cells (v : PosV) : List Value := [.int .u64 v.n0, .int .u64 v.n1, .int .u64 v.n2, .int .u64 v.n3, .int .i64 v.rule, .map (some v.m)]
theorem PosV.len (v : PosV) : v.cells.length = 6 := rfl

/-- A machine in the making: its positions, what follows each; the blocks that are its own. -/
structure MachAt (w : World) (bm base : Nat) (fs : List ((Nat → Bool) × Int)) (F : Int → Int → Prop) (l rl : Sl) (vs : List PosV) (Ft : Nat → Prop) : Prop where
  at_ : w.heap[bm]? = some (.cells #[.slice l.a l.n l.c, .slice rl.a rl.n rl.c] T.nfa_Machine (0, 0))
  own : Own w base T.nfa_position 6 l (vs.map PosV.cells).flatten
  pos : All2 (fun v x => Words x.1 v.n0 v.n1 v.n2 v.n3 ∧ v.rule = x.2) vs fs
  sets : ∀ (i : Nat) v, vs[i]? = some v → SetAt (V No w) v.m (F i)
  apart : ∀ (i j : Nat) v v', vs[i]? = some v → vs[j]? = some v' → v.m = v'.m → i = j
  foot : ∀ b, (b = bm ∨ l.blk b ∨ ∃ v ∈ vs, v.m = b) → Ft b
  old : ∀ b, Ft b → base ≤ b ∧ b < w.heap.size
  fin : ∀ p q, F p q → (0 ≤ p ∧ p < fs.length) ∧ 0 ≤ q ∧ q < fs.length
  few : fs.length ≤ 2000

def Mach (w : World) (bm base : Nat) (fs : List ((Nat → Bool) × Int)) (F : Int → Int → Prop) (rl : Sl) (Ft : Nat → Prop) : Prop := ∃ l vs, MachAt w bm base fs F l rl vs Ft

theorem MachAt.keep {w w' : World} {bm base : Nat} {fs : List ((Nat → Bool) × Int)} {F : Int → Int → Prop} {l rl : Sl} {vs : List PosV} {Ft N : Nat → Prop} (h : MachAt w bm base fs F l rl vs Ft) (hk : Keeps N w w') (hn : ∀ b, N b → ¬ Ft b) : MachAt w' bm base fs F l rl vs Ft where
  at_ := hk.blk h.at_ fun hm => hn _ hm (h.foot _ (.inl rfl))
  own := h.own.keep hk fun b hb hb' => hn b hb (h.foot _ (.inr (.inl hb')))
  pos := h.pos
  sets := fun i v hv => (h.sets i v hv).keep hk (fun hm => hn _ hm (h.foot _ (.inr (.inr ⟨v, List.mem_of_getElem? hv, rfl⟩)))) id
  apart := h.apart
  foot := h.foot
  old := fun b hb => ⟨(h.old b hb).1, Nat.lt_of_lt_of_le (h.old b hb).2 hk.size⟩
  fin := h.fin
  few := h.few
theorem Mach.keep {w w' : World} {bm base : Nat} {fs : List ((Nat → Bool) × Int)} {F : Int → Int → Prop} {rl : Sl} {Ft N : Nat → Prop} (h : Mach w bm base fs F rl Ft) (hk : Keeps N w w') (hn : ∀ b, N b → ¬ Ft b) : Mach w' bm base fs F rl Ft := by
  obtain ⟨l, vs, h⟩ := h
  exact ⟨l, vs, h.keep hk hn⟩
theorem Mach.keep0 {w w' : World} {bm base : Nat} {fs : List ((Nat → Bool) × Int)} {F : Int → Int → Prop} {rl : Sl} {Ft : Nat → Prop} (h : Mach w bm base fs F rl Ft) (hk : Keeps No w w') : Mach w' bm base fs F rl Ft := h.keep hk fun _ h => h.elim
theorem Mach.new {w w' : World} {bm base : Nat} {fs : List ((Nat → Bool) × Int)} {F : Int → Int → Prop} {rl : Sl} {Ft N : Nat → Prop} (h : Mach w bm base fs F rl Ft) (hk : Keeps N w w') (hn : ∀ b, N b → w.heap.size ≤ b) : Mach w' bm base fs F rl Ft := h.keep hk fun b hb hf => by
  obtain ⟨l, vs, h⟩ := h
  have := (h.old b hf).2; have := hn b hb; omega
theorem Mach.congr {w : World} {bm base : Nat} {fs : List ((Nat → Bool) × Int)} {F F' : Int → Int → Prop} {rl : Sl} {Ft : Nat → Prop} (h : Mach w bm base fs F rl Ft) (hF : ∀ p q, F p q ↔ F' p q) : Mach w bm base fs F' rl Ft := by
  have : F = F' := funext fun p => funext fun q => propext (hF p q)
  exact this ▸ h
theorem Mach.old {w : World} {bm base : Nat} {fs : List ((Nat → Bool) × Int)} {F : Int → Int → Prop} {rl : Sl} {Ft : Nat → Prop} (h : Mach w bm base fs F rl Ft) : Old Ft w := by
  obtain ⟨l, vs, h⟩ := h
  exact fun b hb => (h.old b hb).2
theorem Mach.few {w : World} {bm base : Nat} {fs : List ((Nat → Bool) × Int)} {F : Int → Int → Prop} {rl : Sl} {Ft : Nat → Prop} (h : Mach w bm base fs F rl Ft) : fs.length ≤ 2000 := by
  obtain ⟨l, vs, h⟩ := h
  exact h.few
theorem Mach.fin {w : World} {bm base : Nat} {fs : List ((Nat → Bool) × Int)} {F : Int → Int → Prop} {rl : Sl} {Ft : Nat → Prop} (h : Mach w bm base fs F rl Ft) : ∀ p q, F p q → (0 ≤ p ∧ p < fs.length) ∧ 0 ≤ q ∧ q < fs.length := by
  obtain ⟨l, vs, h⟩ := h
  exact h.fin

theorem MachAt.len {w : World} {bm base : Nat} {fs : List ((Nat → Bool) × Int)} {F : Int → Int → Prop} {l rl : Sl} {vs : List PosV} {Ft : Nat → Prop} (h : MachAt w bm base fs F l rl vs Ft) : l.n = fs.length ∧ vs.length = fs.length := by
  have h1 := h.own.len
  rw [flatten_len (sz := 6) (fun c hc => by obtain ⟨v, _, rfl⟩ := List.mem_map.1 hc; rfl), List.length_map] at h1
  have h2 := h.pos.length
  omega

theorem MachAt.rows {w : World} {bm base : Nat} {fs : List ((Nat → Bool) × Int)} {F : Int → Int → Prop} {l rl : Sl} {vs : List PosV} {Ft : Nat → Prop} (h : MachAt w bm base fs F l rl vs Ft) : SlC (V No w) l 6 (vs.map PosV.cells) :=
  Own.readsC h.own (by omega) (fun c hc => by obtain ⟨v, _, rfl⟩ := List.mem_map.1 hc; rfl) fun _ _ h => h.elim

/-- m.link(from, to) -/
theorem nfa_Machine_link_spec {w : World} {bm base from_ to : Nat} {fs : List ((Nat → Bool) × Int)} {F : Int → Int → Prop} {rl : Sl} {Ft : Nat → Prop} {A B : Int → Prop} {K : Unit → World → Prop}
    (hm : Mach w bm base fs F rl Ft) (ha : SetAt (V Ft w) from_ A) (hb : SetAt (V Ft w) to B) (hA : ∀ k, A k → 0 ≤ k ∧ k < fs.length) (hB : ∀ k, B k → 0 ≤ k ∧ k < fs.length)
    (hK : ∀ w', Keeps Ft w w' → Mach w' bm base fs (fun p q => F p q ∨ (A p ∧ B q)) rl Ft → K () w') : nfa_Machine_link.C (some ⟨bm, 0, none⟩) (some from_) (some to) w K := by
  refine nfa_Machine_link.ok _ _ _ _ _ ?_
  simp only [nfa_Machine_link.M, NilC_some]
  refine range_map (mo := some from_) setTy.ty ha (fun r d _ w' => Keeps Ft w w' ∧ Mach w' bm base fs (fun p q => F p q ∨ (d p ∧ B q)) rl Ft) ?_ ?_ ?_ ?_
  · intro r w' hr hk
    exact ⟨hk.no, (hm.keep0 hk).congr fun p q => by simp⟩
  · rintro r d _ w1 w2 hr ⟨h1, h2⟩ hk
    have hold := hm.old
    exact ⟨h1.then hk fun i hi e => by omega, h2.keep hk fun b hb hf => by have := hold b hf; omega⟩
  · rintro r d _ w2 x y hr hr2 ⟨h1, l, vs, h2⟩ ⟨hx, rfl⟩ hnd hmm again hagain
    have hlen := h2.len
    have hx2 := hA x hx
    refine Ld.sl (cell_of h2.at_ rfl) ?_
    refine IdxS.recd (M := No) h2.rows hx2.1 (by simp; omega) fun g off c hc hcell => ?_
    rw [List.getElem?_map] at hc
    obtain ⟨v, hv, rfl⟩ := Option.map_eq_some_iff.1 hc
    rw [add_eq]
    refine Ld.map (hcell 5 _ rfl) ?_
    have hset := h2.sets _ v hv
    have hvm : Ft v.m := h2.foot _ (.inr (.inr ⟨v, List.mem_of_getElem? hv, rfl⟩))
    have e : ((x.toNat : Nat) : Int) = x := by omega
    refine maps_Copy_spec (M := Ft) hset (MapO.mono (mo := some to) hb (V.keeps h1)) ?_ (fun k hk => ?_) fun w3 hk3 hs3 => ?_
    · intro e
      cases e
      exact hb.out hvm
    · have := hB k hk; have := hm.few; unfold Pos; omega
    · refine hagain () w3 ⟨h1.trans (hk3.mono fun i _ e => e ▸ hvm), l, vs, ?_⟩ ?_ ?_
      · refine ⟨hk3.blk h2.at_ ?_, h2.own.keep hk3 ?_, h2.pos, fun i v' hv' => ?_, h2.apart, h2.foot, fun b hb => ⟨(h2.old b hb).1, Nat.lt_of_lt_of_le (h2.old b hb).2 hk3.size⟩, ?_, h2.few⟩
        · intro e
          obtain ⟨es, clock, ⟨_, h⟩, _⟩ := hset
          rw [← e, h2.at_] at h
          cases h
        · rintro b rfl hb'
          obtain ⟨es, clock, ⟨_, h⟩, _⟩ := hset
          obtain ⟨a, ha, hab⟩ := hb'
          rcases h2.own.2 with ⟨hv, _⟩ | ⟨g, cap, cur, hv, _, hg, _⟩
          · simp [Sl.val, ha] at hv
          · simp [Sl.val, ha] at hv
            obtain ⟨rfl, _⟩ := hv
            subst hab
            rw [h] at hg
            cases hg
        · by_cases hi : i = x.toNat
          · subst hi
            rw [hv] at hv'
            cases hv'
            rw [e] at hs3
            exact hs3.congr fun k => by rw [e]; constructor <;> (intro h; rcases h with h | h) <;> simp_all
          · have hne : v'.m ≠ v.m := fun e1 => hi (h2.apart _ _ _ _ hv' hv e1)
            refine ((h2.sets i v' hv').keep hk3 hne id).congr fun k => ?_
            have : (i : Int) ≠ x := by omega
            simp [this]
        · rintro p q (h | ⟨h, h'⟩)
          · exact h2.fin p q (.inl h)
          · rcases h with h | rfl
            · exact h2.fin p q (.inr ⟨h, h'⟩)
            · exact ⟨hx2, hB q h'⟩
      · refine hk3.keep r hr2 fun e => ?_
        have := hm.old _ hvm
        omega
      · rintro m ⟨⟩
        have hlt := (ha.mono (V.keeps h1)).lt
        exact hk3.keep from_ hlt fun e => ha.out (e ▸ hvm)
  · rintro r d _ w2 hr ⟨h1, h2⟩ hd
    refine hK w2 h1 (h2.congr fun p q => ?_)
    rw [hd p]; simp
end Go.Fk
