/-
  A part of the proof: what the functions of the program come to, read off the model: no premise of its own, no axiom. By an AI agent.
-/
import Derived.Test.YtdhgbfbmcingoaaSem8
import Derived.Below
import Derived.IntWalk
set_option linter.all false
set_option linter.unusedVariables false
namespace Go.Fk
open Go

/-! ## Memory: what is kept -/

structure Keeps (M : Nat → Prop) (w w' : World) : Prop where
  os : w'.os = w.os
  tape : w'.tape = w.tape
  output : w'.output = w.output
  size : w.heap.size ≤ w'.heap.size
  keep : ∀ b, b < w.heap.size → ¬ M b → w'.heap[b]? = w.heap[b]?

def No : Nat → Prop := fun _ => False

theorem Keeps.refl {M : Nat → Prop} {w : World} : Keeps M w w := ⟨rfl, rfl, rfl, Nat.le_refl _, fun _ _ _ => rfl⟩
theorem Keeps.trans {M : Nat → Prop} {a b c : World} (h : Keeps M a b) (k : Keeps M b c) : Keeps M a c :=
  ⟨k.os.trans h.os, k.tape.trans h.tape, k.output.trans h.output, Nat.le_trans h.size k.size, fun i hi hm => (k.keep i (Nat.lt_of_lt_of_le hi h.size) hm).trans (h.keep i hi hm)⟩
/-- Then a step that writes into what is new alone. -/
theorem Keeps.then {M N : Nat → Prop} {a b c : World} (h : Keeps M a b) (k : Keeps N b c) (hN : ∀ i, i < a.heap.size → N i → M i) : Keeps M a c :=
  ⟨k.os.trans h.os, k.tape.trans h.tape, k.output.trans h.output, Nat.le_trans h.size k.size, fun i hi hm => (k.keep i (Nat.lt_of_lt_of_le hi h.size) (fun hn => hm (hN i hi hn))).trans (h.keep i hi hm)⟩
theorem Keeps.mono {M N : Nat → Prop} {w w' : World} (h : Keeps N w w') (hN : ∀ i, i < w.heap.size → N i → M i) : Keeps M w w' :=
  ⟨h.os, h.tape, h.output, h.size, fun i hi hm => h.keep i hi fun hn => hm (hN i hi hn)⟩
theorem Keeps.no {M : Nat → Prop} {w w' : World} (h : Keeps No w w') : Keeps M w w' := h.mono fun _ _ h => h.elim
theorem Keeps.then0 {M : Nat → Prop} {a b c : World} (h : Keeps M a b) (k : Keeps No b c) : Keeps M a c := h.then k fun _ _ h => h.elim
theorem Keeps.below {w w' : World} (h : Keeps No w w') : RowKit.Below w.heap.size w w' := ⟨h.os, h.tape, h.output, h.size, fun k hk => h.keep k hk id⟩
theorem Keeps.of_below {w w' : World} (h : RowKit.Below w.heap.size w w') : Keeps No w w' := ⟨h.os, h.tape, h.output, h.size, fun k hk _ => h.block k hk⟩
theorem Keeps.drew {w : World} : Keeps No w w.drew := ⟨rfl, rfl, rfl, Nat.le_refl _, fun _ _ _ => rfl⟩

theorem lt_of_some {w : World} {b : Nat} {o : Obj} (h : w.heap[b]? = some o) : b < w.heap.size := (Array.getElem?_eq_some_iff.1 h).1

theorem Keeps.blk {M : Nat → Prop} {w w' : World} (h : Keeps M w w') {b : Nat} {o : Obj} (hb : w.heap[b]? = some o) (hm : ¬ M b) : w'.heap[b]? = some o := by
  rw [h.keep b (lt_of_some hb) hm, hb]
theorem Keeps.blk0 {w w' : World} (h : Keeps No w w') {b : Nat} {o : Obj} (hb : w.heap[b]? = some o) : w'.heap[b]? = some o := h.blk hb id

/-! ## Views: blocks that stay -/

abbrev View := Nat → Obj → Prop
def V (M : Nat → Prop) (w : World) : View := fun b o => ¬ M b ∧ w.heap[b]? = some o
def Vle (H H' : View) : Prop := ∀ b o, H b o → H' b o

theorem Vle.refl {H : View} : Vle H H := fun _ _ h => h
theorem Vle.trans {H H' H'' : View} (h : Vle H H') (h' : Vle H' H'') : Vle H H'' := fun b o x => h' b o (h b o x)

theorem V.move {M M' N : Nat → Prop} {w w' : World} (hk : Keeps N w w') (hN : ∀ b, b < w.heap.size → N b → M b) (hM : ∀ b, b < w.heap.size → M' b → M b) : Vle (V M w) (V M' w') :=
  fun b o ⟨h1, h2⟩ => ⟨fun h => h1 (hM b (lt_of_some h2) h), hk.blk h2 fun h => h1 (hN b (lt_of_some h2) h)⟩
theorem V.keeps {M : Nat → Prop} {w w' : World} (hk : Keeps M w w') : Vle (V M w) (V M w') := V.move hk (fun _ _ h => h) (fun _ _ h => h)
theorem V.keeps0 {M : Nat → Prop} {w w' : World} (hk : Keeps No w w') : Vle (V M w) (V M w') := V.move hk (fun _ _ h => h.elim) (fun _ _ h => h)
theorem V.sub {M M' : Nat → Prop} {w : World} (h : ∀ b, b < w.heap.size → M' b → M b) : Vle (V M w) (V M' w) := V.move (N := No) Keeps.refl (fun _ _ h => h.elim) h

/-! ## New blocks, writes -/

structure New (b : Nat) (o : Obj) (w w' : World) : Prop where
  eq : b = w.heap.size
  at_ : w'.heap[b]? = some o
  keeps : Keeps No w w'
  size : w'.heap.size = w.heap.size + 1

theorem Al.mk {o : Obj} {w : World} {k : Nat → World → Prop} (h : ∀ b w', New b o w w' → k b w') : Al o w k := by
  refine h _ _ ⟨rfl, ?_, ⟨rfl, rfl, rfl, by simp, fun b hb _ => ?_⟩, by simp⟩
  · show (w.heap.push o)[w.heap.size]? = some o
    simp
  · show (w.heap.push o)[b]? = _
    rw [Array.getElem?_push, if_neg (by omega)]

structure Upd (b : Nat) (o : Obj) (w w' : World) : Prop where
  at_ : w'.heap[b]? = some o
  keeps : Keeps (· = b) w w'
  size : w'.heap.size = w.heap.size

theorem cell_of {w : World} {b off : Nat} {cs : Array Value} {E : TypeId} {fr : Nat × Nat} {v : Value} (hb : w.heap[b]? = some (.cells cs E fr)) (hc : cs[off]? = some v) :
    w.cell? ⟨b, off, none⟩ = some v := by simp [World.cell?, hb, hc]

theorem upd_setCell {w : World} {b off : Nat} {cs : Array Value} {E : TypeId} {fr : Nat × Nat} {v : Value} (hb : w.heap[b]? = some (.cells cs E fr)) :
    Upd b (.cells (cs.setIfInBounds off v) E fr) w (w.setCell ⟨b, off, none⟩ v) := by
  refine ⟨?_, ⟨rfl, rfl, rfl, by simp [World.setCell], fun i hi hm => ?_⟩, by simp [World.setCell]⟩
  · simp only [World.setCell, Array.getElem?_modify, hb]
    simp
  · simp only [World.setCell, Array.getElem?_modify]
    rw [if_neg (fun h => hm h.symm)]

theorem St.blk {b off : Nat} {cs : Array Value} {E : TypeId} {v : Value} {w : World} {k : World → Prop} (hb : w.heap[b]? = some (.cells cs E (0, 0))) (ho : off < cs.size)
    (h : ∀ w', Upd b (.cells (cs.setIfInBounds off v) E (0, 0)) w w' → k w') : St ⟨b, off, none⟩ v w k := by
  refine ⟨⟨?_, ?_⟩, h _ (upd_setCell hb)⟩
  · simp [World.cell?, hb, ho]
  · simp [World.frozen?, hb]

theorem Ld.int {κ : IntKind} {a : Addr} {w : World} {k : Int → Prop} {i : Int} (h : w.cell? a = some (.int κ i)) (hk : k i) : Ld (.int κ) a w k := ⟨i, h, hk⟩
theorem Ld.bool {a : Addr} {w : World} {k : Bool → Prop} {i : Bool} (h : w.cell? a = some (.bool i)) (hk : k i) : Ld .bool a w k := ⟨i, h, hk⟩
theorem Ld.str {a : Addr} {w : World} {k : ByteArray → Prop} {i : ByteArray} (h : w.cell? a = some (.string i)) (hk : k i) : Ld .str a w k := ⟨i, h, hk⟩
theorem Ld.ptr {a : Addr} {w : World} {k : Option Addr → Prop} {i : Option Addr} (h : w.cell? a = some (.pointer i)) (hk : k i) : Ld .ptr a w k := ⟨i, h, hk⟩
theorem Ld.map {a : Addr} {w : World} {k : Option Nat → Prop} {i : Option Nat} (h : w.cell? a = some (.map i)) (hk : k i) : Ld .map a w k := ⟨i, h, hk⟩
theorem Ld.sl {a : Addr} {w : World} {k : Sl → Prop} {p : Option Addr} {n c : Nat} (h : w.cell? a = some (.slice p n c)) (hk : k ⟨p, n, c⟩) : Ld .sl a w k := ⟨⟨p, n, c⟩, h, hk⟩

@[simp] theorem Br_true {x y : Prop} : Br true x y = x := rfl
@[simp] theorem Br_false {x y : Prop} : Br false x y = y := rfl
@[simp] theorem NilC_some {a : Addr} {k : Addr → Prop} : NilC (some a) k = k a := rfl

theorem w64_eq {x : Int} (h : -9223372036854775808 ≤ x ∧ x ≤ 9223372036854775807) : w64 x = x := IntWalk.i64_in x h

/-- A loop: what holds at each round's head, and what goes down. -/
theorem Loop.mk {σ : Type} {F : σ → World → (σ → World → Prop) → Prop} {s : σ} {w : World} (I : σ → World → Prop) (μ : σ → Nat) (h : I s w)
    (step : ∀ s w, I s w → ∀ R : σ → World → Prop, (∀ s' w', I s' w' → μ s' < μ s → R s' w') → F s w R) : Loop F s w := by
  intro R hR
  have : ∀ n s w, μ s = n → I s w → R s w := by
    intro n
    induction n using Nat.strongRecOn with
    | _ n ih =>
      intro s w hn hI
      exact hR s w (step s w hI R fun s' w' hI' hlt => ih (μ s') (hn ▸ hlt) s' w' rfl hI')
  exact this _ s w rfl h

/-- What holds where ways meet. -/
theorem Join.cut {σ : Type} {rest : σ → World → Prop} {body : (σ → World → Prop) → Prop} (I : σ → World → Prop) (hr : ∀ s w, I s w → rest s w)
    (hb : ∀ j : σ → World → Prop, (∀ s w, I s w → j s w) → body j) : Join rest body := hb rest hr
theorem DrawN.mk {w : World} {F : (World → Prop) → World → Prop} (h : ∀ w', w'.heap = w.heap → Keeps No w w' → F (fun _ => True) w') : DrawN w F := h _ rfl Keeps.drew

/-- The same, with a number beside the state that goes down. -/
theorem Loop.mkn {σ : Type} {F : σ → World → (σ → World → Prop) → Prop} {s : σ} {w : World} (I : Nat → σ → World → Prop) (n : Nat) (h : I n s w)
    (step : ∀ n s w, I n s w → ∀ R : σ → World → Prop, (∀ m s' w', m < n → I m s' w' → R s' w') → F s w R) : Loop F s w := by
  intro R hR
  have : ∀ n s w, I n s w → R s w := by
    intro n
    induction n using Nat.strongRecOn with
    | _ n ih => intro s w hI; exact hR s w (step n s w hI R fun m s' w' hlt hI' => ih m hlt s' w' hI')
  exact this n s w h

theorem Draw.mk {w : World} {F : (World → Prop) → World → Prop} (h : ∀ w', w'.heap = w.heap → Keeps No w w' → F (fun x => x = w') w') : Draw w F :=
  ⟨fun x => x = w.drew, rfl, h _ rfl Keeps.drew⟩
theorem LdS.int {w : World} {κ : IntKind} {a : Addr} {k : Int → Prop} {i : Int} (h : w.cell? a = some (.int κ i)) (hk : k i) : LdS (fun x => x = w) (.int κ) a k := ⟨i, fun _ e => e ▸ h, hk⟩
theorem LdS.bool {w : World} {a : Addr} {k : Bool → Prop} {i : Bool} (h : w.cell? a = some (.bool i)) (hk : k i) : LdS (fun x => x = w) .bool a k := ⟨i, fun _ e => e ▸ h, hk⟩
theorem LdS.str {w : World} {a : Addr} {k : ByteArray → Prop} {i : ByteArray} (h : w.cell? a = some (.string i)) (hk : k i) : LdS (fun x => x = w) .str a k := ⟨i, fun _ e => e ▸ h, hk⟩
theorem LdS.ptr {w : World} {a : Addr} {k : Option Addr → Prop} {i : Option Addr} (h : w.cell? a = some (.pointer i)) (hk : k i) : LdS (fun x => x = w) .ptr a k := ⟨i, fun _ e => e ▸ h, hk⟩
theorem LdS.map {w : World} {a : Addr} {k : Option Nat → Prop} {i : Option Nat} (h : w.cell? a = some (.map i)) (hk : k i) : LdS (fun x => x = w) .map a k := ⟨i, fun _ e => e ▸ h, hk⟩
theorem LdS.sl {w : World} {a : Addr} {k : Sl → Prop} {p : Option Addr} {n c : Nat} (h : w.cell? a = some (.slice p n c)) (hk : k ⟨p, n, c⟩) : LdS (fun x => x = w) .sl a k := ⟨⟨p, n, c⟩, fun _ e => e ▸ h, hk⟩

theorem CallF.mono {P : Program} {f : FuncId} {args : Array Value} {rt : RTy} {w : World} {k k' : rt.T → World → Prop} (h : CallF P f args rt w k) (hk : ∀ r w', k r w' → k' r w') : CallF P f args rt w k' :=
  Calls.mono h fun _ w' ⟨r, h1, h2⟩ => ⟨r, h1, hk r w' h2⟩

end Go.Fk
