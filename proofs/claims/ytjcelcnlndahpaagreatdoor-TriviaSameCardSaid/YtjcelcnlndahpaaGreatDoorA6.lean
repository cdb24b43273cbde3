/-
  A part of the proof: what the functions of the program come to, read off the model: no premise of its own, no axiom. By an AI agent.
-/
import Derived.Test.YtjcelcnlndahpaaGreatDoorA5
import Derived.Sort.OwnSortedInts
import Derived.Test.YtjcelcnlndahpaaGreatDoorA3
set_option linter.all false
section
set_option linter.unusedVariables false
namespace Go.Fk
open Go

/-- The node reads as the expression. -/
inductive RNd (H : View) : NV → Re → Prop
  | set {B : Nat → Bool} : RNd H ⟨0, B, nil3⟩ (.set B)
  | empty : RNd H ⟨1, noB, nil3⟩ .empty
  | cat {b : Nat} {v u : NV} {x y : Re} (h : H b (.cells (v.cells ++ u.cells).toArray T.frisketref05_Node (0, 0))) (hv : RNd H v x) (hu : RNd H u y) : RNd H ⟨2, noB, ⟨some ⟨b, 0, none⟩, 2, 2⟩⟩ (.cat x y)
  | or {b : Nat} {v u : NV} {x y : Re} (h : H b (.cells (v.cells ++ u.cells).toArray T.frisketref05_Node (0, 0))) (hv : RNd H v x) (hu : RNd H u y) : RNd H ⟨3, noB, ⟨some ⟨b, 0, none⟩, 2, 2⟩⟩ (.or x y)
  | star {b : Nat} {v : NV} {x : Re} (h : H b (nodeObj v)) (hv : RNd H v x) : RNd H ⟨4, noB, ⟨some ⟨b, 0, none⟩, 1, 1⟩⟩ (.star x)

theorem RNd.mono {H H' : View} {v : NV} {x : Re} (h : RNd H v x) (hv : Vle H H') : RNd H' v x := by
  induction h with
  | set => exact .set
  | empty => exact .empty
  | cat h _ _ ih1 ih2 => exact .cat (hv _ _ h) ih1 ih2
  | or h _ _ ih1 ih2 => exact .or (hv _ _ h) ih1 ih2
  | star h _ ih => exact .star (hv _ _ h) ih

theorem cells2 {H : View} {b : Nat} {v u : NV} (h : H b (.cells (v.cells ++ u.cells).toArray T.frisketref05_Node (0, 0))) : SlC H ⟨some ⟨b, 0, none⟩, 2, 2⟩ 258 ([v, u].map NV.cells) := by
  refine ⟨rfl, .inr ⟨b, 0, _, _, _, rfl, h, fun i c hc j x hx => ?_⟩⟩
  have hl := v.len
  rcases i with _ | _ | i
  · simp at hc; subst hc
    have := (List.getElem?_eq_some_iff.1 hx).1
    simp only [Nat.zero_mul, Nat.zero_add, List.getElem?_toArray]
    rw [List.getElem?_append_left this]; exact hx
  · simp at hc; subst hc
    simp only [Nat.zero_add, List.getElem?_toArray]
    rw [List.getElem?_append_right (by omega)]
    have e : (0 + 1) * 258 + j - v.cells.length = j := by omega
    rw [e]; exact hx
  · simp at hc
theorem cells1 {H : View} {b : Nat} {v : NV} (h : H b (nodeObj v)) : SlC H ⟨some ⟨b, 0, none⟩, 1, 1⟩ 258 ([v].map NV.cells) := by
  refine ⟨rfl, .inr ⟨b, 0, _, _, _, rfl, h, fun i c hc j x hx => ?_⟩⟩
  rcases i with _ | i
  · simp at hc; subst hc
    simp only [Nat.zero_mul, Nat.zero_add, List.getElem?_toArray]
    exact hx
  · simp at hc

theorem RNd.out {H : View} {v : NV} {x : Re} (h : RNd H v x) : v.k = x.kind ∧ ∃ vs : List NV, SlC H v.l 258 (vs.map NV.cells) ∧ All2 (RNd H) vs x.parts := by
  cases h with
  | set => exact ⟨rfl, [], SlC.nil, .nil⟩
  | empty => exact ⟨rfl, [], SlC.nil, .nil⟩
  | cat h hv hu => exact ⟨rfl, _, cells2 h, .cons hv (.cons hu .nil)⟩
  | or h hv hu => exact ⟨rfl, _, cells2 h, .cons hv (.cons hu .nil)⟩
  | star h hv => exact ⟨rfl, _, cells1 h, .cons hv .nil⟩

theorem LdA.recd {w : World} {g off : Nat} {v : NV} {k : Array Value → Prop} (hc : ∀ j u, v.cells[j]? = some u → w.cell? ⟨g, off + j, none⟩ = some u) (hk : k v.cells.toArray) : LdA 258 ⟨g, off, none⟩ w k := by
  refine ⟨v.cells.toArray, ⟨by simp [NV.len], fun i u hu => ?_⟩, hk⟩
  rw [add_eq]
  exact hc i u (by simpa using hu)

/-- A node of a row is taken out. -/
theorem IdxS.node {M : Nat → Prop} {w : World} {l : Sl} {vs : List NV} {i : Int} {K : Array Value → Prop} (h : SlC (V M w) l 258 (vs.map NV.cells)) (h0 : 0 ≤ i) (h1 : i < vs.length) (hk : ∀ v, vs[i.toNat]? = some v → K v.cells.toArray) :
    IdxS l i 258 fun p => LdA 258 p w K := by
  refine IdxS.recd h h0 (by simpa using h1) fun g off c hc hcell => ?_
  rw [List.getElem?_map] at hc
  obtain ⟨v, hv, rfl⟩ := Option.map_eq_some_iff.1 hc
  exact LdA.recd hcell (hk v hv)

theorem ref05_Size_spec : ∀ (n : Nat) (x : Re), x.size ≤ n → ∀ {M : Nat → Prop} {w : World} {v : NV} {K : Int → World → Prop} (hs : x.size < 1000000000000) (h : RNd (V M w) v x) (hk : ∀ w', Keeps No w w' → K x.size w'), frisketref05_Size.C v.cells.toArray w K := by
  intro n
  induction n with
  | zero => intro x hx; have := size_pos x; omega
  | succ n ih =>
    intro x hx M w v K hs h hk
    obtain ⟨-, vs, hl, ha⟩ := h.out
    have hsz := Re.size_parts x
    have hp2 : x.parts.length ≤ 2 := by cases x <;> simp [Re.parts]
    refine frisketref05_Size.ok _ _ _ ?_
    simp only [frisketref05_Size.M]
    refine Al.mk fun b1 w1 n1 => ?_
    have hlen := hl.1; have hal := ha.length
    simp only [List.length_map] at hlen
    refine Loop.mk (fun s w' => Keeps No w1 w' ∧ ∃ k : Nat, k ≤ vs.length ∧ s = (((1 + ((x.parts.map Re.size).take k).sum : Nat) : Int), (k : Int))) (fun s => (vs.length : Nat) - s.2.toNat) ⟨Keeps.refl, 0, by omega, by simp⟩ ?_
    rintro s w2 ⟨hk2, k, hkl, rfl⟩ R hR
    have hb2 : w2.heap[b1]? = some (nodeObj v) := hk2.blk0 n1.at_
    have ldl : ∀ {k : Sl → Prop}, k v.l → Ld .sl ⟨b1, 257, none⟩ w2 k := fun {k} h => Ld.sl (p := v.l.a) (n := v.l.n) (c := v.l.c) (cell_of hb2 (by rw [List.getElem?_toArray]; exact v.getL)) h
    refine ldl (Br.mk (fun ht => ldl ?_) (fun hf => ?_))
    · have ht : k < vs.length := by have := of_decide_eq_true ht; omega
      refine IdxS.node (M := M) (hl.mono (V.keeps0 (n1.keeps.trans hk2))) (by simp) (by simp; omega) fun u hu => ?_
      simp at hu
      obtain ⟨y, hy, hN⟩ := ha.get _ _ hu
      have hy' : (x.parts.map Re.size)[k]? = some y.size := by simp [hy]
      have h2 := sum_take_succ _ _ _ hy'
      have h3 := sum_take_le (x.parts.map Re.size) (k + 1)
      refine ih y (by omega) (by omega) (hN.mono (V.keeps0 (n1.keeps.trans hk2))) fun w3 hk3 => ?_
      refine hR _ _ ⟨hk2.trans hk3, k + 1, by omega, ?_⟩ ?_
      · rw [w64_eq (by dsimp only; omega), w64_eq (by dsimp only; omega), h2]
        dsimp only
        rw [Prod.mk.injEq]
        constructor <;> omega
      · dsimp only; rw [w64_eq (by omega)]; omega
    · have hf : vs.length ≤ k := by have := of_decide_eq_false hf; omega
      have : k = x.parts.length := by omega
      subst this
      have := hk w2 (n1.keeps.trans hk2)
      rw [hsz] at this
      simpa [List.take_of_length_le] using this
end Go.Fk
end

section
set_option linter.unusedVariables false
set_option linter.unusedSimpArgs false
namespace Go.Fk
open Go

/-! ## The reference's reader -/

def tobj (s : ByteArray) (st : PS) : Obj :=
  .cells #[.string s, .int .i64 st.at_, .int .i64 st.deep, .bool st.bad, .bool st.long] T.frisketref05_Text (0, 0)

def TO (w : World) (bt : Nat) (s : ByteArray) (st : PS) : Prop := w.heap[bt]? = some (tobj s st)
theorem TO.keep {w w' : World} {bt : Nat} {s : ByteArray} {st : PS} (h : TO w bt s st) (hk : Keeps No w w') : TO w' bt s st := hk.blk0 h
theorem TO.heap {w w' : World} {bt : Nat} {s : ByteArray} {st : PS} (h : TO w bt s st) (hk : w'.heap = w.heap) : TO w' bt s st := by unfold TO at *; rw [hk]; exact h
theorem TO.st {w : World} {bt off : Nat} {s : ByteArray} {st st' : PS} {v : Value} {k : World → Prop} (h : TO w bt s st) (ho : off < 5)
    (he : (match tobj s st with | .cells cs E f => .cells (cs.setIfInBounds off v) E f | o => o) = tobj s st') (hk : ∀ w', TO w' bt s st' → Keeps (· = bt) w w' → k w') : St ⟨bt, off, none⟩ v w k := by
  refine St.blk h (by simpa using ho) fun w' hu => hk w' ?_ hu.keeps
  have := hu.at_
  simp only [tobj] at he
  unfold TO
  rw [this, tobj, ← he]
theorem TO.step {w : World} {bt : Nat} {s : ByteArray} {st : PS} {k : World → Prop} {x : Int} (h : TO w bt s st) (hx : x = st.at_) (hs : Small s) (hat : st.at_ ≤ s.size + 10)
    (hk : ∀ w', TO w' bt s st.adv → Keeps (· = bt) w w' → k w') : St ⟨bt, 1, none⟩ (.int .i64 (w64 (x + (1 : Int)))) w k := by
  subst hx
  unfold Small at hs
  rw [w64_eq (by omega)]
  exact TO.st h (by simp) rfl hk
theorem TO.fail {w : World} {bt : Nat} {s : ByteArray} {st : PS} {k : World → Prop} (h : TO w bt s st) (hk : ∀ w', TO w' bt s st.fail → Keeps (· = bt) w w' → k w') : St ⟨bt, 3, none⟩ (.bool true) w k :=
  TO.st h (by simp) rfl hk

theorem Draw.hp {w : World} {F : (World → Prop) → World → Prop} (h : ∀ w', w'.heap = w.heap → Keeps No w w' → F (fun x => x.heap = w.heap) w') : Draw w F := ⟨fun x => x.heap = w.heap, rfl, h _ rfl Keeps.drew⟩

theorem ref05_sees_spec {w : World} {bt : Nat} {s : ByteArray} {st : PS} {b : UInt8} {n : Int} {K : Bool → World → Prop} (h : TO w bt s st) (hn : (b.toNat : Int) = n)
    (hk : ∀ w', w'.heap = w.heap → Keeps No w w' → K (decide ((bs s)[st.at_]? = some b)) w') : frisketref05_Text_sees.C (some ⟨bt, 0, none⟩) n w K := by
  refine frisketref05_Text_sees.ok _ _ _ _ ?_
  simp only [frisketref05_Text_sees.M, NilC_some]
  refine Draw.mk fun w1 e1 k1 => ?_
  have h1 := h.heap e1
  refine LdS.int (cell_of h1 rfl) (LdS.str (cell_of h1 rfl) ?_)
  have := hk w1 e1 k1
  refine Br.mk (fun ht => ?_) (fun hf => ?_)
  · have ht : st.at_ < (bs s).length := by rw [← size_bs]; simpa using ht
    refine LdS.str (cell_of h1 rfl) (LdS.int (cell_of h1 rfl) ?_)
    refine ⟨by omega, (bs s)[st.at_], by rw [get?_bs]; exact List.getElem?_eq_getElem ht, rfl, ?_⟩
    rw [beq_lit b hn]
    rw [List.getElem?_eq_getElem ht] at this
    simpa using this
  · have hf : (bs s).length ≤ st.at_ := by rw [← size_bs]; simpa using hf
    rw [List.getElem?_eq_none hf] at this
    simpa using this

theorem indexByte_mem (l : List UInt8) (c : UInt8) : 0 ≤ Lib.indexByte l c ↔ c ∈ l := by
  induction l with
  | nil => simp [Lib.indexByte]
  | cons b l ih =>
    simp only [Lib.indexByte, List.mem_cons]
    by_cases hb : b = c
    · subst hb; simp
    · have hne : ¬ c = b := fun e => hb e.symm
      simp only [beq_iff_eq, hb, if_false, hne, false_or]
      split
      · rename_i h; rw [h] at ih; constructor
        · intro h; omega
        · intro h; have := ih.2 h; omega
      · rename_i h
        constructor
        · intro h2
          refine ih.1 ?_
          have : Lib.indexByte l c ≠ -1 := h
          omega
        · intro h2; have := ih.2 h2; omega

theorem ref05_in_spec {w : World} {s : ByteArray} {c : UInt8} {n : Int} {K : Bool → World → Prop} (hn : (c.toNat : Int) = n) (hs : Small s) (hk : K (decide (c ∈ bs s)) w) : frisketref05_in.C s n w K := by
  refine frisketref05_in.ok _ _ _ _ ?_
  simp only [frisketref05_in.M]
  have hsz := size_bs s
  unfold Small at hs
  refine Loop.mk (fun i w' => w' = w ∧ ∃ k : Nat, k ≤ (bs s).length ∧ i = (k : Int) ∧ c ∉ (bs s).take k) (fun i => (bs s).length - i.toNat) ⟨rfl, 0, by omega, rfl, by simp⟩ ?_
  rintro i w1 ⟨rfl, k, hkl, rfl, hno⟩ R hR
  refine Br.mk (fun ht => ?_) (fun hf => ?_)
  · have ht : k < (bs s).length := by have := of_decide_eq_true ht; omega
    refine ⟨by omega, (bs s)[k], by rw [get?_bs]; simp, ?_⟩
    dsimp only
    rw [beq_lit c hn]
    refine Br.mk (fun he => ?_) (fun he => ?_)
    · have he : (bs s)[k] = c := of_decide_eq_true he
      have : c ∈ bs s := he ▸ List.getElem_mem ht
      rwa [decide_eq_true this] at hk
    · have he : ¬ (bs s)[k] = c := of_decide_eq_false he
      refine hR _ _ ⟨rfl, k + 1, by omega, by rw [w64_eq (by omega)]; omega, ?_⟩ (by rw [w64_eq (by omega)]; omega)
      rw [List.take_add_one, List.getElem?_eq_getElem ht]
      simp only [Option.toList_some, List.mem_append, List.mem_singleton, not_or]
      exact ⟨hno, fun e => he e.symm⟩
  · have hf : (bs s).length ≤ k := by have := of_decide_eq_false hf; omega
    rw [List.take_of_length_le hf] at hno
    rwa [decide_eq_false hno] at hk

def hexF (c : Nat) : Int := if 48 ≤ c ∧ c ≤ 57 then (c : Int) - 48 else if 97 ≤ c ∧ c ≤ 102 then (c : Int) - 87 else -1

theorem hexF_index (c : UInt8) : Lib.indexByte hexDigits c = hexF c.toNat := by
  have : ∀ n : Fin 256, Lib.indexByte hexDigits (UInt8.ofNat n.val) = hexF n.val := by decide +kernel
  have h := this ⟨c.toNat, c.toNat_lt⟩
  simpa using h

theorem ref05_hex_spec {w : World} {c : Nat} {K : Int → World → Prop} (hc : c < 256) (hk : K (hexF c) w) : frisketref05_hex.C c w K := by
  refine frisketref05_hex.ok _ _ _ ?_
  simp only [frisketref05_hex.M]
  dsimp only [Join]
  have big : Br (decide ((97 : Int) ≤ c)) (Br (decide ((c : Int) ≤ (102 : Int))) (K (w64 ((w64 ((IntKind.wrap .u8 ((c : Int) - (97 : Int))))) + (10 : Int))) w) (K (-1) w)) (Br false (K (w64 ((w64 ((IntKind.wrap .u8 ((c : Int) - (97 : Int))))) + (10 : Int))) w) (K (-1) w)) ∨ (48 ≤ c ∧ c ≤ 57) := by
    by_cases h : 48 ≤ c ∧ c ≤ 57
    · exact .inr h
    · left
      refine Br.mk (fun ht => Br.mk (fun ht2 => ?_) (fun hf => ?_)) (fun hf => ?_)
      · have ht := of_decide_eq_true ht; have ht2 := of_decide_eq_true ht2
        rw [IntWalk.u8_in _ (by omega), w64_eq (x := (c : Int) - 97) (by omega), w64_eq (by omega)]
        have : hexF c = (c : Int) - 97 + 10 := by
          unfold hexF
          rw [if_neg h, if_pos (by omega)]; omega
        rw [← this]; exact hk
      · have ht := of_decide_eq_true ht; have hf := of_decide_eq_false hf
        have : hexF c = -1 := by
          unfold hexF
          rw [if_neg h, if_neg (by omega)]
        rw [← this]; exact hk
      · have hf := of_decide_eq_false hf
        have : hexF c = -1 := by
          unfold hexF
          rw [if_neg h, if_neg (by omega)]
        show K (-1) w
        rw [← this]; exact hk
  refine Br.mk (fun ht => Br.mk (fun ht2 => ?_) (fun hf => ?_)) (fun hf => ?_)
  · have ht := of_decide_eq_true ht; have ht2 := of_decide_eq_true ht2
    rw [IntWalk.u8_in _ (by omega), w64_eq (by omega)]
    have : hexF c = (c : Int) - 48 := by
      unfold hexF
      rw [if_pos (by omega)]
    rw [← this]; exact hk
  · have hf := of_decide_eq_false hf
    exact big.resolve_right (by omega)
  · have hf := of_decide_eq_false hf
    exact big.resolve_right (by omega)
end Go.Fk
end

section
set_option linter.unusedVariables false
set_option linter.unusedSimpArgs false
namespace Go.Fk
open Go

structure LetR (s sp : List UInt8) (st : PS) (r : Int) (st' : PS) : Prop where
  rng : 0 ≤ r ∧ r < 256
  le : st'.at_ ≤ s.length
  long : st'.long = st.long
  deep : st'.deep = st.deep
  ok : st'.bad = false → letterF s sp st = (r.toNat, st')
  no : st'.bad = true → (letterF s sp st).2.bad = true

theorem u8_le_iff (c : UInt8) : (c ≤ 32 ↔ (c.toNat : Int) ≤ 32) ∧ (127 ≤ c ↔ (127 : Int) ≤ c.toNat) := by
  rw [UInt8.le_iff_toNat_le, UInt8.le_iff_toNat_le]
  show (c.toNat ≤ 32 ↔ _) ∧ (127 ≤ c.toNat ↔ _)
  omega

theorem getbs {s : ByteArray} {i : Nat} (h : i < (bs s).length) {K : UInt8 → Prop} (hk : ∀ c, (bs s)[i]? = some c → K c) : IdxStr s (i : Int) K :=
  ⟨by omega, (bs s)[i], by rw [get?_bs]; simp, hk _ (by simp)⟩

theorem ref05_letter_spec {w : World} {bt : Nat} {s sp : ByteArray} {st : PS} {K : Int → World → Prop} (h : TO w bt s st) (hs : Small s) (hsp : Small sp) (hb : st.bad = false) (hat : st.at_ ≤ s.size)
    (hk : ∀ r st' w', Keeps (· = bt) w w' → TO w' bt s st' → LetR (bs s) (bs sp) st r st' → K r w') : frisketref05_Text_letter.C (some ⟨bt, 0, none⟩) sp w K := by
  have hsz := size_bs s
  refine frisketref05_Text_letter.ok _ _ _ _ ?_
  simp only [frisketref05_Text_letter.M, NilC_some, add_eq, Nat.zero_add]
  have failK : ∀ {w1 : World} {st1 : PS}, Keeps (· = bt) w w1 → TO w1 bt s st1 → st1.at_ ≤ (bs s).length → st1.long = st.long → st1.deep = st.deep → (letterF (bs s) (bs sp) st).2.bad = true → St ⟨bt, 3, none⟩ (.bool true) w1 fun w2 => K 0 w2 := fun k1 h1 h2 h3 h4 hno =>
    TO.fail h1 fun w2 h5 k5 => hk 0 _ w2 (k1.trans k5) h5 ⟨by omega, h2, h3, h4, (fun e => by cases e), fun _ => hno⟩
  refine Draw.mk fun w1 e1 k1 => ?_
  have h1 := h.heap e1
  refine LdS.int (cell_of h1 rfl) (LdS.str (cell_of h1 rfl) ?_)
  refine Br.mk (fun ht => failK k1.no h1 (by omega) rfl rfl (by
    have := of_decide_eq_true ht
    simp only [letterF]
    rw [List.getElem?_eq_none (by omega)]; rfl)) (fun hf => ?_)
  have hlt : st.at_ < (bs s).length := by have := of_decide_eq_false hf; omega
  refine Draw.mk fun w3 e3 k3 => ?_
  have h3 := h1.heap e3
  have k13 : Keeps (· = bt) w w3 := (k1.trans k3).no
  refine LdS.str (cell_of h3 rfl) (LdS.int (cell_of h3 rfl) (getbs hlt fun c hc => ⟨rfl, ?_⟩))
  refine Br.mk (fun hne => ?_) (fun heq => ?_)
  · have c1 : c ≠ 92 := by rintro rfl; simp at hne
    refine Join.cut (fun b w4 => w4 = w3 ∧ (b = false → ¬ (c ≤ 32 ∨ 127 ≤ c ∨ 0 ≤ Lib.indexByte (bs sp) c)) ∧ (b = true → (c ≤ 32 ∨ 127 ≤ c ∨ 0 ≤ Lib.indexByte (bs sp) c))) ?_ ?_
    · rintro b w4 ⟨rfl, hb4, hb5⟩
      refine Br.mk (fun hbt => failK k13 h3 (by omega) rfl rfl (by
        simp only [letterF, hc, c1, if_false]
        rw [if_pos (hb5 hbt)]; rfl)) (fun hbf => ?_)
      have hno := hb4 hbf
      refine Ld.int (cell_of h3 rfl) (TO.step h3 rfl hs (by omega) fun w5 h5 k5 => ?_)
      have hcl := c.toNat_lt
      rw [w64_eq (by omega)]
      refine hk _ st.adv w5 (k13.trans k5) h5 ⟨by omega, ?_, rfl, rfl, fun _ => ?_, fun e => by have : st.bad = true := e; rw [hb] at this; cases this⟩
      · show st.at_ + 1 ≤ _; omega
      · simp only [letterF, hc, c1, if_false, hno]; rfl
    · intro j hj
      have hle := u8_le_iff c
      refine Br.mk (fun ht1 => hj _ _ ⟨rfl, (fun e => by cases e), fun _ => .inl (hle.1.2 (of_decide_eq_true ht1))⟩) (fun hf1 => Br.mk (fun ht2 => hj _ _ ⟨rfl, (fun e => by cases e), fun _ => .inr (.inl (hle.2.2 (of_decide_eq_true ht2)))⟩) (fun hf2 => ?_))
      refine ref05_in_spec rfl hsp (hj _ _ ⟨rfl, fun e => ?_, fun e => .inr (.inr ((indexByte_mem _ _).2 (of_decide_eq_true e)))⟩)
      have e := of_decide_eq_false e
      have hf1 := of_decide_eq_false hf1
      have hf2 := of_decide_eq_false hf2
      rw [indexByte_mem, hle.1, hle.2]
      rintro (h | h | h)
      · exact hf1 h
      · exact hf2 h
      · exact e h
  · have c1 : c = 92 := by
      have : (c.toNat : Int) = 92 := by simpa using heq
      exact UInt8.toNat_inj.1 (by show c.toNat = 92; omega)
    refine Ld.int (cell_of h3 rfl) (TO.step h3 rfl hs (by omega) fun w4 h4 k4 => ?_)
    have k14 := k13.trans k4
    have hF : letterF (bs s) (bs sp) st = escapedF (bs s) (bs sp) st.adv := by simp [letterF, hc, c1]
    have hadv : st.adv.at_ = st.at_ + 1 := rfl
    refine Draw.mk fun w5 e5 k5 => ?_
    have h5 := h4.heap e5
    have k15 := k14.trans k5.no
    refine LdS.int (cell_of h5 rfl) (LdS.str (cell_of h5 rfl) ?_)
    refine Br.mk (fun ht => failK k15 h5 (by omega) rfl rfl (by
      have := of_decide_eq_true ht
      rw [hF]
      simp only [escapedF]
      rw [List.getElem?_eq_none (by omega)]; rfl)) (fun hf => ?_)
    have hlt2 : st.adv.at_ < (bs s).length := by have := of_decide_eq_false hf; omega
    refine Draw.mk fun w6 e6 k6 => ?_
    have h6 := h5.heap e6
    have k16 := k15.trans k6.no
    refine LdS.str (cell_of h6 rfl) (LdS.int (cell_of h6 rfl) (getbs hlt2 fun c2 hc2 => ⟨rfl, ?_⟩))
    rw [beq_lit (n := 120) 120 rfl, beq_lit (n := 110) 110 rfl, beq_lit (n := 116) 116 rfl, beq_lit (n := 115) 115 rfl]
    refine Br.mk (fun hx => ?_) (fun hx => ?_)
    · have hx : c2 = 120 := of_decide_eq_true hx
      subst hx
      -- two digits
      have hE : ∀ (d1 d2 : UInt8), (bs s)[st.at_ + 2]? = some d1 → (bs s)[st.at_ + 3]? = some d2 → 0 ≤ hexF d1.toNat → 0 ≤ hexF d2.toNat → escapedF (bs s) (bs sp) st.adv = ((16 * (hexF d1.toNat).toNat + (hexF d2.toNat).toNat) % 256, { st with at_ := st.at_ + 4 }) := by
        intro d1 d2 g1 g2 p1 p2
        have a2 : st.adv.adv.at_ = st.at_ + 2 := rfl
        have a3 : st.adv.adv.adv.at_ = st.at_ + 3 := rfl
        have f1 : digitF (bs s) st.adv.adv = ((hexF d1.toNat).toNat, st.adv.adv.adv) := by
          simp only [digitF, a2, g1, hexF_index]
          rw [if_neg (by omega)]
        have f2 : digitF (bs s) st.adv.adv.adv = ((hexF d2.toNat).toNat, st.adv.adv.adv.adv) := by
          simp only [digitF, a3, g2, hexF_index]
          rw [if_neg (by omega)]
        have hbd : st.adv.adv.adv.bad = false := hb
        simp only [escapedF, hc2, f1, f2, hbd]
        simp
        rfl
      refine Loop.mk (fun t w' => Keeps (· = bt) w w' ∧ ((t = (0, 0) ∧ TO w' bt s st.adv) ∨ (∃ d1, (bs s)[st.at_ + 2]? = some d1 ∧ 0 ≤ hexF d1.toNat ∧ t = (hexF d1.toNat, 1) ∧ TO w' bt s st.adv.adv) ∨
        (∃ d1 d2, (bs s)[st.at_ + 2]? = some d1 ∧ (bs s)[st.at_ + 3]? = some d2 ∧ 0 ≤ hexF d1.toNat ∧ 0 ≤ hexF d2.toNat ∧ t = (16 * hexF d1.toNat + hexF d2.toNat, 2) ∧ TO w' bt s st.adv.adv.adv))) (fun t => 2 - t.2.toNat) ⟨k16, .inl ⟨rfl, h6⟩⟩ ?_
      have hexle : ∀ n, hexF n ≤ 15 := fun n => by unfold hexF; split; omega; split <;> omega
      -- one round
      have round : ∀ {w' : World} {st1 : PS} {n i : Int} {R : Int × Int → World → Prop}, Keeps (· = bt) w w' → TO w' bt s st1 → st1.at_ < (bs s).length → st1.long = st.long → st1.deep = st.deep → 0 ≤ n → n ≤ 15 → ((∀ d, (bs s)[st1.at_ + 1]? = some d → hexF d.toNat < 0) → (letterF (bs s) (bs sp) st).2.bad = true) →
          (∀ d w2, (bs s)[st1.at_ + 1]? = some d → 0 ≤ hexF d.toNat → Keeps (· = bt) w w2 → TO w2 bt s st1.adv → R (16 * n + hexF d.toNat, w64 (i + 1)) w2) →
          Ld (.int .i64) ⟨bt, 1, none⟩ w' fun x94 => St ⟨bt, 1, none⟩ (.int .i64 (w64 (x94 + (1 : Int)))) w' fun w13 => Join (fun (s9 : Bool) w14 => Br s9 (St ⟨bt, 3, none⟩ (.bool true) w14 fun w15 => K 0 w15) (Draw w14 fun S10 w16 => LdS S10 .str ⟨bt, 0, none⟩ fun x129 => LdS S10 (.int .i64) ⟨bt, 1, none⟩ fun x133 => IdxStr x129 x133 fun x134 => (S10 w16 ∧ frisketref05_hex.C (x134.toNat : Int) w16 fun x135 w17 => (S10 w17 ∧ R ((w64 ((w64 ((16 : Int) * n)) + x135)), (w64 (i + (1 : Int)))) w17)))) fun j11 => Draw w13 fun S12 w18 => LdS S12 (.int .i64) ⟨bt, 1, none⟩ fun x101 => LdS S12 .str ⟨bt, 0, none⟩ fun x105 => Br (decide ((x105.size : Int) ≤ x101)) (j11 true w18) (LdS S12 .str ⟨bt, 0, none⟩ fun x112 => LdS S12 (.int .i64) ⟨bt, 1, none⟩ fun x116 => IdxStr x112 x116 fun x117 => (S12 w18 ∧ frisketref05_hex.C (x117.toNat : Int) w18 fun x118 w19 => (S12 w19 ∧ j11 (decide (x118 < (0 : Int))) w19))) := by
        intro w' st1 n i R k1 t1 hlt1 hl1 hd1 n0 n1 hnb hR
        refine Ld.int (cell_of t1 rfl) (TO.step t1 rfl hs (by omega) fun w2 t2 k2 => ?_)
        have a1 : st1.adv.at_ = st1.at_ + 1 := rfl
        refine Join.cut (fun b w3 => Keeps (· = bt) w w3 ∧ TO w3 bt s st1.adv ∧ (b = false → ∃ d, (bs s)[st1.at_ + 1]? = some d ∧ 0 ≤ hexF d.toNat) ∧ (b = true → ∀ d, (bs s)[st1.at_ + 1]? = some d → hexF d.toNat < 0)) ?_ ?_
        · rintro b w3 ⟨k3, t3, hb3, hb4⟩
          refine Br.mk (fun hbt => failK k3 t3 (by omega) hl1 hd1 (hnb (hb4 hbt))) (fun hbf => ?_)
          obtain ⟨d, hd, hd0⟩ := hb3 hbf
          refine Draw.mk fun w4 e4 k4 => ?_
          have t4 := t3.heap e4
          refine LdS.str (cell_of t4 rfl) (LdS.int (cell_of t4 rfl) (getbs (by rw [a1]; exact lt_of_get hd) fun d' hd' => ⟨rfl, ?_⟩))
          rw [a1, hd] at hd'
          cases hd'
          refine ref05_hex_spec d.toNat_lt ⟨rfl, ?_⟩
          have := hexle d.toNat
          rw [w64_eq (x := 16 * n) (by omega), w64_eq (by omega)]
          exact hR d w4 hd hd0 (k3.trans k4.no) t4
        · intro j hj
          refine Draw.mk fun w3 e3 k3 => ?_
          have t3 := t2.heap e3
          have kk := (k1.trans k2).trans k3.no
          refine LdS.int (cell_of t3 rfl) (LdS.str (cell_of t3 rfl) (Br.mk (fun ht => hj _ _ ⟨kk, t3, (fun e => by cases e), fun _ d hd => by have := of_decide_eq_true ht; rw [List.getElem?_eq_none (by omega)] at hd; cases hd⟩) (fun hf => ?_)))
          have hlt3 : st1.adv.at_ < (bs s).length := by have := of_decide_eq_false hf; omega
          refine LdS.str (cell_of t3 rfl) (LdS.int (cell_of t3 rfl) (getbs hlt3 fun d hd => ⟨rfl, ?_⟩))
          refine ref05_hex_spec d.toNat_lt ⟨rfl, hj _ _ ⟨kk, t3, fun e => ⟨d, by rw [← a1]; exact hd, ?_⟩, fun e d' hd' => by rw [← a1, hd] at hd'; cases hd'; exact of_decide_eq_true e⟩⟩
          have := of_decide_eq_false e
          omega
      rintro t w' ⟨kw, ht⟩ R hR
      rcases ht with ⟨rfl, t1⟩ | ⟨d1, g1, p1, rfl, t1⟩ | ⟨d1, d2, g1, g2, p1, p2, rfl, t1⟩
      · show Ld _ _ _ _
        refine round kw t1 (by omega) rfl rfl (by omega) (by omega) (fun hno => ?_) fun d w2 hd hd0 k2 t2 => ?_
        · rw [hF]
          have a2 : st.adv.adv.at_ = st.at_ + 2 := rfl
          have hdig : (digitF (bs s) st.adv.adv).2.bad = true := by
            simp only [digitF, a2]
            cases hq : (bs s)[st.at_ + 2]? with
            | none => rfl
            | some d =>
              have := hno d hq
              dsimp only
              rw [if_pos (by rw [hexF_index]; exact this)]; rfl
          simp only [escapedF, hc2]
          simp [hdig]
        refine hR _ w2 ⟨k2, .inr (.inl ⟨d, hd, hd0, ?_, t2⟩)⟩ (by dsimp only; rw [show w64 (0 + 1) = 1 from rfl]; decide)
        have e1 : w64 (0 + 1) = 1 := rfl
        rw [e1]; simp
      · show Ld _ _ _ _
        have := lt_of_get g1
        have a2 : st.adv.adv.at_ = st.at_ + 2 := rfl
        refine round kw t1 (by omega) rfl rfl p1 (hexle _) (fun hno => ?_) fun d w2 hd hd0 k2 t2 => ?_
        · rw [hF]
          have a3 : st.adv.adv.adv.at_ = st.at_ + 3 := rfl
          have f1 : digitF (bs s) st.adv.adv = ((hexF d1.toNat).toNat, st.adv.adv.adv) := by
            simp only [digitF, a2, g1, hexF_index]
            rw [if_neg (by omega)]
          have hdig : (digitF (bs s) st.adv.adv.adv).2.bad = true := by
            simp only [digitF, a3]
            cases hq : (bs s)[st.at_ + 3]? with
            | none => rfl
            | some d =>
              have := hno d hq
              dsimp only
              rw [if_pos (by rw [hexF_index]; exact this)]; rfl
          have hbd : st.adv.adv.adv.bad = false := hb
          simp only [escapedF, hc2, f1, hbd]
          simp [hdig]
        refine hR _ w2 ⟨k2, .inr (.inr ⟨d1, d, g1, hd, p1, hd0, ?_, t2⟩)⟩ (by dsimp only; rw [show w64 (1 + 1) = 2 from rfl]; decide)
        have e1 : w64 (1 + 1) = 2 := rfl
        rw [e1]
      · show Ld _ _ _ _
        have hl3 := lt_of_get g2
        have a3 : st.adv.adv.adv.at_ = st.at_ + 3 := rfl
        refine Ld.int (cell_of t1 rfl) (TO.step t1 rfl hs (by omega) fun w2 t2 k2 => ?_)
        have b1 := hexle d1.toNat; have b2 := hexle d2.toNat
        refine hk _ _ w2 (kw.trans k2) t2 ⟨by dsimp only; omega, ?_, rfl, rfl, fun _ => ?_, fun e => by have : st.bad = true := e; rw [hb] at this; cases this⟩
        · show st.at_ + 4 ≤ _; omega
        · rw [hF, hE d1 d2 g1 g2 p1 p2]
          rw [Prod.mk.injEq]
          exact ⟨by dsimp only; omega, rfl⟩
    · have nx : c2 ≠ 120 := of_decide_eq_false hx
      refine Join.cut (fun v w7 => w7 = w6 ∧ 0 ≤ v ∧ v < 256 ∧ escapedF (bs s) (bs sp) st.adv = (v.toNat, st.adv.adv)) ?_ ?_
      · rintro v w7 ⟨rfl, v0, v1, hv⟩
        refine Ld.int (cell_of h6 rfl) (TO.step h6 rfl hs (by omega) fun w8 h8 k8 => ?_)
        refine hk v _ w8 (k16.trans k8) h8 ⟨⟨v0, v1⟩, ?_, rfl, rfl, fun _ => by rw [hF, hv], fun e => by have : st.bad = true := e; rw [hb] at this; cases this⟩
        show st.at_ + 2 ≤ _; omega
      · intro j hj
        refine Br.mk (fun h => hj _ _ ⟨rfl, by omega, by omega, ?_⟩) (fun n1 => Br.mk (fun h => hj _ _ ⟨rfl, by omega, by omega, ?_⟩) (fun n2 => Br.mk (fun h => hj _ _ ⟨rfl, by omega, by omega, ?_⟩) (fun n3 => ?_)))
        · have h := of_decide_eq_true h; subst h
          simp [escapedF, hc2]
        · have h := of_decide_eq_true h; subst h
          simp [escapedF, hc2]
        · have h := of_decide_eq_true h; subst h
          simp [escapedF, hc2]
        · have n1 := of_decide_eq_false n1; have n2 := of_decide_eq_false n2; have n3 := of_decide_eq_false n3
          refine ref05_in_spec rfl hsp ?_
          refine Br.mk (fun hx => failK k16 h6 (by omega) rfl rfl (by
            have hx : c2 ∉ bs sp := by simpa using hx
            rw [hF]
            simp only [escapedF, hc2, n1, n2, n3, nx, if_false]
            have := (indexByte_mem (bs sp) c2)
            rw [if_pos (by have h : ¬ 0 ≤ Lib.indexByte (bs sp) c2 := fun h => hx (this.1 h); omega)]; rfl)) (fun hx => ?_)
          have hx : c2 ∈ bs sp := by simpa using hx
          have hcl := c2.toNat_lt
          rw [w64_eq (by omega)]
          refine hj _ _ ⟨rfl, by omega, by omega, ?_⟩
          have := (indexByte_mem (bs sp) c2).2 hx
          simp only [escapedF, hc2, n1, n2, n3, nx, if_false]
          rw [if_neg (by omega)]; rfl
end Go.Fk
end

section
set_option linter.unusedVariables false
set_option linter.unusedSimpArgs false
namespace Go.Fk
open Go

/-- One byte of a node is read, or written. -/
theorem IdxA.ldB {w : World} {b : Nat} {v : NV} {i : Int} {k : Bool → Prop} (hb : w.heap[b]? = some (nodeObj v)) (h0 : 0 ≤ i) (h1 : i < 256) (hk : k (v.B i.toNat)) : IdxA 256 ⟨b, 1, none⟩ i 1 fun p => Ld .bool p w k := by
  refine ⟨⟨h0, by omega⟩, ?_⟩
  rw [add_eq, Nat.mul_one]
  exact Ld.bool (cell_of hb (by rw [List.getElem?_toArray]; exact v.getB (by omega))) hk
theorem IdxA.stB {w : World} {b : Nat} {v : NV} {i : Int} {x : Bool} {k : World → Prop} (hb : w.heap[b]? = some (nodeObj v)) (h0 : 0 ≤ i) (h1 : i < 256) (hk : ∀ w', Upd b (nodeObj ⟨v.k, fun j => if j = i.toNat then x else v.B j, v.l⟩) w w' → k w') : IdxA 256 ⟨b, 1, none⟩ i 1 fun p => St p (.bool x) w k := by
  refine ⟨⟨h0, by omega⟩, ?_⟩
  rw [add_eq, Nat.mul_one]
  refine St.blk hb (by simp [NV.len]; omega) fun w' u => hk w' ⟨?_, u.keeps, u.size⟩
  have := u.at_
  rw [NV.set v (by omega : i.toNat < 256)] at this
  exact this

theorem seen_isB {s : List UInt8} {b : UInt8} {st : PS} : (isB s b st).1 = decide (s[st.at_]? = some b) ∧ (isB s b st).2 = if s[st.at_]? = some b then st.adv else st := by
  unfold isB; split <;> simp_all

structure ClsR (s : List UInt8) (st : PS) (B : Nat → Bool) (st' : PS) : Prop where
  le : st'.at_ ≤ s.length
  long : st'.long = st.long
  deep : st'.deep = st.deep
  ok : st'.bad = false → ∃ f, classF s st = (.set f, st') ∧ ∀ i, i < 256 → f i = B i
  no : st'.bad = true → (classF s st).2.bad = true

theorem ref05_class_spec {w : World} {bt : Nat} {s : ByteArray} {st : PS} {K : Array Value → World → Prop} (h : TO w bt s st) (hs : Small s) (hb : st.bad = false) (hat : st.at_ ≤ s.size)
    (hk : ∀ B st' w', Keeps (· = bt) w w' → TO w' bt s st' → ClsR (bs s) st B st' → K (NV.cells ⟨0, B, nil3⟩).toArray w') : frisketref05_Text_class.C (some ⟨bt, 0, none⟩) w K := by
  have hsz := size_bs s
  have hsp : Small ⟨#[93, 94, 45, 92]⟩ := by unfold Small; decide
  have hspb : bs ⟨#[93, 94, 45, 92]⟩ = specialIn := rfl
  refine frisketref05_Text_class.ok _ _ _ ?_
  simp only [frisketref05_Text_class.M, NilC_some, add_eq, Nat.zero_add, zero_cells]
  refine Al.mk fun b1 w1 n1 => ?_
  refine App.build build0 ?_
  refine Al.mk fun b2 w2 n2 => ?_
  refine StA.node n2.at_ fun w3 u3 => ?_
  have e1 := n1.eq; have e2 := n2.eq; have s1 := n1.size; have s2 := n2.size
  have hbt := lt_of_some h
  have k3 : Keeps No w w3 := u3.keeps0 (n1.keeps.trans n2.keeps) (by omega)
  have hb1 : w3.heap[b1]? = some (nodeObj ⟨0, noB, nil3⟩) := u3.keeps.blk (n2.keeps.blk0 n1.at_) (by omega)
  have t3 := h.keep k3
  refine ref05_sees_spec (b := 94) t3 rfl fun w4 hh4 k4 => ?_
  have t4 := t3.keep k4
  have hno := @seen_isB (bs s) 94 st
  -- what is kept throughout
  let G : (Nat → Bool) → PS → World → Prop := fun B st1 w' => Keeps (· = bt) w w' ∧ w'.heap[b1]? = some (nodeObj ⟨0, noB, nil3⟩) ∧ w'.heap[b2]? = some (nodeObj ⟨0, B, nil3⟩) ∧ TO w' bt s st1 ∧ st1.at_ ≤ (bs s).length ∧ st1.long = st.long ∧ st1.deep = st.deep
  have G0 : ∀ {B : Nat → Bool} {st1 : PS} {w' w'' : World}, G B st1 w' → Keeps No w' w'' → G B st1 w'' := fun ⟨a, b, c, d, e, f, g⟩ k => ⟨a.then0 k, k.blk0 b, k.blk0 c, d.keep k, e, f, g⟩
  have GT : ∀ {B : Nat → Bool} {st1 st2 : PS} {w' w'' : World}, G B st1 w' → Keeps (· = bt) w' w'' → TO w'' bt s st2 → st2.at_ ≤ (bs s).length → st2.long = st.long → st2.deep = st.deep → G B st2 w'' := fun ⟨a, b, c, d, e, f, g⟩ k t x y z => ⟨a.trans k, k.blk b (by omega), k.blk c (by omega), t, x, y, z⟩
  have GB : ∀ {B B' : Nat → Bool} {st1 : PS} {w' w'' : World}, G B st1 w' → Upd b2 (nodeObj ⟨0, B', nil3⟩) w' w'' → G B' st1 w'' := fun ⟨a, b, c, d, e, f, g⟩ u => ⟨a.then u.keeps fun i hi e => by omega, u.keeps.blk b (by omega), u.at_, u.keeps.blk d (by omega), e, f, g⟩
  have ldbad : ∀ {B : Nat → Bool} {st1 : PS} {w' : World} {k : Bool → Prop}, G B st1 w' → k st1.bad → Ld .bool ⟨bt, 3, none⟩ w' k := fun hg h => Ld.bool (cell_of hg.2.2.2.1 rfl) h
  have ldat : ∀ {B : Nat → Bool} {st1 : PS} {w' : World} {k : Int → Prop}, G B st1 w' → k st1.at_ → Ld (.int .i64) ⟨bt, 1, none⟩ w' k := fun hg h => Ld.int (cell_of hg.2.2.2.1 rfl) h
  have stepG : ∀ {B : Nat → Bool} {st1 : PS} {w' : World} {k : World → Prop}, G B st1 w' → st1.at_ < (bs s).length → (∀ w'', G B st1.adv w'' → k w'') → St ⟨bt, 1, none⟩ (.int .i64 (w64 ((st1.at_ : Int) + (1 : Int)))) w' k := fun hg hl h =>
    TO.step hg.2.2.2.1 rfl hs (by omega) fun w'' t'' k'' => h w'' (GT hg k'' t'' hl hg.2.2.2.2.2.1 hg.2.2.2.2.2.2)
  have g4 : G noB st w4 := ⟨(k3.trans k4).no, k4.blk0 hb1, k4.blk0 u3.at_, t4, by omega, rfl, rfl⟩
  refine Join.cut (fun _ w5 => G noB (isB (bs s) 94 st).2 w5) ?_ ?_
  · rintro _ w5 g5
    have hnb : (isB (bs s) 94 st).2.bad = false := by rw [hno.2]; split <;> exact hb
    generalize hst0 : (isB (bs s) 94 st).2 = st0 at g5 hnb
    -- the loop
    refine Loop.mkn (fun n first w' => ∃ B st1, G B st1 w' ∧ (st1.bad = true ∨ (bs s).length - st1.at_ < n) ∧ (st1.bad = false → (first = true ∧ st1 = st0 ∧ B = noB) ∨
        (first = false ∧ ∃ m f, (bs s).length - st1.at_ < m ∧ (∀ i, i < 256 → f i = B i) ∧ classLoop (bs s) m f st1 = classLoop (bs s) ((bs s).length + 1) (spanF (bs s) (fun _ => false) st0).1 (spanF (bs s) (fun _ => false) st0).2)) ∧ (st1.bad = true → (classLoop (bs s) ((bs s).length + 1) (spanF (bs s) (fun _ => false) st0).1 (spanF (bs s) (fun _ => false) st0).2).2.bad = true))
      ((bs s).length + 1) ⟨noB, st0, g5, .inr (by omega), (fun _ => .inl ⟨rfl, rfl, rfl⟩), fun e => by rw [hnb] at e; cases e⟩ ?_
    rintro n first w6 ⟨B, st1, g6, hn, hinv, hbinv⟩ R hR
    refine Join.cut (fun go w7 => G B st1 w7 ∧ (go = true → st1.bad = false ∧ (first = false → ¬ (bs s)[st1.at_]? = some 93)) ∧ (go = false → st1.bad = false → first = false ∧ (bs s)[st1.at_]? = some 93)) ?_ ?_
    · rintro go w7 ⟨g7, hgo1, hgo2⟩
      refine Br.mk (fun hgo => ?_) (fun hgo => ?_)
      · -- a round
        obtain ⟨hnb1, hns⟩ := hgo1 hgo
        refine ref05_letter_spec g7.2.2.2.1 hs hsp hnb1 (by rw [hsz]; exact g7.2.2.2.2.1) fun lo st2 w8 k8 t8 l8 => ?_
        rw [hspb] at l8
        have g8 : G B st2 w8 := GT g7 k8 t8 l8.le (l8.long.trans g7.2.2.2.2.2.1) (l8.deep.trans g7.2.2.2.2.2.2)
        -- hi is known
        refine Join.cut (fun hi w9 => ∃ st3, G B st3 w9 ∧ (st3.bad = false → (0 ≤ hi ∧ hi < 256) ∧ ∀ f : Nat → Bool, spanF (bs s) f st1 = ((fun i => f i || (decide (lo.toNat ≤ i) && decide (i ≤ hi.toNat))), st3)) ∧ (st3.bad = true → ∀ f, (spanF (bs s) f st1).2.bad = true)) ?_ ?_
        · rintro hi w9 ⟨st3, g9, h9, h9b⟩
          -- the bytes are set
          have hlo := l8.rng
          refine Loop.mkn (fun n b w' => (0 ≤ b ∧ lo ≤ b) ∧ ∃ B', G B' st3 w' ∧ (st3.bad = false → b ≤ hi + 1 ∨ b = lo) ∧ (hi + 1 - b).toNat ≤ n ∧ (st3.bad = false → ∀ i, i < 256 → B' i = (B i || (decide (lo.toNat ≤ i) && decide ((i : Int) < b))))) (hi + 1 - lo).toNat
            ⟨⟨hlo.1, by omega⟩, B, g9, fun _ => .inr rfl, by omega, fun hb3 i hi => by
              by_cases h1 : lo.toNat ≤ i
              · have : ¬ (i : Int) < lo := by omega
                rw [decide_eq_false this, Bool.and_false, Bool.or_false]
              · rw [decide_eq_false h1, Bool.false_and, Bool.or_false]⟩ ?_
          rintro m b w10 ⟨hb0, B', g10, hb1', hm, hB'⟩ R2 hR2
          refine Join.cut (fun go w' => G B' st3 w' ∧ (go = true → st3.bad = false ∧ b ≤ hi) ∧ (go = false → st3.bad = false → ¬ b ≤ hi)) ?_ ?_
          · rintro go2 w11 ⟨g11, q1, q2⟩
            refine Br.mk (fun hg2 => ?_) (fun hg2 => ?_)
            · obtain ⟨hb3, hle⟩ := q1 hg2
              have hr := (h9 hb3).1
              refine IdxA.stB g11.2.2.1 hb0.1 (by omega) fun w12 u12 => ?_
              rw [w64_eq (by omega)]
              refine hR2 (m - 1) _ w12 (by omega) ⟨⟨by omega, by omega⟩, _, GB g11 u12, fun _ => .inl (by omega), by omega, fun _ i hi256 => ?_⟩
              dsimp only
              by_cases e : i = b.toNat
              · subst e
                have e1 : decide (lo.toNat ≤ b.toNat) = true := decide_eq_true (by omega)
                have e2 : decide (((b.toNat : Nat) : Int) < b + 1) = true := decide_eq_true (by omega)
                rw [if_pos rfl, e1, e2]; simp
              · rw [if_neg e, hB' hb3 i hi256]
                have : ((i : Int) < b) ↔ ((i : Int) < b + 1) := by omega
                simp [this]
            · -- the round is over
              refine hR (if st3.bad then 0 else (bs s).length - st3.at_ + 1) false w11 ?_ ⟨B', st3, g11, ?_, (fun hb3 => .inr ⟨rfl, ?_⟩), fun hb3 => ?_⟩
              · cases hb3 : st3.bad with
                | true =>
                  simp only [if_true]
                  rcases hn with hn | hn
                  · rw [hnb1] at hn; cases hn
                  · omega
                | false =>
                  have := spanF_lex (bs s) (fun _ => false) st1
                  rw [(h9 hb3).2] at this
                  have h4 := (this.go hb3).2
                  have h5 := g9.2.2.2.2.1
                  simp only [Bool.false_eq_true, if_false]
                  rcases hn with hn | hn
                  · rw [hnb1] at hn; cases hn
                  · have : st1.at_ < st3.at_ := h4
                    omega
              · cases hb3 : st3.bad with
                | true => exact .inl rfl
                | false => simp only [Bool.false_eq_true, if_false]; exact .inr (by omega)
              · have hspan := (h9 hb3).2
                have hr := (h9 hb3).1
                have hbh := q2 hg2 hb3
                have lex := spanF_lex (bs s) (fun _ => false) st1
                rw [hspan] at lex
                have hprog : st1.at_ < st3.at_ := (lex.go hb3).2
                have hBeq : ∀ (f : Nat → Bool), (∀ i, i < 256 → f i = B i) → ∀ i, i < 256 → (f i || (decide (lo.toNat ≤ i) && decide (i ≤ hi.toNat))) = B' i := by
                  intro f hf i hi256
                  rw [hf i hi256, hB' hb3 i hi256]
                  by_cases h1 : lo.toNat ≤ i
                  · have : (i ≤ hi.toNat) ↔ ((i : Int) < b) := by
                      rcases hb1' hb3 with h | h <;> omega
                    simp [this]
                  · simp [h1]
                rcases hinv hnb1 with ⟨hf, rfl, rfl⟩ | ⟨hf, m', f, hm', hfB, hcl⟩
                · refine ⟨(bs s).length + 1, _, by omega, hBeq (fun _ => false) (fun i _ => rfl), ?_⟩
                  rw [hspan]
                · obtain ⟨m'', rfl⟩ : ∃ k, m' = k + 1 := ⟨m' - 1, by omega⟩
                  refine ⟨m'', _, by omega, hBeq f hfB, ?_⟩
                  rw [← hcl]
                  have hns' := hns hf
                  have hd := @seen_isB (bs s) 93 st1
                  rw [if_neg hns'] at hd
                  conv => rhs; unfold classLoop
                  simp only [hnb1, Bool.false_eq_true, if_false, hd.1, hd.2, hns', decide_false, hspan]
              · have hsb := h9b hb3
                have stuck : ∀ (m : Nat) (f : Nat → Bool) (st : PS), st.bad = true → (classLoop (bs s) m f st).2.bad = true := by
                  intro m f st h
                  cases m with
                  | zero => exact h
                  | succ m => unfold classLoop; simp only [h, if_true]
                rcases hinv hnb1 with ⟨hf, rfl, rfl⟩ | ⟨hf, m', f, hm', hfB, hcl⟩
                · exact stuck _ _ _ (hsb _)
                · obtain ⟨m'', rfl⟩ : ∃ k, m' = k + 1 := ⟨m' - 1, by omega⟩
                  rw [← hcl]
                  have hns' := hns hf
                  have hd := @seen_isB (bs s) 93 st1
                  rw [if_neg hns'] at hd
                  unfold classLoop
                  simp only [hnb1, Bool.false_eq_true, if_false, hd.1, hd.2, hns', decide_false]
                  exact stuck _ _ _ (hsb _)
          · intro j hj
            refine Br.mk (fun ht => ?_) (fun hf => ?_)
            · have ht := of_decide_eq_true ht
              refine ldbad g10 (hj _ _ ⟨g10, fun e => ⟨by simpa using e, ht⟩, fun e hb3 => by rw [hb3] at e; cases e⟩)
            · have hf := of_decide_eq_false hf
              exact hj _ _ ⟨g10, (fun e => by cases e), fun _ _ => hf⟩
        · intro j12 hj12
          refine Join.cut (fun dash w9 => G B st2 w9 ∧ (dash = true → st2.bad = false ∧ (bs s)[st2.at_]? = some 45) ∧ (dash = false → st2.bad = false → ¬ (bs s)[st2.at_]? = some 45)) ?_ ?_
          · rintro dash w9 ⟨g9, q1, q2⟩
            refine Br.mk (fun hd => ?_) (fun hd => ?_)
            · obtain ⟨hb2, h45⟩ := q1 hd
              have hl2 := lt_of_get h45
              have hLo := l8.ok hb2
              have hd45 := @seen_isB (bs s) 45 st2
              rw [if_pos h45] at hd45
              refine ldat g9 (stepG g9 hl2 fun w10 g10 => ldat g10 ?_)
              have ha : st2.adv.at_ = st2.at_ + 1 := rfl
              refine ref05_letter_spec g10.2.2.2.1 hs hsp hb2 (by rw [hsz]; exact g10.2.2.2.2.1) fun hi st4 w11 k11 t11 l11 => ?_
              rw [hspb] at l11
              have g11 : G B st4 w11 := GT g10 k11 t11 l11.le (l11.long.trans g10.2.2.2.2.2.1) (l11.deep.trans g10.2.2.2.2.2.2)
              refine Join.cut (fun less w12 => G B st4 w12 ∧ (less = false → st4.bad = false → lo ≤ hi) ∧ (less = true → st4.bad = false ∧ hi < lo)) ?_ ?_
              · rintro less w12 ⟨g12, hl, hl2⟩
                refine Br.mk (fun hlt => ?_) (fun hlt => ?_)
                · refine TO.fail g12.2.2.2.1 fun w13 t13 k13 => ?_
                  refine TO.st (st' := { st4 with at_ := st2.adv.at_, bad := true }) t13 (by simp) rfl fun w14 t14 k14 => ?_
                  refine hj12 _ w14 ⟨{ st4 with at_ := st2.adv.at_, bad := true }, ?_, (fun e => by cases e), fun _ f => ?_⟩
                  rotate_left
                  · obtain ⟨hb4, hlt2⟩ := hl2 hlt
                    have hHi := l11.ok hb4
                    have hlo0 := l8.rng; have hhi0 := l11.rng
                    simp only [spanF, hLo, hb2, Bool.false_eq_true, if_false, hd45.1, hd45.2, h45, decide_true, if_true, hHi]
                    have : hi.toNat < lo.toNat := by omega
                    simp [this, hb4]
                  exact GT (GT g12 k13 t13 g12.2.2.2.2.1 g12.2.2.2.2.2.1 g12.2.2.2.2.2.2) k14 t14 (by show st2.at_ + 1 ≤ _; omega) g12.2.2.2.2.2.1 g12.2.2.2.2.2.2
                · refine hj12 _ w12 ⟨st4, g12, (fun hb4 => ⟨l11.rng, fun f => ?_⟩), fun hb4 f => ?_⟩
                  rotate_left
                  · have hHi := l11.no hb4
                    simp only [spanF, hLo, hb2, Bool.false_eq_true, if_false, hd45.1, hd45.2, h45, decide_true, if_true]
                    simp [hHi]
                  have hHi := l11.ok hb4
                  have hle := hl hlt hb4
                  have hlo0 := l8.rng
                  simp only [spanF, hLo, hb2, Bool.false_eq_true, if_false, hd45.1, hd45.2, h45, decide_true, if_true, hHi]
                  have : ¬ (hi.toNat < lo.toNat) := by omega
                  simp [this, hb4]
              · intro j15 hj15
                refine ldbad g11 (Br.mk (fun hbb => hj15 _ _ ⟨g11, (fun e _ => by have := of_decide_eq_false e; omega), fun e => ⟨by simpa using hbb, of_decide_eq_true e⟩⟩) (fun hbb => hj15 _ _ ⟨g11, (fun _ hb4 => by rw [hb4] at hbb; cases hbb), fun e => by cases e⟩))
            · refine hj12 _ w9 ⟨st2, g9, (fun hb2 => ⟨l8.rng, fun f => ?_⟩), fun hb2 f => ?_⟩
              rotate_left
              · have := l8.no hb2
                simp only [spanF, this, if_true]
              have hLo := l8.ok hb2
              have h45 := q2 hd hb2
              have hd45 := @seen_isB (bs s) 45 st2
              rw [if_neg h45] at hd45
              simp only [spanF, hLo, hb2, Bool.false_eq_true, if_false, hd45.1, hd45.2, h45, decide_false]
          · intro j16 hj16
            refine ldbad g8 (Br.mk (fun hbb => ?_) (fun hbb => hj16 _ _ ⟨g8, (fun e => by cases e), fun _ hb2 => by rw [hb2] at hbb; cases hbb⟩))
            have hb2 : st2.bad = false := by simpa using hbb
            refine ref05_sees_spec (b := 45) g8.2.2.2.1 rfl fun w9 hh9 k9 => hj16 _ _ ⟨G0 g8 k9, fun e => ⟨hb2, of_decide_eq_true e⟩, fun e _ => of_decide_eq_false e⟩
      · -- behind the loop
        have fin : ∀ (st2 : PS) (w8 : World), G B st2 w8 → (st2.bad = true → (classLoop (bs s) ((bs s).length + 1) (spanF (bs s) (fun _ => false) st0).1 (spanF (bs s) (fun _ => false) st0).2).2.bad = true) → (st2.bad = false → ∃ f, (∀ i, i < 256 → f i = B i) ∧ classLoop (bs s) ((bs s).length + 1) (spanF (bs s) (fun _ => false) st0).1 (spanF (bs s) (fun _ => false) st0).2 = (f, st2)) →
            Loop (fun (s18 : Int) w22 again19 => Join (fun (s20 : Bool) w23 => Br s20 (IdxA 256 (⟨b2, 1, none⟩) s18 1 fun p115 => Ld .bool p115 w23 fun x116 => IdxA 256 (⟨b2, 1, none⟩) s18 1 fun p119 => St p119 (.bool (!x116)) w23 fun w24 => again19 (w64 (s18 + (1 : Int))) w24) (LdA 258 (⟨b2, 0, none⟩) w23 fun x120 => StA P T.frisketref05_Node (⟨b1, 0, none⟩) x120 w23 fun w25 => LdA 258 (⟨b1, 0, none⟩) w25 fun r0 => K r0 w25)) fun j21 => Br (decide (s18 < (256 : Int))) (j21 (decide ((bs s)[st.at_]? = some 94)) w22) (j21 false w22)) 0 w8 := by
          intro st2 w8 g8 hcb hcl
          refine Loop.mk (fun i w' => (0 ≤ i ∧ i ≤ 256) ∧ ∃ B', G B' st2 w' ∧ (∀ q, q < 256 → B' q = if decide ((bs s)[st.at_]? = some 94) = true ∧ (q : Int) < i then !(B q) else B q)) (fun i => 256 - i.toNat) ⟨⟨by omega, by omega⟩, B, g8, fun q hq => by rw [if_neg (by omega)]⟩ ?_
          rintro i w9 ⟨hi, B', g9, hB'⟩ R2 hR2
          refine Join.cut (fun go w' => w' = w9 ∧ (go = true → i < 256 ∧ decide ((bs s)[st.at_]? = some 94) = true) ∧ (go = false → decide ((bs s)[st.at_]? = some 94) = true → i = 256)) ?_ ?_
          · rintro go2 w' ⟨rfl, q1, q2⟩
            refine Br.mk (fun hg2 => ?_) (fun hg2 => ?_)
            · obtain ⟨hi2, hn94⟩ := q1 hg2
              refine IdxA.ldB g9.2.2.1 hi.1 hi2 (IdxA.stB g9.2.2.1 hi.1 hi2 fun w10 u10 => ?_)
              rw [w64_eq (by omega)]
              refine hR2 _ w10 ⟨⟨by omega, by omega⟩, _, GB g9 u10, fun q hq => ?_⟩ (by omega)
              dsimp only
              by_cases e : q = i.toNat
              · subst e
                rw [if_pos rfl, hB' _ hq, if_neg (by omega), if_pos ⟨hn94, by omega⟩]
              · rw [if_neg e, hB' q hq]
                have : ((q : Int) < i) ↔ ((q : Int) < i + 1) := by omega
                simp only [this]
            · refine LdA.node g9.2.2.1 (StA.node g9.2.1 fun w10 u10 => LdA.node u10.at_ ?_)
              refine hk B' st2 w10 (g9.1.then u10.keeps fun i hi e => by omega) (u10.keeps.blk g9.2.2.2.1 (by omega)) ⟨g9.2.2.2.2.1, g9.2.2.2.2.2.1, g9.2.2.2.2.2.2, (fun hb2 => ?_), fun hb2 => ?_⟩
              rotate_left
              · simp only [classF, hst0]
                exact hcb hb2
              obtain ⟨f, hf, hcl⟩ := hcl hb2
              refine ⟨if (isB (bs s) 94 st).1 then fun i => !f i else f, ?_, ?_⟩
              · simp only [classF, hst0, hcl]
              · intro q hq
                rw [hno.1, hB' q hq]
                cases hdec : decide ((bs s)[st.at_]? = some 94) with
                | true =>
                  have := q2 hg2 hdec
                  simp only [if_true]
                  rw [if_pos ⟨trivial, by omega⟩, hf q hq]
                | false =>
                  simp only [Bool.false_eq_true, if_false, false_and]
                  exact hf q hq
          · intro j hj
            refine Br.mk (fun ht => ?_) (fun hf => ?_)
            · have ht := of_decide_eq_true ht
              exact hj _ _ ⟨rfl, fun e => ⟨ht, e⟩, fun e e2 => by rw [e] at e2; cases e2⟩
            · have hf := of_decide_eq_false hf
              exact hj _ _ ⟨rfl, (fun e => by cases e), fun _ _ => by omega⟩
        refine Join.cut (fun _ w8 => ∃ st2, G B st2 w8 ∧ (st2.bad = true → (classLoop (bs s) ((bs s).length + 1) (spanF (bs s) (fun _ => false) st0).1 (spanF (bs s) (fun _ => false) st0).2).2.bad = true) ∧ (st2.bad = false → ∃ f, (∀ i, i < 256 → f i = B i) ∧ classLoop (bs s) ((bs s).length + 1) (spanF (bs s) (fun _ => false) st0).1 (spanF (bs s) (fun _ => false) st0).2 = (f, st2))) ?_ ?_
        · rintro _ w8 ⟨st2, g8, hcb, hcl⟩
          exact fin st2 w8 g8 hcb hcl
        · intro j22 hj22
          refine ldbad g7 (Br.mk (fun hbb => ?_) (fun hbb => hj22 _ _ ⟨st1, g7, hbinv, fun hb1' => by rw [hb1'] at hbb; cases hbb⟩))
          have hb1' : st1.bad = false := by simpa using hbb
          obtain ⟨hff, h93⟩ := hgo2 hgo hb1'
          refine ldat g7 (stepG g7 (lt_of_get h93) fun w8 g8 => hj22 _ _ ⟨st1.adv, g8, (fun e => by have : st1.bad = true := e; rw [hb1'] at this; cases this), fun _ => ?_⟩)
          rcases hinv hb1' with ⟨hf, _, _⟩ | ⟨_, m', f, hm', hfB, hcl⟩
          · rw [hff] at hf; cases hf
          · obtain ⟨m'', rfl⟩ : ∃ k, m' = k + 1 := ⟨m' - 1, by omega⟩
            refine ⟨f, hfB, ?_⟩
            rw [← hcl]
            have hd := @seen_isB (bs s) 93 st1
            rw [if_pos h93] at hd
            unfold classLoop
            simp only [hb1', Bool.false_eq_true, if_false, hd.1, hd.2, h93, decide_true, if_true]
    · intro j23 hj23
      refine ldbad g6 (Br.mk (fun hbb => ?_) (fun hbb => hj23 _ _ ⟨g6, (fun e => by cases e), fun _ hb1' => by rw [hb1'] at hbb; cases hbb⟩))
      have hb1' : st1.bad = false := by simpa using hbb
      refine Br.mk (fun hfi => hj23 _ _ ⟨g6, fun _ => ⟨hb1', fun e => by rw [hfi] at e; cases e⟩, fun e => by cases e⟩) (fun hfi => ?_)
      refine ref05_sees_spec (b := 93) g6.2.2.2.1 rfl fun w7 hh7 k7 => hj23 _ _ ⟨G0 g6 k7, fun e => ⟨hb1', fun _ => by simpa using e⟩, fun e _ => ⟨hfi, by simpa using e⟩⟩
  · intro j24 hj24
    rw [hno.2] at hj24
    refine Br.mk (fun ht => ?_) (fun hf => ?_)
    · have ht := of_decide_eq_true ht
      rw [if_pos ht] at hj24
      exact ldat g4 (stepG g4 (lt_of_get ht) fun w5 g5 => hj24 _ _ g5)
    · have hf := of_decide_eq_false hf
      rw [if_neg hf] at hj24
      exact hj24 _ _ g4
end Go.Fk
end

section
set_option linter.unusedVariables false
set_option linter.unusedSimpArgs false
namespace Go.Fk
open Go

theorem Own.cap {w : World} {base E size : Nat} {l : Sl} {xs : List Value} (h : Own w base E size l xs) : l.n ≤ l.c := by
  rcases h.2 with ⟨hv, hn⟩ | ⟨g, cap, cur, hv, hge, hg, hnc, h3⟩
  · omega
  · simp only [Sl.val, Value.slice.injEq] at hv
    omega

theorem SlC.tail {H : View} {a : Option Addr} {n c sz : Nat} {x : List Value} {xs : List (List Value)} {c' : Nat} (h : SlC H ⟨a, n, c⟩ sz (x :: xs)) : SlC H ⟨a.map (·.add sz), n - 1, c'⟩ sz xs := by
  obtain ⟨h1, h2⟩ := h
  have h1 : n = xs.length + 1 := h1
  refine ⟨by show n - 1 = _; omega, .inr ?_⟩
  rcases h2 with h2 | ⟨b, off, cs, E, fr, rfl, h4, h5⟩
  · cases h2
  · refine ⟨b, off + sz, cs, E, fr, by simp [add_eq], h4, fun i c hc j u hu => ?_⟩
    have := h5 (i + 1) c (by simpa using hc) j u hu
    rw [← this]; congr 1; rw [Nat.add_mul]; omega

theorem App.from1 {P : Program} {T E : TypeId} {i : TypeInfo} {w : World} {l : Sl} {K : Sl → World → Prop} (hT : P.underlying T = some (.slice E)) (hi : P.info? E = some i) (h1 : 1 ≤ l.n) (h2 : l.c ≠ 1)
    (hK : K ⟨l.a.map (·.add i.size), l.n - 1, l.c - 1⟩ w) : App P (Instr.sliceAt T (.slice l.a l.n l.c) (some (.int .i64 1)) none none) (.one .sl) w K := by
  have he : P.elem T = E := by simp [Program.elem, hT]
  have ht : P.underlying T = some (.slice (P.elem T)) := by rw [he]; exact hT
  refine ⟨_, w, ?_, hK⟩
  rw [run_sliceAt_slice w T _ _ _ _ ht, run_slice_l w T l.a l.n l.c ht .i64 1 (by omega) (by omega), he]
  simp [sizeOf, typeInfo, hi, Result.andThen, sliced, h2, RTy.enc, Ty.enc]

theorem IdxS.nodeS {M : Nat → Prop} {S : World → Prop} {w : World} {l : Sl} {vs : List NV} {i : Int} {K : Array Value → Prop} (h : SlC (V M w) l 258 (vs.map NV.cells)) (hS : ∀ w', S w' → Vle (V M w) (V No w')) (h0 : 0 ≤ i) (h1 : i < vs.length) (hk : ∀ v, vs[i.toNat]? = some v → K v.cells.toArray) :
    IdxS l i 258 fun p => LdSA S 258 p K := by
  obtain ⟨e1, e2⟩ := h
  have hlt : i.toNat < vs.length := by omega
  have hx : vs[i.toNat]? = some vs[i.toNat] := List.getElem?_eq_getElem hlt
  rcases e2 with e2 | ⟨b, off, cs, E, fr, e3, e4, e5⟩
  · have : vs = [] := by simpa using e2
    subst this; simp at hlt
  · simp only [List.length_map] at e1
    refine ⟨_, e3, ⟨h0, by omega⟩, (vs[i.toNat]).cells.toArray, ⟨by simp [NV.len], fun w' hw' j u hu => ?_⟩, hk _ hx⟩
    rw [add_eq, add_eq]
    exact cell_of (hS w' hw' _ _ e4).2 (e5 i.toNat _ (by rw [List.getElem?_map, hx]; rfl) j u (by simpa using hu))

theorem nodeInfo : ∃ i, P.info? T.frisketref05_Node = some i ∧ i.size = 258 := by
  have h := sizeNode
  cases hi : P.info? T.frisketref05_Node with
  | none => rw [hi] at h; cases h
  | some i => rw [hi] at h; exact ⟨i, rfl, by simpa using h⟩

theorem StA.ret {w : World} {b : Nat} {v u : NV} {K : Array Value → World → Prop} (hb : w.heap[b]? = some (nodeObj u)) (hk : ∀ w', Upd b (nodeObj v) w w' → K v.cells.toArray w') : StA P T.frisketref05_Node ⟨b, 0, none⟩ v.cells.toArray w fun w3 => LdA 258 ⟨b, 0, none⟩ w3 fun r0 => K r0 w3 :=
  StA.node hb fun w' u => LdA.node u.at_ (hk w' u)

theorem ref05_pair_spec {kind : Int} {f : Re → Re → Re} (hkf : (kind = 2 ∧ f = .cat) ∨ (kind = 3 ∧ f = .or)) : ∀ (vs : List NV) {M : Nat → Prop} {w : World} {l : Sl} {xs : List Re} {K : Array Value → World → Prop}, Old M w → SlC (V M w) l 258 (vs.map NV.cells) → l.n ≤ l.c → All2 (RNd (V M w)) vs xs → vs.length < 100000000000 →
    (∀ v w', Keeps No w w' → RNd (V M w') v (twoOf f .empty xs) → K v.cells.toArray w') → frisketref05_pair.C kind l w K
  | vs, M, w, l, xs, K, hM, hl, hc, ha, hlen, hk => by
    have hn := hl.1; have hal := ha.length
    simp only [List.length_map] at hn
    refine frisketref05_pair.ok _ _ _ _ ?_
    simp only [frisketref05_pair.M, zero_cells]
    refine Al.mk fun b1 w1 n1 => ?_
    have e1 := n1.eq; have s1 := n1.size
    match vs, xs, ha, hn, hl, hlen, hal, hk with
    | [], [], _, hn, hl, hlen, hal, hk =>
      have e : ((l.n : Int) == 0) = true := by simp [hn]
      rw [e]
      refine App.build (build1 1) (StA.ret n1.at_ fun w2 u2 => hk _ w2 (u2.keeps0 n1.keeps (by omega)) .empty)
    | [v], [x], .cons hv .nil, hn, hl, hlen, hal, hk =>
      have e : ((l.n : Int) == 0) = false := by simp [hn]
      have e2 : ((l.n : Int) == 1) = true := by simp [hn]
      rw [e, e2]
      refine IdxS.node (vs := [v]) (hl.mono (V.keeps0 n1.keeps)) (by omega) (by simp) fun v' hv' => ?_
      simp at hv'
      subst hv'
      refine StA.ret n1.at_ fun w2 u2 => hk _ w2 (u2.keeps0 n1.keeps (by omega)) (hv.mono (V.keeps0 (u2.keeps0 n1.keeps (by omega))))
    | v :: v2 :: vs, x :: x2 :: xs, .cons hv ht, hn, hl, hlen, hal, hk =>
      simp only [List.length_cons] at hn hlen
      have e : ((l.n : Int) == 0) = false := by simp; omega
      have e2 : ((l.n : Int) == 1) = false := by simp; omega
      rw [e, e2]
      refine ⟨fun x => Keeps (· = b1) w1 x, Keeps.drew.no, ?_⟩
      have hl1 : SlC (V (fun b => M b ∨ b = b1) w1) l 258 ((v :: v2 :: vs).map NV.cells) := hl.mono (V.move n1.keeps (fun _ _ h => h.elim) fun b hb h => h.resolve_right (by omega))
      have hS : ∀ w', Keeps (· = b1) w1 w' → Vle (V (fun b => M b ∨ b = b1) w1) (V No w') := fun w' hk => V.move hk (fun _ _ h => .inr h) fun _ _ h => h.elim
      refine IdxS.nodeS hl1 hS (by omega) (by simp; omega) fun v' hv' => ?_
      simp at hv'
      subst hv'
      obtain ⟨i, hi, hisz⟩ := nodeInfo
      refine App.from1 elNode.sl hi (by omega) (by omega) ⟨Keeps.drew.no, ?_⟩
      rw [hisz]
      have k01 : Keeps No w w1.drew := n1.keeps.trans .drew
      obtain ⟨a, n, c⟩ := l
      have M1 : Old (fun b => M b ∨ b = b1) w1.drew := fun b hb => by
        have : w1.drew.heap.size = w1.heap.size := rfl
        rcases hb with h | h
        · have := hM b h; omega
        · omega
      refine ref05_pair_spec hkf (v2 :: vs) (M := fun b => M b ∨ b = b1) M1 (SlC.tail (hl1.mono (V.keeps0 .drew))) (by show n - 1 ≤ c - 1; simp at hc; omega) (ht.mono fun a b h => h.mono (V.move k01 (fun _ _ h => h.elim) fun b hb h => h.resolve_right (by omega))) (by simp; omega) fun u w3 k3 hu => ⟨?_, ?_⟩
      · exact (Keeps.drew.trans k3).no
      · refine App.slice2 fun b4 w4 n4 => ⟨((Keeps.drew.trans k3).trans n4.keeps).no, ?_⟩
        refine AppS.build (build2 kind (some ⟨b4, 0, none⟩) 2 2) ?_
        have k14 : Keeps No w1 w4 := (Keeps.drew.trans k3).trans n4.keeps
        refine StA.node (k14.blk0 n1.at_) fun w5 u5 => ⟨(k14.no (M := (· = b1))).trans u5.keeps, LdA.node u5.at_ ?_⟩
        have k05 : Keeps No w w5 := u5.keeps0 (n1.keeps.trans k14) (by omega)
        have s3 := k3.size; have e4 := n4.eq
        have hd : w1.drew.heap.size = w1.heap.size := rfl
        have nM4 : ¬ M b4 := fun h => by have := hM b4 h; omega
        have hrow : V M w5 b4 (.cells (v.cells ++ u.cells).toArray T.frisketref05_Node (0, 0)) := ⟨nM4, u5.keeps.blk n4.at_ (by omega)⟩
        have hu5 : RNd (V M w5) u (twoOf f .empty (x2 :: xs)) := hu.mono ((V.move n4.keeps (M' := fun b => M b ∨ b = b1) (fun _ _ h => h.elim) fun _ _ h => h).trans (V.move u5.keeps (fun _ _ h => .inr h) fun _ _ h => .inl h))
        refine hk _ w5 k05 ?_
        rcases hkf with ⟨rfl, rfl⟩ | ⟨rfl, rfl⟩
        · exact .cat hrow (hv.mono (V.keeps0 k05)) hu5
        · exact .or hrow (hv.mono (V.keeps0 k05)) hu5
  termination_by vs => vs.length
end Go.Fk
end

section
set_option linter.unusedVariables false
set_option linter.unusedSimpArgs false
namespace Go.Fk
open Go

/-! ## 'long' is looked at by none of the readers -/
def PS.wl (l : Bool) (st : PS) : PS := { st with long := l }

theorem wl_at {l : Bool} {st : PS} : (st.wl l).at_ = st.at_ := rfl
theorem wl_bad {l : Bool} {st : PS} : (st.wl l).bad = st.bad := rfl
theorem wl_deep {l : Bool} {st : PS} : (st.wl l).deep = st.deep := rfl
theorem wl_adv {l : Bool} {st : PS} : (st.wl l).adv = st.adv.wl l := rfl
theorem wl_fail {l : Bool} {st : PS} : (st.wl l).fail = st.fail.wl l := rfl

theorem isB_wl (s : List UInt8) (b : UInt8) (l : Bool) (st : PS) : isB s b (st.wl l) = ((isB s b st).1, (isB s b st).2.wl l) := by
  unfold isB; rw [wl_at, wl_adv]; split <;> rfl
theorem digitF_wl (s : List UInt8) (l : Bool) (st : PS) : digitF s (st.wl l) = ((digitF s st).1, (digitF s st).2.wl l) := by
  unfold digitF; rw [wl_at]
  cases s[st.at_]? with
  | none => rfl
  | some c => dsimp only; split <;> rfl
theorem escapedF_wl (s sp : List UInt8) (l : Bool) (st : PS) : escapedF s sp (st.wl l) = ((escapedF s sp st).1, (escapedF s sp st).2.wl l) := by
  unfold escapedF; rw [wl_at]
  cases s[st.at_]? with
  | none => rfl
  | some c =>
    dsimp only
    rw [wl_adv, digitF_wl]
    dsimp only
    rw [wl_bad, digitF_wl]
    by_cases h1 : c = 110
    · simp [h1]
    · by_cases h2 : c = 116
      · simp [h2]
      · by_cases h3 : c = 115
        · simp [h3]
        · by_cases h4 : c = 120
          · subst h4
            simp only [h1, h2, h3, if_false, if_true]
            cases (digitF s st.adv).2.bad <;> rfl
          · simp only [h1, h2, h3, h4, if_false]
            split <;> rfl
theorem letterF_wl (s sp : List UInt8) (l : Bool) (st : PS) : letterF s sp (st.wl l) = ((letterF s sp st).1, (letterF s sp st).2.wl l) := by
  unfold letterF; rw [wl_at]
  cases s[st.at_]? with
  | none => rfl
  | some c =>
    dsimp only
    rw [wl_adv, escapedF_wl]
    by_cases h1 : c = 92
    · simp [h1]
    · simp only [h1, if_false]
      split <;> rfl
theorem spanF_wl (s : List UInt8) (f : Nat → Bool) (l : Bool) (st : PS) : spanF s f (st.wl l) = ((spanF s f st).1, (spanF s f st).2.wl l) := by
  unfold spanF
  rw [letterF_wl]
  dsimp only
  rw [wl_bad, isB_wl]
  dsimp only
  rw [letterF_wl]
  dsimp only
  rw [wl_bad]
  cases h1 : (letterF s specialIn st).2.bad with
  | true => simp [wl_bad, h1]
  | false =>
    simp only [Bool.false_eq_true, if_false]
    cases h2 : (isB s 45 (letterF s specialIn st).2).1 with
    | true =>
      simp only [if_true]
      split
      · simp [PS.wl]
      · simp [wl_bad]
        rfl
    | false => simp [wl_bad]
theorem classLoop_wl (s : List UInt8) (l : Bool) : ∀ (n : Nat) (f : Nat → Bool) (st : PS), classLoop s n f (st.wl l) = ((classLoop s n f st).1, (classLoop s n f st).2.wl l)
  | 0, f, st => rfl
  | n + 1, f, st => by
    unfold classLoop
    rw [wl_bad, isB_wl]
    dsimp only
    rw [spanF_wl]
    dsimp only
    cases h1 : st.bad with
    | true => rfl
    | false =>
      simp only [Bool.false_eq_true, if_false]
      cases h2 : (isB s 93 st).1 with
      | true => rfl
      | false =>
        simp only [Bool.false_eq_true, if_false]
        exact classLoop_wl s l n _ _
theorem classF_wl (s : List UInt8) (l : Bool) (st : PS) : classF s (st.wl l) = ((classF s st).1, (classF s st).2.wl l) := by
  unfold classF
  rw [isB_wl]
  dsimp only
  rw [spanF_wl]
  dsimp only
  rw [classLoop_wl]
end Go.Fk
end

section
set_option linter.unusedVariables false
set_option linter.unusedSimpArgs false
namespace Go.Fk
open Go

/-- Below 256 alone. -/
def Re.norm : Re → Re
  | .set f => .set fun i => decide (i < 256) && f i
  | .empty => .empty | .cat a b => .cat a.norm b.norm | .or a b => .or a.norm b.norm | .star a => .star a.norm
theorem Re.norm_size (x : Re) : x.norm.size = x.size := by
  induction x <;> simp [Re.norm, Re.size, *]
theorem norm_set {f g : Nat → Bool} (h : ∀ i, i < 256 → f i = g i) : (Re.set f).norm = (Re.set g).norm := by
  simp only [Re.norm, Re.set.injEq]
  funext i
  by_cases hi : i < 256
  · simp [hi, h i hi]
  · simp [hi]
theorem size_of_norm {x y : Re} (h : x.norm = y.norm) : x.size = y.size := by rw [← x.norm_size, h, y.norm_size]

def PS.cl (st : PS) : PS := ⟨st.at_, false, false, st.deep⟩

def LtV (n : Nat) : Nat → Prop := fun b => b < n
def FM (n b1 b2 : Nat) : Nat → Prop := fun b => b < n ∨ b = b1 ∨ b = b2

structure RR (s : List UInt8) (g : PS → Re × PS) (one : Nat) (st : PS) (x : Re) (st' : PS) : Prop where
  le : st'.at_ ≤ s.length
  szb : x.size ≤ 3000 * (s.length + 1 - st.at_)
  go : st'.bad = false → (st.at_ + 1 ≤ st'.at_ + one ∧ st'.deep = st.deep ∧ x.size + 1 ≤ 1000 * (st'.at_ - st.at_) + 2 * one) ∧ ∃ y, g st.cl = (y, st'.cl) ∧ y.norm = x.norm
  no : st'.bad = true → (g st.cl).2.bad = true
  lg : st'.long = true → st.long = true ∨ st'.bad = true ∨ 400 < x.size

def OrS (n : Nat) : Prop := ∀ {w : World} {bt : Nat} {s : ByteArray} {st : PS} {K : Array Value → World → Prop}, TO w bt s st → Small s → st.bad = false → st.at_ ≤ s.size → st.deep ≤ 50 → st.deep + n = 51 →
  (∀ v x st' w', Keeps (· = bt) w w' → TO w' bt s st' → RNd (V (LtV w.heap.size) w') v x → RR (bs s) (orF (bs s) n) 1 st x st' → K v.cells.toArray w') → frisketref05_Text_or.C (some ⟨bt, 0, none⟩) w K

theorem cl_wl {st : PS} (h : st.bad = false) : st.cl = st.wl false := by unfold PS.cl PS.wl; rw [← h]

/-- Seen or not: where the plain parser stands. -/
theorem isB_cl {s : List UInt8} {b : UInt8} {st : PS} : (isB s b st.cl) = (decide (s[st.at_]? = some b), if s[st.at_]? = some b then st.adv.cl else st.cl) := by
  unfold isB
  show (if s[st.at_]? = some b then _ else _) = _
  split <;> simp_all [PS.cl, PS.adv]

section
variable {w : World} {bt b1 b2 : Nat} {s : ByteArray} {st : PS}

/-- The state within 'factor'. -/
structure FS (w w' : World) (bt b1 b2 : Nat) (s : ByteArray) (v : NV) (x : Re) (st1 : PS) : Prop where
  k : Keeps (· = bt) w w'
  h1 : w'.heap[b1]? = some (nodeObj ⟨0, noB, nil3⟩)
  h2 : w'.heap[b2]? = some (nodeObj v)
  t : TO w' bt s st1
  n : RNd (V (FM w.heap.size b1 b2) w') v x
  le : st1.at_ ≤ (bs s).length
  d1 : w.heap.size ≤ b1
  d2 : w.heap.size ≤ b2
  d3 : b1 ≠ b2
  d4 : bt < w.heap.size

theorem FS.keep {w' w'' : World} {v : NV} {x : Re} {st1 : PS} (h : FS w w' bt b1 b2 s v x st1) (k : Keeps No w' w'') : FS w w'' bt b1 b2 s v x st1 :=
  ⟨h.k.then0 k, k.blk0 h.h1, k.blk0 h.h2, h.t.keep k, h.n.mono (V.keeps0 k), h.le, h.d1, h.d2, h.d3, h.d4⟩
theorem FS.text {w' w'' : World} {v : NV} {x : Re} {st1 st2 : PS} (h : FS w w' bt b1 b2 s v x st1) (k : Keeps (· = bt) w' w'') (t : TO w'' bt s st2) (le : st2.at_ ≤ (bs s).length) : FS w w'' bt b1 b2 s v x st2 := by
  have := h.d1; have := h.d2; have := h.d4
  exact ⟨h.k.trans k, k.blk h.h1 (by omega), k.blk h.h2 (by omega), t, h.n.mono (V.move k (fun b _ e => .inl (by omega)) fun _ _ h => h), le, h.d1, h.d2, h.d3, h.d4⟩
theorem FS.node {w' w'' : World} {v v' : NV} {x x' : Re} {st1 : PS} (h : FS w w' bt b1 b2 s v x st1) (u : Upd b2 (nodeObj v') w' w'') (n : RNd (V (FM w.heap.size b1 b2) w') v' x') : FS w w'' bt b1 b2 s v' x' st1 := by
  have := h.d1; have := h.d2; have := h.d4; have := h.d3
  exact ⟨h.k.then u.keeps fun i hi e => by omega, u.keeps.blk h.h1 (by omega), u.at_, u.keeps.blk h.t (by omega), n.mono (V.move u.keeps (fun _ _ h => .inr (.inr h)) fun _ _ h => h), h.le, h.d1, h.d2, h.d3, h.d4⟩
theorem FS.ld {w' : World} {v : NV} {x : Re} {st1 : PS} (h : FS w w' bt b1 b2 s v x st1) {k : Array Value → Prop} (hk : k v.cells.toArray) : LdA 258 ⟨b2, 0, none⟩ w' k := LdA.node h.h2 hk
theorem FS.bad {w' : World} {v : NV} {x : Re} {st1 : PS} (h : FS w w' bt b1 b2 s v x st1) {k : Bool → Prop} (hk : k st1.bad) : Ld .bool ⟨bt, 3, none⟩ w' k := Ld.bool (cell_of h.t rfl) hk
theorem FS.at_ {w' : World} {v : NV} {x : Re} {st1 : PS} (h : FS w w' bt b1 b2 s v x st1) {k : Int → Prop} (hk : k st1.at_) : Ld (.int .i64) ⟨bt, 1, none⟩ w' k := Ld.int (cell_of h.t rfl) hk
theorem FS.step {w' : World} {v : NV} {x : Re} {st1 : PS} (h : FS w w' bt b1 b2 s v x st1) (hs : Small s) (hl : st1.at_ < (bs s).length) {k : World → Prop} (hk : ∀ w'', FS w w'' bt b1 b2 s v x st1.adv → k w'') : St ⟨bt, 1, none⟩ (.int .i64 (w64 ((st1.at_ : Int) + (1 : Int)))) w' k :=
  TO.step h.t rfl hs (by have := size_bs s; omega) fun w'' t'' k'' => hk w'' (h.text k'' t'' hl)

/-- The answer is handed over. -/
theorem FS.ret {w' : World} {v : NV} {x : Re} {st1 : PS} {K : Array Value → World → Prop} (h : FS w w' bt b1 b2 s v x st1) (hK : ∀ w'', Keeps (· = bt) w w'' → TO w'' bt s st1 → RNd (V (LtV w.heap.size) w'') v x → K v.cells.toArray w'') : LdA 258 ⟨b2, 0, none⟩ w' fun x169 => StA P T.frisketref05_Node ⟨b1, 0, none⟩ x169 w' fun w26 => LdA 258 ⟨b1, 0, none⟩ w26 fun r0 => K r0 w26 := by
  have := h.d1; have := h.d2; have := h.d4; have := h.d3
  exact h.ld (StA.ret h.h1 fun w'' u => hK w'' (h.k.then u.keeps fun i hi e => by omega) (u.keeps.blk h.t (by omega)) (h.n.mono (V.move u.keeps (fun _ _ h => .inr (.inl h)) fun _ _ h => .inl h)))

theorem specialOut_bs : bs ⟨#[124, 42, 43, 63, 40, 41, 91, 93, 46, 92]⟩ = specialOut := rfl
theorem stars_bs : bs ⟨#[42, 43, 63]⟩ = [42, 43, 63] := rfl

/-- What 'factor' has before what stands behind it. -/
structure AR (s : List UInt8) (g : PS → Re × PS) (st : PS) (x : Re) (st' : PS) : Prop where
  szb : x.size ≤ 3000 * (s.length + 1 - st.at_)
  go : st'.bad = false → (st.at_ < st'.at_ ∧ st'.deep = st.deep ∧ x.size + 1 ≤ 1000 * (st'.at_ - st.at_)) ∧ ∃ y, atomF s g st.cl = (y, st'.cl) ∧ y.norm = x.norm
  no : st'.bad = true → (atomF s g st.cl).2.bad = true
  lg : st'.long = true → st.long = true ∨ st'.bad = true ∨ 400 < x.size

theorem factorLoop_stuck {s : List UInt8} {k : Nat} {n : Re} {st : PS} (h : st.bad = true) : factorLoop s k n st = (n, st) := by
  cases k with
  | zero => rfl
  | succ k => unfold factorLoop; simp [h]

theorem ref05_factor_spec {n : Nat} (hor : OrS n) {K : Array Value → World → Prop} (h : TO w bt s st) (hs : Small s) (hb : st.bad = false) (hat : st.at_ < s.size) (hd : st.deep + n = 50)
    (hk : ∀ v x st' w', Keeps (· = bt) w w' → TO w' bt s st' → RNd (V (LtV w.heap.size) w') v x → RR (bs s) (factorF (bs s) (orF (bs s) n)) 0 st x st' → K v.cells.toArray w') : frisketref05_Text_factor.C (some ⟨bt, 0, none⟩) w K := by
  have hsz := size_bs s
  have hbt := lt_of_some h
  refine frisketref05_Text_factor.ok _ _ _ ?_
  simp only [frisketref05_Text_factor.M, NilC_some, add_eq, Nat.zero_add, zero_cells]
  refine Al.mk fun b1 w1 n1 => ?_
  refine App.build build0 ?_
  refine Al.mk fun b2 w2 n2 => ?_
  refine StA.node n2.at_ fun w3 u3 => ?_
  have e1 := n1.eq; have e2 := n2.eq; have s1 := n1.size; have s2 := n2.size
  have k3 : Keeps No w w3 := u3.keeps0 (n1.keeps.trans n2.keeps) (by omega)
  have f3 : FS w w3 bt b1 b2 s ⟨0, noB, nil3⟩ (.set noB) st := ⟨k3.no, u3.keeps.blk (n2.keeps.blk0 n1.at_) (by omega), u3.at_, h.keep k3, .set, by omega, by omega, by omega, by omega, hbt⟩
  have ret : ∀ {w' : World} {v : NV} {x : Re} {st1 : PS}, FS w w' bt b1 b2 s v x st1 → RR (bs s) (factorF (bs s) (orF (bs s) n)) 0 st x st1 →
      LdA 258 ⟨b2, 0, none⟩ w' fun x169 => StA P T.frisketref05_Node ⟨b1, 0, none⟩ x169 w' fun w26 => LdA 258 ⟨b1, 0, none⟩ w26 fun r0 => K r0 w26 :=
    fun {w' v x st1} f r => f.ret fun w'' k t nn => hk v x st1 w'' k t nn r
  refine Join.cut (fun _ w5 => ∃ v x st1, FS w w5 bt b1 b2 s v x st1 ∧ AR (bs s) (orF (bs s) n) st x st1) ?_ ?_
  · rintro _ w5 ⟨v, x, st1, f5, a5⟩
    refine Loop.mkn (fun m _ w' => ∃ v x st1, FS w w' bt b1 b2 s v x st1 ∧ x.size ≤ 3000 * ((bs s).length + 1 - st.at_) ∧ (st1.bad = true ∨ (bs s).length - st1.at_ < m) ∧
      (st1.bad = false → (st.at_ < st1.at_ ∧ st1.deep = st.deep ∧ x.size + 1 ≤ 1000 * (st1.at_ - st.at_)) ∧ ∃ q y, (bs s).length - st1.at_ < q ∧ factorLoop (bs s) q y st1.cl = factorF (bs s) (orF (bs s) n) st.cl ∧ y.norm = x.norm) ∧ (st1.bad = true → (factorF (bs s) (orF (bs s) n) st.cl).2.bad = true) ∧ (st1.long = true → st.long = true ∨ st1.bad = true ∨ 400 < x.size)) ((bs s).length + 1)
      ⟨v, x, st1, f5, a5.szb, .inr (by omega), (fun hb1 => ?_), (fun hb1 => by
        have := a5.no hb1
        simp only [factorF]
        rw [factorLoop_stuck this]; exact this), a5.lg⟩ ?_
    · obtain ⟨g1, y, g2, g3⟩ := a5.go hb1
      refine ⟨g1, (bs s).length + 1, y, by omega, ?_, g3⟩
      simp only [factorF, g2]
    rintro m _ w6 ⟨v, x, st1, f6, hxs, hm, hgo, hbad, hlg⟩ R hR
    refine Join.cut (fun go w7 => FS w w7 bt b1 b2 s v x st1 ∧ (go = true → st1.bad = false ∧ ∃ c, (bs s)[st1.at_]? = some c ∧ c ∈ [42, 43, 63]) ∧ (go = false → st1.bad = false → ∀ c, (bs s)[st1.at_]? = some c → c ∉ [42, 43, 63])) ?_ ?_
    · rintro go w7 ⟨f7, q1, q2⟩
      refine Br.mk (fun hg => ?_) (fun hg => ?_)
      · obtain ⟨hb1, c, hc, hcm⟩ := q1 hg
        obtain ⟨⟨g1, g2, g3⟩, q, y, hq, hF, hy⟩ := hgo hb1
        have hl := lt_of_get hc
        obtain ⟨q', rfl⟩ : ∃ k, q = k + 1 := ⟨q - 1, by omega⟩
        have hys := size_of_norm hy
        -- what comes behind the switch
        refine Join.cut (fun _ w8 => ∃ v' x' y', FS w w8 bt b1 b2 s v' x' st1 ∧ (x'.size ≤ 2 * x.size + 2 ∧ x.size ≤ x'.size) ∧ y'.norm = x'.norm ∧ factorLoop (bs s) (q' + 1) y st1.cl = (if 400 < y'.size then (.empty, { st1.adv.cl with long := true, bad := true }) else factorLoop (bs s) q' y' st1.adv.cl)) ?_ ?_
        · rintro _ w8 ⟨v', x', y', f8, ⟨hx', hx''⟩, hy', hFL⟩
          have hys' := size_of_norm hy'
          refine f8.at_ (f8.step hs hl fun w9 f9 => f9.ld ?_)
          have ha : st1.adv.at_ = st1.at_ + 1 := rfl
          have hxb : x'.size ≤ 3000 * ((bs s).length + 1 - st.at_) := by omega
          unfold Small at hs
          refine ref05_Size_spec x'.size x' (Nat.le_refl _) (by omega) f9.n fun w10 k10 => ?_
          have f10 := f9.keep k10
          refine Br.mk (fun ht => ?_) (fun hf => ?_)
          · refine TO.st (st' := { st1.adv with long := true }) f10.t (by simp) rfl fun w11 t11 k11 => ?_
            refine TO.fail t11 fun w12 t12 k12 => ?_
            exact hR 0 _ w12 (by rcases hm with h | h; (rw [hb1] at h; cases h); omega) ⟨v', x', _, (f10.text k11 t11 f9.le).text k12 t12 f9.le, hxb, .inl rfl, (fun e => by cases e), (fun _ => by
              have h4 : 400 < x'.size := by have := of_decide_eq_true ht; omega
              rw [← hF, hFL, if_pos (by omega)]), fun _ => .inr (.inl rfl)⟩
          · have hf : ¬ 400 < x'.size := by have := of_decide_eq_false hf; omega
            refine hR ((bs s).length - st1.adv.at_ + 1) _ w10 (by rcases hm with h | h; (rw [hb1] at h; cases h); omega) ⟨v', x', _, f10, hxb, .inr (by omega), (fun _ => ⟨⟨by omega, g2, by omega⟩, q', y', by omega, ?_, hy'⟩), (fun e => by have : st1.bad = true := e; rw [hb1] at this; cases this), fun e => ?_⟩
            · rw [← hF, hFL, if_neg (by omega)]
            · rcases hlg e with h | h | h
              · exact .inl h
              · rw [hb1] at h; cases h
              · exact .inr (.inr (by omega))
        · intro j8 hj8
          refine Draw.mk fun w8 e8 k8 => ?_
          have f8 := f7.keep k8
          refine LdS.str (cell_of f8.t rfl) (LdS.int (cell_of f8.t rfl) (getbs hl fun c' hc' => ⟨rfl, ?_⟩))
          rw [hc] at hc'
          cases hc'
          rw [beq_lit (n := 42) 42 rfl, beq_lit (n := 43) 43 rfl]
          have nM : ∀ {wa wb : World} {b : Nat} {o : Obj}, New b o wa wb → Keeps No w8 wa → ¬ FM w.heap.size b1 b2 b := fun {wa wb b o} nb k hm => by
            have := nb.eq; have := k.size; have := lt_of_some f8.h1; have := lt_of_some f8.h2; have := f8.k.size
            rcases hm with h | h | h <;> omega
          have isb := fun b => @isB_cl (bs s) b st1
          have hcb : st1.cl.bad = false := rfl
          refine Br.mk (fun hst => ?_) (fun hst => Br.mk (fun hpl => ?_) (fun hpl => ?_))
          · have hst : c = 42 := of_decide_eq_true hst
            subst hst
            refine f8.ld (App.slice1 fun b9 w9 n9 => App.build (build2 4 (some ⟨b9, 0, none⟩) 1 1) (StA.node (n9.keeps.blk0 f8.h2) fun w10 u10 => ?_))
            have f9 := f8.keep n9.keeps
            refine hj8 () w10 ⟨_, .star x, .star y, f9.node u10 (.star ⟨nM n9 .refl, n9.at_⟩ f9.n), ⟨by simp only [Re.size]; omega, by simp only [Re.size]; omega⟩, by simp [Re.norm, hy], ?_⟩
            conv => lhs; unfold factorLoop
            simp [isb, hc, hcb]
          · have hpl : c = 43 := of_decide_eq_true hpl
            subst hpl
            refine f8.ld (f8.ld (App.slice1 fun b9 w9 n9 => App.build (build2 4 (some ⟨b9, 0, none⟩) 1 1) (App.slice2 (u := ⟨4, noB, ⟨some ⟨b9, 0, none⟩, 1, 1⟩⟩) fun b10 w10 n10 => App.build (build2 2 (some ⟨b10, 0, none⟩) 2 2) (StA.node (n10.keeps.blk0 (n9.keeps.blk0 f8.h2)) fun w11 u11 => ?_))))
            have f9 := f8.keep n9.keeps
            have f10 := f9.keep n10.keeps
            have rs : RNd (V (FM w.heap.size b1 b2) w9) ⟨4, noB, ⟨some ⟨b9, 0, none⟩, 1, 1⟩⟩ (.star x) := .star ⟨nM n9 .refl, n9.at_⟩ f9.n
            refine hj8 () w11 ⟨_, .cat x (.star x), .cat y (.star y), f10.node u11 (.cat ⟨nM n10 n9.keeps, n10.at_⟩ f10.n (rs.mono (V.keeps0 n10.keeps))), ⟨by simp only [Re.size]; omega, by simp only [Re.size]; omega⟩, by simp [Re.norm, hy], ?_⟩
            conv => lhs; unfold factorLoop
            simp [isb, hc, hcb]
          · have h42 : ¬ c = 42 := of_decide_eq_false hst
            have h43 : ¬ c = 43 := of_decide_eq_false hpl
            have hq : c = 63 := by simp at hcm; rcases hcm with h | h | h; exact absurd h h42; exact absurd h h43; exact h
            subst hq
            refine f8.ld (App.build (build1 1) (App.slice2 (u := ⟨1, noB, nil3⟩) fun b10 w10 n10 => App.build (build2 3 (some ⟨b10, 0, none⟩) 2 2) (StA.node (n10.keeps.blk0 f8.h2) fun w11 u11 => ?_)))
            have f10 := f8.keep n10.keeps
            refine hj8 () w11 ⟨_, .or x .empty, .or y .empty, f10.node u11 (.or ⟨nM n10 .refl, n10.at_⟩ f10.n .empty), ⟨by simp only [Re.size]; omega, by simp only [Re.size]; omega⟩, by simp [Re.norm, hy], ?_⟩
            conv => lhs; unfold factorLoop
            simp [isb, hc, hcb]
      · -- the end
        refine ret f7 ⟨f7.le, hxs, (fun hb1 => ?_), hbad, hlg⟩
        obtain ⟨⟨g1, g2, g3⟩, q, y, hq, hF, hy⟩ := hgo hb1
        refine ⟨⟨by omega, g2, by omega⟩, y, ?_, hy⟩
        rw [← hF]
        obtain ⟨q', rfl⟩ : ∃ k, q = k + 1 := ⟨q - 1, by omega⟩
        have hno := q2 hg hb1
        have isb := fun b => @isB_cl (bs s) b st1
        have n42 : ¬ (bs s)[st1.at_]? = some 42 := fun e => hno _ e (by simp)
        have n43 : ¬ (bs s)[st1.at_]? = some 43 := fun e => hno _ e (by simp)
        have n63 : ¬ (bs s)[st1.at_]? = some 63 := fun e => hno _ e (by simp)
        unfold factorLoop
        simp only [isb, n42, n43, n63, if_false, decide_false, Bool.false_eq_true]
        simp [PS.cl]
    · intro j10 hj10
      refine Draw.mk fun w7 e7 k7 => ?_
      have f7 := f6.keep k7
      refine LdS.bool (cell_of f7.t rfl) (Br.mk (fun hbb => ?_) (fun hbb => hj10 _ _ ⟨f7, (fun e => by cases e), fun _ hb1 => by rw [hb1] at hbb; cases hbb⟩))
      have hb1 : st1.bad = false := by simpa using hbb
      refine LdS.int (cell_of f7.t rfl) (LdS.str (cell_of f7.t rfl) (Br.mk (fun ht => ?_) (fun hf => ?_)))
      · have hl : st1.at_ < (bs s).length := by have ht : (st1.at_ : Int) < (s.size : Int) := of_decide_eq_true ht; omega
        refine LdS.str (cell_of f7.t rfl) (LdS.int (cell_of f7.t rfl) (getbs hl fun c hc => ⟨rfl, ?_⟩))
        refine ref05_in_spec rfl (by unfold Small; decide) ⟨rfl, ?_⟩
        rw [stars_bs]
        exact hj10 _ _ ⟨f7, fun e => ⟨hb1, c, hc, of_decide_eq_true e⟩, fun e _ c' hc' => by rw [hc] at hc'; cases hc'; exact of_decide_eq_false e⟩
      · have hf : ¬ (st1.at_ : Int) < (s.size : Int) := of_decide_eq_false hf
        refine hj10 _ _ ⟨f7, (fun e => by cases e), fun _ _ c hc => ?_⟩
        have := lt_of_get hc
        omega
  · intro j12 hj12
    have isb := fun b => @isB_cl (bs s) b st
    have hcb : st.cl.bad = false := rfl
    refine ref05_sees_spec (b := 40) f3.t rfl fun w4 hh4 k4 => ?_
    have f4 := f3.keep k4
    refine Br.mk (fun h40 => ?_) (fun h40 => ?_)
    · have h40 : (bs s)[st.at_]? = some 40 := of_decide_eq_true h40
      have hl := lt_of_get h40
      have ha : st.adv.at_ = st.at_ + 1 := rfl
      refine f4.at_ (f4.step hs hl fun w5 f5 => Ld.int (i := st.deep) (cell_of f5.t rfl) ?_)
      rw [w64_eq (by omega)]
      refine TO.st (st' := { st.adv with deep := st.deep + 1 }) f5.t (by simp) rfl fun w6 t6 k6 => ?_
      have f6 := f5.text k6 t6 f5.le
      refine Ld.int (i := ((st.deep + 1 : Nat) : Int)) (cell_of f6.t rfl) ?_
      refine Br.mk (fun hdp => ?_) (fun hdp => ?_)
      · refine TO.st (st' := { st.adv with deep := st.deep + 1, long := true }) f6.t (by simp) rfl fun w7 t7 k7 => TO.fail t7 fun w8 t8 k8 => ?_
        refine ret ((f6.text k7 t7 f6.le).text k8 t8 f6.le) ⟨f6.le, by simp only [Re.size]; omega, (fun e => by cases e), (fun _ => ?_), fun _ => .inr (.inl rfl)⟩
        have hdp : 50 < st.adv.cl.deep + 1 := by have : (50 : Int) < ((st.deep + 1 : Nat) : Int) := of_decide_eq_true hdp; show 50 < st.deep + 1; omega
        have hat : (atomF (bs s) (orF (bs s) n) st.cl).2.bad = true := by
          unfold atomF
          simp only [isb, h40, decide_true, if_true]
          rw [if_pos hdp]
        simp only [factorF]
        rw [factorLoop_stuck hat]; exact hat
      · have hdp : ¬ (50 : Int) < ((st.deep + 1 : Nat) : Int) := of_decide_eq_false hdp
        have hd1 : ¬ 50 < st.deep + 1 := by omega
        refine hor f6.t hs hb (by show st.at_ + 1 ≤ _; omega) (by show st.deep + 1 ≤ 50; omega) (by show st.deep + 1 + n = 51; omega) fun v x st2 w7 k7 t7 r7 rr => ?_
        have hle := rr.le
        have hszb : x.size ≤ 3000 * ((bs s).length + 1 - st.at_) := by
          have := rr.szb
          have : 3000 * ((bs s).length + 1 - (st.at_ + 1)) ≤ 3000 * ((bs s).length + 1 - st.at_) := Nat.mul_le_mul_left _ (by omega)
          have h9 : x.size ≤ 3000 * ((bs s).length + 1 - (st.at_ + 1)) := rr.szb
          omega
        have f7 := f6.text k7 t7 rr.le
        refine StA.node f7.h2 fun w8 u8 => ?_
        have f8 : FS w w8 bt b1 b2 s v x st2 := f7.node u8 (r7.mono (V.sub fun b hb hm => by
          have h1 := lt_of_some f6.h1; have h2 := lt_of_some f6.h2; have := f6.k.size
          show b < _
          rcases hm with h | h | h <;> omega))
        refine f8.bad (Br.mk (fun hb2 => ?_) (fun hb2 => ?_))
        · refine ret f8 ⟨rr.le, hszb, (fun e => by rw [hb2] at e; cases e), (fun _ => ?_), fun _ => .inr (.inl hb2)⟩
          have hno := rr.no hb2
          have hat : (atomF (bs s) (orF (bs s) n) st.cl).2.bad = true := by
            unfold atomF
            simp only [isb, h40, decide_true, if_true]
            have e2 : ¬ 50 < st.adv.cl.deep + 1 := hd1
            have e3 : ({ st.adv.cl with deep := st.adv.cl.deep + 1 } : PS) = PS.cl { st.adv with deep := st.deep + 1 } := rfl
            rw [if_neg e2, e3, if_pos hno]
            exact hno
          simp only [factorF]
          rw [factorLoop_stuck hat]; exact hat
        · obtain ⟨⟨g1, g2, g3⟩, y, g4, g5⟩ := rr.go hb2
          have g1' : st.at_ + 1 ≤ st2.at_ := by have : st.at_ + 1 + 1 ≤ st2.at_ + 1 := g1; omega
          have g2' : st2.deep = st.deep + 1 := g2
          have g3' : x.size + 1 ≤ 1000 * (st2.at_ - (st.at_ + 1)) + 2 := g3
          have isb2 := fun b => @isB_cl (bs s) b st2
          refine ref05_sees_spec (b := 41) f8.t rfl fun w9 hh9 k9 => ?_
          have f9 := f8.keep k9
          refine Br.mk (fun h41 => ?_) (fun h41 => ?_)
          · refine TO.fail f9.t fun w10 t10 k10 => ?_
            refine ret (f9.text k10 t10 f9.le) ⟨f9.le, hszb, (fun e => by cases e), (fun _ => ?_), fun _ => .inr (.inl rfl)⟩
            have h41 : ¬ (bs s)[st2.at_]? = some 41 := by simpa using h41
            have hat : (atomF (bs s) (orF (bs s) n) st.cl).2.bad = true := by
              unfold atomF
              simp only [isb, h40, decide_true, if_true]
              have e2 : ¬ 50 < st.adv.cl.deep + 1 := hd1
              have e3 : ({ st.adv.cl with deep := st.adv.cl.deep + 1 } : PS) = PS.cl { st.adv with deep := st.deep + 1 } := rfl
              rw [if_neg e2, e3, g4]
              have e4 : st2.cl.bad = false := rfl
              simp only [e4, Bool.false_eq_true, if_false, isb2, h41, decide_false]
              rfl
            simp only [factorF]
            rw [factorLoop_stuck hat]; exact hat
          · have h41 : (bs s)[st2.at_]? = some 41 := by simpa using h41
            have hl2 := lt_of_get h41
            refine f9.at_ (f9.step hs hl2 fun w10 f10 => Ld.int (i := st2.deep) (cell_of f10.t rfl) ?_)
            rw [w64_eq (by omega)]
            refine TO.st (st' := { st2.adv with deep := st2.deep - 1 }) f10.t (by simp) ?_ fun w11 t11 k11 => ?_
            · have : ((st2.deep : Int) - 1) = ((st2.deep - 1 : Nat) : Int) := by omega
              simp only [tobj, this]; rfl
            · refine hj12 () w11 ⟨v, x, _, f10.text k11 t11 f10.le, hszb, (fun _ => ⟨⟨?_, ?_, ?_⟩, y, ?_, g5⟩), (fun e => by have : st2.bad = true := e; rw [hb2] at this; cases this), fun e => ?_⟩
              · show st.at_ < st2.at_ + 1; omega
              · show st2.deep - 1 = st.deep; omega
              · show x.size + 1 ≤ 1000 * (st2.at_ + 1 - st.at_); omega
              · have e1 : (⟨st.at_ + 1, false, false, st.deep + 1⟩ : PS) = PS.cl { st.adv with deep := st.deep + 1 } := rfl
                unfold atomF
                simp only [isb, h40, decide_true, if_true]
                have e2 : ¬ 50 < st.adv.cl.deep + 1 := hd1
                have e3 : ({ st.adv.cl with deep := st.adv.cl.deep + 1 } : PS) = PS.cl { st.adv with deep := st.deep + 1 } := rfl
                rw [if_neg e2, e3, g4]
                have e4 : st2.cl.bad = false := rfl
                simp only [e4, Bool.false_eq_true, if_false, isb2, h41, decide_true, if_true]
                rfl
              · rcases rr.lg e with h | h | h
                · exact .inl h
                · rw [hb2] at h; cases h
                · exact .inr (.inr h)
    · have h40 : ¬ (bs s)[st.at_]? = some 40 := of_decide_eq_false h40
      refine ref05_sees_spec (b := 46) f4.t rfl fun w5 hh5 k5 => ?_
      have f5 := f4.keep k5
      have small : ∀ (B : Nat → Bool), (Re.set B).size ≤ 3000 * ((bs s).length + 1 - st.at_) := fun B => by simp only [Re.size]; omega
      refine Br.mk (fun h46 => ?_) (fun h46 => ?_)
      · have h46 : (bs s)[st.at_]? = some 46 := of_decide_eq_true h46
        have hl := lt_of_get h46
        refine f5.at_ (f5.step hs hl fun w6 f6 => ?_)
        refine Loop.mk (fun i w' => (0 ≤ i ∧ i ≤ 256) ∧ ∃ B, FS w w' bt b1 b2 s ⟨0, B, nil3⟩ (.set B) st.adv ∧ ∀ q : Nat, (q : Int) < i → B q = !(q == 10)) (fun i => 256 - i.toNat) ⟨⟨by omega, by omega⟩, noB, f6, fun q hq => by omega⟩ ?_
        rintro i w7 ⟨hi, B, f7, hB⟩ R hR
        refine Br.mk (fun ht => ?_) (fun hf => ?_)
        · have ht := of_decide_eq_true ht
          refine IdxA.stB f7.h2 hi.1 ht fun w8 u8 => ?_
          rw [w64_eq (by omega)]
          refine hR _ w8 ⟨⟨by omega, by omega⟩, _, f7.node u8 .set, fun q hq => ?_⟩ (by omega)
          dsimp only
          by_cases e : q = i.toNat
          · rw [if_pos e]
            subst e
            by_cases e10 : i = 10
            · subst e10; rfl
            · have h1 : (i != 10) = true := by simpa using e10
              have h2 : (i.toNat == 10) = false := by simp; omega
              rw [h1, h2]; rfl
          · rw [if_neg e, hB q (by omega)]
        · have hf := of_decide_eq_false hf
          refine hj12 () w7 ⟨_, .set B, st.adv, f7, small B, fun _ => ⟨⟨by show st.at_ < st.at_ + 1; omega, rfl, by show 1 + 1 ≤ 1000 * (st.at_ + 1 - st.at_); omega⟩, .set (fun i => !(i == 10)), ?_, norm_set fun q hq => (hB q (by omega)).symm⟩, (fun e => by have : st.bad = true := e; rw [hb] at this; cases this), fun e => .inl e⟩
          unfold atomF
          simp [isb, h40, h46]
      · have h46 : ¬ (bs s)[st.at_]? = some 46 := of_decide_eq_false h46
        refine ref05_sees_spec (b := 91) f5.t rfl fun w6 hh6 k6 => ?_
        have f6 := f5.keep k6
        refine Br.mk (fun h91 => ?_) (fun h91 => ?_)
        · have h91 : (bs s)[st.at_]? = some 91 := of_decide_eq_true h91
          have hl := lt_of_get h91
          refine f6.at_ (f6.step hs hl fun w7 f7 => ?_)
          refine ref05_class_spec f7.t hs hb (by show st.at_ + 1 ≤ _; omega) fun B st2 w8 k8 t8 c8 => ?_
          have f8 := f7.text k8 t8 c8.le
          refine StA.node f8.h2 fun w9 u9 => hj12 () w9 ⟨_, .set B, st2, f8.node u9 .set, small B, (fun hb2 => ?_), (fun hb2 => ?_), fun e => .inl (by have : st2.long = st.long := c8.long; rw [← this]; exact e)⟩
          rotate_left
          · have hno := c8.no hb2
            have i40 : isB (bs s) 40 st.cl = (false, st.cl) := by rw [isb, if_neg h40, decide_eq_false h40]
            have i46 : isB (bs s) 46 st.cl = (false, st.cl) := by rw [isb, if_neg h46, decide_eq_false h46]
            have i91 : isB (bs s) 91 st.cl = (true, st.adv.cl) := by rw [isb, if_pos h91, decide_eq_true h91]
            unfold atomF
            simp only [i40, i46, i91, if_true, Bool.false_eq_true, if_false]
            have e1 : st.adv.cl = st.adv.wl false := cl_wl hb
            rw [e1, classF_wl]
            exact hno
          obtain ⟨f, hcf, hfB⟩ := c8.ok hb2
          have hlex := classF_lex (bs s) st.adv
          rw [hcf] at hlex
          have hgt : st.at_ + 1 < st2.at_ := (hlex.go hb2).2
          have h2l : st2.long = st.long := c8.long
          have h2d : st2.deep = st.deep := c8.deep
          refine ⟨⟨by omega, h2d, by simp only [Re.size]; omega⟩, .set f, ?_, norm_set hfB⟩
          have i40 : isB (bs s) 40 st.cl = (false, st.cl) := by rw [isb, if_neg h40, decide_eq_false h40]
          have i46 : isB (bs s) 46 st.cl = (false, st.cl) := by rw [isb, if_neg h46, decide_eq_false h46]
          have i91 : isB (bs s) 91 st.cl = (true, st.adv.cl) := by rw [isb, if_pos h91, decide_eq_true h91]
          unfold atomF
          simp only [i40, i46, i91, if_true, Bool.false_eq_true, if_false]
          have e1 : st.adv.cl = st.adv.wl false := cl_wl hb
          rw [e1, classF_wl, hcf, cl_wl hb2]
        · have h91 : ¬ (bs s)[st.at_]? = some 91 := of_decide_eq_false h91
          refine ref05_letter_spec f6.t hs (by unfold Small; decide) hb (by omega) fun r st2 w7 k7 t7 l7 => ?_
          rw [specialOut_bs] at l7
          have f7 := f6.text k7 t7 l7.le
          refine IdxA.stB f7.h2 l7.rng.1 l7.rng.2 fun w8 u8 => hj12 () w8 ⟨_, .set (fun j => if j = r.toNat then true else noB j), st2, f7.node u8 .set, small _, (fun hb2 => ?_), (fun hb2 => ?_), fun e => .inl (by rw [← l7.long]; exact e)⟩
          rotate_left
          · have hno := l7.no hb2
            unfold atomF
            simp only [isb, h40, h46, h91, decide_false, if_false, Bool.false_eq_true]
            rw [cl_wl hb, letterF_wl]
            exact hno
          have hL := l7.ok hb2
          have hlex := letterF_lex (bs s) specialOut st
          rw [hL] at hlex
          have hgt : st.at_ < st2.at_ := (hlex.go hb2).2
          refine ⟨⟨hgt, l7.deep, by simp only [Re.size]; omega⟩, .set (fun i => i == r.toNat), ?_, norm_set fun q hq => ?_⟩
          · unfold atomF
            simp only [isb, h40, h46, h91, decide_false, if_false, Bool.false_eq_true]
            rw [cl_wl hb, letterF_wl, hL, cl_wl hb2]
          · by_cases e : q = r.toNat
            · subst e; simp
            · simp [e, noB]
end
end Go.Fk
end

section
set_option linter.unusedVariables false
set_option linter.unusedSimpArgs false
namespace Go.Fk
open Go

/-- A list of nodes that is gathered. -/
structure GathN (w : World) (base : Nat) (l : Sl) (vs : List NV) (xs : List Re) : Prop where
  own : Own w base T.frisketref05_Node 258 l (vs.map NV.cells).flatten
  nds : All2 (RNd (V (fun b => b < base ∨ l.blk b) w)) vs xs

theorem cellsN_len {vs : List NV} : ∀ c ∈ vs.map NV.cells, c.length = 258 := fun c hc => by obtain ⟨v, _, rfl⟩ := List.mem_map.1 hc; exact v.len

theorem GathN.n {w : World} {base : Nat} {l : Sl} {vs : List NV} {xs : List Re} (h : GathN w base l vs xs) : l.n = vs.length := by
  have := h.own.len
  rw [flatten_len cellsN_len, List.length_map] at this
  omega
theorem GathN.keep {w w' : World} {base : Nat} {l : Sl} {vs : List NV} {xs : List Re} {N : Nat → Prop} (h : GathN w base l vs xs) (hk : Keeps N w w') (hN : ∀ b, b < w.heap.size → N b → b < base) : GathN w' base l vs xs := by
  refine ⟨?_, h.nds.mono fun _ _ x => x.mono (V.move hk (fun b hb hn => .inl (hN b hb hn)) fun _ _ h => h)⟩
  refine ⟨h.own.1, ?_⟩
  rcases h.own.2 with h2 | ⟨g, cap, cur, hv, hge, hg, h3⟩
  · exact .inl h2
  · exact .inr ⟨g, cap, cur, hv, hge, hk.blk hg (fun hm => by have := hN g (lt_of_some hg) hm; omega), h3⟩
theorem GathN.nil {w : World} : GathN w w.heap.size ⟨none, 0, 0⟩ [] [] := ⟨by simpa using Own.nil _ _ _ _, .nil⟩
theorem GathN.add {w : World} {base : Nat} {l : Sl} {vs : List NV} {xs : List Re} {v : NV} {x : Re} {k : Sl → World → Prop} (h : GathN w base l vs xs) (hb : base ≤ w.heap.size) (hlen : vs.length < 100000000000)
    (hN : RNd (V (fun b => b < base ∨ l.blk b) w) v x)
    (hk : ∀ l' w', GathN w' base l' (vs ++ [v]) (xs ++ [x]) → Keeps (fun b => base ≤ b) w w' → k l' w') :
    App P (Instr.buildSlice T.sl_frisketref05_Node 1 #[(0, .agg v.cells.toArray)]) (.one .sl) w fun x36 w6 => App P (Builtin.append_ #[T.sl_frisketref05_Node, T.sl_frisketref05_Node] T.sl_frisketref05_Node #[.slice l.a l.n l.c, .slice x36.a x36.n x36.c]) (.one .sl) w6 k := by
  have hn := h.n
  refine App.slice1 fun b w1 n1 => ?_
  have hv1 : Vle (V (fun b => b < base ∨ l.blk b) w) (V (fun b => b < base ∨ l.blk b) w1) := V.keeps0 n1.keeps
  have o1 := h.own.keep0 n1.keeps
  have s1 := n1.size
  refine appendC (c := v.cells) elNode o1 v.len n1.at_ v.one (by omega) (by omega) (by omega) fun l' w' h1 h2 h3 h4 => ?_
  have hv : Vle (V (fun b => b < base ∨ l.blk b) w1) (V (fun b => b < base ∨ l'.blk b) w') := V.move h3 (fun b _ hb => .inr hb) fun b hlt hb => by
    rcases hb with hb | ⟨a, ha, rfl⟩
    · exact .inl hb
    · obtain ⟨g, hg, hc⟩ := h4
      rw [hg] at ha; simp at ha; subst ha
      rcases hc with hc | hc
      · exact .inr hc
      · dsimp only at hlt; omega
  refine hk l' w' ⟨by simpa using h1, (h.nds.append (.cons hN .nil)).mono fun _ _ x => x.mono (hv1.trans hv)⟩ ((n1.keeps.no (M := fun b => base ≤ b)).trans (h3.mono fun b _ hb => (o1.ge hb).1))
theorem GathN.reads {w : World} {base : Nat} {l : Sl} {vs : List NV} {xs : List Re} (h : GathN w base l vs xs) : SlC (V (LtV base) w) l 258 (vs.map NV.cells) ∧ All2 (RNd (V (LtV base) w)) vs xs :=
  ⟨Own.readsC h.own (by omega) cellsN_len fun b hb hlt => by have := (h.own.ge hb).1; have : b < base := hlt; omega, h.nds.mono fun _ _ x => x.mono (V.sub fun _ _ h => .inl h)⟩

theorem twoOf_norm {f : Re → Re → Re} (hf : ∀ a b, (f a b).norm = f a.norm b.norm) {e e' : Re} : ∀ {ys xs : List Re}, ys.map Re.norm = xs.map Re.norm → (e.norm = e'.norm ∨ xs ≠ []) → (twoOf f e ys).norm = (twoOf f e' xs).norm
  | [], [], _, h => by rcases h with h | h; exact h; exact absurd rfl h
  | [], _ :: _, h, _ => by simp at h
  | _ :: _, [], h, _ => by simp at h
  | [y], [x], h, _ => by simpa [twoOf] using h
  | [y], x :: x2 :: xs, h, _ => by simp at h
  | y :: y2 :: ys, [x], h, _ => by simp at h
  | y :: y2 :: ys, x :: x2 :: xs, h, _ => by
    simp only [List.map_cons, List.cons.injEq] at h
    have ih := twoOf_norm hf (e := e) (e' := e') (ys := y2 :: ys) (xs := x2 :: xs) (by simp [h.2.1, h.2.2]) (.inr (by simp))
    show (f y (twoOf f e (y2 :: ys))).norm = (f x (twoOf f e' (x2 :: xs))).norm
    rw [hf, hf, h.1, ih]

def tot (xs : List Re) : Nat := (xs.map Re.size).sum + xs.length
theorem tot_snoc (xs : List Re) (x : Re) : tot (xs ++ [x]) = tot xs + x.size + 1 := by simp [tot]; omega
theorem tot_len (xs : List Re) : xs.length ≤ tot xs := by unfold tot; omega

theorem catLoop_step {s : List UInt8} {g : PS → Re × PS} {m : Nat} {ys : List Re} {st : PS} {c : UInt8} (hb : st.bad = false) (hc : s[st.at_]? = some c) (h1 : c ≠ 124) (h2 : c ≠ 41) :
    catLoop s g (m + 1) ys st = catLoop s g m (ys ++ [(factorF s g st).1]) (factorF s g st).2 := by
  conv => lhs; unfold catLoop
  simp [hb, hc, h1, h2]
theorem catLoop_end {s : List UInt8} {g : PS → Re × PS} {m : Nat} {ys : List Re} {st : PS} (hb : st.bad = false) (h : ∀ c, s[st.at_]? = some c → c = 124 ∨ c = 41) : catLoop s g m ys st = (ys, st) := by
  cases m with
  | zero => rfl
  | succ m =>
    unfold catLoop
    rw [hb]
    cases hc : s[st.at_]? with
    | none => simp
    | some c => simp [h c hc]

theorem catLoop_stuck {s : List UInt8} {g : PS → Re × PS} {m : Nat} {ys : List Re} {st : PS} (h : st.bad = true) : catLoop s g m ys st = (ys, st) := by
  cases m with
  | zero => rfl
  | succ m => unfold catLoop; simp [h]
theorem orLoop_stuck {s : List UInt8} {g : PS → Re × PS} {m : Nat} {ys : List Re} {st : PS} (h : st.bad = true) : orLoop s g m ys st = (ys, st) := by
  cases m with
  | zero => rfl
  | succ m => unfold orLoop; simp [h]
theorem tot_mem {xs : List Re} {z : Re} (h : z ∈ xs) : z.size + 1 ≤ tot xs := by
  induction xs with
  | nil => simp at h
  | cons y xs ih =>
    unfold tot at *
    simp only [List.map_cons, List.sum_cons, List.length_cons]
    rcases List.mem_cons.1 h with rfl | h
    · omega
    · have := ih h; omega

theorem ref05_or_spec : ∀ n, OrS n := by
  intro n
  induction n with
  | zero => intro w bt s st K h hs hb hat hd hd2; omega
  | succ n hor =>
    intro w bt s st K h hs hb hat hd hd2 hk
    have hsz := size_bs s
    have hbt := lt_of_some h
    have hsm := hs; unfold Small at hsm
    refine frisketref05_Text_or.ok _ _ _ ?_
    simp only [frisketref05_Text_or.M, NilC_some, add_eq, Nat.zero_add, zero_cells]
    refine Al.mk fun b1 w1 n1 => ?_
    have e1 := n1.eq; have s1 := n1.size
    -- the plain parser's last word
    let g := orF (bs s) n
    let fin := orLoop (bs s) g ((bs s).length + 1) [(catF (bs s) g st.cl).1] (catF (bs s) g st.cl).2
    have hfin : orF (bs s) (n + 1) st.cl = (twoOf .or noBytes fin.1, fin.2) := rfl
    refine Loop.mkn (fun m all w' => ∃ vs xs st2, Keeps (· = bt) w w' ∧ w'.heap[b1]? = some (nodeObj ⟨0, noB, nil3⟩) ∧ TO w' bt s st2 ∧ GathN w' w1.heap.size all vs xs ∧ st2.bad = false ∧ st2.at_ ≤ (bs s).length ∧ st2.deep = st.deep ∧ st.at_ ≤ st2.at_ ∧ (bs s).length - st2.at_ < m ∧
      tot xs ≤ 1000 * (st2.at_ - st.at_) ∧ w1.heap.size ≤ w'.heap.size ∧ ∃ q ys, (bs s).length - st2.at_ < q ∧ ys.map Re.norm = xs.map Re.norm ∧ orLoop (bs s) g q (ys ++ [(catF (bs s) g st2.cl).1]) (catF (bs s) g st2.cl).2 = fin ∧ (st2.long = true → st.long = true ∨ ∃ z ∈ xs, 400 < z.size))
      ((bs s).length + 1) ⟨[], [], st, n1.keeps.no, n1.at_, h.keep n1.keeps, GathN.nil, hb, by omega, rfl, by omega, by omega, by simp [tot], by omega, (bs s).length + 1, [], by omega, rfl, rfl, fun e => .inl e⟩ ?_
    rintro m all w2 ⟨vs, xs, st2, k2, hb2, t2, ga2, hbd2, hle2, hdp2, hat2, hm, htot2, hsz2, q, ys, hq, hys, hF, hlg2⟩ R hR
    -- the inner loop
    refine Loop.mkn (fun m l w' => ∃ ls zs st3, Keeps (· = bt) w2 w' ∧ TO w' bt s st3 ∧ GathN w' w2.heap.size l ls zs ∧ st3.at_ ≤ (bs s).length ∧ (st3.bad = true ∨ (bs s).length - st3.at_ < m) ∧ w2.heap.size ≤ w'.heap.size ∧
        tot zs ≤ 3000 * ((bs s).length + 1 - st2.at_) + 1 ∧ (st3.bad = false → st2.at_ ≤ st3.at_ ∧ st3.deep = st.deep ∧ tot zs ≤ 1000 * (st3.at_ - st2.at_) ∧ ∃ p us, (bs s).length - st3.at_ < p ∧ us.map Re.norm = zs.map Re.norm ∧ catLoop (bs s) g p us st3.cl = catLoop (bs s) g ((bs s).length + 1) [] st2.cl) ∧ (st3.bad = true → (catLoop (bs s) g ((bs s).length + 1) [] st2.cl).2.bad = true) ∧ (st3.long = true → st.long = true ∨ st3.bad = true ∨ (∃ z ∈ xs, 400 < z.size) ∨ ∃ z ∈ zs, 400 < z.size))
      ((bs s).length + 1) ⟨[], [], st2, .refl, t2, GathN.nil, hle2, .inr (by omega), by omega, by simp [tot], (fun _ => ⟨by omega, hdp2, by simp [tot], (bs s).length + 1, [], by omega, rfl, rfl⟩), (fun e => by rw [hbd2] at e; cases e), fun e => (hlg2 e).imp id fun h => .inr (.inl h)⟩ ?_
    rintro m' l w3 ⟨ls, zs, st3, k3, t3, ga3, hle3, hm3, hsz3, htot3, hgo3, hbad3, hlg3⟩ R3 hR3
    refine Join.cut (fun go w4 => (Keeps (· = bt) w2 w4 ∧ TO w4 bt s st3 ∧ GathN w4 w2.heap.size l ls zs ∧ w2.heap.size ≤ w4.heap.size) ∧ (go = true → st3.bad = false ∧ ∃ c, (bs s)[st3.at_]? = some c ∧ c ≠ 124 ∧ c ≠ 41) ∧ (go = false → st3.bad = false → ∀ c, (bs s)[st3.at_]? = some c → c = 124 ∨ c = 41)) ?_ ?_
    · rintro go w4 ⟨⟨k4, t4, ga4, hsz4⟩, q1, q2⟩
      refine Br.mk (fun hg => ?_) (fun hg => ?_)
      · -- one factor
        obtain ⟨hb3, c, hc, c1, c2⟩ := q1 hg
        obtain ⟨g1, g2, g3, p, us, hp, hus, hcl⟩ := hgo3 hb3
        have hl := lt_of_get hc
        refine ref05_factor_spec hor t4 hs hb3 (by omega) (by omega) fun v x st4 w5 k5 t5 r5 rr => ?_
        have hlen : ls.length = zs.length := ga4.nds.length
        have htl := tot_len zs
        have ga5 : GathN w5 w2.heap.size l ls zs := ga4.keep k5 fun b _ e => by have := lt_of_some t2; omega
        have s5 := k5.size
        refine ga5.add (by omega) (by omega) (r5.mono (V.sub fun b hb hm => by
          show b < _
          rcases hm with h | h
          · omega
          · exact (ga4.own.ge h).2)) fun l' w6 ga6 k6 => ?_
        have hbt2 := lt_of_some t2
        have k46 : Keeps (· = bt) w2 w6 := (k4.trans k5).then k6 fun i hi e => by omega
        have hx1 := rr.szb
        have hle4 := rr.le
        refine hR3 (if st4.bad then 0 else (bs s).length - st4.at_ + 1) l' w6 ?_ ⟨ls ++ [v], zs ++ [x], st4, k46, k6.blk t5 (by omega), ga6, hle4, ?_, by have := k6.size; omega, ?_, (fun hb4 => ?_), (fun hb4 => ?_), fun e => ?_⟩
        · cases hb4 : st4.bad with
          | true =>
            simp only [if_true]
            rcases hm3 with h | h
            · rw [hb3] at h; cases h
            · omega
          | false =>
            have := (rr.go hb4).1.1
            simp only [Bool.false_eq_true, if_false]
            rcases hm3 with h | h
            · rw [hb3] at h; cases h
            · omega
        · cases hb4 : st4.bad with
          | true => exact .inl rfl
          | false => simp only [Bool.false_eq_true, if_false]; exact .inr (by omega)
        · rw [tot_snoc]
          have h8 : 1000 * (st3.at_ - st2.at_) + 3000 * ((bs s).length + 1 - st3.at_) ≤ 3000 * ((bs s).length + 1 - st2.at_) := by omega
          omega
        · obtain ⟨⟨r1, r2, r3⟩, y, r4, r6⟩ := rr.go hb4
          obtain ⟨p', rfl⟩ : ∃ k, p = k + 1 := ⟨p - 1, by omega⟩
          refine ⟨by omega, by omega, ?_, p', us ++ [y], by omega, by simp [hus, r6], ?_⟩
          · rw [tot_snoc]; omega
          · rw [← hcl, catLoop_step (st := st3.cl) rfl hc c1 c2]
            show _ = catLoop (bs s) g p' (us ++ [(factorF (bs s) (orF (bs s) n) st3.cl).1]) (factorF (bs s) (orF (bs s) n) st3.cl).2
            rw [r4]
        · have hno := rr.no hb4
          obtain ⟨p', rfl⟩ : ∃ k, p = k + 1 := ⟨p - 1, by omega⟩
          rw [← hcl, catLoop_step (st := st3.cl) rfl hc c1 c2, catLoop_stuck hno]
          exact hno
        · rcases rr.lg e with h | h | h
          · rcases hlg3 h with h | h | h | ⟨z, hz, h⟩
            · exact .inl h
            · rw [hb3] at h; cases h
            · exact .inr (.inr (.inl h))
            · exact .inr (.inr (.inr ⟨z, by simp [hz], h⟩))
          · exact .inr (.inl h)
          · exact .inr (.inr (.inr ⟨x, by simp, h⟩))
      · -- a sequence is whole
        have hlen : ls.length = zs.length := ga4.nds.length
        have htl := tot_len zs
        have hbt2 := lt_of_some t2
        obtain ⟨rd1, rd2⟩ := ga4.reads
        refine ref05_pair_spec (.inl ⟨rfl, rfl⟩) ls (M := LtV w2.heap.size) (fun b hb => by have : b < w2.heap.size := hb; omega) rd1 ga4.own.cap rd2 (by omega) fun v w5 k5 hv => ?_
        have s5 := k5.size
        -- what is known of it
        have hcat : st3.bad = false → ∃ y, catF (bs s) g st2.cl = (y, st3.cl) ∧ y.norm = (twoOf .cat .empty zs).norm := fun hb3 => by
          obtain ⟨g1, g2, g3, p, us, hp, hus, hcl⟩ := hgo3 hb3
          rw [catLoop_end (st := st3.cl) rfl (q2 hg hb3)] at hcl
          refine ⟨twoOf .cat .empty us, ?_, twoOf_norm (f := .cat) (fun _ _ => rfl) hus (.inl rfl)⟩
          unfold catF
          rw [← hcl]
        have hcsz : (twoOf .cat .empty zs).size + 1 ≤ tot zs + 2 ∧ (zs ≠ [] → (twoOf .cat .empty zs).size + 1 = tot zs) := by
          by_cases hz : zs = []
          · subst hz; simp [twoOf, Re.size, tot]
          · have := twoOf_size (f := .cat) (x := .empty) (fun _ _ => rfl) zs hz
            refine ⟨by unfold tot; omega, fun _ => by unfold tot; omega⟩
        have hcb : (twoOf .cat .empty zs).size ≤ 3000 * ((bs s).length + 1 - st2.at_) := by
          by_cases hz : zs = []
          · subst hz; simp [twoOf, Re.size]; omega
          · have := hcsz.2 hz; omega
        -- it is put behind the others
        have ga5 : GathN w5 w1.heap.size all vs xs := (ga2.keep k4 fun b hb e => by omega).keep k5 fun b _ e => e.elim
        have hlen2 : vs.length = xs.length := ga2.nds.length
        have htl2 := tot_len xs
        refine ga5.add (by omega) (by omega) (hv.mono (V.sub fun b hb hm => by
          show b < _
          rcases hm with h | h
          · omega
          · exact (ga2.own.ge h).2)) fun all' w6 ga6 k6 => ?_
        have k26 : Keeps (fun b => b = bt ∨ w1.heap.size ≤ b) w2 w6 := ((k4.mono fun b _ e => .inl e).trans (k5.no)).trans (k6.mono fun b _ e => .inr e)
        have t6 : TO w6 bt s st3 := k6.blk (t4.keep k5) (by omega)
        have kk6 : Keeps (· = bt) w w6 := ((k2.trans k4).trans k5.no).then k6 fun i hi e => by omega
        have hb16 : w6.heap[b1]? = some (nodeObj ⟨0, noB, nil3⟩) := k6.blk (k5.blk0 (k4.blk hb2 (by omega))) (by omega)
        have s6 := k6.size
        refine Join.cut (fun last w7 => (w7.heap = w6.heap ∧ Keeps No w6 w7) ∧ (last = true → st3.bad = false → ¬ (bs s)[st3.at_]? = some 124) ∧ (last = false → st3.bad = false ∧ (bs s)[st3.at_]? = some 124)) ?_ ?_
        · rintro last w7 ⟨⟨hh7, k7⟩, p1, p2⟩
          have ga7 := ga6.keep k7 fun b _ e => e.elim
          have t7 := t6.keep k7
          refine Br.mk (fun hla => ?_) (fun hla => ?_)
          · -- the end
            obtain ⟨rd3, rd4⟩ := ga7.reads
            have hlen7 : (vs ++ [v]).length = (xs ++ [twoOf .cat .empty zs]).length := ga7.nds.length
            refine ref05_pair_spec (.inr ⟨rfl, rfl⟩) (vs ++ [v]) (M := LtV w1.heap.size) (fun b hb => by have : b < w1.heap.size := hb; have := k7.size; omega) rd3 ga7.own.cap rd4 (by simp; omega) fun u w8 k8 hu => ?_
            refine Al.mk fun b8 w9 n9 => StA.node n9.at_ fun w10 u10 => ?_
            have e9 := n9.eq; have s7 := k7.size; have s8 := k8.size; have s9 := n9.size
            have k710 : Keeps No w7 w10 := u10.keeps0 (k8.trans n9.keeps) (by omega)
            have t10 := t7.keep k710
            have hb110 := k710.blk0 (k7.blk0 hb16)
            have kk10 : Keeps (· = bt) w w10 := (kk6.then0 k7).then0 k710
            have hu10 : RNd (V (fun b => b < w1.heap.size ∨ b = b8) w10) u (twoOf .or .empty (xs ++ [twoOf .cat .empty zs])) := hu.mono ((V.move n9.keeps (M' := fun b => b < w1.heap.size ∨ b = b8) (fun _ _ h => h.elim) fun b hb h => h.resolve_right (by omega)).trans (V.move u10.keeps (fun _ _ h => .inr h) fun _ _ h => h))
            have hall : (twoOf .or .empty (xs ++ [twoOf .cat .empty zs])).size + 1 = tot (xs ++ [twoOf .cat .empty zs]) := by
              have := twoOf_size (f := .or) (x := .empty) (fun _ _ => rfl) (xs ++ [twoOf .cat .empty zs]) (by simp)
              unfold tot; omega
            rw [tot_snoc] at hall
            have hzin : (∃ z ∈ xs, 400 < z.size) ∨ (∃ z ∈ zs, 400 < z.size) → 400 < (twoOf .or .empty (xs ++ [twoOf .cat .empty zs])).size := by
              rintro (⟨z, hz, h⟩ | ⟨z, hz, h⟩)
              · have := tot_mem hz; omega
              · have h1 := tot_mem hz
                have h2 := hcsz.2 (fun e => by subst e; simp at hz)
                omega
            have rr : ∀ l, (l = true → st3.long = true ∨ 400 < (twoOf .or .empty (xs ++ [twoOf .cat .empty zs])).size) → RR (bs s) (orF (bs s) (n + 1)) 1 st (twoOf .or .empty (xs ++ [twoOf .cat .empty zs])) (st3.wl l) := fun l hl => by
              refine ⟨hle3, ?_, (fun hb3 => ?_), (fun hb3 => ?_), fun e => ?_⟩
              rotate_left
              rotate_left
              · have hb3 : st3.bad = true := hb3
                have hcb := hbad3 hb3
                rw [hfin]
                show fin.2.bad = true
                rw [← hF]
                have hc2 : (catF (bs s) g st2.cl).2.bad = true := hcb
                rw [orLoop_stuck hc2]
                exact hc2
              · rcases hl e with h | h
                · rcases hlg3 h with h | h | h | h
                  · exact .inl h
                  · exact .inr (.inl h)
                  · exact .inr (.inr (hzin (.inl h)))
                  · exact .inr (.inr (hzin (.inr h)))
                · exact .inr (.inr h)
              · have h8 : 1000 * (st2.at_ - st.at_) + 3000 * ((bs s).length + 1 - st2.at_) ≤ 3000 * ((bs s).length + 1 - st.at_) := by omega
                omega
              · have hb3 : st3.bad = false := hb3
                obtain ⟨g1, g2, g3, -⟩ := hgo3 hb3
                obtain ⟨y, hy1, hy2⟩ := hcat hb3
                refine ⟨⟨by show st.at_ + 1 ≤ st3.at_ + 1; omega, g2, by show _ ≤ 1000 * (st3.at_ - st.at_) + 2 * 1; omega⟩, twoOf .or noBytes (ys ++ [y]), ?_, twoOf_norm (f := .or) (fun _ _ => rfl) (by simp [hys, hy2]) (.inr (by simp))⟩
                rw [hfin]
                have hno := p1 hla hb3
                have hF' : fin = (ys ++ [y], st3.cl) := by
                  rw [← hF, hy1]
                  obtain ⟨q', rfl⟩ : ∃ k, q = k + 1 := ⟨q - 1, by omega⟩
                  have i124 : isB (bs s) 124 st3.cl = (false, st3.cl) := by rw [isB_cl, if_neg hno, decide_eq_false hno]
                  have hcb : st3.cl.bad = false := rfl
                  unfold orLoop
                  simp only [hcb, i124, Bool.false_eq_true, if_false]
                rw [hF']
                rfl
            have last3 : ∀ {l : Bool} {w11 : World}, (l = true → st3.long = true ∨ 400 < (twoOf .or .empty (xs ++ [twoOf .cat .empty zs])).size) → Keeps (· = bt) w10 w11 → TO w11 bt s (st3.wl l) → LdA 258 ⟨b8, 0, none⟩ w11 fun x66 => StA P T.frisketref05_Node ⟨b1, 0, none⟩ x66 w11 fun w16 => LdA 258 ⟨b1, 0, none⟩ w16 fun r0 => K r0 w16 := by
              intro l w11 hll k11 t11
              refine LdA.node (k11.blk u10.at_ (by omega)) (StA.ret (k11.blk hb110 (by omega)) fun w12 u12 => ?_)
              refine hk u _ (st3.wl l) w12 ((kk10.trans k11).then u12.keeps fun i hi e => by omega) (u12.keeps.blk t11 (by omega)) ?_ (rr l hll)
              exact hu10.mono ((V.move k11 (M' := fun b => b < w1.heap.size ∨ b = b8) (fun b _ e => .inl (by omega)) fun _ _ h => h).trans (V.move u12.keeps (fun b _ e => .inl (by omega)) fun b _ h => .inl (by have : b < w.heap.size := h; omega)))
            refine Ld.bool (cell_of t10 rfl) (Br.mk (fun hl4 => ?_) (fun hl4 => ?_))
            · refine TO.st (st' := st3.wl true) t10 (by simp) rfl fun w11 t11 k11 => last3 (fun _ => .inl hl4) k11 t11
            · refine LdA.node u10.at_ ?_
              refine ref05_Size_spec _ (twoOf .or .empty (xs ++ [twoOf .cat .empty zs])) (Nat.le_refl _) (by omega) hu10 fun w11 k11 => ?_
              refine TO.st (st' := st3.wl (decide ((400 : Int) < ((twoOf .or .empty (xs ++ [twoOf .cat .empty zs])).size : Nat)))) (t10.keep k11) (by simp) rfl fun w12 t12 k12 => last3 (fun e => .inr (by have := of_decide_eq_true e; omega)) ((k11.no).trans k12) t12
          · -- another one
            obtain ⟨hb3, h124⟩ := p2 hla
            obtain ⟨g1, g2, g3, -⟩ := hgo3 hb3
            obtain ⟨y, hy1, hy2⟩ := hcat hb3
            have hl3 := lt_of_get h124
            refine Ld.int (cell_of t7 rfl) (TO.step t7 rfl hs (by omega) fun w8 t8 k8 => ?_)
            have ha : st3.adv.at_ = st3.at_ + 1 := rfl
            obtain ⟨q', rfl⟩ : ∃ k, q = k + 1 := ⟨q - 1, by omega⟩
            refine hR ((bs s).length - st3.adv.at_ + 1) all' w8 (by omega) ⟨vs ++ [v], xs ++ [twoOf .cat .empty zs], st3.adv, (kk6.then0 k7).trans k8, k8.blk (k7.blk0 hb16) (by omega), t8, ga7.keep k8 (fun b _ e => by omega), hb3, by omega, g2, by omega, by omega, ?_, by have := k8.size; have := k7.size; omega, q', ys ++ [y], by omega, by simp [hys, hy2], ?_, fun e => ?_⟩
            · rw [tot_snoc]; omega
            · rw [← hF, hy1]
              have i124 : isB (bs s) 124 st3.cl = (true, st3.adv.cl) := by rw [isB_cl, if_pos h124, decide_eq_true h124]
              have hcb : st3.cl.bad = false := rfl
              conv => rhs; unfold orLoop
              simp only [hcb, i124, Bool.false_eq_true, if_false, if_true]
            · rcases hlg3 e with h | h | ⟨z, hz, h⟩ | ⟨z, hz, h⟩
              · exact .inl h
              · rw [hb3] at h; cases h
              · exact .inr ⟨z, by simp [hz], h⟩
              · refine .inr ⟨twoOf .cat .empty zs, by simp, ?_⟩
                have h1 := tot_mem hz
                have h2 := hcsz.2 (fun e => by subst e; simp at hz)
                omega
        · intro j9 hj9
          refine Ld.bool (cell_of t6 rfl) (Br.mk (fun hbb => hj9 _ _ ⟨⟨rfl, .refl⟩, (fun _ h => by rw [hbb] at h; cases h), fun e => by cases e⟩) (fun hbb => ?_))
          refine ref05_sees_spec (b := 124) t6 rfl fun w7 hh7 k7 => hj9 _ _ ⟨⟨hh7, k7⟩, (fun e _ => by simpa using e), fun e => ⟨hbb, by simpa using e⟩⟩
    · intro j10 hj10
      refine Draw.hp fun w4 e4 k4 => ?_
      have t4 := t3.keep k4
      have base4 : Keeps (· = bt) w2 w4 ∧ TO w4 bt s st3 ∧ GathN w4 w2.heap.size l ls zs ∧ w2.heap.size ≤ w4.heap.size := ⟨k3.then0 k4, t4, ga3.keep k4 (fun b _ e => e.elim), by have := k4.size; omega⟩
      have hcell : ∀ w' : World, w'.heap = w3.heap → w'.heap[bt]? = some (tobj s st3) := fun w' e => by rw [e]; exact t3
      refine LdS.of (t := .bool) (v := st3.bad) (fun w' e => cell_of (hcell w' e) rfl) (Br.mk (fun hbb => ?_) (fun hbb => hj10 _ _ ⟨base4, (fun e => by cases e), fun _ h => by rw [h] at hbb; cases hbb⟩))
      have hb3 : st3.bad = false := by simpa using hbb
      refine LdS.of (t := .int .i64) (v := (st3.at_ : Int)) (fun w' e => cell_of (hcell w' e) rfl) (LdS.of (t := .str) (v := s) (fun w' e => cell_of (hcell w' e) rfl) (Br.mk (fun ht => ?_) (fun hf => ?_)))
      · have hl : st3.at_ < (bs s).length := by have ht : (st3.at_ : Int) < (s.size : Int) := of_decide_eq_true ht; omega
        have hx : (bs s)[st3.at_]? = some (bs s)[st3.at_] := List.getElem?_eq_getElem hl
        refine ref05_sees_spec (b := 124) t4 rfl fun w5 e5 k5 => ⟨e5.trans e4, ?_⟩
        have base5 : Keeps (· = bt) w2 w5 ∧ TO w5 bt s st3 ∧ GathN w5 w2.heap.size l ls zs ∧ w2.heap.size ≤ w5.heap.size := ⟨base4.1.then0 k5, base4.2.1.keep k5, base4.2.2.1.keep k5 (fun b _ e => e.elim), by have := k5.size; have := base4.2.2.2; omega⟩
        refine Br.mk (fun h124 => ?_) (fun h124 => ?_)
        · have h124 : ¬ (bs s)[st3.at_]? = some 124 := by simpa using h124
          refine ref05_sees_spec (b := 41) base5.2.1 rfl fun w6 e6 k6 => ⟨(e6.trans e5).trans e4, hj10 _ _ ⟨⟨base5.1.then0 k6, base5.2.1.keep k6, base5.2.2.1.keep k6 (fun b _ e => e.elim), by have := k6.size; have := base5.2.2.2; omega⟩, fun e => ⟨hb3, _, hx, ?_, ?_⟩, fun e _ c hc => ?_⟩⟩
          · rintro h; rw [h] at hx; exact h124 hx
          · rintro h; rw [h] at hx; simp [hx] at e
          · right
            have : (bs s)[st3.at_]? = some 41 := by simpa using e
            rw [this] at hc; cases hc; rfl
        · have h124 : (bs s)[st3.at_]? = some 124 := by simpa using h124
          exact hj10 _ _ ⟨base5, (fun e => by cases e), fun _ _ c hc => by rw [h124] at hc; cases hc; exact .inl rfl⟩
      · have hf : ¬ (st3.at_ : Int) < (s.size : Int) := of_decide_eq_false hf
        refine hj10 _ _ ⟨base4, (fun e => by cases e), fun _ _ c hc => ?_⟩
        have := lt_of_get hc
        omega
end Go.Fk
end

section
set_option linter.unusedVariables false
set_option linter.unusedSimpArgs false
namespace Go.Fk
open Go

/-- What the reference's parser hands back: where it says that all is well the plain parser says so, and has the same expression. -/
theorem ref05_Parse_spec {w : World} {s : ByteArray} {K : (Array Value × Int × Bool) → World → Prop} (hs : Small s)
    (hk : ∀ v x at_ great w', Keeps No w w' → RNd (V (LtV w.heap.size) w') v x → (at_ < 0 → great = false → (parseF (bs s)).2.2 = 0 ∧ (parseF (bs s)).1.norm = x.norm) → ((parseF (bs s)).2.2 = 0 → at_ < 0 ∧ great = false) → K (v.cells.toArray, at_, great) w') : frisketref05_Parse.C s w K := by
  have hsz := size_bs s
  have hsm := hs; unfold Small at hsm
  refine frisketref05_Parse.ok _ _ _ ?_
  simp only [frisketref05_Parse.M, NilC_some, zero_cells]
  refine Al.mk fun b1 w1 n1 => Al.mk fun b2 w2 n2 => ?_
  have e1 := n1.eq; have s1 := n1.size; have e2 := n2.eq; have s2 := n2.size
  let st0 : PS := ⟨0, false, false, 0⟩
  have t2 : TO w2 b2 s st0 := n2.at_
  refine ref05_or_spec 51 t2 hs rfl (by show 0 ≤ _; omega) (by show 0 ≤ 50; omega) rfl fun v x st w3 k3 t3 r3 rr => ?_
  refine Al.mk fun b3 w4 n4 => StA.node n4.at_ fun w5 u5 => ?_
  have e4 := n4.eq; have s3 := k3.size; have s4 := n4.size
  have k35 : Keeps No w3 w5 := u5.keeps0 n4.keeps (by omega)
  have k02 : Keeps No w w2 := n1.keeps.trans n2.keeps
  have k05 : Keeps No w w5 := (((k02.no (M := No)).then k3 fun i hi e => by omega)).trans k35
  have t5 : TO w5 b2 s st := t3.keep k35
  have hb1 : w5.heap[b1]? = some (nodeObj ⟨0, noB, nil3⟩) := k35.blk0 (k3.blk (n2.keeps.blk0 n1.at_) (by omega))
  have hb3 : w5.heap[b3]? = some (nodeObj v) := u5.at_
  have r5 : RNd (V (fun b => b < w2.heap.size ∨ b = b3) w5) v x := r3.mono ((V.move n4.keeps (M' := fun b => b < w2.heap.size ∨ b = b3) (fun _ _ h => h.elim) fun b hb h => by
    show b < _
    rcases h with h | h <;> omega).trans (V.move u5.keeps (fun _ _ h => .inr h) fun _ _ h => h))
  have hne : (st.bad = true ∨ st.at_ < (bs s).length ∨ 400 < x.size) → (parseF (bs s)).2.2 ≠ 0 := by
    intro hor
    by_cases hbd : st.bad = true
    · have hno : (orF (bs s) 51 st0).2.bad = true := rr.no hbd
      unfold parseF
      show (let r := orF (bs s) 51 st0; _ : Re × Nat × Nat).2.2 ≠ 0
      generalize orF (bs s) 51 st0 = r at hno
      dsimp only
      cases hl : r.2.long <;> simp [hno]
    · have hbd : st.bad = false := by simpa using hbd
      obtain ⟨_, y, hy1, hy2⟩ := rr.go hbd
      have hys := size_of_norm hy2
      have e : orF (bs s) 51 ⟨0, false, false, 0⟩ = (y, st.cl) := hy1
      unfold parseF
      rw [e]
      have c1 : st.cl.long = false := rfl
      have c2 : st.cl.bad = false := rfl
      have c3 : st.cl.at_ = st.at_ := rfl
      rw [hbd] at hor
      by_cases hlt : st.at_ < (bs s).length
      · have hlt2 : st.at_ < s.size := by omega
        simp [c1, c2, c3, hlt2]
      · have h4 : 400 < y.size := by
          rcases hor with h | h | h
          · cases h
          · exact absurd h hlt
          · omega
        have hlt2 : ¬ st.at_ < s.size := by omega
        simp [c1, c2, c3, hlt2, h4]
  have fail : ∀ {w6 : World} {a : Int} {g : Bool}, Keeps No w5 w6 → (parseF (bs s)).2.2 ≠ 0 → (a < 0 → g = false → False) → StA P T.frisketref05_Node ⟨b1, 0, none⟩ (NV.cells ⟨0, noB, nil3⟩).toArray w6 fun w7 => LdA 258 ⟨b1, 0, none⟩ w7 fun r0 => K (r0, a, g) w7 := by
    intro w6 a g k6 hpn hno
    refine StA.ret (K := fun r0 w7 => K (r0, a, g) w7) (k6.blk0 hb1) fun w7 u7 => ?_
    exact hk _ (.set noB) a g w7 (u7.keeps0 (k05.trans k6) (by omega)) .set (fun h1 h2 => (hno h1 h2).elim) fun e => absurd e hpn
  refine Ld.bool (cell_of t5 rfl) (Br.mk (fun hg => ?_) (fun hg => ?_))
  · exact App.build build0 (fail .refl (hne (by
      rcases rr.lg hg with h | h | h
      · cases h
      · exact .inl h
      · exact .inr (.inr h))) fun _ h => by cases h)
  · refine Join.cut (fun b w6 => w6 = w5 ∧ (b = false → st.bad = false ∧ (bs s).length ≤ st.at_) ∧ (b = true → st.bad = true ∨ st.at_ < (bs s).length)) ?_ ?_
    · rintro b w6 ⟨rfl, hb, hbb⟩
      refine Br.mk (fun hbt => ?_) (fun hbf => ?_)
      · refine ⟨fun x => Keeps (· = b1) w6 x, Keeps.drew.no, ?_⟩
        refine AppS.build build0 (LdS.of (t := .int .i64) (v := (st.at_ : Int)) (fun w' hw' => cell_of (hw'.blk t5 (by omega)) rfl) ?_)
        refine StA.node (Keeps.drew.blk0 hb1) fun w7 u7 => ⟨(Keeps.drew.no (M := (· = b1))).trans u7.keeps, LdA.node u7.at_ ?_⟩
        exact hk _ (.set noB) _ _ w7 (u7.keeps0 (k05.trans .drew) (by omega)) .set (fun h1 _ => by omega) fun e => absurd e (hne ((hbb hbt).imp id .inl))
      · obtain ⟨hbd, hle⟩ := hb hbf
        have hat : st.at_ = (bs s).length := Nat.le_antisymm rr.le hle
        have hszb := rr.szb
        have h0 : st0.at_ = 0 := rfl
        refine LdA.node hb3 ?_
        refine ref05_Size_spec x.size x (Nat.le_refl _) (by rw [h0] at hszb; omega) r5 fun w7 k7 => ?_
        refine Br.mk (fun h400 => ?_) (fun h400 => ?_)
        · exact App.build build0 (fail k7 (hne (.inr (.inr (by have := of_decide_eq_true h400; omega)))) fun _ h => by cases h)
        · have h400 : ¬ (400 : Int) < (x.size : Int) := of_decide_eq_false h400
          refine LdA.node (k7.blk0 hb3) (StA.ret (K := fun r0 w7 => K (r0, -1, false) w7) (k7.blk0 hb1) fun w8 u8 => ?_)
          refine hk _ x _ _ w8 (u8.keeps0 (k05.trans k7) (by omega)) ?_ (fun _ _ => ?_) fun _ => ⟨by omega, rfl⟩
          · exact r5.mono ((V.keeps0 k7).trans (V.move u8.keeps (fun b _ e => .inl (by omega)) fun b _ h => .inl (by have : b < w.heap.size := h; omega)))
          · obtain ⟨_, y, hy1, hy2⟩ := rr.go hbd
            have hys := size_of_norm hy2
            have e : parseF (bs s) = (y, 0, 0) := by
              unfold parseF
              have : orF (bs s) 51 ⟨0, false, false, 0⟩ = (y, st.cl) := hy1
              rw [this]
              have c1 : st.cl.long = false := rfl
              have c2 : st.cl.bad = false := rfl
              have c3 : ¬ st.cl.at_ < (bs s).length := by show ¬ st.at_ < _; omega
              have c4 : ¬ 400 < y.size := by omega
              simp [c1, c2, c4]
              show s.size ≤ st.at_
              omega
            rw [e]
            exact ⟨rfl, hy2⟩
    · intro j hj
      refine Ld.bool (cell_of t5 rfl) (Br.mk (fun ht => hj _ _ ⟨rfl, (fun e => by cases e), fun _ => .inl ht⟩) (fun hbd => ?_))
      refine Ld.int (cell_of t5 rfl) (hj _ _ ⟨rfl, (fun e => ⟨hbd, ?_⟩), fun e => .inr (by have e : (st.at_ : Int) < (s.size : Int) := of_decide_eq_true e; omega)⟩)
      have e : ¬ (st.at_ : Int) < (s.size : Int) := of_decide_eq_false e
      omega
end Go.Fk
end

section
set_option linter.unusedVariables false
set_option linter.unusedSimpArgs false
namespace Go.Fk
open Go

theorem blk_one {l : Sl} {g : Nat} (h : l.a = some ⟨g, 0, none⟩) {b : Nat} (hb : l.blk b) : b = g := by
  obtain ⟨a, ha, rfl⟩ := hb
  rw [h] at ha; cases ha; rfl


theorem parse_small {s : List UInt8} (h : (parseF s).2.2 = 0) : (parseF s).1.size ≤ 400 := by
  unfold parseF at h ⊢
  generalize orF s 51 ⟨0, false, false, 0⟩ = r at *
  dsimp only at h ⊢
  split at h
  · cases h
  · split at h
    · cases h
    · split at h
      · cases h
      · rename_i h1 h2 h3
        simp only [h1, h2, h3, if_false]
        simp
        omega

/-! ## Whose positions they are -/

theorem emp_of_cnt {x : Re} (h : x.cnt = 0) : x.emp = true := by
  induction x with
  | set f => simp [Re.cnt] at h
  | empty => rfl
  | cat a b iha ihb => simp only [Re.cnt] at h; simp [Re.emp, iha (by omega), ihb (by omega)]
  | or a b iha ihb => simp only [Re.cnt] at h; simp [Re.emp, iha (by omega)]
  | star a ih => rfl

theorem first_ne (x : Re) : ∀ n, 0 < x.cnt → ∃ p, x.first n p := by
  induction x with
  | set f => intro n _; exact ⟨n, rfl⟩
  | empty => intro n h; simp [Re.cnt] at h
  | cat a b iha ihb =>
    intro n h
    simp only [Re.cnt] at h
    by_cases ha : a.cnt = 0
    · obtain ⟨p, hp⟩ := ihb (n + a.cnt) (by omega)
      exact ⟨p, .inr ⟨emp_of_cnt ha, hp⟩⟩
    · obtain ⟨p, hp⟩ := iha n (by omega)
      exact ⟨p, .inl hp⟩
  | or a b iha ihb =>
    intro n h
    simp only [Re.cnt] at h
    by_cases ha : a.cnt = 0
    · obtain ⟨p, hp⟩ := ihb (n + a.cnt) (by omega)
      exact ⟨p, .inr hp⟩
    · obtain ⟨p, hp⟩ := iha n (by omega)
      exact ⟨p, .inl hp⟩
  | star a ih => intro n h; exact ih n h
theorem last_ne (x : Re) : ∀ n, 0 < x.cnt → ∃ p, x.last n p := by
  induction x with
  | set f => intro n _; exact ⟨n, rfl⟩
  | empty => intro n h; simp [Re.cnt] at h
  | cat a b iha ihb =>
    intro n h
    simp only [Re.cnt] at h
    by_cases hb : b.cnt = 0
    · obtain ⟨p, hp⟩ := iha n (by omega)
      exact ⟨p, .inr ⟨emp_of_cnt hb, hp⟩⟩
    · obtain ⟨p, hp⟩ := ihb (n + a.cnt) (by omega)
      exact ⟨p, .inl hp⟩
  | or a b iha ihb =>
    intro n h
    simp only [Re.cnt] at h
    by_cases ha : a.cnt = 0
    · obtain ⟨p, hp⟩ := ihb (n + a.cnt) (by omega)
      exact ⟨p, .inr hp⟩
    · obtain ⟨p, hp⟩ := iha n (by omega)
      exact ⟨p, .inl hp⟩
  | star a ih => intro n h; exact ih n h

theorem poss_get {x : Re} {r : Int} {i : Nat} (h : i < x.cnt) (l : List ((Nat → Bool) × Int)) : (((x.poss.map fun f => (f, r)) ++ l)[i]?).map (·.2) = some r := by
  rw [List.getElem?_append_left (by simp [Re.poss_len, h])]
  rw [List.getElem?_map, List.getElem?_eq_getElem (by rw [Re.poss_len]; exact h)]
  rfl
theorem poss_skip {x : Re} {r : Int} {i : Nat} (h : x.cnt ≤ i) (l : List ((Nat → Bool) × Int)) : ((x.poss.map fun f => (f, r)) ++ l)[i]? = l[i - x.cnt]? := by
  rw [List.getElem?_append_right (by simp [Re.poss_len, h])]
  simp [Re.poss_len]

theorem kn_rule (xs : List Re) : ∀ (n r : Int) (i : Nat) (k : Kn), (mKs n xs)[i]? = some k → ((∃ q, k.first q) ↔ ∃ q, k.last q) ∧ ∀ q, (k.first q ∨ k.last q) → n ≤ q ∧ ((mFs r xs)[(q - n).toNat]?).map (·.2) = some (r + i) := by
  induction xs with
  | nil => intro n r i k h; simp [mKs] at h
  | cons x xs ih =>
    intro n r i k h
    cases i with
    | zero =>
      simp [mKs] at h
      subst h
      refine ⟨?_, fun q hq => ?_⟩
      · constructor
        · rintro ⟨q, hq⟩
          have := Re.first_in hq
          exact last_ne x n (by omega)
        · rintro ⟨q, hq⟩
          have := Re.last_in hq
          exact first_ne x n (by omega)
      · have hin : n ≤ q ∧ q < n + x.cnt := by rcases hq with h | h; exact Re.first_in h; exact Re.last_in h
        refine ⟨hin.1, ?_⟩
        simp only [mFs]
        rw [poss_get (by omega)]
        simp
    | succ i =>
      simp [mKs] at h
      obtain ⟨h1, h2⟩ := ih (n + x.cnt) (r + 1) i k h
      refine ⟨h1, fun q hq => ?_⟩
      obtain ⟨h3, h4⟩ := h2 q hq
      refine ⟨by omega, ?_⟩
      simp only [mFs]
      rw [poss_skip (by omega)]
      have e : (q - n).toNat - x.cnt = (q - (n + x.cnt)).toNat := by omega
      rw [e, h4]
      congr 1
      omega

theorem fol_rule (xs : List Re) : ∀ (n r : Int) (p q : Int), mFol n xs p q → n ≤ p ∧ n ≤ q ∧ ((mFs r xs)[(p - n).toNat]?).map (·.2) = ((mFs r xs)[(q - n).toNat]?).map (·.2) ∧ (p - n).toNat < (mFs r xs).length ∧ (q - n).toNat < (mFs r xs).length := by
  induction xs with
  | nil => intro n r p q h; exact h.elim
  | cons x xs ih =>
    intro n r p q h
    simp only [mFol] at h
    have hl : (mFs r (x :: xs)).length = x.cnt + (mFs (r + 1) xs).length := by simp [mFs, Re.poss_len]
    rcases h with h | h
    · have := Re.fol_in h
      refine ⟨by omega, by omega, ?_, by omega, by omega⟩
      simp only [mFs]
      rw [poss_get (by omega), poss_get (by omega)]
    · obtain ⟨h1, h2, h3, h4, h5⟩ := ih (n + x.cnt) (r + 1) p q h
      refine ⟨by omega, by omega, ?_, by omega, by omega⟩
      simp only [mFs]
      rw [poss_skip (by omega), poss_skip (by omega)]
      have e1 : (p - n).toNat - x.cnt = (p - (n + x.cnt)).toNat := by omega
      have e2 : (q - n).toNat - x.cnt = (q - (n + x.cnt)).toNat := by omega
      rw [e1, e2, h3]

theorem ruleAt_first {xs : List Re} {i q : Int} (h : (knAt (mKs 0 xs) i).first q ∨ (knAt (mKs 0 xs) i).last q) : ruleAt (mFs 0 xs) q = i := by
  unfold knAt at h
  split at h
  · rename_i h0
    cases hk : (mKs 0 xs)[i.toNat]? with
    | none => rw [hk] at h; rcases h with h | h <;> exact h.elim
    | some k =>
      rw [hk] at h
      obtain ⟨h1, h2⟩ := (kn_rule xs 0 0 i.toNat k hk).2 q h
      unfold ruleAt
      rw [if_pos h1]
      simp only [Int.sub_zero] at h2
      rw [h2]
      simp; omega
  · rcases h with h | h <;> exact h.elim
theorem ruleAt_fol {xs : List Re} {p q : Int} (h : mFol 0 xs p q) : ruleAt (mFs 0 xs) q = ruleAt (mFs 0 xs) p := by
  obtain ⟨h1, h2, h3, _⟩ := fol_rule xs 0 0 p q h
  simp only [Int.sub_zero] at h3
  unfold ruleAt
  rw [if_pos h1, if_pos h2, h3]
theorem kn_ne {xs : List Re} {i : Int} : (∃ q, (knAt (mKs 0 xs) i).first q) ↔ ∃ q, (knAt (mKs 0 xs) i).last q := by
  unfold knAt
  split
  · cases hk : (mKs 0 xs)[i.toNat]? with
    | none => simp
    | some k => exact (kn_rule xs 0 0 i.toNat k hk).1
  · simp

theorem rising_nil {xs : List Int} {S : Int → Prop} (h : Rising xs S) : xs.length = 0 ↔ ¬ ∃ q, S q := by
  cases xs with
  | nil => simp; intro q hq; have := (h.2 q).2 hq; simp at this
  | cons a l => simp; exact ⟨a, (h.2 a).1 (by simp)⟩

/-! ## NfaOwn -/

theorem strs40 {M : Nat → Prop} {w : World} {l : Sl} {ss : List ByteArray} (hl : SlT .str (V M w) l ss) (hlen : ss.length < 1000000) {K : Bool → World → Prop} {rest : World → Prop} (hK : K true w) (hrest : (∀ s ∈ ss, s.size ≤ 40) → rest w) :
    Loop (fun (s2 : Int) w3 again3 => Br (decide (s2 < (l.n : Int))) (IdxS l s2 1 fun p33 => Ld .str p33 w3 fun x34 => Br (decide ((40 : Int) < (x34.size : Int))) (K true w3) (again3 (w64 (s2 + (1 : Int))) w3)) (rest w3)) 0 w := by
  have hn := hl.1
  refine Loop.mk (fun i w' => w' = w ∧ ∃ k : Nat, k ≤ ss.length ∧ i = (k : Int) ∧ ∀ s ∈ ss.take k, s.size ≤ 40) (fun i => ss.length - i.toNat) ⟨rfl, 0, by omega, rfl, by simp⟩ ?_
  rintro i w' ⟨rfl, k, hkl, rfl, hs⟩ R hR
  refine Br.mk (fun ht => ?_) (fun hf => ?_)
  · have ht : k < ss.length := by have := of_decide_eq_true ht; omega
    refine IdxS.get (M := M) hl (by omega) (by omega) fun x hx => ?_
    simp at hx
    refine Br.mk (fun _ => hK) (fun h40 => ?_)
    have h40 : ¬ (40 : Int) < (x.size : Int) := of_decide_eq_false h40
    rw [w64_eq (by omega)]
    refine hR _ _ ⟨rfl, k + 1, by omega, by omega, fun s hsm => ?_⟩ (by omega)
    rw [List.take_add_one, hx] at hsm
    simp at hsm
    rcases hsm with h | rfl
    · exact hs s h
    · omega
  · have hf : ss.length ≤ k := by have := of_decide_eq_false hf; omega
    rw [List.take_of_length_le hf] at hs
    exact hrest hs
end Go.Fk
end

section
set_option linter.unusedVariables false
namespace Go.Fk
open Go

/-! ## What positions accept -/

def lastAt (fs : List ((Nat → Bool) × Int)) (ks : List Kn) (p : Int) : Prop := (knAt ks (ruleAt fs p)).last p
def AccOf (fs : List ((Nat → Bool) × Int)) (ks : List Kn) (at_ : List Int) (a : Int) : Prop :=
  (a = -1 ∧ ∀ p ∈ at_, ¬ lastAt fs ks p) ∨ ((0 ≤ a ∧ ∃ p ∈ at_, lastAt fs ks p ∧ ruleAt fs p = a) ∧ ∀ p ∈ at_, lastAt fs ks p → a ≤ ruleAt fs p)

theorem lastAt_pos {fs : List ((Nat → Bool) × Int)} {ks : List Kn} {p : Int} (h : lastAt fs ks p) : 0 ≤ ruleAt fs p := by
  unfold lastAt at h
  refine Decidable.byContradiction fun hn => ?_
  rw [knAt_out (by omega)] at h
  exact h

theorem AccOf.one {fs : List ((Nat → Bool) × Int)} {ks : List Kn} {at_ : List Int} {a b : Int} (h : AccOf fs ks at_ a) (h' : AccOf fs ks at_ b) : a = b := by
  rcases h with ⟨rfl, h1⟩ | ⟨⟨h0, p, hp, h1, h2⟩, h3⟩ <;> rcases h' with ⟨rfl, g1⟩ | ⟨⟨g0, q, hq, g1, g2⟩, g3⟩
  · rfl
  · exact absurd g1 (h1 q hq)
  · exact absurd h1 (g1 p hp)
  · have := h3 q hq g1; have := g3 p hp h1; omega

theorem dfa_accept_spec {M : Nat → Prop} {w : World} {p : Option Addr} {fs : List ((Nat → Bool) × Int)} {F : Int → Int → Prop} {ks : List Kn} {l : Sl} {xs : List Int} {K : Int → World → Prop} (h : MachO (V No w) p fs F ks) (hl : SlT (.int .i64) (V M w) l xs) (hlen : xs.length ≤ 1000000)
    (hK : ∀ a w', Keeps No w w' → AccOf fs ks xs a → K a w') : dfa_accept.C p l w K := by
  have hn := hl.1
  refine dfa_accept.ok _ _ _ _ ?_
  simp only [dfa_accept.M]
  refine Loop.mk (fun t w' => Keeps No w w' ∧ ∃ k : Nat, k ≤ xs.length ∧ t.2 = (k : Int) ∧ AccOf fs ks (xs.take k) t.1) (fun t => xs.length - t.2.toNat) ⟨.refl, 0, by omega, rfl, .inl ⟨rfl, by simp⟩⟩ ?_
  rintro ⟨best, kk⟩ w1 ⟨k1, k, hk, hkk, hacc⟩ R hR
  dsimp only at hkk hacc ⊢
  subst hkk
  refine Br.mk (fun ht => ?_) (fun hf => ?_)
  · have ht : k < xs.length := by have := of_decide_eq_true ht; omega
    refine IdxS.get (M := M) (hl.mono (V.keeps0 k1)) (by omega) (by omega) fun x hx => ?_
    simp only [Int.toNat_natCast] at hx
    have htake : xs.take (k + 1) = xs.take k ++ [x] := by rw [List.take_add_one, hx]; rfl
    have e4 : w64 ((k : Int) + 1) = ((k + 1 : Nat) : Int) := by rw [w64_eq (by omega)]; omega
    refine nfa_Machine_Rule_spec (h.mono (V.keeps0 k1)) fun w2 k2 => ?_
    have k12 := k1.trans k2
    refine Join.cut (fun (b : Bool) w' => Keeps No w w' ∧ (b = true → lastAt fs ks x ∧ (best = -1 ∨ ruleAt fs x < best)) ∧ (b = false → ¬ lastAt fs ks x ∨ (best ≠ -1 ∧ best ≤ ruleAt fs x))) ?_ ?_
    · rintro b w3 ⟨k3, hb1, hb2⟩
      rw [e4]
      refine Br.mk (fun hb => ?_) (fun hb => ?_)
      · obtain ⟨g1, g2⟩ := hb1 hb
        refine hR _ w3 ⟨k3, k + 1, by omega, rfl, ?_⟩ (by dsimp only; omega)
        dsimp only
        rw [htake]
        refine .inr ⟨⟨lastAt_pos g1, x, by simp, g1, rfl⟩, fun q hq hl => ?_⟩
        rcases List.mem_append.1 hq with hq | hq
        · rcases hacc with ⟨_, h1⟩ | ⟨⟨h0, _⟩, h1⟩
          · exact absurd hl (h1 q hq)
          · have := h1 q hq hl; omega
        · simp at hq; subst hq; omega
      · refine hR _ w3 ⟨k3, k + 1, by omega, rfl, ?_⟩ (by dsimp only; omega)
        dsimp only
        rw [htake]
        rcases hb2 hb with g | ⟨g1, g2⟩
        · rcases hacc with ⟨h0, h1⟩ | ⟨⟨h0, q, hq, h1⟩, h2⟩
          · refine .inl ⟨h0, fun q hq => ?_⟩
            rcases List.mem_append.1 hq with hq | hq
            · exact h1 q hq
            · simp at hq; subst hq; exact g
          · refine .inr ⟨⟨h0, q, by simp [hq], h1⟩, fun q hq hl => ?_⟩
            rcases List.mem_append.1 hq with hq | hq
            · exact h2 q hq hl
            · simp at hq; subst hq; exact absurd hl g
        · rcases hacc with ⟨h0, h1⟩ | ⟨⟨h0, q, hq, h1⟩, h2⟩
          · exact absurd h0 g1
          · refine .inr ⟨⟨h0, q, by simp [hq], h1⟩, fun q hq hl => ?_⟩
            rcases List.mem_append.1 hq with hq | hq
            · exact h2 q hq hl
            · simp at hq; subst hq; exact g2
    · intro j hj
      have look : ∀ {k : Bool → World → Prop}, (∀ b w', Keeps No w w' → (b = true ↔ lastAt fs ks x) → k b w') → nfa_Machine_Last.C p (ruleAt fs x) w2 fun x28 w4 => slices_Contains_int.C x28 x w4 k := by
        intro kk hkk
        refine nfa_Machine_Last_spec (h.mono (V.keeps0 k12)) fun l5 ys w5 k5 o5 r5 => ?_
        have hfew := h.few
        have hyl := rising_len r5 fun q hq => by have := h.kin _ q (.inr hq); omega
        refine Contains_int_spec (M := No) (o5.reads fun _ _ h => h) (by omega) fun b hb => hkk b w5 (k12.trans k5) ?_
        rw [hb, r5.2]
        exact Iff.rfl
      refine Br.mk (fun hb => look fun b w' k' hb' => hj b w' ⟨k', fun e => ⟨hb'.1 e, .inl (by simpa using hb)⟩, fun e => .inl fun hl => by rw [hb'.2 hl] at e; cases e⟩) (fun hb => ?_)
      have hb : best ≠ -1 := by simpa using hb
      refine Br.mk (fun hlt => look fun b w' k' hb' => hj b w' ⟨k', fun e => ⟨hb'.1 e, .inr (of_decide_eq_true hlt)⟩, fun e => .inl fun hl => by rw [hb'.2 hl] at e; cases e⟩) (fun hlt => ?_)
      refine hj false w2 ⟨k12, (fun e => by cases e), fun _ => .inr ⟨hb, ?_⟩⟩
      have := of_decide_eq_false hlt
      omega
  · have hf : k = xs.length := by have := of_decide_eq_false hf; omega
    subst hf
    rw [List.take_length] at hacc
    exact hK best w1 k1 hacc

/-! ## Rows that are joined -/

theorem append_none {P : Program} {T T' E size bytes : Nat} {z : Value} {w : World} {l : Sl} {k : Sl → World → Prop} (hE : Elem P T E z size bytes) (hle : l.n ≤ l.c) (hk : k l w) :
    App P (Builtin.append_ #[T, T] T' #[.slice l.a l.n l.c, .slice none 0 0]) (.one .sl) w k := by
  obtain ⟨i, hi, hzz⟩ := Option.map_eq_some_iff.1 hE.inf
  refine ⟨l, w, ?_, hk⟩
  simp only [Prod.mk.injEq] at hzz
  obtain ⟨hz, hs, hb⟩ := hzz
  cases ha : l.a <;> simp [Builtin.append_, run_underlying hE.sl, Go.run_sizeOf w hi, Builtin.lenOf, Builtin.firstCells, Result.andThen, RTy.enc, Ty.enc, hle, storeCells, ha]

theorem Own.le {w : World} {base E size : Nat} {l : Sl} {xs : List Value} (h : Own w base E size l xs) : l.n ≤ l.c := by
  rcases h.2 with ⟨hv, hn⟩ | ⟨g, cap, cur, hv, _, _, hnc, _⟩
  · omega
  · simp only [Sl.val, Value.slice.injEq] at hv
    omega

theorem append_ints {w : World} {base b2 : Nat} {l l2 : Sl} {xs ys : List Int} {k : Sl → World → Prop} (ho : Own w base T.int 1 l (xs.map (Ty.int .i64).enc)) (h2 : Own w b2 T.int 1 l2 (ys.map (Ty.int .i64).enc)) (hlen : xs.length + ys.length ≤ 1000000000) (hbase : base ≤ w.heap.size)
    (hk : ∀ l' w', Own w' base T.int 1 l' ((xs ++ ys).map (Ty.int .i64).enc) → Keeps l.blk w w' → (∀ c, l'.blk c → l.blk c ∨ w.heap.size ≤ c) → k l' w') :
    App P (Builtin.append_ #[T.sl_int, T.sl_int] T.sl_int #[.slice l.a l.n l.c, .slice l2.a l2.n l2.c]) (.one .sl) w k := by
  have hl := ho.len; have hl2 := h2.len
  simp at hl hl2
  rcases h2.2 with ⟨hv, hn⟩ | ⟨g, cap, cur, hv, hge, hg, hnc, hcm, hcs, htake⟩
  · simp only [Sl.val, Value.slice.injEq] at hv
    obtain ⟨e1, e2, e3⟩ := hv
    have hy : ys = [] := List.eq_nil_of_length_eq_zero (by omega)
    subst hy
    rw [e1, e2, e3]
    exact append_none elInt ho.le (hk l w (by simpa using ho) .refl fun c hc => .inl hc)
  · simp only [Sl.val, Value.slice.injEq] at hv
    rw [hv.1]
    refine append_own (news := ys.map (Ty.int .i64).enc) elInt ho (by simp; omega) (fun j u hu => ?_) (fun u hu => by obtain ⟨y, _, rfl⟩ := List.mem_map.1 hu; rfl) (by omega) (by omega) hbase fun l' w' o' n' k' g' => ?_
    · rw [Nat.zero_add]
      refine cell_of hg ?_
      have hjl : j < ys.length := by have := (List.getElem?_eq_some_iff.1 hu).1; simpa using this
      rw [← htake] at hu
      rw [List.getElem?_take] at hu
      split at hu
      · simpa using hu
      · cases hu
    · refine hk l' w' (by simpa using o') k' fun c hc => ?_
      rcases g' with ⟨h1, _⟩ | ⟨g2, h1, h3⟩
      · obtain ⟨a, ha, _⟩ := hc; rw [h1] at ha; cases ha
      · obtain ⟨a, ha, rfl⟩ := hc
        rw [h1] at ha; cases ha
        exact h3

/-! ## Sort, Compact -/

theorem compact_sorted {d : Array Int} (hs : ∀ i j, i ≤ j → j < d.size → d[i]! ≤ d[j]!) : ∀ m, m ≤ d.size → (Lib.compactUpTo d m).Pairwise (· < ·) ∧ ∀ x, x ∈ Lib.compactUpTo d m ↔ ∃ j, j < m ∧ d[j]! = x := by
  intro m
  induction m with
  | zero => intro _; simp [Lib.compactUpTo]
  | succ m ih =>
    intro hm
    obtain ⟨h1, h2⟩ := ih (by omega)
    rw [Lib.compactUpTo_succ]
    by_cases hk : Lib.keeps d m = true
    · rw [if_pos hk]
      refine ⟨?_, fun x => ?_⟩
      · rw [List.pairwise_append]
        refine ⟨h1, by simp, fun a ha b hb => ?_⟩
        simp at hb; subst hb
        obtain ⟨j, hj, rfl⟩ := (h2 a).1 ha
        have hne : d[m]! ≠ d[m - 1]! := by
          simp only [Lib.keeps, decide_eq_true_eq] at hk
          rcases hk with hk | hk
          · omega
          · exact hk
        have e1 := hs j (m - 1) (by omega) (by omega)
        have e2 := hs (m - 1) m (by omega) (by omega)
        omega
      · rw [List.mem_append, h2]
        constructor
        · rintro (⟨j, hj, rfl⟩ | h)
          · exact ⟨j, by omega, rfl⟩
          · simp at h; subst h; exact ⟨m, by omega, rfl⟩
        · rintro ⟨j, hj, rfl⟩
          by_cases e : j = m
          · subst e; exact .inr (by simp)
          · exact .inl ⟨j, by omega, rfl⟩
    · rw [if_neg hk, List.append_nil]
      refine ⟨h1, fun x => ?_⟩
      rw [h2]
      have hk : Lib.keeps d m = false := by simpa using hk
      have heq : m ≠ 0 ∧ d[m]! = d[m - 1]! := by
        simp only [Lib.keeps, decide_eq_false_iff_not, not_or, Classical.not_not] at hk
        exact hk
      constructor
      · rintro ⟨j, hj, rfl⟩; exact ⟨j, by omega, rfl⟩
      · rintro ⟨j, hj, rfl⟩
        by_cases e : j = m
        · subst e; exact ⟨j - 1, by omega, heq.2.symm⟩
        · exact ⟨j, by omega, rfl⟩

theorem compact_rising {zs : List Int} (hs : zs.Pairwise (· ≤ ·)) : (Lib.compact zs).Pairwise (· < ·) ∧ ∀ x, x ∈ Lib.compact zs ↔ x ∈ zs := by
  have hg : ∀ i, i < zs.length → zs.toArray[i]! = zs.getD i 0 := fun i hi => by simp [hi, List.getD]
  have := compact_sorted (d := zs.toArray) (fun i j hij hj => by
    have hj : j < zs.length := by simpa using hj
    rw [hg i (by omega), hg j hj]
    by_cases e : i = j
    · subst e; exact Int.le_refl _
    · rw [List.pairwise_iff_getElem] at hs
      have := hs i j (by omega) hj (by omega)
      simpa [List.getD, List.getElem?_eq_getElem hj, List.getElem?_eq_getElem (show i < zs.length by omega)] using this) zs.length (by simp)
  refine ⟨this.1, fun x => ?_⟩
  rw [show Lib.compact zs = Lib.compactUpTo zs.toArray zs.length from rfl, this.2]
  constructor
  · rintro ⟨j, hj, rfl⟩
    rw [hg j hj]
    simp [List.getD, List.getElem?_eq_getElem hj]
  · intro hx
    obtain ⟨j, hj⟩ := List.getElem?_of_mem hx
    have hlt := (List.getElem?_eq_some_iff.1 hj).1
    exact ⟨j, hlt, by rw [hg j hlt]; simp [List.getD, hj]⟩
end Go.Fk
end

section
set_option linter.unusedVariables false
namespace Go.Fk
open Go

theorem grow_nil (w : World) : Sort.grow w #[] = w := by simp [Sort.grow]

theorem sort_compact {w : World} {base : Nat} {l : Sl} {zs : List Int} {K : Sl → World → Prop} (ho : Own w base T.int 1 l (zs.map (Ty.int .i64).enc)) (hlen : zs.length ≤ 1000000000)
    (hK : ∀ l' (ys : List Int) w', Keeps l.blk w w' → Own w' base T.int 1 l' (ys.map (Ty.int .i64).enc) → ys.Pairwise (· < ·) → (∀ x, x ∈ ys ↔ x ∈ zs) → K l' w') : slices_Sort.C l w fun _ w5 => slices_Compact_int.C l w5 fun x w6 => K x w6 := by
  have hl := ho.len
  simp at hl
  rcases ho.2 with ⟨hv, hn⟩ | ⟨g, cap, cur, hv, hge, hg, hnc, hcm, hcs, htake⟩
  · simp only [Sl.val, Value.slice.injEq] at hv
    obtain ⟨e1, e2, e3⟩ := hv
    have hz : zs = [] := List.eq_nil_of_length_eq_zero (by omega)
    subst hz
    have el : l = ⟨none, 0, 0⟩ := by cases l; simp_all
    subst el
    refine Calls.mono (Go.Proofs.Tryz.slices_Sort_int_none none 0 w) ?_
    rintro e w1 ⟨rfl, rfl⟩
    refine ⟨(), rfl, ?_⟩
    refine Calls.mono (Go.Proofs.Tryz.slices_Compact_int_empty none 0 w1) ?_
    rintro e w2 ⟨rfl, rfl⟩
    exact ⟨⟨none, 0, 0⟩, rfl, hK _ [] w2 .refl (by simpa using ho) .nil fun x => Iff.rfl⟩
  · simp only [Sl.val, Value.slice.injEq] at hv
    obtain ⟨e1, e2, e3⟩ := hv
    have el : l = ⟨some ⟨g, 0, none⟩, zs.length, cap⟩ := by cases l; simp_all
    rw [hl.symm] at htake hnc
    subst el
    have hblk : ∀ b, (some g = some b) → Sl.blk ⟨some ⟨g, 0, none⟩, zs.length, cap⟩ b := by rintro b ⟨⟩; exact ⟨_, rfl, rfl⟩
    have ht : cur.toList.take zs.length = zs.map (Value.int .i64) := by
      simp only [Nat.mul_one] at htake
      exact htake
    have hcs' : zs.length ≤ cur.size := by omega
    have hb31 : zs.length < 4611686018427387904 := by omega
    refine Calls.mono (Go.Proofs.Tryz.slices_Sort_int g 0 cap zs w (holds_of_blockI hg ht) (lt_of_some hg) hb31) ?_
    rintro e w1 ⟨rfl, n, os, rfl⟩
    refine ⟨(), rfl, ?_⟩
    generalize hs : zs.mergeSort (fun x y => decide (x ≤ y)) = ss
    have hperm : ss.Perm zs := hs ▸ List.mergeSort_perm zs _
    have hsl : ss.length = zs.length := hperm.length_eq
    have hsorted : ss.Pairwise (· ≤ ·) := by
      have h1 := List.pairwise_mergeSort (le := fun x y : Int => decide (x ≤ y)) (fun a b c h1 h2 => by simp only [decide_eq_true_eq] at *; omega) (fun a b => by simp only [Bool.or_eq_true, decide_eq_true_eq]; omega) zs
      rw [hs] at h1
      exact h1.imp fun h => by simpa using h
    have hb1 := heap_sortedI (n := n) (os := os) ss.toArray hg
    have k1 : Keeps (fun b => some g = some b) w (Sort.grow (Sort.putRow (Value.int .i64) (Sort.ahead w n) g 0 ss.toArray) os) := Keeps.of_grown (grownBy_sortedI _)
    generalize Sort.grow (Sort.putRow (Value.int .i64) (Sort.ahead w n) g 0 ss.toArray) os = w1 at *
    have ht1 := take_putCellsI cur ss (by omega)
    have hc : slices_Compact_int.C ⟨some ⟨g, 0, none⟩, ss.length, cap⟩ w1 fun x w6 => K x w6 := by
      refine Calls.mono (Go.Proofs.Tryz.slices_Compact_int g 0 cap ss w1 (holds_of_blockI hb1 ht1) (by omega) (by omega)) ?_
      rintro e w2 ⟨rfl, q, rfl⟩
      refine ⟨⟨some ⟨g, 0, none⟩, (Lib.compact ss).length, cap⟩, rfl, ?_⟩
      obtain ⟨r1, r2⟩ := compact_rising hsorted
      have hcl : (Lib.compact ss).length ≤ ss.length := by
        unfold Lib.compact Lib.compactUpTo
        rw [List.length_map]
        exact Nat.le_trans (List.length_filter_le _ _) (by simp)
      generalize hd : Lib.compact ss ++ List.replicate (ss.length - (Lib.compact ss).length) 0 = d2
      have hdl : d2.length = ss.length := by rw [← hd]; simp; omega
      have hb2 := heap_sortedI (n := q) (os := #[]) d2.toArray hb1
      have k2 : Keeps (fun b => some g = some b) w1 (Sort.grow (Sort.putRow (Value.int .i64) (Sort.ahead w1 q) g 0 d2.toArray) #[]) := Keeps.of_grown (grownBy_sortedI _)
      rw [grow_nil] at hb2 k2
      generalize Sort.putRow (Value.int .i64) (Sort.ahead w1 q) g 0 d2.toArray = w2 at *
      have ht2 := take_putCellsI (Sort.putCells (Value.int .i64) 0 ss.toArray cur) d2 (by simp [Sort.putCells]; omega)
      refine hK _ (Lib.compact ss) w2 ((k1.trans k2).mono fun b _ h => hblk b h) ⟨by simp, .inr ⟨g, cap, _, rfl, hge, hb2, by show (Lib.compact ss).length ≤ cap; omega, hcm, by simp [Sort.putCells, hcs], ?_⟩⟩ r1 fun x => by rw [r2]; exact hperm.mem_iff
      rw [Nat.mul_one]
      have : List.take (Lib.compact ss).length (List.take d2.length (Sort.putCells (Value.int .i64) 0 d2.toArray (Sort.putCells (Value.int .i64) 0 ss.toArray cur)).toList) = List.take (Lib.compact ss).length (d2.map (Value.int .i64)) := by rw [ht2]
      rw [List.take_take, Nat.min_eq_left (by omega)] at this
      rw [this, ← hd, List.map_append, List.take_left' (by simp)]
      rfl
    rw [hsl] at hc
    exact hc

/-! ## What may come next -/

def nextSet (fs : List ((Nat → Bool) × Int)) (F : Int → Int → Prop) (ks : List Kn) (at_ : List Int) (q : Int) : Prop := (at_ = [] ∧ ∃ r : Nat, r < ks.length ∧ (knAt ks r).first q) ∨ ∃ p ∈ at_, F p q

theorem dfa_behind_spec {M : Nat → Prop} {w : World} {p : Option Addr} {fs : List ((Nat → Bool) × Int)} {F : Int → Int → Prop} {ks : List Kn} {l : Sl} {xs : List Int} {K : Sl → World → Prop} (h : MachO (V No w) p fs F ks) (hl : SlT (.int .i64) (V M w) l xs) (hnil : l.a.isNone = true ↔ xs = []) (hin : ∀ x ∈ xs, 0 ≤ x ∧ x < fs.length)
    (hlen : xs.length ≤ 2000) (hks : ks.length ≤ 2000) (hK : ∀ l' (ys : List Int) w', Keeps No w w' → Own w' w.heap.size T.int 1 l' (ys.map (Ty.int .i64).enc) → Rising ys (nextSet fs F ks xs) → K l' w') : dfa_behind.C p l w K := by
  have hn := hl.1
  have hfew := h.few
  refine dfa_behind.ok _ _ _ _ ?_
  simp only [dfa_behind.M]
  -- lists are short
  refine Join.cut (fun (o : Sl) w' => Keeps No w w' ∧ ∃ zs : List Int, Own w' w.heap.size T.int 1 o (zs.map (Ty.int .i64).enc) ∧ zs.length ≤ 10000000 ∧ ∀ q, q ∈ zs ↔ xs = [] ∧ ∃ r : Nat, r < ks.length ∧ (knAt ks r).first q) ?_ ?_
  · rintro o w1 ⟨k1, zs, ho, hzl, hz⟩
    refine Loop.mk (fun t w' => Keeps No w w' ∧ ∃ (k : Nat) (ys : List Int), k ≤ xs.length ∧ t.2 = (k : Int) ∧ Own w' w.heap.size T.int 1 t.1 (ys.map (Ty.int .i64).enc) ∧ ys.length ≤ 10000000 + k * 2000 ∧ ∀ q, q ∈ ys ↔ (q ∈ zs ∨ ∃ p ∈ xs.take k, F p q)) (fun t => xs.length - t.2.toNat) ⟨k1, 0, zs, by omega, rfl, ho, by omega, by simp⟩ ?_
    rintro ⟨o2, kk⟩ w2 ⟨k2, k, ys, hk, hkk, ho2, hyl, hy⟩ R hR
    dsimp only at hkk ho2 ⊢
    subst hkk
    refine Br.mk (fun ht => ?_) (fun hf => ?_)
    · have ht : k < xs.length := by have := of_decide_eq_true ht; omega
      refine IdxS.get (M := M) (hl.mono (V.keeps0 k2)) (by omega) (by omega) fun x hx => ?_
      simp only [Int.toNat_natCast] at hx
      have hxin := hin x (List.mem_of_getElem? hx)
      refine nfa_Machine_Follow_spec (h.mono (V.keeps0 k2)) fun l3 us w3 k3 o3 r3 => ?_
      have hul : us.length ≤ 2000 := nodup_bound 2000 us (r3.1.imp fun {a b} h e => by omega) fun q hq => by
        have := (r3.2 q).1 hq
        have := h.fin this.1 this.2; omega
      have z2 := (k2.trans k3).size
      refine append_ints (ho2.keep0 k3) o3 (by omega) z2 fun l4 w4 o4 k4 _ => ?_
      have e4 : w64 ((k : Int) + 1) = ((k + 1 : Nat) : Int) := by rw [w64_eq (by omega)]; omega
      rw [e4]
      refine hR _ w4 ⟨((k2.trans k3).no (M := No)).then k4 fun c hc hb => by have := (ho2.ge hb).1; have : c < w.heap.size := hc; omega, k + 1, ys ++ us, by omega, rfl, o4, by simp; omega, fun q => ?_⟩ (by dsimp only; omega)
      rw [List.mem_append, hy, r3.2, List.take_add_one, hx]
      constructor
      · rintro ((h1 | ⟨p, h1, h2⟩) | ⟨_, h1⟩)
        · exact .inl h1
        · exact .inr ⟨p, by simp [h1], h2⟩
        · exact .inr ⟨x, by simp, h1⟩
      · rintro (h1 | ⟨p, h1, h2⟩)
        · exact .inl (.inl h1)
        · rcases List.mem_append.1 h1 with h1 | h1
          · exact .inl (.inr ⟨p, h1, h2⟩)
          · simp at h1; subst h1; exact .inr ⟨hxin, h2⟩
    · have hf : k = xs.length := by have := of_decide_eq_false hf; omega
      subst hf
      refine sort_compact ho2 (by omega) fun l' vs w' k' o' r1 r2 => ?_
      refine hK l' vs w' ((k2.no (M := No)).then k' fun c hc hb => by have := (ho2.ge hb).1; have : c < w.heap.size := hc; omega) o' ⟨r1, fun q => ?_⟩
      rw [r2, hy, List.take_length, hz]
      rfl
  · intro j hj
    refine Br.mk (fun hb => ?_) (fun hb => ?_)
    · have hx := hnil.1 hb
      refine nfa_Machine_Rules_spec h ?_
      refine Loop.mk (fun t w' => Keeps No w w' ∧ ∃ (k : Nat) (ys : List Int), k ≤ ks.length ∧ t.2 = (k : Int) ∧ Own w' w.heap.size T.int 1 t.1 (ys.map (Ty.int .i64).enc) ∧ ys.length ≤ k * 2000 ∧ ∀ q, q ∈ ys ↔ ∃ r : Nat, r < k ∧ (knAt ks r).first q) (fun t => ks.length - t.2.toNat) ⟨.refl, 0, [], by omega, rfl, Own.nil _ _ _ _, by simp, by simp⟩ ?_
      rintro ⟨o2, kk⟩ w2 ⟨k2, k, ys, hk, hkk, ho2, hyl, hy⟩ R hR
      dsimp only at hkk ho2 ⊢
      subst hkk
      refine Br.mk (fun ht => ?_) (fun hf => ?_)
      · have ht : k < ks.length := by have := of_decide_eq_true ht; omega
        refine nfa_Machine_First_spec (h.mono (V.keeps0 k2)) fun l3 us w3 k3 o3 r3 => ?_
        have hul : us.length ≤ 2000 := nodup_bound 2000 us (r3.1.imp fun {a b} h e => by omega) fun q hq => by
          have := h.kin k q (.inl ((r3.2 q).1 hq)); omega
        have z2 := (k2.trans k3).size
        refine append_ints (ho2.keep0 k3) o3 (by omega) z2 fun l4 w4 o4 k4 _ => ?_
        have e4 : w64 ((k : Int) + 1) = ((k + 1 : Nat) : Int) := by rw [w64_eq (by omega)]; omega
        rw [e4]
        refine hR _ w4 ⟨((k2.trans k3).no (M := No)).then k4 fun c hc hb => by have := (ho2.ge hb).1; have : c < w.heap.size := hc; omega, k + 1, ys ++ us, by omega, rfl, o4, by simp; omega, fun q => ?_⟩ (by dsimp only; omega)
        rw [List.mem_append, hy, r3.2]
        constructor
        · rintro (⟨r, h1, h2⟩ | h1)
          · exact ⟨r, by omega, h2⟩
          · exact ⟨k, by omega, h1⟩
        · rintro ⟨r, h1, h2⟩
          by_cases e : r = k
          · subst e; exact .inr h2
          · exact .inl ⟨r, by omega, h2⟩
      · have hf : k = ks.length := by have := of_decide_eq_false hf; omega
        subst hf
        exact hj _ w2 ⟨k2, ys, ho2, by omega, fun q => by rw [hy]; simp [hx]⟩
    · have hx : xs ≠ [] := fun e => by rw [hnil.2 e] at hb; cases hb
      exact hj _ w ⟨.refl, [], Own.nil _ _ _ _, by simp, fun q => by simp [hx]⟩
end Go.Fk
end

section
set_option linter.unusedVariables false
namespace Go.Fk
open Go Go.MapKept Go.Maps
open Go.ChangeMaps (setBlock)

/-! ## Maps: 'v, ok := m[k]'; how many there are; a key that is new -/

theorem encB (b : Bool) : (Ty.bool).enc b = .bool b := rfl

section
variable {P : Program} {T kT vT : TypeId} {kt vt : Ty} {H H' : View} {m : Nat} {R R' : kt.T → vt.T → Prop}

theorem App.look2 (hT : MapTy P T kT vT kt vt) {w : World} {M : Nat → Prop} {mo : Option Nat} {x : kt.T} {z : vt.T} {K : (vt.T × Bool) → World → Prop} (hz : (zeroValue vT).run P w = .ok (vt.enc z) w)
    (h : MapO P kT kt vt (V M w) mo R) (hk : OkKey P kT (kt.enc x)) (h1 : ∀ y, R x y → K (y, true) w) (h0 : (∀ y, ¬ R x y) → K (z, false) w) :
    App P (Instr.lookup T (.map mo) (kt.enc x) true) (.tup [.one vt, .one .bool]) w K := by
  obtain ⟨lx, hlx⟩ := hk
  cases mo with
  | none =>
    refine ⟨(z, false), w, ?_, h0 fun y' => h x y'⟩
    rcases hT.keyed.find w hlx [] (by simp) with ⟨g1, _⟩ | ⟨j, e0, _, h2, _⟩
    · simp [Instr.lookup, run_underlying hT.ty, hT.keyed.check w true hlx, g1, hz, Result.andThen, RTy.enc, RTy.encs, encB]
    · simp at h2
  | some m =>
    obtain ⟨es, clock, ⟨_, hb⟩, hs, h3, h4⟩ := h
    rcases hT.keyed.find w hlx es.toList (fun e he => (h3 e he).1) with ⟨g1, h2⟩ | ⟨j, e0, g1, h2, h5⟩
    · refine ⟨(z, false), w, ?_, h0 fun y' hr => ?_⟩
      · simp [Instr.lookup, run_underlying hT.ty, MapKept.run_getObj_map hb, hT.keyed.check w _ hlx, g1, hz, Result.andThen, RTy.enc, RTy.encs, encB]
      · obtain ⟨e, he, h6, _⟩ := h4 x y' hr
        exact h2 e he h6
    · obtain ⟨_, x', y', h7, h8, h9⟩ := h3 e0 (List.mem_of_getElem? h2)
      have hx : x' = x := Ty.enc_inj (h7.symm.trans h5)
      subst hx
      refine ⟨(y', true), w, ?_, h1 y' h9⟩
      simp [Instr.lookup, run_underlying hT.ty, MapKept.run_getObj_map hb, hT.keyed.check w _ hlx, g1, Result.andThen, RTy.enc, RTy.encs, encB, h8]

/-- How many entries the block has. -/
def MapSz (w : World) (m n : Nat) : Prop := ∃ es clock, w.heap[m]? = some (.map es clock) ∧ es.size = n

theorem MapSz.keep {N : Nat → Prop} {w w' : World} {n : Nat} (h : MapSz w m n) (hk : Keeps N w w') (hn : ¬ N m) : MapSz w' m n := by
  obtain ⟨es, clock, h1, h2⟩ := h
  exact ⟨es, clock, hk.blk h1 hn, h2⟩

theorem App.len (hT : P.underlying T = some (.map kT vT)) {T' : TypeId} {w : World} {n : Nat} {K : Int → World → Prop} (h : MapSz w m n) (hK : K n w) : App P (Builtin.len_ #[T] T' #[.map (some m)]) (.one (.int .i64)) w K := by
  obtain ⟨es, clock, h1, h2⟩ := h
  refine ⟨(n : Int), w, ?_, hK⟩
  simp [Builtin.len_, run_underlying hT, MapKept.run_getObj_map h1, Result.andThen, RTy.enc, Ty.enc, goInt, h2]

theorem AppS.len (hT : P.underlying T = some (.map kT vT)) {T' : TypeId} {S : World → Prop} {n : Nat} {K : Int → Prop} (h : ∀ w, S w → MapSz w m n) (hK : K n) : AppS P S (Builtin.len_ #[T] T' #[.map (some m)]) (.one (.int .i64)) K := by
  refine ⟨(n : Int), fun w hw => ?_, hK⟩
  obtain ⟨es, clock, h1, h2⟩ := h w hw
  simp [Builtin.len_, run_underlying hT, MapKept.run_getObj_map h1, Result.andThen, RTy.enc, Ty.enc, goInt, h2]

/-- 'm[k] = v', k new. -/
theorem App0.putNew (hT : MapTy P T kT vT kt vt) {w : World} {x : kt.T} {y : vt.T} {K : World → Prop} {M : Nat → Prop} {n : Nat} (h : MapAt P kT kt vt (V M w) m R) (hsz : MapSz w m n) (hk : OkKey P kT (kt.enc x)) (hnew : ∀ y', ¬ R x y')
    (hK : ∀ w', Keeps (· = m) w w' → w'.heap.size = w.heap.size → MapAt P kT kt vt (V M w') m (fun a b => (a = x ∧ b = y) ∨ (a ≠ x ∧ R a b)) → MapSz w' m (n + 1) → K w') :
    App0 P (Instr.mapUpdate T (.map (some m)) (kt.enc x) (vt.enc y)) w K := by
  obtain ⟨es, clock, ⟨hM, hb⟩, hs, h3, h4⟩ := h
  obtain ⟨es', clock', hb', hn⟩ := hsz
  rw [hb] at hb'
  cases hb'
  obtain ⟨lx, hlx⟩ := hk
  rcases hT.keyed.find w hlx es.toList (fun e he => (h3 e he).1) with ⟨h1, h2⟩ | ⟨j, e0, h1, h2, h5⟩
  · have hu := keepsSetBlock hb (.map (es.push ⟨kt.enc x, vt.enc y, clock⟩) (clock + 1))
    refine ⟨setBlock w m (.map (es.push ⟨kt.enc x, vt.enc y, clock⟩) (clock + 1)), ?_, hK _ hu.keeps hu.size ?_ ⟨_, _, hu.at_, by simp [hn]⟩⟩
    · simp [Instr.mapUpdate, run_underlying hT.ty, MapKept.run_getObj_map hb, hT.keyed.check w false hlx, h1, MapKept.run_setObj_map _ hb, Result.andThen, setBlock]
    · refine ⟨_, _, ⟨hM, hu.at_⟩, stamped_push hs h2, ?_, ?_⟩
      · intro e he
        simp only [Array.toList_push, List.mem_append, List.mem_singleton] at he
        rcases he with he | rfl
        · obtain ⟨h6, x', y', h7, h8, h9⟩ := h3 e he
          exact ⟨h6, x', y', h7, h8, .inr ⟨fun e1 => h2 e he (by rw [h7, e1]), h9⟩⟩
        · exact ⟨⟨lx, hlx⟩, x, y, rfl, rfl, .inl ⟨rfl, rfl⟩⟩
      · rintro a b (⟨rfl, rfl⟩ | ⟨ha, hr⟩)
        · exact ⟨⟨kt.enc a, vt.enc b, clock⟩, by simp, rfl, rfl⟩
        · obtain ⟨e, he, h6, h7⟩ := h4 a b hr
          exact ⟨e, by simp; exact .inl (by simpa using he), h6, h7⟩
  · obtain ⟨_, x', y', h7, h8, h9⟩ := h3 e0 (List.mem_of_getElem? h2)
    have hx : x' = x := Ty.enc_inj (h7.symm.trans h5)
    subst hx
    exact absurd h9 (hnew y')

theorem MapSz.empty {w : World} {b : Nat} (h : w.heap[b]? = some (.map #[] 0)) : MapSz w b 0 := ⟨_, _, h, rfl⟩
end
end Go.Fk
end
