/-
  A part of the proof: what the functions of the program come to, read off the model: no premise of its own, no axiom. By an AI agent.
-/
import Derived.Test.YtedphbahdjhckaaGreatA4
import Derived.Test.YtedphbahdjhckaaGreatA2
import Derived.Laws.MakeOwn
import Derived.Laws.OwnMore
import Derived.Laws.CopyRow
set_option linter.all false
section
set_option linter.unusedVariables false
set_option linter.unusedSimpArgs false
namespace Go.Fk
open Go

structure LetR (s sp : List UInt8) (st : PS) (r : Int) (st' : PS) : Prop where
  rng : 0 ≤ r ∧ r < 256
  le : st'.at_ ≤ s.length
  long : st'.long = st.long
  deep : st'.deep = st.deep
  ok : st'.bad = false → letterF s sp st = (r.toNat, st')
  no : st'.bad = true → (letterF s sp st).2.bad = true

theorem u8_le_iff (c : UInt8) : (c ≤ 32 ↔ (c.toNat : Int) ≤ 32) ∧ (127 ≤ c ↔ (127 : Int) ≤ c.toNat) := by
  rw [UInt8.le_iff_toNat_le, UInt8.le_iff_toNat_le]
  show (c.toNat ≤ 32 ↔ _) ∧ (127 ≤ c.toNat ↔ _)
  omega

theorem getbs {s : ByteArray} {i : Nat} (h : i < (bs s).length) {K : UInt8 → Prop} (hk : ∀ c, (bs s)[i]? = some c → K c) : IdxStr s (i : Int) K :=
  ⟨by omega, (bs s)[i], by rw [get?_bs]; simp, hk _ (by simp)⟩

theorem ref05_letter_spec {w : World} {bt : Nat} {s sp : ByteArray} {st : PS} {K : Int → World → Prop} (h : TO w bt s st) (hs : Small s) (hsp : Small sp) (hb : st.bad = false) (hat : st.at_ ≤ s.size)
    (hk : ∀ r st' w', Keeps (· = bt) w w' → TO w' bt s st' → LetR (bs s) (bs sp) st r st' → K r w') : frisketref05_Text_letter.C (some ⟨bt, 0, none⟩) sp w K := by
  have hsz := size_bs s
  refine frisketref05_Text_letter.ok _ _ _ _ ?_
  simp only [frisketref05_Text_letter.M, NilC_some, add_eq, Nat.zero_add]
  have failK : ∀ {w1 : World} {st1 : PS}, Keeps (· = bt) w w1 → TO w1 bt s st1 → st1.at_ ≤ (bs s).length → st1.long = st.long → st1.deep = st.deep → (letterF (bs s) (bs sp) st).2.bad = true → St ⟨bt, 3, none⟩ (.bool true) w1 fun w2 => K 0 w2 := fun k1 h1 h2 h3 h4 hno =>
    TO.fail h1 fun w2 h5 k5 => hk 0 _ w2 (k1.trans k5) h5 ⟨by omega, h2, h3, h4, (fun e => by cases e), fun _ => hno⟩
  refine Draw.mk fun w1 e1 k1 => ?_
  have h1 := h.heap e1
  refine LdS.int (cell_of h1 rfl) (LdS.str (cell_of h1 rfl) ?_)
  refine Br.mk (fun ht => failK k1.no h1 (by omega) rfl rfl (by
    have := of_decide_eq_true ht
    simp only [letterF]
    rw [List.getElem?_eq_none (by omega)]; rfl)) (fun hf => ?_)
  have hlt : st.at_ < (bs s).length := by have := of_decide_eq_false hf; omega
  refine Draw.mk fun w3 e3 k3 => ?_
  have h3 := h1.heap e3
  have k13 : Keeps (· = bt) w w3 := (k1.trans k3).no
  refine LdS.str (cell_of h3 rfl) (LdS.int (cell_of h3 rfl) (getbs hlt fun c hc => ⟨rfl, ?_⟩))
  refine Br.mk (fun hne => ?_) (fun heq => ?_)
  · have c1 : c ≠ 92 := by rintro rfl; simp at hne
    refine Join.cut (fun b w4 => w4 = w3 ∧ (b = false → ¬ (c ≤ 32 ∨ 127 ≤ c ∨ 0 ≤ Lib.indexByte (bs sp) c)) ∧ (b = true → (c ≤ 32 ∨ 127 ≤ c ∨ 0 ≤ Lib.indexByte (bs sp) c))) ?_ ?_
    · rintro b w4 ⟨rfl, hb4, hb5⟩
      refine Br.mk (fun hbt => failK k13 h3 (by omega) rfl rfl (by
        simp only [letterF, hc, c1, if_false]
        rw [if_pos (hb5 hbt)]; rfl)) (fun hbf => ?_)
      have hno := hb4 hbf
      refine Ld.int (cell_of h3 rfl) (TO.step h3 rfl hs (by omega) fun w5 h5 k5 => ?_)
      have hcl := c.toNat_lt
      rw [w64_eq (by omega)]
      refine hk _ st.adv w5 (k13.trans k5) h5 ⟨by omega, ?_, rfl, rfl, fun _ => ?_, fun e => by have : st.bad = true := e; rw [hb] at this; cases this⟩
      · show st.at_ + 1 ≤ _; omega
      · simp only [letterF, hc, c1, if_false, hno]; rfl
    · intro j hj
      have hle := u8_le_iff c
      refine Br.mk (fun ht1 => hj _ _ ⟨rfl, (fun e => by cases e), fun _ => .inl (hle.1.2 (of_decide_eq_true ht1))⟩) (fun hf1 => Br.mk (fun ht2 => hj _ _ ⟨rfl, (fun e => by cases e), fun _ => .inr (.inl (hle.2.2 (of_decide_eq_true ht2)))⟩) (fun hf2 => ?_))
      refine ref05_in_spec rfl hsp (hj _ _ ⟨rfl, fun e => ?_, fun e => .inr (.inr ((indexByte_mem _ _).2 (of_decide_eq_true e)))⟩)
      have e := of_decide_eq_false e
      have hf1 := of_decide_eq_false hf1
      have hf2 := of_decide_eq_false hf2
      rw [indexByte_mem, hle.1, hle.2]
      rintro (h | h | h)
      · exact hf1 h
      · exact hf2 h
      · exact e h
  · have c1 : c = 92 := by
      have : (c.toNat : Int) = 92 := by simpa using heq
      exact UInt8.toNat_inj.1 (by show c.toNat = 92; omega)
    refine Ld.int (cell_of h3 rfl) (TO.step h3 rfl hs (by omega) fun w4 h4 k4 => ?_)
    have k14 := k13.trans k4
    have hF : letterF (bs s) (bs sp) st = escapedF (bs s) (bs sp) st.adv := by simp [letterF, hc, c1]
    have hadv : st.adv.at_ = st.at_ + 1 := rfl
    refine Draw.mk fun w5 e5 k5 => ?_
    have h5 := h4.heap e5
    have k15 := k14.trans k5.no
    refine LdS.int (cell_of h5 rfl) (LdS.str (cell_of h5 rfl) ?_)
    refine Br.mk (fun ht => failK k15 h5 (by omega) rfl rfl (by
      have := of_decide_eq_true ht
      rw [hF]
      simp only [escapedF]
      rw [List.getElem?_eq_none (by omega)]; rfl)) (fun hf => ?_)
    have hlt2 : st.adv.at_ < (bs s).length := by have := of_decide_eq_false hf; omega
    refine Draw.mk fun w6 e6 k6 => ?_
    have h6 := h5.heap e6
    have k16 := k15.trans k6.no
    refine LdS.str (cell_of h6 rfl) (LdS.int (cell_of h6 rfl) (getbs hlt2 fun c2 hc2 => ⟨rfl, ?_⟩))
    rw [beq_lit (n := 120) 120 rfl, beq_lit (n := 110) 110 rfl, beq_lit (n := 116) 116 rfl, beq_lit (n := 115) 115 rfl]
    refine Br.mk (fun hx => ?_) (fun hx => ?_)
    · have hx : c2 = 120 := of_decide_eq_true hx
      subst hx
      -- two digits
      have hE : ∀ (d1 d2 : UInt8), (bs s)[st.at_ + 2]? = some d1 → (bs s)[st.at_ + 3]? = some d2 → 0 ≤ hexF d1.toNat → 0 ≤ hexF d2.toNat → escapedF (bs s) (bs sp) st.adv = ((16 * (hexF d1.toNat).toNat + (hexF d2.toNat).toNat) % 256, { st with at_ := st.at_ + 4 }) := by
        intro d1 d2 g1 g2 p1 p2
        have a2 : st.adv.adv.at_ = st.at_ + 2 := rfl
        have a3 : st.adv.adv.adv.at_ = st.at_ + 3 := rfl
        have f1 : digitF (bs s) st.adv.adv = ((hexF d1.toNat).toNat, st.adv.adv.adv) := by
          simp only [digitF, a2, g1, hexF_index]
          rw [if_neg (by omega)]
        have f2 : digitF (bs s) st.adv.adv.adv = ((hexF d2.toNat).toNat, st.adv.adv.adv.adv) := by
          simp only [digitF, a3, g2, hexF_index]
          rw [if_neg (by omega)]
        have hbd : st.adv.adv.adv.bad = false := hb
        simp only [escapedF, hc2, f1, f2, hbd]
        simp
        rfl
      refine Loop.mk (fun t w' => Keeps (· = bt) w w' ∧ ((t = (0, 0) ∧ TO w' bt s st.adv) ∨ (∃ d1, (bs s)[st.at_ + 2]? = some d1 ∧ 0 ≤ hexF d1.toNat ∧ t = (hexF d1.toNat, 1) ∧ TO w' bt s st.adv.adv) ∨
        (∃ d1 d2, (bs s)[st.at_ + 2]? = some d1 ∧ (bs s)[st.at_ + 3]? = some d2 ∧ 0 ≤ hexF d1.toNat ∧ 0 ≤ hexF d2.toNat ∧ t = (16 * hexF d1.toNat + hexF d2.toNat, 2) ∧ TO w' bt s st.adv.adv.adv))) (fun t => 2 - t.2.toNat) ⟨k16, .inl ⟨rfl, h6⟩⟩ ?_
      have hexle : ∀ n, hexF n ≤ 15 := fun n => by unfold hexF; split; omega; split <;> omega
      -- one round
      have round : ∀ {w' : World} {st1 : PS} {n i : Int} {R : Int × Int → World → Prop}, Keeps (· = bt) w w' → TO w' bt s st1 → st1.at_ < (bs s).length → st1.long = st.long → st1.deep = st.deep → 0 ≤ n → n ≤ 15 → ((∀ d, (bs s)[st1.at_ + 1]? = some d → hexF d.toNat < 0) → (letterF (bs s) (bs sp) st).2.bad = true) →
          (∀ d w2, (bs s)[st1.at_ + 1]? = some d → 0 ≤ hexF d.toNat → Keeps (· = bt) w w2 → TO w2 bt s st1.adv → R (16 * n + hexF d.toNat, w64 (i + 1)) w2) →
          Ld (.int .i64) ⟨bt, 1, none⟩ w' fun x94 => St ⟨bt, 1, none⟩ (.int .i64 (w64 (x94 + (1 : Int)))) w' fun w13 => Join (fun (s9 : Bool) w14 => Br s9 (St ⟨bt, 3, none⟩ (.bool true) w14 fun w15 => K 0 w15) (Draw w14 fun S10 w16 => LdS S10 .str ⟨bt, 0, none⟩ fun x129 => LdS S10 (.int .i64) ⟨bt, 1, none⟩ fun x133 => IdxStr x129 x133 fun x134 => (S10 w16 ∧ frisketref05_hex.C (x134.toNat : Int) w16 fun x135 w17 => (S10 w17 ∧ R ((w64 ((w64 ((16 : Int) * n)) + x135)), (w64 (i + (1 : Int)))) w17)))) fun j11 => Draw w13 fun S12 w18 => LdS S12 (.int .i64) ⟨bt, 1, none⟩ fun x101 => LdS S12 .str ⟨bt, 0, none⟩ fun x105 => Br (decide ((x105.size : Int) ≤ x101)) (j11 true w18) (LdS S12 .str ⟨bt, 0, none⟩ fun x112 => LdS S12 (.int .i64) ⟨bt, 1, none⟩ fun x116 => IdxStr x112 x116 fun x117 => (S12 w18 ∧ frisketref05_hex.C (x117.toNat : Int) w18 fun x118 w19 => (S12 w19 ∧ j11 (decide (x118 < (0 : Int))) w19))) := by
        intro w' st1 n i R k1 t1 hlt1 hl1 hd1 n0 n1 hnb hR
        refine Ld.int (cell_of t1 rfl) (TO.step t1 rfl hs (by omega) fun w2 t2 k2 => ?_)
        have a1 : st1.adv.at_ = st1.at_ + 1 := rfl
        refine Join.cut (fun b w3 => Keeps (· = bt) w w3 ∧ TO w3 bt s st1.adv ∧ (b = false → ∃ d, (bs s)[st1.at_ + 1]? = some d ∧ 0 ≤ hexF d.toNat) ∧ (b = true → ∀ d, (bs s)[st1.at_ + 1]? = some d → hexF d.toNat < 0)) ?_ ?_
        · rintro b w3 ⟨k3, t3, hb3, hb4⟩
          refine Br.mk (fun hbt => failK k3 t3 (by omega) hl1 hd1 (hnb (hb4 hbt))) (fun hbf => ?_)
          obtain ⟨d, hd, hd0⟩ := hb3 hbf
          refine Draw.mk fun w4 e4 k4 => ?_
          have t4 := t3.heap e4
          refine LdS.str (cell_of t4 rfl) (LdS.int (cell_of t4 rfl) (getbs (by rw [a1]; exact lt_of_get hd) fun d' hd' => ⟨rfl, ?_⟩))
          rw [a1, hd] at hd'
          cases hd'
          refine ref05_hex_spec d.toNat_lt ⟨rfl, ?_⟩
          have := hexle d.toNat
          rw [w64_eq (x := 16 * n) (by omega), w64_eq (by omega)]
          exact hR d w4 hd hd0 (k3.trans k4.no) t4
        · intro j hj
          refine Draw.mk fun w3 e3 k3 => ?_
          have t3 := t2.heap e3
          have kk := (k1.trans k2).trans k3.no
          refine LdS.int (cell_of t3 rfl) (LdS.str (cell_of t3 rfl) (Br.mk (fun ht => hj _ _ ⟨kk, t3, (fun e => by cases e), fun _ d hd => by have := of_decide_eq_true ht; rw [List.getElem?_eq_none (by omega)] at hd; cases hd⟩) (fun hf => ?_)))
          have hlt3 : st1.adv.at_ < (bs s).length := by have := of_decide_eq_false hf; omega
          refine LdS.str (cell_of t3 rfl) (LdS.int (cell_of t3 rfl) (getbs hlt3 fun d hd => ⟨rfl, ?_⟩))
          refine ref05_hex_spec d.toNat_lt ⟨rfl, hj _ _ ⟨kk, t3, fun e => ⟨d, by rw [← a1]; exact hd, ?_⟩, fun e d' hd' => by rw [← a1, hd] at hd'; cases hd'; exact of_decide_eq_true e⟩⟩
          have := of_decide_eq_false e
          omega
      rintro t w' ⟨kw, ht⟩ R hR
      rcases ht with ⟨rfl, t1⟩ | ⟨d1, g1, p1, rfl, t1⟩ | ⟨d1, d2, g1, g2, p1, p2, rfl, t1⟩
      · show Ld _ _ _ _
        refine round kw t1 (by omega) rfl rfl (by omega) (by omega) (fun hno => ?_) fun d w2 hd hd0 k2 t2 => ?_
        · rw [hF]
          have a2 : st.adv.adv.at_ = st.at_ + 2 := rfl
          have hdig : (digitF (bs s) st.adv.adv).2.bad = true := by
            simp only [digitF, a2]
            cases hq : (bs s)[st.at_ + 2]? with
            | none => rfl
            | some d =>
              have := hno d hq
              dsimp only
              rw [if_pos (by rw [hexF_index]; exact this)]; rfl
          simp only [escapedF, hc2]
          simp [hdig]
        refine hR _ w2 ⟨k2, .inr (.inl ⟨d, hd, hd0, ?_, t2⟩)⟩ (by dsimp only; rw [show w64 (0 + 1) = 1 from rfl]; decide)
        have e1 : w64 (0 + 1) = 1 := rfl
        rw [e1]; simp
      · show Ld _ _ _ _
        have := lt_of_get g1
        have a2 : st.adv.adv.at_ = st.at_ + 2 := rfl
        refine round kw t1 (by omega) rfl rfl p1 (hexle _) (fun hno => ?_) fun d w2 hd hd0 k2 t2 => ?_
        · rw [hF]
          have a3 : st.adv.adv.adv.at_ = st.at_ + 3 := rfl
          have f1 : digitF (bs s) st.adv.adv = ((hexF d1.toNat).toNat, st.adv.adv.adv) := by
            simp only [digitF, a2, g1, hexF_index]
            rw [if_neg (by omega)]
          have hdig : (digitF (bs s) st.adv.adv.adv).2.bad = true := by
            simp only [digitF, a3]
            cases hq : (bs s)[st.at_ + 3]? with
            | none => rfl
            | some d =>
              have := hno d hq
              dsimp only
              rw [if_pos (by rw [hexF_index]; exact this)]; rfl
          have hbd : st.adv.adv.adv.bad = false := hb
          simp only [escapedF, hc2, f1, hbd]
          simp [hdig]
        refine hR _ w2 ⟨k2, .inr (.inr ⟨d1, d, g1, hd, p1, hd0, ?_, t2⟩)⟩ (by dsimp only; rw [show w64 (1 + 1) = 2 from rfl]; decide)
        have e1 : w64 (1 + 1) = 2 := rfl
        rw [e1]
      · show Ld _ _ _ _
        have hl3 := lt_of_get g2
        have a3 : st.adv.adv.adv.at_ = st.at_ + 3 := rfl
        refine Ld.int (cell_of t1 rfl) (TO.step t1 rfl hs (by omega) fun w2 t2 k2 => ?_)
        have b1 := hexle d1.toNat; have b2 := hexle d2.toNat
        refine hk _ _ w2 (kw.trans k2) t2 ⟨by dsimp only; omega, ?_, rfl, rfl, fun _ => ?_, fun e => by have : st.bad = true := e; rw [hb] at this; cases this⟩
        · show st.at_ + 4 ≤ _; omega
        · rw [hF, hE d1 d2 g1 g2 p1 p2]
          rw [Prod.mk.injEq]
          exact ⟨by dsimp only; omega, rfl⟩
    · have nx : c2 ≠ 120 := of_decide_eq_false hx
      refine Join.cut (fun v w7 => w7 = w6 ∧ 0 ≤ v ∧ v < 256 ∧ escapedF (bs s) (bs sp) st.adv = (v.toNat, st.adv.adv)) ?_ ?_
      · rintro v w7 ⟨rfl, v0, v1, hv⟩
        refine Ld.int (cell_of h6 rfl) (TO.step h6 rfl hs (by omega) fun w8 h8 k8 => ?_)
        refine hk v _ w8 (k16.trans k8) h8 ⟨⟨v0, v1⟩, ?_, rfl, rfl, fun _ => by rw [hF, hv], fun e => by have : st.bad = true := e; rw [hb] at this; cases this⟩
        show st.at_ + 2 ≤ _; omega
      · intro j hj
        refine Br.mk (fun h => hj _ _ ⟨rfl, by omega, by omega, ?_⟩) (fun n1 => Br.mk (fun h => hj _ _ ⟨rfl, by omega, by omega, ?_⟩) (fun n2 => Br.mk (fun h => hj _ _ ⟨rfl, by omega, by omega, ?_⟩) (fun n3 => ?_)))
        · have h := of_decide_eq_true h; subst h
          simp [escapedF, hc2]
        · have h := of_decide_eq_true h; subst h
          simp [escapedF, hc2]
        · have h := of_decide_eq_true h; subst h
          simp [escapedF, hc2]
        · have n1 := of_decide_eq_false n1; have n2 := of_decide_eq_false n2; have n3 := of_decide_eq_false n3
          refine ref05_in_spec rfl hsp ?_
          refine Br.mk (fun hx => failK k16 h6 (by omega) rfl rfl (by
            have hx : c2 ∉ bs sp := by simpa using hx
            rw [hF]
            simp only [escapedF, hc2, n1, n2, n3, nx, if_false]
            have := (indexByte_mem (bs sp) c2)
            rw [if_pos (by have h : ¬ 0 ≤ Lib.indexByte (bs sp) c2 := fun h => hx (this.1 h); omega)]; rfl)) (fun hx => ?_)
          have hx : c2 ∈ bs sp := by simpa using hx
          have hcl := c2.toNat_lt
          rw [w64_eq (by omega)]
          refine hj _ _ ⟨rfl, by omega, by omega, ?_⟩
          have := (indexByte_mem (bs sp) c2).2 hx
          simp only [escapedF, hc2, n1, n2, n3, nx, if_false]
          rw [if_neg (by omega)]; rfl
end Go.Fk
end

section
set_option linter.unusedVariables false
set_option linter.unusedSimpArgs false
namespace Go.Fk
open Go

/-- One byte of a node is read, or written. -/
theorem IdxA.ldB {w : World} {b : Nat} {v : NV} {i : Int} {k : Bool → Prop} (hb : w.heap[b]? = some (nodeObj v)) (h0 : 0 ≤ i) (h1 : i < 256) (hk : k (v.B i.toNat)) : IdxA 256 ⟨b, 1, none⟩ i 1 fun p => Ld .bool p w k := by
  refine ⟨⟨h0, by omega⟩, ?_⟩
  rw [add_eq, Nat.mul_one]
  exact Ld.bool (cell_of hb (by rw [List.getElem?_toArray]; exact v.getB (by omega))) hk
theorem IdxA.stB {w : World} {b : Nat} {v : NV} {i : Int} {x : Bool} {k : World → Prop} (hb : w.heap[b]? = some (nodeObj v)) (h0 : 0 ≤ i) (h1 : i < 256) (hk : ∀ w', Upd b (nodeObj ⟨v.k, fun j => if j = i.toNat then x else v.B j, v.l⟩) w w' → k w') : IdxA 256 ⟨b, 1, none⟩ i 1 fun p => St p (.bool x) w k := by
  refine ⟨⟨h0, by omega⟩, ?_⟩
  rw [add_eq, Nat.mul_one]
  refine St.blk hb (by simp [NV.len]; omega) fun w' u => hk w' ⟨?_, u.keeps, u.size⟩
  have := u.at_
  rw [NV.set v (by omega : i.toNat < 256)] at this
  exact this

theorem seen_isB {s : List UInt8} {b : UInt8} {st : PS} : (isB s b st).1 = decide (s[st.at_]? = some b) ∧ (isB s b st).2 = if s[st.at_]? = some b then st.adv else st := by
  unfold isB; split <;> simp_all

structure ClsR (s : List UInt8) (st : PS) (B : Nat → Bool) (st' : PS) : Prop where
  le : st'.at_ ≤ s.length
  long : st'.long = st.long
  deep : st'.deep = st.deep
  ok : st'.bad = false → ∃ f, classF s st = (.set f, st') ∧ ∀ i, i < 256 → f i = B i
  no : st'.bad = true → (classF s st).2.bad = true

theorem ref05_class_spec {w : World} {bt : Nat} {s : ByteArray} {st : PS} {K : Array Value → World → Prop} (h : TO w bt s st) (hs : Small s) (hb : st.bad = false) (hat : st.at_ ≤ s.size)
    (hk : ∀ B st' w', Keeps (· = bt) w w' → TO w' bt s st' → ClsR (bs s) st B st' → K (NV.cells ⟨0, B, nil3⟩).toArray w') : frisketref05_Text_class.C (some ⟨bt, 0, none⟩) w K := by
  have hsz := size_bs s
  have hsp : Small ⟨#[93, 94, 45, 92]⟩ := by unfold Small; decide
  have hspb : bs ⟨#[93, 94, 45, 92]⟩ = specialIn := rfl
  refine frisketref05_Text_class.ok _ _ _ ?_
  simp only [frisketref05_Text_class.M, NilC_some, add_eq, Nat.zero_add, zero_cells]
  refine Al.mk fun b1 w1 n1 => ?_
  refine App.build build0 ?_
  refine Al.mk fun b2 w2 n2 => ?_
  refine StA.node n2.at_ fun w3 u3 => ?_
  have e1 := n1.eq; have e2 := n2.eq; have s1 := n1.size; have s2 := n2.size
  have hbt := lt_of_some h
  have k3 : Keeps No w w3 := u3.keeps0 (n1.keeps.trans n2.keeps) (by omega)
  have hb1 : w3.heap[b1]? = some (nodeObj ⟨0, noB, nil3⟩) := u3.keeps.blk (n2.keeps.blk0 n1.at_) (by omega)
  have t3 := h.keep k3
  refine ref05_sees_spec (b := 94) t3 rfl fun w4 hh4 k4 => ?_
  have t4 := t3.keep k4
  have hno := @seen_isB (bs s) 94 st
  -- what is kept throughout
  let G : (Nat → Bool) → PS → World → Prop := fun B st1 w' => Keeps (· = bt) w w' ∧ w'.heap[b1]? = some (nodeObj ⟨0, noB, nil3⟩) ∧ w'.heap[b2]? = some (nodeObj ⟨0, B, nil3⟩) ∧ TO w' bt s st1 ∧ st1.at_ ≤ (bs s).length ∧ st1.long = st.long ∧ st1.deep = st.deep
  have G0 : ∀ {B : Nat → Bool} {st1 : PS} {w' w'' : World}, G B st1 w' → Keeps No w' w'' → G B st1 w'' := fun ⟨a, b, c, d, e, f, g⟩ k => ⟨a.then0 k, k.blk0 b, k.blk0 c, d.keep k, e, f, g⟩
  have GT : ∀ {B : Nat → Bool} {st1 st2 : PS} {w' w'' : World}, G B st1 w' → Keeps (· = bt) w' w'' → TO w'' bt s st2 → st2.at_ ≤ (bs s).length → st2.long = st.long → st2.deep = st.deep → G B st2 w'' := fun ⟨a, b, c, d, e, f, g⟩ k t x y z => ⟨a.trans k, k.blk b (by omega), k.blk c (by omega), t, x, y, z⟩
  have GB : ∀ {B B' : Nat → Bool} {st1 : PS} {w' w'' : World}, G B st1 w' → Upd b2 (nodeObj ⟨0, B', nil3⟩) w' w'' → G B' st1 w'' := fun ⟨a, b, c, d, e, f, g⟩ u => ⟨a.then u.keeps fun i hi e => by omega, u.keeps.blk b (by omega), u.at_, u.keeps.blk d (by omega), e, f, g⟩
  have ldbad : ∀ {B : Nat → Bool} {st1 : PS} {w' : World} {k : Bool → Prop}, G B st1 w' → k st1.bad → Ld .bool ⟨bt, 3, none⟩ w' k := fun hg h => Ld.bool (cell_of hg.2.2.2.1 rfl) h
  have ldat : ∀ {B : Nat → Bool} {st1 : PS} {w' : World} {k : Int → Prop}, G B st1 w' → k st1.at_ → Ld (.int .i64) ⟨bt, 1, none⟩ w' k := fun hg h => Ld.int (cell_of hg.2.2.2.1 rfl) h
  have stepG : ∀ {B : Nat → Bool} {st1 : PS} {w' : World} {k : World → Prop}, G B st1 w' → st1.at_ < (bs s).length → (∀ w'', G B st1.adv w'' → k w'') → St ⟨bt, 1, none⟩ (.int .i64 (w64 ((st1.at_ : Int) + (1 : Int)))) w' k := fun hg hl h =>
    TO.step hg.2.2.2.1 rfl hs (by omega) fun w'' t'' k'' => h w'' (GT hg k'' t'' hl hg.2.2.2.2.2.1 hg.2.2.2.2.2.2)
  have g4 : G noB st w4 := ⟨(k3.trans k4).no, k4.blk0 hb1, k4.blk0 u3.at_, t4, by omega, rfl, rfl⟩
  refine Join.cut (fun _ w5 => G noB (isB (bs s) 94 st).2 w5) ?_ ?_
  · rintro _ w5 g5
    have hnb : (isB (bs s) 94 st).2.bad = false := by rw [hno.2]; split <;> exact hb
    generalize hst0 : (isB (bs s) 94 st).2 = st0 at g5 hnb
    -- the loop
    refine Loop.mkn (fun n first w' => ∃ B st1, G B st1 w' ∧ (st1.bad = true ∨ (bs s).length - st1.at_ < n) ∧ (st1.bad = false → (first = true ∧ st1 = st0 ∧ B = noB) ∨
        (first = false ∧ ∃ m f, (bs s).length - st1.at_ < m ∧ (∀ i, i < 256 → f i = B i) ∧ classLoop (bs s) m f st1 = classLoop (bs s) ((bs s).length + 1) (spanF (bs s) (fun _ => false) st0).1 (spanF (bs s) (fun _ => false) st0).2)) ∧ (st1.bad = true → (classLoop (bs s) ((bs s).length + 1) (spanF (bs s) (fun _ => false) st0).1 (spanF (bs s) (fun _ => false) st0).2).2.bad = true))
      ((bs s).length + 1) ⟨noB, st0, g5, .inr (by omega), (fun _ => .inl ⟨rfl, rfl, rfl⟩), fun e => by rw [hnb] at e; cases e⟩ ?_
    rintro n first w6 ⟨B, st1, g6, hn, hinv, hbinv⟩ R hR
    refine Join.cut (fun go w7 => G B st1 w7 ∧ (go = true → st1.bad = false ∧ (first = false → ¬ (bs s)[st1.at_]? = some 93)) ∧ (go = false → st1.bad = false → first = false ∧ (bs s)[st1.at_]? = some 93)) ?_ ?_
    · rintro go w7 ⟨g7, hgo1, hgo2⟩
      refine Br.mk (fun hgo => ?_) (fun hgo => ?_)
      · -- a round
        obtain ⟨hnb1, hns⟩ := hgo1 hgo
        refine ref05_letter_spec g7.2.2.2.1 hs hsp hnb1 (by rw [hsz]; exact g7.2.2.2.2.1) fun lo st2 w8 k8 t8 l8 => ?_
        rw [hspb] at l8
        have g8 : G B st2 w8 := GT g7 k8 t8 l8.le (l8.long.trans g7.2.2.2.2.2.1) (l8.deep.trans g7.2.2.2.2.2.2)
        -- hi is known
        refine Join.cut (fun hi w9 => ∃ st3, G B st3 w9 ∧ (st3.bad = false → (0 ≤ hi ∧ hi < 256) ∧ ∀ f : Nat → Bool, spanF (bs s) f st1 = ((fun i => f i || (decide (lo.toNat ≤ i) && decide (i ≤ hi.toNat))), st3)) ∧ (st3.bad = true → ∀ f, (spanF (bs s) f st1).2.bad = true)) ?_ ?_
        · rintro hi w9 ⟨st3, g9, h9, h9b⟩
          -- the bytes are set
          have hlo := l8.rng
          refine Loop.mkn (fun n b w' => (0 ≤ b ∧ lo ≤ b) ∧ ∃ B', G B' st3 w' ∧ (st3.bad = false → b ≤ hi + 1 ∨ b = lo) ∧ (hi + 1 - b).toNat ≤ n ∧ (st3.bad = false → ∀ i, i < 256 → B' i = (B i || (decide (lo.toNat ≤ i) && decide ((i : Int) < b))))) (hi + 1 - lo).toNat
            ⟨⟨hlo.1, by omega⟩, B, g9, fun _ => .inr rfl, by omega, fun hb3 i hi => by
              by_cases h1 : lo.toNat ≤ i
              · have : ¬ (i : Int) < lo := by omega
                rw [decide_eq_false this, Bool.and_false, Bool.or_false]
              · rw [decide_eq_false h1, Bool.false_and, Bool.or_false]⟩ ?_
          rintro m b w10 ⟨hb0, B', g10, hb1', hm, hB'⟩ R2 hR2
          refine Join.cut (fun go w' => G B' st3 w' ∧ (go = true → st3.bad = false ∧ b ≤ hi) ∧ (go = false → st3.bad = false → ¬ b ≤ hi)) ?_ ?_
          · rintro go2 w11 ⟨g11, q1, q2⟩
            refine Br.mk (fun hg2 => ?_) (fun hg2 => ?_)
            · obtain ⟨hb3, hle⟩ := q1 hg2
              have hr := (h9 hb3).1
              refine IdxA.stB g11.2.2.1 hb0.1 (by omega) fun w12 u12 => ?_
              rw [w64_eq (by omega)]
              refine hR2 (m - 1) _ w12 (by omega) ⟨⟨by omega, by omega⟩, _, GB g11 u12, fun _ => .inl (by omega), by omega, fun _ i hi256 => ?_⟩
              dsimp only
              by_cases e : i = b.toNat
              · subst e
                have e1 : decide (lo.toNat ≤ b.toNat) = true := decide_eq_true (by omega)
                have e2 : decide (((b.toNat : Nat) : Int) < b + 1) = true := decide_eq_true (by omega)
                rw [if_pos rfl, e1, e2]; simp
              · rw [if_neg e, hB' hb3 i hi256]
                have : ((i : Int) < b) ↔ ((i : Int) < b + 1) := by omega
                simp [this]
            · -- the round is over
              refine hR (if st3.bad then 0 else (bs s).length - st3.at_ + 1) false w11 ?_ ⟨B', st3, g11, ?_, (fun hb3 => .inr ⟨rfl, ?_⟩), fun hb3 => ?_⟩
              · cases hb3 : st3.bad with
                | true =>
                  simp only [if_true]
                  rcases hn with hn | hn
                  · rw [hnb1] at hn; cases hn
                  · omega
                | false =>
                  have := spanF_lex (bs s) (fun _ => false) st1
                  rw [(h9 hb3).2] at this
                  have h4 := (this.go hb3).2
                  have h5 := g9.2.2.2.2.1
                  simp only [Bool.false_eq_true, if_false]
                  rcases hn with hn | hn
                  · rw [hnb1] at hn; cases hn
                  · have : st1.at_ < st3.at_ := h4
                    omega
              · cases hb3 : st3.bad with
                | true => exact .inl rfl
                | false => simp only [Bool.false_eq_true, if_false]; exact .inr (by omega)
              · have hspan := (h9 hb3).2
                have hr := (h9 hb3).1
                have hbh := q2 hg2 hb3
                have lex := spanF_lex (bs s) (fun _ => false) st1
                rw [hspan] at lex
                have hprog : st1.at_ < st3.at_ := (lex.go hb3).2
                have hBeq : ∀ (f : Nat → Bool), (∀ i, i < 256 → f i = B i) → ∀ i, i < 256 → (f i || (decide (lo.toNat ≤ i) && decide (i ≤ hi.toNat))) = B' i := by
                  intro f hf i hi256
                  rw [hf i hi256, hB' hb3 i hi256]
                  by_cases h1 : lo.toNat ≤ i
                  · have : (i ≤ hi.toNat) ↔ ((i : Int) < b) := by
                      rcases hb1' hb3 with h | h <;> omega
                    simp [this]
                  · simp [h1]
                rcases hinv hnb1 with ⟨hf, rfl, rfl⟩ | ⟨hf, m', f, hm', hfB, hcl⟩
                · refine ⟨(bs s).length + 1, _, by omega, hBeq (fun _ => false) (fun i _ => rfl), ?_⟩
                  rw [hspan]
                · obtain ⟨m'', rfl⟩ : ∃ k, m' = k + 1 := ⟨m' - 1, by omega⟩
                  refine ⟨m'', _, by omega, hBeq f hfB, ?_⟩
                  rw [← hcl]
                  have hns' := hns hf
                  have hd := @seen_isB (bs s) 93 st1
                  rw [if_neg hns'] at hd
                  conv => rhs; unfold classLoop
                  simp only [hnb1, Bool.false_eq_true, if_false, hd.1, hd.2, hns', decide_false, hspan]
              · have hsb := h9b hb3
                have stuck : ∀ (m : Nat) (f : Nat → Bool) (st : PS), st.bad = true → (classLoop (bs s) m f st).2.bad = true := by
                  intro m f st h
                  cases m with
                  | zero => exact h
                  | succ m => unfold classLoop; simp only [h, if_true]
                rcases hinv hnb1 with ⟨hf, rfl, rfl⟩ | ⟨hf, m', f, hm', hfB, hcl⟩
                · exact stuck _ _ _ (hsb _)
                · obtain ⟨m'', rfl⟩ : ∃ k, m' = k + 1 := ⟨m' - 1, by omega⟩
                  rw [← hcl]
                  have hns' := hns hf
                  have hd := @seen_isB (bs s) 93 st1
                  rw [if_neg hns'] at hd
                  unfold classLoop
                  simp only [hnb1, Bool.false_eq_true, if_false, hd.1, hd.2, hns', decide_false]
                  exact stuck _ _ _ (hsb _)
          · intro j hj
            refine Br.mk (fun ht => ?_) (fun hf => ?_)
            · have ht := of_decide_eq_true ht
              refine ldbad g10 (hj _ _ ⟨g10, fun e => ⟨by simpa using e, ht⟩, fun e hb3 => by rw [hb3] at e; cases e⟩)
            · have hf := of_decide_eq_false hf
              exact hj _ _ ⟨g10, (fun e => by cases e), fun _ _ => hf⟩
        · intro j12 hj12
          refine Join.cut (fun dash w9 => G B st2 w9 ∧ (dash = true → st2.bad = false ∧ (bs s)[st2.at_]? = some 45) ∧ (dash = false → st2.bad = false → ¬ (bs s)[st2.at_]? = some 45)) ?_ ?_
          · rintro dash w9 ⟨g9, q1, q2⟩
            refine Br.mk (fun hd => ?_) (fun hd => ?_)
            · obtain ⟨hb2, h45⟩ := q1 hd
              have hl2 := lt_of_get h45
              have hLo := l8.ok hb2
              have hd45 := @seen_isB (bs s) 45 st2
              rw [if_pos h45] at hd45
              refine ldat g9 (stepG g9 hl2 fun w10 g10 => ldat g10 ?_)
              have ha : st2.adv.at_ = st2.at_ + 1 := rfl
              refine ref05_letter_spec g10.2.2.2.1 hs hsp hb2 (by rw [hsz]; exact g10.2.2.2.2.1) fun hi st4 w11 k11 t11 l11 => ?_
              rw [hspb] at l11
              have g11 : G B st4 w11 := GT g10 k11 t11 l11.le (l11.long.trans g10.2.2.2.2.2.1) (l11.deep.trans g10.2.2.2.2.2.2)
              refine Join.cut (fun less w12 => G B st4 w12 ∧ (less = false → st4.bad = false → lo ≤ hi) ∧ (less = true → st4.bad = false ∧ hi < lo)) ?_ ?_
              · rintro less w12 ⟨g12, hl, hl2⟩
                refine Br.mk (fun hlt => ?_) (fun hlt => ?_)
                · refine TO.fail g12.2.2.2.1 fun w13 t13 k13 => ?_
                  refine TO.st (st' := { st4 with at_ := st2.adv.at_, bad := true }) t13 (by simp) rfl fun w14 t14 k14 => ?_
                  refine hj12 _ w14 ⟨{ st4 with at_ := st2.adv.at_, bad := true }, ?_, (fun e => by cases e), fun _ f => ?_⟩
                  rotate_left
                  · obtain ⟨hb4, hlt2⟩ := hl2 hlt
                    have hHi := l11.ok hb4
                    have hlo0 := l8.rng; have hhi0 := l11.rng
                    simp only [spanF, hLo, hb2, Bool.false_eq_true, if_false, hd45.1, hd45.2, h45, decide_true, if_true, hHi]
                    have : hi.toNat < lo.toNat := by omega
                    simp [this, hb4]
                  exact GT (GT g12 k13 t13 g12.2.2.2.2.1 g12.2.2.2.2.2.1 g12.2.2.2.2.2.2) k14 t14 (by show st2.at_ + 1 ≤ _; omega) g12.2.2.2.2.2.1 g12.2.2.2.2.2.2
                · refine hj12 _ w12 ⟨st4, g12, (fun hb4 => ⟨l11.rng, fun f => ?_⟩), fun hb4 f => ?_⟩
                  rotate_left
                  · have hHi := l11.no hb4
                    simp only [spanF, hLo, hb2, Bool.false_eq_true, if_false, hd45.1, hd45.2, h45, decide_true, if_true]
                    simp [hHi]
                  have hHi := l11.ok hb4
                  have hle := hl hlt hb4
                  have hlo0 := l8.rng
                  simp only [spanF, hLo, hb2, Bool.false_eq_true, if_false, hd45.1, hd45.2, h45, decide_true, if_true, hHi]
                  have : ¬ (hi.toNat < lo.toNat) := by omega
                  simp [this, hb4]
              · intro j15 hj15
                refine ldbad g11 (Br.mk (fun hbb => hj15 _ _ ⟨g11, (fun e _ => by have := of_decide_eq_false e; omega), fun e => ⟨by simpa using hbb, of_decide_eq_true e⟩⟩) (fun hbb => hj15 _ _ ⟨g11, (fun _ hb4 => by rw [hb4] at hbb; cases hbb), fun e => by cases e⟩))
            · refine hj12 _ w9 ⟨st2, g9, (fun hb2 => ⟨l8.rng, fun f => ?_⟩), fun hb2 f => ?_⟩
              rotate_left
              · have := l8.no hb2
                simp only [spanF, this, if_true]
              have hLo := l8.ok hb2
              have h45 := q2 hd hb2
              have hd45 := @seen_isB (bs s) 45 st2
              rw [if_neg h45] at hd45
              simp only [spanF, hLo, hb2, Bool.false_eq_true, if_false, hd45.1, hd45.2, h45, decide_false]
          · intro j16 hj16
            refine ldbad g8 (Br.mk (fun hbb => ?_) (fun hbb => hj16 _ _ ⟨g8, (fun e => by cases e), fun _ hb2 => by rw [hb2] at hbb; cases hbb⟩))
            have hb2 : st2.bad = false := by simpa using hbb
            refine ref05_sees_spec (b := 45) g8.2.2.2.1 rfl fun w9 hh9 k9 => hj16 _ _ ⟨G0 g8 k9, fun e => ⟨hb2, of_decide_eq_true e⟩, fun e _ => of_decide_eq_false e⟩
      · -- behind the loop
        have fin : ∀ (st2 : PS) (w8 : World), G B st2 w8 → (st2.bad = true → (classLoop (bs s) ((bs s).length + 1) (spanF (bs s) (fun _ => false) st0).1 (spanF (bs s) (fun _ => false) st0).2).2.bad = true) → (st2.bad = false → ∃ f, (∀ i, i < 256 → f i = B i) ∧ classLoop (bs s) ((bs s).length + 1) (spanF (bs s) (fun _ => false) st0).1 (spanF (bs s) (fun _ => false) st0).2 = (f, st2)) →
            Loop (fun (s18 : Int) w22 again19 => Join (fun (s20 : Bool) w23 => Br s20 (IdxA 256 (⟨b2, 1, none⟩) s18 1 fun p115 => Ld .bool p115 w23 fun x116 => IdxA 256 (⟨b2, 1, none⟩) s18 1 fun p119 => St p119 (.bool (!x116)) w23 fun w24 => again19 (w64 (s18 + (1 : Int))) w24) (LdA 258 (⟨b2, 0, none⟩) w23 fun x120 => StA P T.frisketref05_Node (⟨b1, 0, none⟩) x120 w23 fun w25 => LdA 258 (⟨b1, 0, none⟩) w25 fun r0 => K r0 w25)) fun j21 => Br (decide (s18 < (256 : Int))) (j21 (decide ((bs s)[st.at_]? = some 94)) w22) (j21 false w22)) 0 w8 := by
          intro st2 w8 g8 hcb hcl
          refine Loop.mk (fun i w' => (0 ≤ i ∧ i ≤ 256) ∧ ∃ B', G B' st2 w' ∧ (∀ q, q < 256 → B' q = if decide ((bs s)[st.at_]? = some 94) = true ∧ (q : Int) < i then !(B q) else B q)) (fun i => 256 - i.toNat) ⟨⟨by omega, by omega⟩, B, g8, fun q hq => by rw [if_neg (by omega)]⟩ ?_
          rintro i w9 ⟨hi, B', g9, hB'⟩ R2 hR2
          refine Join.cut (fun go w' => w' = w9 ∧ (go = true → i < 256 ∧ decide ((bs s)[st.at_]? = some 94) = true) ∧ (go = false → decide ((bs s)[st.at_]? = some 94) = true → i = 256)) ?_ ?_
          · rintro go2 w' ⟨rfl, q1, q2⟩
            refine Br.mk (fun hg2 => ?_) (fun hg2 => ?_)
            · obtain ⟨hi2, hn94⟩ := q1 hg2
              refine IdxA.ldB g9.2.2.1 hi.1 hi2 (IdxA.stB g9.2.2.1 hi.1 hi2 fun w10 u10 => ?_)
              rw [w64_eq (by omega)]
              refine hR2 _ w10 ⟨⟨by omega, by omega⟩, _, GB g9 u10, fun q hq => ?_⟩ (by omega)
              dsimp only
              by_cases e : q = i.toNat
              · subst e
                rw [if_pos rfl, hB' _ hq, if_neg (by omega), if_pos ⟨hn94, by omega⟩]
              · rw [if_neg e, hB' q hq]
                have : ((q : Int) < i) ↔ ((q : Int) < i + 1) := by omega
                simp only [this]
            · refine LdA.node g9.2.2.1 (StA.node g9.2.1 fun w10 u10 => LdA.node u10.at_ ?_)
              refine hk B' st2 w10 (g9.1.then u10.keeps fun i hi e => by omega) (u10.keeps.blk g9.2.2.2.1 (by omega)) ⟨g9.2.2.2.2.1, g9.2.2.2.2.2.1, g9.2.2.2.2.2.2, (fun hb2 => ?_), fun hb2 => ?_⟩
              rotate_left
              · simp only [classF, hst0]
                exact hcb hb2
              obtain ⟨f, hf, hcl⟩ := hcl hb2
              refine ⟨if (isB (bs s) 94 st).1 then fun i => !f i else f, ?_, ?_⟩
              · simp only [classF, hst0, hcl]
              · intro q hq
                rw [hno.1, hB' q hq]
                cases hdec : decide ((bs s)[st.at_]? = some 94) with
                | true =>
                  have := q2 hg2 hdec
                  simp only [if_true]
                  rw [if_pos ⟨trivial, by omega⟩, hf q hq]
                | false =>
                  simp only [Bool.false_eq_true, if_false, false_and]
                  exact hf q hq
          · intro j hj
            refine Br.mk (fun ht => ?_) (fun hf => ?_)
            · have ht := of_decide_eq_true ht
              exact hj _ _ ⟨rfl, fun e => ⟨ht, e⟩, fun e e2 => by rw [e] at e2; cases e2⟩
            · have hf := of_decide_eq_false hf
              exact hj _ _ ⟨rfl, (fun e => by cases e), fun _ _ => by omega⟩
        refine Join.cut (fun _ w8 => ∃ st2, G B st2 w8 ∧ (st2.bad = true → (classLoop (bs s) ((bs s).length + 1) (spanF (bs s) (fun _ => false) st0).1 (spanF (bs s) (fun _ => false) st0).2).2.bad = true) ∧ (st2.bad = false → ∃ f, (∀ i, i < 256 → f i = B i) ∧ classLoop (bs s) ((bs s).length + 1) (spanF (bs s) (fun _ => false) st0).1 (spanF (bs s) (fun _ => false) st0).2 = (f, st2))) ?_ ?_
        · rintro _ w8 ⟨st2, g8, hcb, hcl⟩
          exact fin st2 w8 g8 hcb hcl
        · intro j22 hj22
          refine ldbad g7 (Br.mk (fun hbb => ?_) (fun hbb => hj22 _ _ ⟨st1, g7, hbinv, fun hb1' => by rw [hb1'] at hbb; cases hbb⟩))
          have hb1' : st1.bad = false := by simpa using hbb
          obtain ⟨hff, h93⟩ := hgo2 hgo hb1'
          refine ldat g7 (stepG g7 (lt_of_get h93) fun w8 g8 => hj22 _ _ ⟨st1.adv, g8, (fun e => by have : st1.bad = true := e; rw [hb1'] at this; cases this), fun _ => ?_⟩)
          rcases hinv hb1' with ⟨hf, _, _⟩ | ⟨_, m', f, hm', hfB, hcl⟩
          · rw [hff] at hf; cases hf
          · obtain ⟨m'', rfl⟩ : ∃ k, m' = k + 1 := ⟨m' - 1, by omega⟩
            refine ⟨f, hfB, ?_⟩
            rw [← hcl]
            have hd := @seen_isB (bs s) 93 st1
            rw [if_pos h93] at hd
            unfold classLoop
            simp only [hb1', Bool.false_eq_true, if_false, hd.1, hd.2, h93, decide_true, if_true]
    · intro j23 hj23
      refine ldbad g6 (Br.mk (fun hbb => ?_) (fun hbb => hj23 _ _ ⟨g6, (fun e => by cases e), fun _ hb1' => by rw [hb1'] at hbb; cases hbb⟩))
      have hb1' : st1.bad = false := by simpa using hbb
      refine Br.mk (fun hfi => hj23 _ _ ⟨g6, fun _ => ⟨hb1', fun e => by rw [hfi] at e; cases e⟩, fun e => by cases e⟩) (fun hfi => ?_)
      refine ref05_sees_spec (b := 93) g6.2.2.2.1 rfl fun w7 hh7 k7 => hj23 _ _ ⟨G0 g6 k7, fun e => ⟨hb1', fun _ => by simpa using e⟩, fun e _ => ⟨hfi, by simpa using e⟩⟩
  · intro j24 hj24
    rw [hno.2] at hj24
    refine Br.mk (fun ht => ?_) (fun hf => ?_)
    · have ht := of_decide_eq_true ht
      rw [if_pos ht] at hj24
      exact ldat g4 (stepG g4 (lt_of_get ht) fun w5 g5 => hj24 _ _ g5)
    · have hf := of_decide_eq_false hf
      rw [if_neg hf] at hj24
      exact hj24 _ _ g4
end Go.Fk
end

section
set_option linter.unusedVariables false
set_option linter.unusedSimpArgs false
namespace Go.Fk
open Go

theorem Own.cap {w : World} {base E size : Nat} {l : Sl} {xs : List Value} (h : Own w base E size l xs) : l.n ≤ l.c := by
  rcases h.2 with ⟨hv, hn⟩ | ⟨g, cap, cur, hv, hge, hg, hnc, h3⟩
  · omega
  · simp only [Sl.val, Value.slice.injEq] at hv
    omega

theorem SlC.tail {H : View} {a : Option Addr} {n c sz : Nat} {x : List Value} {xs : List (List Value)} {c' : Nat} (h : SlC H ⟨a, n, c⟩ sz (x :: xs)) : SlC H ⟨a.map (·.add sz), n - 1, c'⟩ sz xs := by
  obtain ⟨h1, h2⟩ := h
  have h1 : n = xs.length + 1 := h1
  refine ⟨by show n - 1 = _; omega, .inr ?_⟩
  rcases h2 with h2 | ⟨b, off, cs, E, fr, rfl, h4, h5⟩
  · cases h2
  · refine ⟨b, off + sz, cs, E, fr, by simp [add_eq], h4, fun i c hc j u hu => ?_⟩
    have := h5 (i + 1) c (by simpa using hc) j u hu
    rw [← this]; congr 1; rw [Nat.add_mul]; omega

theorem App.from1 {P : Program} {T E : TypeId} {i : TypeInfo} {w : World} {l : Sl} {K : Sl → World → Prop} (hT : P.underlying T = some (.slice E)) (hi : P.info? E = some i) (h1 : 1 ≤ l.n) (h2 : l.c ≠ 1)
    (hK : K ⟨l.a.map (·.add i.size), l.n - 1, l.c - 1⟩ w) : App P (Instr.sliceAt T (.slice l.a l.n l.c) (some (.int .i64 1)) none none) (.one .sl) w K := by
  have he : P.elem T = E := by simp [Program.elem, hT]
  have ht : P.underlying T = some (.slice (P.elem T)) := by rw [he]; exact hT
  refine ⟨_, w, ?_, hK⟩
  rw [run_sliceAt_slice w T _ _ _ _ ht, run_slice_l w T l.a l.n l.c ht .i64 1 (by omega) (by omega), he]
  simp [sizeOf, typeInfo, hi, Result.andThen, sliced, h2, RTy.enc, Ty.enc]

theorem IdxS.nodeS {M : Nat → Prop} {S : World → Prop} {w : World} {l : Sl} {vs : List NV} {i : Int} {K : Array Value → Prop} (h : SlC (V M w) l 258 (vs.map NV.cells)) (hS : ∀ w', S w' → Vle (V M w) (V No w')) (h0 : 0 ≤ i) (h1 : i < vs.length) (hk : ∀ v, vs[i.toNat]? = some v → K v.cells.toArray) :
    IdxS l i 258 fun p => LdSA S 258 p K := by
  obtain ⟨e1, e2⟩ := h
  have hlt : i.toNat < vs.length := by omega
  have hx : vs[i.toNat]? = some vs[i.toNat] := List.getElem?_eq_getElem hlt
  rcases e2 with e2 | ⟨b, off, cs, E, fr, e3, e4, e5⟩
  · have : vs = [] := by simpa using e2
    subst this; simp at hlt
  · simp only [List.length_map] at e1
    refine ⟨_, e3, ⟨h0, by omega⟩, (vs[i.toNat]).cells.toArray, ⟨by simp [NV.len], fun w' hw' j u hu => ?_⟩, hk _ hx⟩
    rw [add_eq, add_eq]
    exact cell_of (hS w' hw' _ _ e4).2 (e5 i.toNat _ (by rw [List.getElem?_map, hx]; rfl) j u (by simpa using hu))

theorem nodeInfo : ∃ i, P.info? T.frisketref05_Node = some i ∧ i.size = 258 := by
  have h := sizeNode
  cases hi : P.info? T.frisketref05_Node with
  | none => rw [hi] at h; cases h
  | some i => rw [hi] at h; exact ⟨i, rfl, by simpa using h⟩

theorem StA.ret {w : World} {b : Nat} {v u : NV} {K : Array Value → World → Prop} (hb : w.heap[b]? = some (nodeObj u)) (hk : ∀ w', Upd b (nodeObj v) w w' → K v.cells.toArray w') : StA P T.frisketref05_Node ⟨b, 0, none⟩ v.cells.toArray w fun w3 => LdA 258 ⟨b, 0, none⟩ w3 fun r0 => K r0 w3 :=
  StA.node hb fun w' u => LdA.node u.at_ (hk w' u)

theorem ref05_pair_spec {kind : Int} {f : Re → Re → Re} (hkf : (kind = 2 ∧ f = .cat) ∨ (kind = 3 ∧ f = .or)) : ∀ (vs : List NV) {M : Nat → Prop} {w : World} {l : Sl} {xs : List Re} {K : Array Value → World → Prop}, Old M w → SlC (V M w) l 258 (vs.map NV.cells) → l.n ≤ l.c → All2 (RNd (V M w)) vs xs → vs.length < 100000000000 →
    (∀ v w', Keeps No w w' → RNd (V M w') v (twoOf f .empty xs) → K v.cells.toArray w') → frisketref05_pair.C kind l w K
  | vs, M, w, l, xs, K, hM, hl, hc, ha, hlen, hk => by
    have hn := hl.1; have hal := ha.length
    simp only [List.length_map] at hn
    refine frisketref05_pair.ok _ _ _ _ ?_
    simp only [frisketref05_pair.M, zero_cells]
    refine Al.mk fun b1 w1 n1 => ?_
    have e1 := n1.eq; have s1 := n1.size
    match vs, xs, ha, hn, hl, hlen, hal, hk with
    | [], [], _, hn, hl, hlen, hal, hk =>
      have e : ((l.n : Int) == 0) = true := by simp [hn]
      rw [e]
      refine App.build (build1 1) (StA.ret n1.at_ fun w2 u2 => hk _ w2 (u2.keeps0 n1.keeps (by omega)) .empty)
    | [v], [x], .cons hv .nil, hn, hl, hlen, hal, hk =>
      have e : ((l.n : Int) == 0) = false := by simp [hn]
      have e2 : ((l.n : Int) == 1) = true := by simp [hn]
      rw [e, e2]
      refine IdxS.node (vs := [v]) (hl.mono (V.keeps0 n1.keeps)) (by omega) (by simp) fun v' hv' => ?_
      simp at hv'
      subst hv'
      refine StA.ret n1.at_ fun w2 u2 => hk _ w2 (u2.keeps0 n1.keeps (by omega)) (hv.mono (V.keeps0 (u2.keeps0 n1.keeps (by omega))))
    | v :: v2 :: vs, x :: x2 :: xs, .cons hv ht, hn, hl, hlen, hal, hk =>
      simp only [List.length_cons] at hn hlen
      have e : ((l.n : Int) == 0) = false := by simp; omega
      have e2 : ((l.n : Int) == 1) = false := by simp; omega
      rw [e, e2]
      refine ⟨fun x => Keeps (· = b1) w1 x, Keeps.drew.no, ?_⟩
      have hl1 : SlC (V (fun b => M b ∨ b = b1) w1) l 258 ((v :: v2 :: vs).map NV.cells) := hl.mono (V.move n1.keeps (fun _ _ h => h.elim) fun b hb h => h.resolve_right (by omega))
      have hS : ∀ w', Keeps (· = b1) w1 w' → Vle (V (fun b => M b ∨ b = b1) w1) (V No w') := fun w' hk => V.move hk (fun _ _ h => .inr h) fun _ _ h => h.elim
      refine IdxS.nodeS hl1 hS (by omega) (by simp; omega) fun v' hv' => ?_
      simp at hv'
      subst hv'
      obtain ⟨i, hi, hisz⟩ := nodeInfo
      refine App.from1 elNode.sl hi (by omega) (by omega) ⟨Keeps.drew.no, ?_⟩
      rw [hisz]
      have k01 : Keeps No w w1.drew := n1.keeps.trans .drew
      obtain ⟨a, n, c⟩ := l
      have M1 : Old (fun b => M b ∨ b = b1) w1.drew := fun b hb => by
        have : w1.drew.heap.size = w1.heap.size := rfl
        rcases hb with h | h
        · have := hM b h; omega
        · omega
      refine ref05_pair_spec hkf (v2 :: vs) (M := fun b => M b ∨ b = b1) M1 (SlC.tail (hl1.mono (V.keeps0 .drew))) (by show n - 1 ≤ c - 1; simp at hc; omega) (ht.mono fun a b h => h.mono (V.move k01 (fun _ _ h => h.elim) fun b hb h => h.resolve_right (by omega))) (by simp; omega) fun u w3 k3 hu => ⟨?_, ?_⟩
      · exact (Keeps.drew.trans k3).no
      · refine App.slice2 fun b4 w4 n4 => ⟨((Keeps.drew.trans k3).trans n4.keeps).no, ?_⟩
        refine AppS.build (build2 kind (some ⟨b4, 0, none⟩) 2 2) ?_
        have k14 : Keeps No w1 w4 := (Keeps.drew.trans k3).trans n4.keeps
        refine StA.node (k14.blk0 n1.at_) fun w5 u5 => ⟨(k14.no (M := (· = b1))).trans u5.keeps, LdA.node u5.at_ ?_⟩
        have k05 : Keeps No w w5 := u5.keeps0 (n1.keeps.trans k14) (by omega)
        have s3 := k3.size; have e4 := n4.eq
        have hd : w1.drew.heap.size = w1.heap.size := rfl
        have nM4 : ¬ M b4 := fun h => by have := hM b4 h; omega
        have hrow : V M w5 b4 (.cells (v.cells ++ u.cells).toArray T.frisketref05_Node (0, 0)) := ⟨nM4, u5.keeps.blk n4.at_ (by omega)⟩
        have hu5 : RNd (V M w5) u (twoOf f .empty (x2 :: xs)) := hu.mono ((V.move n4.keeps (M' := fun b => M b ∨ b = b1) (fun _ _ h => h.elim) fun _ _ h => h).trans (V.move u5.keeps (fun _ _ h => .inr h) fun _ _ h => .inl h))
        refine hk _ w5 k05 ?_
        rcases hkf with ⟨rfl, rfl⟩ | ⟨rfl, rfl⟩
        · exact .cat hrow (hv.mono (V.keeps0 k05)) hu5
        · exact .or hrow (hv.mono (V.keeps0 k05)) hu5
  termination_by vs => vs.length
end Go.Fk
end

section
set_option linter.unusedVariables false
set_option linter.unusedSimpArgs false
namespace Go.Fk
open Go

/-! ## 'long' is looked at by none of the readers -/
def PS.wl (l : Bool) (st : PS) : PS := { st with long := l }

theorem wl_at {l : Bool} {st : PS} : (st.wl l).at_ = st.at_ := rfl
theorem wl_bad {l : Bool} {st : PS} : (st.wl l).bad = st.bad := rfl
theorem wl_deep {l : Bool} {st : PS} : (st.wl l).deep = st.deep := rfl
theorem wl_adv {l : Bool} {st : PS} : (st.wl l).adv = st.adv.wl l := rfl
theorem wl_fail {l : Bool} {st : PS} : (st.wl l).fail = st.fail.wl l := rfl

theorem isB_wl (s : List UInt8) (b : UInt8) (l : Bool) (st : PS) : isB s b (st.wl l) = ((isB s b st).1, (isB s b st).2.wl l) := by
  unfold isB; rw [wl_at, wl_adv]; split <;> rfl
theorem digitF_wl (s : List UInt8) (l : Bool) (st : PS) : digitF s (st.wl l) = ((digitF s st).1, (digitF s st).2.wl l) := by
  unfold digitF; rw [wl_at]
  cases s[st.at_]? with
  | none => rfl
  | some c => dsimp only; split <;> rfl
theorem escapedF_wl (s sp : List UInt8) (l : Bool) (st : PS) : escapedF s sp (st.wl l) = ((escapedF s sp st).1, (escapedF s sp st).2.wl l) := by
  unfold escapedF; rw [wl_at]
  cases s[st.at_]? with
  | none => rfl
  | some c =>
    dsimp only
    rw [wl_adv, digitF_wl]
    dsimp only
    rw [wl_bad, digitF_wl]
    by_cases h1 : c = 110
    · simp [h1]
    · by_cases h2 : c = 116
      · simp [h2]
      · by_cases h3 : c = 115
        · simp [h3]
        · by_cases h4 : c = 120
          · subst h4
            simp only [h1, h2, h3, if_false, if_true]
            cases (digitF s st.adv).2.bad <;> rfl
          · simp only [h1, h2, h3, h4, if_false]
            split <;> rfl
theorem letterF_wl (s sp : List UInt8) (l : Bool) (st : PS) : letterF s sp (st.wl l) = ((letterF s sp st).1, (letterF s sp st).2.wl l) := by
  unfold letterF; rw [wl_at]
  cases s[st.at_]? with
  | none => rfl
  | some c =>
    dsimp only
    rw [wl_adv, escapedF_wl]
    by_cases h1 : c = 92
    · simp [h1]
    · simp only [h1, if_false]
      split <;> rfl
theorem spanF_wl (s : List UInt8) (f : Nat → Bool) (l : Bool) (st : PS) : spanF s f (st.wl l) = ((spanF s f st).1, (spanF s f st).2.wl l) := by
  unfold spanF
  rw [letterF_wl]
  dsimp only
  rw [wl_bad, isB_wl]
  dsimp only
  rw [letterF_wl]
  dsimp only
  rw [wl_bad]
  cases h1 : (letterF s specialIn st).2.bad with
  | true => simp [wl_bad, h1]
  | false =>
    simp only [Bool.false_eq_true, if_false]
    cases h2 : (isB s 45 (letterF s specialIn st).2).1 with
    | true =>
      simp only [if_true]
      split
      · simp [PS.wl]
      · simp [wl_bad]
        rfl
    | false => simp [wl_bad]
theorem classLoop_wl (s : List UInt8) (l : Bool) : ∀ (n : Nat) (f : Nat → Bool) (st : PS), classLoop s n f (st.wl l) = ((classLoop s n f st).1, (classLoop s n f st).2.wl l)
  | 0, f, st => rfl
  | n + 1, f, st => by
    unfold classLoop
    rw [wl_bad, isB_wl]
    dsimp only
    rw [spanF_wl]
    dsimp only
    cases h1 : st.bad with
    | true => rfl
    | false =>
      simp only [Bool.false_eq_true, if_false]
      cases h2 : (isB s 93 st).1 with
      | true => rfl
      | false =>
        simp only [Bool.false_eq_true, if_false]
        exact classLoop_wl s l n _ _
theorem classF_wl (s : List UInt8) (l : Bool) (st : PS) : classF s (st.wl l) = ((classF s st).1, (classF s st).2.wl l) := by
  unfold classF
  rw [isB_wl]
  dsimp only
  rw [spanF_wl]
  dsimp only
  rw [classLoop_wl]
end Go.Fk
end

section
set_option linter.unusedVariables false
set_option linter.unusedSimpArgs false
namespace Go.Fk
open Go

/-- Below 256 alone. -/
def Re.norm : Re → Re
  | .set f => .set fun i => decide (i < 256) && f i
  | .empty => .empty | .cat a b => .cat a.norm b.norm | .or a b => .or a.norm b.norm | .star a => .star a.norm
theorem Re.norm_size (x : Re) : x.norm.size = x.size := by
  induction x <;> simp [Re.norm, Re.size, *]
theorem norm_set {f g : Nat → Bool} (h : ∀ i, i < 256 → f i = g i) : (Re.set f).norm = (Re.set g).norm := by
  simp only [Re.norm, Re.set.injEq]
  funext i
  by_cases hi : i < 256
  · simp [hi, h i hi]
  · simp [hi]
theorem size_of_norm {x y : Re} (h : x.norm = y.norm) : x.size = y.size := by rw [← x.norm_size, h, y.norm_size]

def PS.cl (st : PS) : PS := ⟨st.at_, false, false, st.deep⟩

def LtV (n : Nat) : Nat → Prop := fun b => b < n
def FM (n b1 b2 : Nat) : Nat → Prop := fun b => b < n ∨ b = b1 ∨ b = b2

structure RR (s : List UInt8) (g : PS → Re × PS) (one : Nat) (st : PS) (x : Re) (st' : PS) : Prop where
  le : st'.at_ ≤ s.length
  szb : x.size ≤ 3000 * (s.length + 1 - st.at_)
  go : st'.bad = false → (st.at_ + 1 ≤ st'.at_ + one ∧ st'.deep = st.deep ∧ x.size + 1 ≤ 1000 * (st'.at_ - st.at_) + 2 * one) ∧ ∃ y, g st.cl = (y, st'.cl) ∧ y.norm = x.norm
  no : st'.bad = true → (g st.cl).2.bad = true
  lg : st'.long = true → st.long = true ∨ st'.bad = true ∨ 400 < x.size

def OrS (n : Nat) : Prop := ∀ {w : World} {bt : Nat} {s : ByteArray} {st : PS} {K : Array Value → World → Prop}, TO w bt s st → Small s → st.bad = false → st.at_ ≤ s.size → st.deep ≤ 50 → st.deep + n = 51 →
  (∀ v x st' w', Keeps (· = bt) w w' → TO w' bt s st' → RNd (V (LtV w.heap.size) w') v x → RR (bs s) (orF (bs s) n) 1 st x st' → K v.cells.toArray w') → frisketref05_Text_or.C (some ⟨bt, 0, none⟩) w K

theorem cl_wl {st : PS} (h : st.bad = false) : st.cl = st.wl false := by unfold PS.cl PS.wl; rw [← h]

/-- Seen or not: where the plain parser stands. -/
theorem isB_cl {s : List UInt8} {b : UInt8} {st : PS} : (isB s b st.cl) = (decide (s[st.at_]? = some b), if s[st.at_]? = some b then st.adv.cl else st.cl) := by
  unfold isB
  show (if s[st.at_]? = some b then _ else _) = _
  split <;> simp_all [PS.cl, PS.adv]

section
variable {w : World} {bt b1 b2 : Nat} {s : ByteArray} {st : PS}

/-- The state within 'factor'. -/
structure FS (w w' : World) (bt b1 b2 : Nat) (s : ByteArray) (v : NV) (x : Re) (st1 : PS) : Prop where
  k : Keeps (· = bt) w w'
  h1 : w'.heap[b1]? = some (nodeObj ⟨0, noB, nil3⟩)
  h2 : w'.heap[b2]? = some (nodeObj v)
  t : TO w' bt s st1
  n : RNd (V (FM w.heap.size b1 b2) w') v x
  le : st1.at_ ≤ (bs s).length
  d1 : w.heap.size ≤ b1
  d2 : w.heap.size ≤ b2
  d3 : b1 ≠ b2
  d4 : bt < w.heap.size

theorem FS.keep {w' w'' : World} {v : NV} {x : Re} {st1 : PS} (h : FS w w' bt b1 b2 s v x st1) (k : Keeps No w' w'') : FS w w'' bt b1 b2 s v x st1 :=
  ⟨h.k.then0 k, k.blk0 h.h1, k.blk0 h.h2, h.t.keep k, h.n.mono (V.keeps0 k), h.le, h.d1, h.d2, h.d3, h.d4⟩
theorem FS.text {w' w'' : World} {v : NV} {x : Re} {st1 st2 : PS} (h : FS w w' bt b1 b2 s v x st1) (k : Keeps (· = bt) w' w'') (t : TO w'' bt s st2) (le : st2.at_ ≤ (bs s).length) : FS w w'' bt b1 b2 s v x st2 := by
  have := h.d1; have := h.d2; have := h.d4
  exact ⟨h.k.trans k, k.blk h.h1 (by omega), k.blk h.h2 (by omega), t, h.n.mono (V.move k (fun b _ e => .inl (by omega)) fun _ _ h => h), le, h.d1, h.d2, h.d3, h.d4⟩
theorem FS.node {w' w'' : World} {v v' : NV} {x x' : Re} {st1 : PS} (h : FS w w' bt b1 b2 s v x st1) (u : Upd b2 (nodeObj v') w' w'') (n : RNd (V (FM w.heap.size b1 b2) w') v' x') : FS w w'' bt b1 b2 s v' x' st1 := by
  have := h.d1; have := h.d2; have := h.d4; have := h.d3
  exact ⟨h.k.then u.keeps fun i hi e => by omega, u.keeps.blk h.h1 (by omega), u.at_, u.keeps.blk h.t (by omega), n.mono (V.move u.keeps (fun _ _ h => .inr (.inr h)) fun _ _ h => h), h.le, h.d1, h.d2, h.d3, h.d4⟩
theorem FS.ld {w' : World} {v : NV} {x : Re} {st1 : PS} (h : FS w w' bt b1 b2 s v x st1) {k : Array Value → Prop} (hk : k v.cells.toArray) : LdA 258 ⟨b2, 0, none⟩ w' k := LdA.node h.h2 hk
theorem FS.bad {w' : World} {v : NV} {x : Re} {st1 : PS} (h : FS w w' bt b1 b2 s v x st1) {k : Bool → Prop} (hk : k st1.bad) : Ld .bool ⟨bt, 3, none⟩ w' k := Ld.bool (cell_of h.t rfl) hk
theorem FS.at_ {w' : World} {v : NV} {x : Re} {st1 : PS} (h : FS w w' bt b1 b2 s v x st1) {k : Int → Prop} (hk : k st1.at_) : Ld (.int .i64) ⟨bt, 1, none⟩ w' k := Ld.int (cell_of h.t rfl) hk
theorem FS.step {w' : World} {v : NV} {x : Re} {st1 : PS} (h : FS w w' bt b1 b2 s v x st1) (hs : Small s) (hl : st1.at_ < (bs s).length) {k : World → Prop} (hk : ∀ w'', FS w w'' bt b1 b2 s v x st1.adv → k w'') : St ⟨bt, 1, none⟩ (.int .i64 (w64 ((st1.at_ : Int) + (1 : Int)))) w' k :=
  TO.step h.t rfl hs (by have := size_bs s; omega) fun w'' t'' k'' => hk w'' (h.text k'' t'' hl)

/-- The answer is handed over. -/
theorem FS.ret {w' : World} {v : NV} {x : Re} {st1 : PS} {K : Array Value → World → Prop} (h : FS w w' bt b1 b2 s v x st1) (hK : ∀ w'', Keeps (· = bt) w w'' → TO w'' bt s st1 → RNd (V (LtV w.heap.size) w'') v x → K v.cells.toArray w'') : LdA 258 ⟨b2, 0, none⟩ w' fun x169 => StA P T.frisketref05_Node ⟨b1, 0, none⟩ x169 w' fun w26 => LdA 258 ⟨b1, 0, none⟩ w26 fun r0 => K r0 w26 := by
  have := h.d1; have := h.d2; have := h.d4; have := h.d3
  exact h.ld (StA.ret h.h1 fun w'' u => hK w'' (h.k.then u.keeps fun i hi e => by omega) (u.keeps.blk h.t (by omega)) (h.n.mono (V.move u.keeps (fun _ _ h => .inr (.inl h)) fun _ _ h => .inl h)))

theorem specialOut_bs : bs ⟨#[124, 42, 43, 63, 40, 41, 91, 93, 46, 92]⟩ = specialOut := rfl
theorem stars_bs : bs ⟨#[42, 43, 63]⟩ = [42, 43, 63] := rfl

/-- What 'factor' has before what stands behind it. -/
structure AR (s : List UInt8) (g : PS → Re × PS) (st : PS) (x : Re) (st' : PS) : Prop where
  szb : x.size ≤ 3000 * (s.length + 1 - st.at_)
  go : st'.bad = false → (st.at_ < st'.at_ ∧ st'.deep = st.deep ∧ x.size + 1 ≤ 1000 * (st'.at_ - st.at_)) ∧ ∃ y, atomF s g st.cl = (y, st'.cl) ∧ y.norm = x.norm
  no : st'.bad = true → (atomF s g st.cl).2.bad = true
  lg : st'.long = true → st.long = true ∨ st'.bad = true ∨ 400 < x.size

theorem factorLoop_stuck {s : List UInt8} {k : Nat} {n : Re} {st : PS} (h : st.bad = true) : factorLoop s k n st = (n, st) := by
  cases k with
  | zero => rfl
  | succ k => unfold factorLoop; simp [h]

theorem ref05_factor_spec {n : Nat} (hor : OrS n) {K : Array Value → World → Prop} (h : TO w bt s st) (hs : Small s) (hb : st.bad = false) (hat : st.at_ < s.size) (hd : st.deep + n = 50)
    (hk : ∀ v x st' w', Keeps (· = bt) w w' → TO w' bt s st' → RNd (V (LtV w.heap.size) w') v x → RR (bs s) (factorF (bs s) (orF (bs s) n)) 0 st x st' → K v.cells.toArray w') : frisketref05_Text_factor.C (some ⟨bt, 0, none⟩) w K := by
  have hsz := size_bs s
  have hbt := lt_of_some h
  refine frisketref05_Text_factor.ok _ _ _ ?_
  simp only [frisketref05_Text_factor.M, NilC_some, add_eq, Nat.zero_add, zero_cells]
  refine Al.mk fun b1 w1 n1 => ?_
  refine App.build build0 ?_
  refine Al.mk fun b2 w2 n2 => ?_
  refine StA.node n2.at_ fun w3 u3 => ?_
  have e1 := n1.eq; have e2 := n2.eq; have s1 := n1.size; have s2 := n2.size
  have k3 : Keeps No w w3 := u3.keeps0 (n1.keeps.trans n2.keeps) (by omega)
  have f3 : FS w w3 bt b1 b2 s ⟨0, noB, nil3⟩ (.set noB) st := ⟨k3.no, u3.keeps.blk (n2.keeps.blk0 n1.at_) (by omega), u3.at_, h.keep k3, .set, by omega, by omega, by omega, by omega, hbt⟩
  have ret : ∀ {w' : World} {v : NV} {x : Re} {st1 : PS}, FS w w' bt b1 b2 s v x st1 → RR (bs s) (factorF (bs s) (orF (bs s) n)) 0 st x st1 →
      LdA 258 ⟨b2, 0, none⟩ w' fun x169 => StA P T.frisketref05_Node ⟨b1, 0, none⟩ x169 w' fun w26 => LdA 258 ⟨b1, 0, none⟩ w26 fun r0 => K r0 w26 :=
    fun {w' v x st1} f r => f.ret fun w'' k t nn => hk v x st1 w'' k t nn r
  refine Join.cut (fun _ w5 => ∃ v x st1, FS w w5 bt b1 b2 s v x st1 ∧ AR (bs s) (orF (bs s) n) st x st1) ?_ ?_
  · rintro _ w5 ⟨v, x, st1, f5, a5⟩
    refine Loop.mkn (fun m _ w' => ∃ v x st1, FS w w' bt b1 b2 s v x st1 ∧ x.size ≤ 3000 * ((bs s).length + 1 - st.at_) ∧ (st1.bad = true ∨ (bs s).length - st1.at_ < m) ∧
      (st1.bad = false → (st.at_ < st1.at_ ∧ st1.deep = st.deep ∧ x.size + 1 ≤ 1000 * (st1.at_ - st.at_)) ∧ ∃ q y, (bs s).length - st1.at_ < q ∧ factorLoop (bs s) q y st1.cl = factorF (bs s) (orF (bs s) n) st.cl ∧ y.norm = x.norm) ∧ (st1.bad = true → (factorF (bs s) (orF (bs s) n) st.cl).2.bad = true) ∧ (st1.long = true → st.long = true ∨ st1.bad = true ∨ 400 < x.size)) ((bs s).length + 1)
      ⟨v, x, st1, f5, a5.szb, .inr (by omega), (fun hb1 => ?_), (fun hb1 => by
        have := a5.no hb1
        simp only [factorF]
        rw [factorLoop_stuck this]; exact this), a5.lg⟩ ?_
    · obtain ⟨g1, y, g2, g3⟩ := a5.go hb1
      refine ⟨g1, (bs s).length + 1, y, by omega, ?_, g3⟩
      simp only [factorF, g2]
    rintro m _ w6 ⟨v, x, st1, f6, hxs, hm, hgo, hbad, hlg⟩ R hR
    refine Join.cut (fun go w7 => FS w w7 bt b1 b2 s v x st1 ∧ (go = true → st1.bad = false ∧ ∃ c, (bs s)[st1.at_]? = some c ∧ c ∈ [42, 43, 63]) ∧ (go = false → st1.bad = false → ∀ c, (bs s)[st1.at_]? = some c → c ∉ [42, 43, 63])) ?_ ?_
    · rintro go w7 ⟨f7, q1, q2⟩
      refine Br.mk (fun hg => ?_) (fun hg => ?_)
      · obtain ⟨hb1, c, hc, hcm⟩ := q1 hg
        obtain ⟨⟨g1, g2, g3⟩, q, y, hq, hF, hy⟩ := hgo hb1
        have hl := lt_of_get hc
        obtain ⟨q', rfl⟩ : ∃ k, q = k + 1 := ⟨q - 1, by omega⟩
        have hys := size_of_norm hy
        -- what comes behind the switch
        refine Join.cut (fun _ w8 => ∃ v' x' y', FS w w8 bt b1 b2 s v' x' st1 ∧ (x'.size ≤ 2 * x.size + 2 ∧ x.size ≤ x'.size) ∧ y'.norm = x'.norm ∧ factorLoop (bs s) (q' + 1) y st1.cl = (if 400 < y'.size then (.empty, { st1.adv.cl with long := true, bad := true }) else factorLoop (bs s) q' y' st1.adv.cl)) ?_ ?_
        · rintro _ w8 ⟨v', x', y', f8, ⟨hx', hx''⟩, hy', hFL⟩
          have hys' := size_of_norm hy'
          refine f8.at_ (f8.step hs hl fun w9 f9 => f9.ld ?_)
          have ha : st1.adv.at_ = st1.at_ + 1 := rfl
          have hxb : x'.size ≤ 3000 * ((bs s).length + 1 - st.at_) := by omega
          unfold Small at hs
          refine ref05_Size_spec x'.size x' (Nat.le_refl _) (by omega) f9.n fun w10 k10 => ?_
          have f10 := f9.keep k10
          refine Br.mk (fun ht => ?_) (fun hf => ?_)
          · refine TO.st (st' := { st1.adv with long := true }) f10.t (by simp) rfl fun w11 t11 k11 => ?_
            refine TO.fail t11 fun w12 t12 k12 => ?_
            exact hR 0 _ w12 (by rcases hm with h | h; (rw [hb1] at h; cases h); omega) ⟨v', x', _, (f10.text k11 t11 f9.le).text k12 t12 f9.le, hxb, .inl rfl, (fun e => by cases e), (fun _ => by
              have h4 : 400 < x'.size := by have := of_decide_eq_true ht; omega
              rw [← hF, hFL, if_pos (by omega)]), fun _ => .inr (.inl rfl)⟩
          · have hf : ¬ 400 < x'.size := by have := of_decide_eq_false hf; omega
            refine hR ((bs s).length - st1.adv.at_ + 1) _ w10 (by rcases hm with h | h; (rw [hb1] at h; cases h); omega) ⟨v', x', _, f10, hxb, .inr (by omega), (fun _ => ⟨⟨by omega, g2, by omega⟩, q', y', by omega, ?_, hy'⟩), (fun e => by have : st1.bad = true := e; rw [hb1] at this; cases this), fun e => ?_⟩
            · rw [← hF, hFL, if_neg (by omega)]
            · rcases hlg e with h | h | h
              · exact .inl h
              · rw [hb1] at h; cases h
              · exact .inr (.inr (by omega))
        · intro j8 hj8
          refine Draw.mk fun w8 e8 k8 => ?_
          have f8 := f7.keep k8
          refine LdS.str (cell_of f8.t rfl) (LdS.int (cell_of f8.t rfl) (getbs hl fun c' hc' => ⟨rfl, ?_⟩))
          rw [hc] at hc'
          cases hc'
          rw [beq_lit (n := 42) 42 rfl, beq_lit (n := 43) 43 rfl]
          have nM : ∀ {wa wb : World} {b : Nat} {o : Obj}, New b o wa wb → Keeps No w8 wa → ¬ FM w.heap.size b1 b2 b := fun {wa wb b o} nb k hm => by
            have := nb.eq; have := k.size; have := lt_of_some f8.h1; have := lt_of_some f8.h2; have := f8.k.size
            rcases hm with h | h | h <;> omega
          have isb := fun b => @isB_cl (bs s) b st1
          have hcb : st1.cl.bad = false := rfl
          refine Br.mk (fun hst => ?_) (fun hst => Br.mk (fun hpl => ?_) (fun hpl => ?_))
          · have hst : c = 42 := of_decide_eq_true hst
            subst hst
            refine f8.ld (App.slice1 fun b9 w9 n9 => App.build (build2 4 (some ⟨b9, 0, none⟩) 1 1) (StA.node (n9.keeps.blk0 f8.h2) fun w10 u10 => ?_))
            have f9 := f8.keep n9.keeps
            refine hj8 () w10 ⟨_, .star x, .star y, f9.node u10 (.star ⟨nM n9 .refl, n9.at_⟩ f9.n), ⟨by simp only [Re.size]; omega, by simp only [Re.size]; omega⟩, by simp [Re.norm, hy], ?_⟩
            conv => lhs; unfold factorLoop
            simp [isb, hc, hcb]
          · have hpl : c = 43 := of_decide_eq_true hpl
            subst hpl
            refine f8.ld (f8.ld (App.slice1 fun b9 w9 n9 => App.build (build2 4 (some ⟨b9, 0, none⟩) 1 1) (App.slice2 (u := ⟨4, noB, ⟨some ⟨b9, 0, none⟩, 1, 1⟩⟩) fun b10 w10 n10 => App.build (build2 2 (some ⟨b10, 0, none⟩) 2 2) (StA.node (n10.keeps.blk0 (n9.keeps.blk0 f8.h2)) fun w11 u11 => ?_))))
            have f9 := f8.keep n9.keeps
            have f10 := f9.keep n10.keeps
            have rs : RNd (V (FM w.heap.size b1 b2) w9) ⟨4, noB, ⟨some ⟨b9, 0, none⟩, 1, 1⟩⟩ (.star x) := .star ⟨nM n9 .refl, n9.at_⟩ f9.n
            refine hj8 () w11 ⟨_, .cat x (.star x), .cat y (.star y), f10.node u11 (.cat ⟨nM n10 n9.keeps, n10.at_⟩ f10.n (rs.mono (V.keeps0 n10.keeps))), ⟨by simp only [Re.size]; omega, by simp only [Re.size]; omega⟩, by simp [Re.norm, hy], ?_⟩
            conv => lhs; unfold factorLoop
            simp [isb, hc, hcb]
          · have h42 : ¬ c = 42 := of_decide_eq_false hst
            have h43 : ¬ c = 43 := of_decide_eq_false hpl
            have hq : c = 63 := by simp at hcm; rcases hcm with h | h | h; exact absurd h h42; exact absurd h h43; exact h
            subst hq
            refine f8.ld (App.build (build1 1) (App.slice2 (u := ⟨1, noB, nil3⟩) fun b10 w10 n10 => App.build (build2 3 (some ⟨b10, 0, none⟩) 2 2) (StA.node (n10.keeps.blk0 f8.h2) fun w11 u11 => ?_)))
            have f10 := f8.keep n10.keeps
            refine hj8 () w11 ⟨_, .or x .empty, .or y .empty, f10.node u11 (.or ⟨nM n10 .refl, n10.at_⟩ f10.n .empty), ⟨by simp only [Re.size]; omega, by simp only [Re.size]; omega⟩, by simp [Re.norm, hy], ?_⟩
            conv => lhs; unfold factorLoop
            simp [isb, hc, hcb]
      · -- the end
        refine ret f7 ⟨f7.le, hxs, (fun hb1 => ?_), hbad, hlg⟩
        obtain ⟨⟨g1, g2, g3⟩, q, y, hq, hF, hy⟩ := hgo hb1
        refine ⟨⟨by omega, g2, by omega⟩, y, ?_, hy⟩
        rw [← hF]
        obtain ⟨q', rfl⟩ : ∃ k, q = k + 1 := ⟨q - 1, by omega⟩
        have hno := q2 hg hb1
        have isb := fun b => @isB_cl (bs s) b st1
        have n42 : ¬ (bs s)[st1.at_]? = some 42 := fun e => hno _ e (by simp)
        have n43 : ¬ (bs s)[st1.at_]? = some 43 := fun e => hno _ e (by simp)
        have n63 : ¬ (bs s)[st1.at_]? = some 63 := fun e => hno _ e (by simp)
        unfold factorLoop
        simp only [isb, n42, n43, n63, if_false, decide_false, Bool.false_eq_true]
        simp [PS.cl]
    · intro j10 hj10
      refine Draw.mk fun w7 e7 k7 => ?_
      have f7 := f6.keep k7
      refine LdS.bool (cell_of f7.t rfl) (Br.mk (fun hbb => ?_) (fun hbb => hj10 _ _ ⟨f7, (fun e => by cases e), fun _ hb1 => by rw [hb1] at hbb; cases hbb⟩))
      have hb1 : st1.bad = false := by simpa using hbb
      refine LdS.int (cell_of f7.t rfl) (LdS.str (cell_of f7.t rfl) (Br.mk (fun ht => ?_) (fun hf => ?_)))
      · have hl : st1.at_ < (bs s).length := by have ht : (st1.at_ : Int) < (s.size : Int) := of_decide_eq_true ht; omega
        refine LdS.str (cell_of f7.t rfl) (LdS.int (cell_of f7.t rfl) (getbs hl fun c hc => ⟨rfl, ?_⟩))
        refine ref05_in_spec rfl (by unfold Small; decide) ⟨rfl, ?_⟩
        rw [stars_bs]
        exact hj10 _ _ ⟨f7, fun e => ⟨hb1, c, hc, of_decide_eq_true e⟩, fun e _ c' hc' => by rw [hc] at hc'; cases hc'; exact of_decide_eq_false e⟩
      · have hf : ¬ (st1.at_ : Int) < (s.size : Int) := of_decide_eq_false hf
        refine hj10 _ _ ⟨f7, (fun e => by cases e), fun _ _ c hc => ?_⟩
        have := lt_of_get hc
        omega
  · intro j12 hj12
    have isb := fun b => @isB_cl (bs s) b st
    have hcb : st.cl.bad = false := rfl
    refine ref05_sees_spec (b := 40) f3.t rfl fun w4 hh4 k4 => ?_
    have f4 := f3.keep k4
    refine Br.mk (fun h40 => ?_) (fun h40 => ?_)
    · have h40 : (bs s)[st.at_]? = some 40 := of_decide_eq_true h40
      have hl := lt_of_get h40
      have ha : st.adv.at_ = st.at_ + 1 := rfl
      refine f4.at_ (f4.step hs hl fun w5 f5 => Ld.int (i := st.deep) (cell_of f5.t rfl) ?_)
      rw [w64_eq (by omega)]
      refine TO.st (st' := { st.adv with deep := st.deep + 1 }) f5.t (by simp) rfl fun w6 t6 k6 => ?_
      have f6 := f5.text k6 t6 f5.le
      refine Ld.int (i := ((st.deep + 1 : Nat) : Int)) (cell_of f6.t rfl) ?_
      refine Br.mk (fun hdp => ?_) (fun hdp => ?_)
      · refine TO.st (st' := { st.adv with deep := st.deep + 1, long := true }) f6.t (by simp) rfl fun w7 t7 k7 => TO.fail t7 fun w8 t8 k8 => ?_
        refine ret ((f6.text k7 t7 f6.le).text k8 t8 f6.le) ⟨f6.le, by simp only [Re.size]; omega, (fun e => by cases e), (fun _ => ?_), fun _ => .inr (.inl rfl)⟩
        have hdp : 50 < st.adv.cl.deep + 1 := by have : (50 : Int) < ((st.deep + 1 : Nat) : Int) := of_decide_eq_true hdp; show 50 < st.deep + 1; omega
        have hat : (atomF (bs s) (orF (bs s) n) st.cl).2.bad = true := by
          unfold atomF
          simp only [isb, h40, decide_true, if_true]
          rw [if_pos hdp]
        simp only [factorF]
        rw [factorLoop_stuck hat]; exact hat
      · have hdp : ¬ (50 : Int) < ((st.deep + 1 : Nat) : Int) := of_decide_eq_false hdp
        have hd1 : ¬ 50 < st.deep + 1 := by omega
        refine hor f6.t hs hb (by show st.at_ + 1 ≤ _; omega) (by show st.deep + 1 ≤ 50; omega) (by show st.deep + 1 + n = 51; omega) fun v x st2 w7 k7 t7 r7 rr => ?_
        have hle := rr.le
        have hszb : x.size ≤ 3000 * ((bs s).length + 1 - st.at_) := by
          have := rr.szb
          have : 3000 * ((bs s).length + 1 - (st.at_ + 1)) ≤ 3000 * ((bs s).length + 1 - st.at_) := Nat.mul_le_mul_left _ (by omega)
          have h9 : x.size ≤ 3000 * ((bs s).length + 1 - (st.at_ + 1)) := rr.szb
          omega
        have f7 := f6.text k7 t7 rr.le
        refine StA.node f7.h2 fun w8 u8 => ?_
        have f8 : FS w w8 bt b1 b2 s v x st2 := f7.node u8 (r7.mono (V.sub fun b hb hm => by
          have h1 := lt_of_some f6.h1; have h2 := lt_of_some f6.h2; have := f6.k.size
          show b < _
          rcases hm with h | h | h <;> omega))
        refine f8.bad (Br.mk (fun hb2 => ?_) (fun hb2 => ?_))
        · refine ret f8 ⟨rr.le, hszb, (fun e => by rw [hb2] at e; cases e), (fun _ => ?_), fun _ => .inr (.inl hb2)⟩
          have hno := rr.no hb2
          have hat : (atomF (bs s) (orF (bs s) n) st.cl).2.bad = true := by
            unfold atomF
            simp only [isb, h40, decide_true, if_true]
            have e2 : ¬ 50 < st.adv.cl.deep + 1 := hd1
            have e3 : ({ st.adv.cl with deep := st.adv.cl.deep + 1 } : PS) = PS.cl { st.adv with deep := st.deep + 1 } := rfl
            rw [if_neg e2, e3, if_pos hno]
            exact hno
          simp only [factorF]
          rw [factorLoop_stuck hat]; exact hat
        · obtain ⟨⟨g1, g2, g3⟩, y, g4, g5⟩ := rr.go hb2
          have g1' : st.at_ + 1 ≤ st2.at_ := by have : st.at_ + 1 + 1 ≤ st2.at_ + 1 := g1; omega
          have g2' : st2.deep = st.deep + 1 := g2
          have g3' : x.size + 1 ≤ 1000 * (st2.at_ - (st.at_ + 1)) + 2 := g3
          have isb2 := fun b => @isB_cl (bs s) b st2
          refine ref05_sees_spec (b := 41) f8.t rfl fun w9 hh9 k9 => ?_
          have f9 := f8.keep k9
          refine Br.mk (fun h41 => ?_) (fun h41 => ?_)
          · refine TO.fail f9.t fun w10 t10 k10 => ?_
            refine ret (f9.text k10 t10 f9.le) ⟨f9.le, hszb, (fun e => by cases e), (fun _ => ?_), fun _ => .inr (.inl rfl)⟩
            have h41 : ¬ (bs s)[st2.at_]? = some 41 := by simpa using h41
            have hat : (atomF (bs s) (orF (bs s) n) st.cl).2.bad = true := by
              unfold atomF
              simp only [isb, h40, decide_true, if_true]
              have e2 : ¬ 50 < st.adv.cl.deep + 1 := hd1
              have e3 : ({ st.adv.cl with deep := st.adv.cl.deep + 1 } : PS) = PS.cl { st.adv with deep := st.deep + 1 } := rfl
              rw [if_neg e2, e3, g4]
              have e4 : st2.cl.bad = false := rfl
              simp only [e4, Bool.false_eq_true, if_false, isb2, h41, decide_false]
              rfl
            simp only [factorF]
            rw [factorLoop_stuck hat]; exact hat
          · have h41 : (bs s)[st2.at_]? = some 41 := by simpa using h41
            have hl2 := lt_of_get h41
            refine f9.at_ (f9.step hs hl2 fun w10 f10 => Ld.int (i := st2.deep) (cell_of f10.t rfl) ?_)
            rw [w64_eq (by omega)]
            refine TO.st (st' := { st2.adv with deep := st2.deep - 1 }) f10.t (by simp) ?_ fun w11 t11 k11 => ?_
            · have : ((st2.deep : Int) - 1) = ((st2.deep - 1 : Nat) : Int) := by omega
              simp only [tobj, this]; rfl
            · refine hj12 () w11 ⟨v, x, _, f10.text k11 t11 f10.le, hszb, (fun _ => ⟨⟨?_, ?_, ?_⟩, y, ?_, g5⟩), (fun e => by have : st2.bad = true := e; rw [hb2] at this; cases this), fun e => ?_⟩
              · show st.at_ < st2.at_ + 1; omega
              · show st2.deep - 1 = st.deep; omega
              · show x.size + 1 ≤ 1000 * (st2.at_ + 1 - st.at_); omega
              · have e1 : (⟨st.at_ + 1, false, false, st.deep + 1⟩ : PS) = PS.cl { st.adv with deep := st.deep + 1 } := rfl
                unfold atomF
                simp only [isb, h40, decide_true, if_true]
                have e2 : ¬ 50 < st.adv.cl.deep + 1 := hd1
                have e3 : ({ st.adv.cl with deep := st.adv.cl.deep + 1 } : PS) = PS.cl { st.adv with deep := st.deep + 1 } := rfl
                rw [if_neg e2, e3, g4]
                have e4 : st2.cl.bad = false := rfl
                simp only [e4, Bool.false_eq_true, if_false, isb2, h41, decide_true, if_true]
                rfl
              · rcases rr.lg e with h | h | h
                · exact .inl h
                · rw [hb2] at h; cases h
                · exact .inr (.inr h)
    · have h40 : ¬ (bs s)[st.at_]? = some 40 := of_decide_eq_false h40
      refine ref05_sees_spec (b := 46) f4.t rfl fun w5 hh5 k5 => ?_
      have f5 := f4.keep k5
      have small : ∀ (B : Nat → Bool), (Re.set B).size ≤ 3000 * ((bs s).length + 1 - st.at_) := fun B => by simp only [Re.size]; omega
      refine Br.mk (fun h46 => ?_) (fun h46 => ?_)
      · have h46 : (bs s)[st.at_]? = some 46 := of_decide_eq_true h46
        have hl := lt_of_get h46
        refine f5.at_ (f5.step hs hl fun w6 f6 => ?_)
        refine Loop.mk (fun i w' => (0 ≤ i ∧ i ≤ 256) ∧ ∃ B, FS w w' bt b1 b2 s ⟨0, B, nil3⟩ (.set B) st.adv ∧ ∀ q : Nat, (q : Int) < i → B q = !(q == 10)) (fun i => 256 - i.toNat) ⟨⟨by omega, by omega⟩, noB, f6, fun q hq => by omega⟩ ?_
        rintro i w7 ⟨hi, B, f7, hB⟩ R hR
        refine Br.mk (fun ht => ?_) (fun hf => ?_)
        · have ht := of_decide_eq_true ht
          refine IdxA.stB f7.h2 hi.1 ht fun w8 u8 => ?_
          rw [w64_eq (by omega)]
          refine hR _ w8 ⟨⟨by omega, by omega⟩, _, f7.node u8 .set, fun q hq => ?_⟩ (by omega)
          dsimp only
          by_cases e : q = i.toNat
          · rw [if_pos e]
            subst e
            by_cases e10 : i = 10
            · subst e10; rfl
            · have h1 : (i != 10) = true := by simpa using e10
              have h2 : (i.toNat == 10) = false := by simp; omega
              rw [h1, h2]; rfl
          · rw [if_neg e, hB q (by omega)]
        · have hf := of_decide_eq_false hf
          refine hj12 () w7 ⟨_, .set B, st.adv, f7, small B, fun _ => ⟨⟨by show st.at_ < st.at_ + 1; omega, rfl, by show 1 + 1 ≤ 1000 * (st.at_ + 1 - st.at_); omega⟩, .set (fun i => !(i == 10)), ?_, norm_set fun q hq => (hB q (by omega)).symm⟩, (fun e => by have : st.bad = true := e; rw [hb] at this; cases this), fun e => .inl e⟩
          unfold atomF
          simp [isb, h40, h46]
      · have h46 : ¬ (bs s)[st.at_]? = some 46 := of_decide_eq_false h46
        refine ref05_sees_spec (b := 91) f5.t rfl fun w6 hh6 k6 => ?_
        have f6 := f5.keep k6
        refine Br.mk (fun h91 => ?_) (fun h91 => ?_)
        · have h91 : (bs s)[st.at_]? = some 91 := of_decide_eq_true h91
          have hl := lt_of_get h91
          refine f6.at_ (f6.step hs hl fun w7 f7 => ?_)
          refine ref05_class_spec f7.t hs hb (by show st.at_ + 1 ≤ _; omega) fun B st2 w8 k8 t8 c8 => ?_
          have f8 := f7.text k8 t8 c8.le
          refine StA.node f8.h2 fun w9 u9 => hj12 () w9 ⟨_, .set B, st2, f8.node u9 .set, small B, (fun hb2 => ?_), (fun hb2 => ?_), fun e => .inl (by have : st2.long = st.long := c8.long; rw [← this]; exact e)⟩
          rotate_left
          · have hno := c8.no hb2
            have i40 : isB (bs s) 40 st.cl = (false, st.cl) := by rw [isb, if_neg h40, decide_eq_false h40]
            have i46 : isB (bs s) 46 st.cl = (false, st.cl) := by rw [isb, if_neg h46, decide_eq_false h46]
            have i91 : isB (bs s) 91 st.cl = (true, st.adv.cl) := by rw [isb, if_pos h91, decide_eq_true h91]
            unfold atomF
            simp only [i40, i46, i91, if_true, Bool.false_eq_true, if_false]
            have e1 : st.adv.cl = st.adv.wl false := cl_wl hb
            rw [e1, classF_wl]
            exact hno
          obtain ⟨f, hcf, hfB⟩ := c8.ok hb2
          have hlex := classF_lex (bs s) st.adv
          rw [hcf] at hlex
          have hgt : st.at_ + 1 < st2.at_ := (hlex.go hb2).2
          have h2l : st2.long = st.long := c8.long
          have h2d : st2.deep = st.deep := c8.deep
          refine ⟨⟨by omega, h2d, by simp only [Re.size]; omega⟩, .set f, ?_, norm_set hfB⟩
          have i40 : isB (bs s) 40 st.cl = (false, st.cl) := by rw [isb, if_neg h40, decide_eq_false h40]
          have i46 : isB (bs s) 46 st.cl = (false, st.cl) := by rw [isb, if_neg h46, decide_eq_false h46]
          have i91 : isB (bs s) 91 st.cl = (true, st.adv.cl) := by rw [isb, if_pos h91, decide_eq_true h91]
          unfold atomF
          simp only [i40, i46, i91, if_true, Bool.false_eq_true, if_false]
          have e1 : st.adv.cl = st.adv.wl false := cl_wl hb
          rw [e1, classF_wl, hcf, cl_wl hb2]
        · have h91 : ¬ (bs s)[st.at_]? = some 91 := of_decide_eq_false h91
          refine ref05_letter_spec f6.t hs (by unfold Small; decide) hb (by omega) fun r st2 w7 k7 t7 l7 => ?_
          rw [specialOut_bs] at l7
          have f7 := f6.text k7 t7 l7.le
          refine IdxA.stB f7.h2 l7.rng.1 l7.rng.2 fun w8 u8 => hj12 () w8 ⟨_, .set (fun j => if j = r.toNat then true else noB j), st2, f7.node u8 .set, small _, (fun hb2 => ?_), (fun hb2 => ?_), fun e => .inl (by rw [← l7.long]; exact e)⟩
          rotate_left
          · have hno := l7.no hb2
            unfold atomF
            simp only [isb, h40, h46, h91, decide_false, if_false, Bool.false_eq_true]
            rw [cl_wl hb, letterF_wl]
            exact hno
          have hL := l7.ok hb2
          have hlex := letterF_lex (bs s) specialOut st
          rw [hL] at hlex
          have hgt : st.at_ < st2.at_ := (hlex.go hb2).2
          refine ⟨⟨hgt, l7.deep, by simp only [Re.size]; omega⟩, .set (fun i => i == r.toNat), ?_, norm_set fun q hq => ?_⟩
          · unfold atomF
            simp only [isb, h40, h46, h91, decide_false, if_false, Bool.false_eq_true]
            rw [cl_wl hb, letterF_wl, hL, cl_wl hb2]
          · by_cases e : q = r.toNat
            · subst e; simp
            · simp [e, noB]
end
end Go.Fk
end

section
set_option linter.unusedVariables false
set_option linter.unusedSimpArgs false
namespace Go.Fk
open Go

/-- A list of nodes that is gathered. -/
structure GathN (w : World) (base : Nat) (l : Sl) (vs : List NV) (xs : List Re) : Prop where
  own : Own w base T.frisketref05_Node 258 l (vs.map NV.cells).flatten
  nds : All2 (RNd (V (fun b => b < base ∨ l.blk b) w)) vs xs

theorem cellsN_len {vs : List NV} : ∀ c ∈ vs.map NV.cells, c.length = 258 := fun c hc => by obtain ⟨v, _, rfl⟩ := List.mem_map.1 hc; exact v.len

theorem GathN.n {w : World} {base : Nat} {l : Sl} {vs : List NV} {xs : List Re} (h : GathN w base l vs xs) : l.n = vs.length := by
  have := h.own.len
  rw [flatten_len cellsN_len, List.length_map] at this
  omega
theorem GathN.keep {w w' : World} {base : Nat} {l : Sl} {vs : List NV} {xs : List Re} {N : Nat → Prop} (h : GathN w base l vs xs) (hk : Keeps N w w') (hN : ∀ b, b < w.heap.size → N b → b < base) : GathN w' base l vs xs := by
  refine ⟨?_, h.nds.mono fun _ _ x => x.mono (V.move hk (fun b hb hn => .inl (hN b hb hn)) fun _ _ h => h)⟩
  refine ⟨h.own.1, ?_⟩
  rcases h.own.2 with h2 | ⟨g, cap, cur, hv, hge, hg, h3⟩
  · exact .inl h2
  · exact .inr ⟨g, cap, cur, hv, hge, hk.blk hg (fun hm => by have := hN g (lt_of_some hg) hm; omega), h3⟩
theorem GathN.nil {w : World} : GathN w w.heap.size ⟨none, 0, 0⟩ [] [] := ⟨by simpa using Own.nil _ _ _ _, .nil⟩
theorem GathN.add {w : World} {base : Nat} {l : Sl} {vs : List NV} {xs : List Re} {v : NV} {x : Re} {k : Sl → World → Prop} (h : GathN w base l vs xs) (hb : base ≤ w.heap.size) (hlen : vs.length < 100000000000)
    (hN : RNd (V (fun b => b < base ∨ l.blk b) w) v x)
    (hk : ∀ l' w', GathN w' base l' (vs ++ [v]) (xs ++ [x]) → Keeps (fun b => base ≤ b) w w' → k l' w') :
    App P (Instr.buildSlice T.sl_frisketref05_Node 1 #[(0, .agg v.cells.toArray)]) (.one .sl) w fun x36 w6 => App P (Builtin.append_ #[T.sl_frisketref05_Node, T.sl_frisketref05_Node] T.sl_frisketref05_Node #[.slice l.a l.n l.c, .slice x36.a x36.n x36.c]) (.one .sl) w6 k := by
  have hn := h.n
  refine App.slice1 fun b w1 n1 => ?_
  have hv1 : Vle (V (fun b => b < base ∨ l.blk b) w) (V (fun b => b < base ∨ l.blk b) w1) := V.keeps0 n1.keeps
  have o1 := h.own.keep0 n1.keeps
  have s1 := n1.size
  refine appendC (c := v.cells) elNode o1 v.len n1.at_ v.one (by omega) (by omega) (by omega) fun l' w' h1 h2 h3 h4 => ?_
  have hv : Vle (V (fun b => b < base ∨ l.blk b) w1) (V (fun b => b < base ∨ l'.blk b) w') := V.move h3 (fun b _ hb => .inr hb) fun b hlt hb => by
    rcases hb with hb | ⟨a, ha, rfl⟩
    · exact .inl hb
    · obtain ⟨g, hg, hc⟩ := h4
      rw [hg] at ha; simp at ha; subst ha
      rcases hc with hc | hc
      · exact .inr hc
      · dsimp only at hlt; omega
  refine hk l' w' ⟨by simpa using h1, (h.nds.append (.cons hN .nil)).mono fun _ _ x => x.mono (hv1.trans hv)⟩ ((n1.keeps.no (M := fun b => base ≤ b)).trans (h3.mono fun b _ hb => (o1.ge hb).1))
theorem GathN.reads {w : World} {base : Nat} {l : Sl} {vs : List NV} {xs : List Re} (h : GathN w base l vs xs) : SlC (V (LtV base) w) l 258 (vs.map NV.cells) ∧ All2 (RNd (V (LtV base) w)) vs xs :=
  ⟨Own.readsC h.own (by omega) cellsN_len fun b hb hlt => by have := (h.own.ge hb).1; have : b < base := hlt; omega, h.nds.mono fun _ _ x => x.mono (V.sub fun _ _ h => .inl h)⟩

theorem twoOf_norm {f : Re → Re → Re} (hf : ∀ a b, (f a b).norm = f a.norm b.norm) {e e' : Re} : ∀ {ys xs : List Re}, ys.map Re.norm = xs.map Re.norm → (e.norm = e'.norm ∨ xs ≠ []) → (twoOf f e ys).norm = (twoOf f e' xs).norm
  | [], [], _, h => by rcases h with h | h; exact h; exact absurd rfl h
  | [], _ :: _, h, _ => by simp at h
  | _ :: _, [], h, _ => by simp at h
  | [y], [x], h, _ => by simpa [twoOf] using h
  | [y], x :: x2 :: xs, h, _ => by simp at h
  | y :: y2 :: ys, [x], h, _ => by simp at h
  | y :: y2 :: ys, x :: x2 :: xs, h, _ => by
    simp only [List.map_cons, List.cons.injEq] at h
    have ih := twoOf_norm hf (e := e) (e' := e') (ys := y2 :: ys) (xs := x2 :: xs) (by simp [h.2.1, h.2.2]) (.inr (by simp))
    show (f y (twoOf f e (y2 :: ys))).norm = (f x (twoOf f e' (x2 :: xs))).norm
    rw [hf, hf, h.1, ih]

def tot (xs : List Re) : Nat := (xs.map Re.size).sum + xs.length
theorem tot_snoc (xs : List Re) (x : Re) : tot (xs ++ [x]) = tot xs + x.size + 1 := by simp [tot]; omega
theorem tot_len (xs : List Re) : xs.length ≤ tot xs := by unfold tot; omega

theorem catLoop_step {s : List UInt8} {g : PS → Re × PS} {m : Nat} {ys : List Re} {st : PS} {c : UInt8} (hb : st.bad = false) (hc : s[st.at_]? = some c) (h1 : c ≠ 124) (h2 : c ≠ 41) :
    catLoop s g (m + 1) ys st = catLoop s g m (ys ++ [(factorF s g st).1]) (factorF s g st).2 := by
  conv => lhs; unfold catLoop
  simp [hb, hc, h1, h2]
theorem catLoop_end {s : List UInt8} {g : PS → Re × PS} {m : Nat} {ys : List Re} {st : PS} (hb : st.bad = false) (h : ∀ c, s[st.at_]? = some c → c = 124 ∨ c = 41) : catLoop s g m ys st = (ys, st) := by
  cases m with
  | zero => rfl
  | succ m =>
    unfold catLoop
    rw [hb]
    cases hc : s[st.at_]? with
    | none => simp
    | some c => simp [h c hc]

theorem catLoop_stuck {s : List UInt8} {g : PS → Re × PS} {m : Nat} {ys : List Re} {st : PS} (h : st.bad = true) : catLoop s g m ys st = (ys, st) := by
  cases m with
  | zero => rfl
  | succ m => unfold catLoop; simp [h]
theorem orLoop_stuck {s : List UInt8} {g : PS → Re × PS} {m : Nat} {ys : List Re} {st : PS} (h : st.bad = true) : orLoop s g m ys st = (ys, st) := by
  cases m with
  | zero => rfl
  | succ m => unfold orLoop; simp [h]
theorem tot_mem {xs : List Re} {z : Re} (h : z ∈ xs) : z.size + 1 ≤ tot xs := by
  induction xs with
  | nil => simp at h
  | cons y xs ih =>
    unfold tot at *
    simp only [List.map_cons, List.sum_cons, List.length_cons]
    rcases List.mem_cons.1 h with rfl | h
    · omega
    · have := ih h; omega

theorem ref05_or_spec : ∀ n, OrS n := by
  intro n
  induction n with
  | zero => intro w bt s st K h hs hb hat hd hd2; omega
  | succ n hor =>
    intro w bt s st K h hs hb hat hd hd2 hk
    have hsz := size_bs s
    have hbt := lt_of_some h
    have hsm := hs; unfold Small at hsm
    refine frisketref05_Text_or.ok _ _ _ ?_
    simp only [frisketref05_Text_or.M, NilC_some, add_eq, Nat.zero_add, zero_cells]
    refine Al.mk fun b1 w1 n1 => ?_
    have e1 := n1.eq; have s1 := n1.size
    -- the plain parser's last word
    let g := orF (bs s) n
    let fin := orLoop (bs s) g ((bs s).length + 1) [(catF (bs s) g st.cl).1] (catF (bs s) g st.cl).2
    have hfin : orF (bs s) (n + 1) st.cl = (twoOf .or noBytes fin.1, fin.2) := rfl
    refine Loop.mkn (fun m all w' => ∃ vs xs st2, Keeps (· = bt) w w' ∧ w'.heap[b1]? = some (nodeObj ⟨0, noB, nil3⟩) ∧ TO w' bt s st2 ∧ GathN w' w1.heap.size all vs xs ∧ st2.bad = false ∧ st2.at_ ≤ (bs s).length ∧ st2.deep = st.deep ∧ st.at_ ≤ st2.at_ ∧ (bs s).length - st2.at_ < m ∧
      tot xs ≤ 1000 * (st2.at_ - st.at_) ∧ w1.heap.size ≤ w'.heap.size ∧ ∃ q ys, (bs s).length - st2.at_ < q ∧ ys.map Re.norm = xs.map Re.norm ∧ orLoop (bs s) g q (ys ++ [(catF (bs s) g st2.cl).1]) (catF (bs s) g st2.cl).2 = fin ∧ (st2.long = true → st.long = true ∨ ∃ z ∈ xs, 400 < z.size))
      ((bs s).length + 1) ⟨[], [], st, n1.keeps.no, n1.at_, h.keep n1.keeps, GathN.nil, hb, by omega, rfl, by omega, by omega, by simp [tot], by omega, (bs s).length + 1, [], by omega, rfl, rfl, fun e => .inl e⟩ ?_
    rintro m all w2 ⟨vs, xs, st2, k2, hb2, t2, ga2, hbd2, hle2, hdp2, hat2, hm, htot2, hsz2, q, ys, hq, hys, hF, hlg2⟩ R hR
    -- the inner loop
    refine Loop.mkn (fun m l w' => ∃ ls zs st3, Keeps (· = bt) w2 w' ∧ TO w' bt s st3 ∧ GathN w' w2.heap.size l ls zs ∧ st3.at_ ≤ (bs s).length ∧ (st3.bad = true ∨ (bs s).length - st3.at_ < m) ∧ w2.heap.size ≤ w'.heap.size ∧
        tot zs ≤ 3000 * ((bs s).length + 1 - st2.at_) + 1 ∧ (st3.bad = false → st2.at_ ≤ st3.at_ ∧ st3.deep = st.deep ∧ tot zs ≤ 1000 * (st3.at_ - st2.at_) ∧ ∃ p us, (bs s).length - st3.at_ < p ∧ us.map Re.norm = zs.map Re.norm ∧ catLoop (bs s) g p us st3.cl = catLoop (bs s) g ((bs s).length + 1) [] st2.cl) ∧ (st3.bad = true → (catLoop (bs s) g ((bs s).length + 1) [] st2.cl).2.bad = true) ∧ (st3.long = true → st.long = true ∨ st3.bad = true ∨ (∃ z ∈ xs, 400 < z.size) ∨ ∃ z ∈ zs, 400 < z.size))
      ((bs s).length + 1) ⟨[], [], st2, .refl, t2, GathN.nil, hle2, .inr (by omega), by omega, by simp [tot], (fun _ => ⟨by omega, hdp2, by simp [tot], (bs s).length + 1, [], by omega, rfl, rfl⟩), (fun e => by rw [hbd2] at e; cases e), fun e => (hlg2 e).imp id fun h => .inr (.inl h)⟩ ?_
    rintro m' l w3 ⟨ls, zs, st3, k3, t3, ga3, hle3, hm3, hsz3, htot3, hgo3, hbad3, hlg3⟩ R3 hR3
    refine Join.cut (fun go w4 => (Keeps (· = bt) w2 w4 ∧ TO w4 bt s st3 ∧ GathN w4 w2.heap.size l ls zs ∧ w2.heap.size ≤ w4.heap.size) ∧ (go = true → st3.bad = false ∧ ∃ c, (bs s)[st3.at_]? = some c ∧ c ≠ 124 ∧ c ≠ 41) ∧ (go = false → st3.bad = false → ∀ c, (bs s)[st3.at_]? = some c → c = 124 ∨ c = 41)) ?_ ?_
    · rintro go w4 ⟨⟨k4, t4, ga4, hsz4⟩, q1, q2⟩
      refine Br.mk (fun hg => ?_) (fun hg => ?_)
      · -- one factor
        obtain ⟨hb3, c, hc, c1, c2⟩ := q1 hg
        obtain ⟨g1, g2, g3, p, us, hp, hus, hcl⟩ := hgo3 hb3
        have hl := lt_of_get hc
        refine ref05_factor_spec hor t4 hs hb3 (by omega) (by omega) fun v x st4 w5 k5 t5 r5 rr => ?_
        have hlen : ls.length = zs.length := ga4.nds.length
        have htl := tot_len zs
        have ga5 : GathN w5 w2.heap.size l ls zs := ga4.keep k5 fun b _ e => by have := lt_of_some t2; omega
        have s5 := k5.size
        refine ga5.add (by omega) (by omega) (r5.mono (V.sub fun b hb hm => by
          show b < _
          rcases hm with h | h
          · omega
          · exact (ga4.own.ge h).2)) fun l' w6 ga6 k6 => ?_
        have hbt2 := lt_of_some t2
        have k46 : Keeps (· = bt) w2 w6 := (k4.trans k5).then k6 fun i hi e => by omega
        have hx1 := rr.szb
        have hle4 := rr.le
        refine hR3 (if st4.bad then 0 else (bs s).length - st4.at_ + 1) l' w6 ?_ ⟨ls ++ [v], zs ++ [x], st4, k46, k6.blk t5 (by omega), ga6, hle4, ?_, by have := k6.size; omega, ?_, (fun hb4 => ?_), (fun hb4 => ?_), fun e => ?_⟩
        · cases hb4 : st4.bad with
          | true =>
            simp only [if_true]
            rcases hm3 with h | h
            · rw [hb3] at h; cases h
            · omega
          | false =>
            have := (rr.go hb4).1.1
            simp only [Bool.false_eq_true, if_false]
            rcases hm3 with h | h
            · rw [hb3] at h; cases h
            · omega
        · cases hb4 : st4.bad with
          | true => exact .inl rfl
          | false => simp only [Bool.false_eq_true, if_false]; exact .inr (by omega)
        · rw [tot_snoc]
          have h8 : 1000 * (st3.at_ - st2.at_) + 3000 * ((bs s).length + 1 - st3.at_) ≤ 3000 * ((bs s).length + 1 - st2.at_) := by omega
          omega
        · obtain ⟨⟨r1, r2, r3⟩, y, r4, r6⟩ := rr.go hb4
          obtain ⟨p', rfl⟩ : ∃ k, p = k + 1 := ⟨p - 1, by omega⟩
          refine ⟨by omega, by omega, ?_, p', us ++ [y], by omega, by simp [hus, r6], ?_⟩
          · rw [tot_snoc]; omega
          · rw [← hcl, catLoop_step (st := st3.cl) rfl hc c1 c2]
            show _ = catLoop (bs s) g p' (us ++ [(factorF (bs s) (orF (bs s) n) st3.cl).1]) (factorF (bs s) (orF (bs s) n) st3.cl).2
            rw [r4]
        · have hno := rr.no hb4
          obtain ⟨p', rfl⟩ : ∃ k, p = k + 1 := ⟨p - 1, by omega⟩
          rw [← hcl, catLoop_step (st := st3.cl) rfl hc c1 c2, catLoop_stuck hno]
          exact hno
        · rcases rr.lg e with h | h | h
          · rcases hlg3 h with h | h | h | ⟨z, hz, h⟩
            · exact .inl h
            · rw [hb3] at h; cases h
            · exact .inr (.inr (.inl h))
            · exact .inr (.inr (.inr ⟨z, by simp [hz], h⟩))
          · exact .inr (.inl h)
          · exact .inr (.inr (.inr ⟨x, by simp, h⟩))
      · -- a sequence is whole
        have hlen : ls.length = zs.length := ga4.nds.length
        have htl := tot_len zs
        have hbt2 := lt_of_some t2
        obtain ⟨rd1, rd2⟩ := ga4.reads
        refine ref05_pair_spec (.inl ⟨rfl, rfl⟩) ls (M := LtV w2.heap.size) (fun b hb => by have : b < w2.heap.size := hb; omega) rd1 ga4.own.cap rd2 (by omega) fun v w5 k5 hv => ?_
        have s5 := k5.size
        -- what is known of it
        have hcat : st3.bad = false → ∃ y, catF (bs s) g st2.cl = (y, st3.cl) ∧ y.norm = (twoOf .cat .empty zs).norm := fun hb3 => by
          obtain ⟨g1, g2, g3, p, us, hp, hus, hcl⟩ := hgo3 hb3
          rw [catLoop_end (st := st3.cl) rfl (q2 hg hb3)] at hcl
          refine ⟨twoOf .cat .empty us, ?_, twoOf_norm (f := .cat) (fun _ _ => rfl) hus (.inl rfl)⟩
          unfold catF
          rw [← hcl]
        have hcsz : (twoOf .cat .empty zs).size + 1 ≤ tot zs + 2 ∧ (zs ≠ [] → (twoOf .cat .empty zs).size + 1 = tot zs) := by
          by_cases hz : zs = []
          · subst hz; simp [twoOf, Re.size, tot]
          · have := twoOf_size (f := .cat) (x := .empty) (fun _ _ => rfl) zs hz
            refine ⟨by unfold tot; omega, fun _ => by unfold tot; omega⟩
        have hcb : (twoOf .cat .empty zs).size ≤ 3000 * ((bs s).length + 1 - st2.at_) := by
          by_cases hz : zs = []
          · subst hz; simp [twoOf, Re.size]; omega
          · have := hcsz.2 hz; omega
        -- it is put behind the others
        have ga5 : GathN w5 w1.heap.size all vs xs := (ga2.keep k4 fun b hb e => by omega).keep k5 fun b _ e => e.elim
        have hlen2 : vs.length = xs.length := ga2.nds.length
        have htl2 := tot_len xs
        refine ga5.add (by omega) (by omega) (hv.mono (V.sub fun b hb hm => by
          show b < _
          rcases hm with h | h
          · omega
          · exact (ga2.own.ge h).2)) fun all' w6 ga6 k6 => ?_
        have k26 : Keeps (fun b => b = bt ∨ w1.heap.size ≤ b) w2 w6 := ((k4.mono fun b _ e => .inl e).trans (k5.no)).trans (k6.mono fun b _ e => .inr e)
        have t6 : TO w6 bt s st3 := k6.blk (t4.keep k5) (by omega)
        have kk6 : Keeps (· = bt) w w6 := ((k2.trans k4).trans k5.no).then k6 fun i hi e => by omega
        have hb16 : w6.heap[b1]? = some (nodeObj ⟨0, noB, nil3⟩) := k6.blk (k5.blk0 (k4.blk hb2 (by omega))) (by omega)
        have s6 := k6.size
        refine Join.cut (fun last w7 => (w7.heap = w6.heap ∧ Keeps No w6 w7) ∧ (last = true → st3.bad = false → ¬ (bs s)[st3.at_]? = some 124) ∧ (last = false → st3.bad = false ∧ (bs s)[st3.at_]? = some 124)) ?_ ?_
        · rintro last w7 ⟨⟨hh7, k7⟩, p1, p2⟩
          have ga7 := ga6.keep k7 fun b _ e => e.elim
          have t7 := t6.keep k7
          refine Br.mk (fun hla => ?_) (fun hla => ?_)
          · -- the end
            obtain ⟨rd3, rd4⟩ := ga7.reads
            have hlen7 : (vs ++ [v]).length = (xs ++ [twoOf .cat .empty zs]).length := ga7.nds.length
            refine ref05_pair_spec (.inr ⟨rfl, rfl⟩) (vs ++ [v]) (M := LtV w1.heap.size) (fun b hb => by have : b < w1.heap.size := hb; have := k7.size; omega) rd3 ga7.own.cap rd4 (by simp; omega) fun u w8 k8 hu => ?_
            refine Al.mk fun b8 w9 n9 => StA.node n9.at_ fun w10 u10 => ?_
            have e9 := n9.eq; have s7 := k7.size; have s8 := k8.size; have s9 := n9.size
            have k710 : Keeps No w7 w10 := u10.keeps0 (k8.trans n9.keeps) (by omega)
            have t10 := t7.keep k710
            have hb110 := k710.blk0 (k7.blk0 hb16)
            have kk10 : Keeps (· = bt) w w10 := (kk6.then0 k7).then0 k710
            have hu10 : RNd (V (fun b => b < w1.heap.size ∨ b = b8) w10) u (twoOf .or .empty (xs ++ [twoOf .cat .empty zs])) := hu.mono ((V.move n9.keeps (M' := fun b => b < w1.heap.size ∨ b = b8) (fun _ _ h => h.elim) fun b hb h => h.resolve_right (by omega)).trans (V.move u10.keeps (fun _ _ h => .inr h) fun _ _ h => h))
            have hall : (twoOf .or .empty (xs ++ [twoOf .cat .empty zs])).size + 1 = tot (xs ++ [twoOf .cat .empty zs]) := by
              have := twoOf_size (f := .or) (x := .empty) (fun _ _ => rfl) (xs ++ [twoOf .cat .empty zs]) (by simp)
              unfold tot; omega
            rw [tot_snoc] at hall
            have hzin : (∃ z ∈ xs, 400 < z.size) ∨ (∃ z ∈ zs, 400 < z.size) → 400 < (twoOf .or .empty (xs ++ [twoOf .cat .empty zs])).size := by
              rintro (⟨z, hz, h⟩ | ⟨z, hz, h⟩)
              · have := tot_mem hz; omega
              · have h1 := tot_mem hz
                have h2 := hcsz.2 (fun e => by subst e; simp at hz)
                omega
            have rr : ∀ l, (l = true → st3.long = true ∨ 400 < (twoOf .or .empty (xs ++ [twoOf .cat .empty zs])).size) → RR (bs s) (orF (bs s) (n + 1)) 1 st (twoOf .or .empty (xs ++ [twoOf .cat .empty zs])) (st3.wl l) := fun l hl => by
              refine ⟨hle3, ?_, (fun hb3 => ?_), (fun hb3 => ?_), fun e => ?_⟩
              rotate_left
              rotate_left
              · have hb3 : st3.bad = true := hb3
                have hcb := hbad3 hb3
                rw [hfin]
                show fin.2.bad = true
                rw [← hF]
                have hc2 : (catF (bs s) g st2.cl).2.bad = true := hcb
                rw [orLoop_stuck hc2]
                exact hc2
              · rcases hl e with h | h
                · rcases hlg3 h with h | h | h | h
                  · exact .inl h
                  · exact .inr (.inl h)
                  · exact .inr (.inr (hzin (.inl h)))
                  · exact .inr (.inr (hzin (.inr h)))
                · exact .inr (.inr h)
              · have h8 : 1000 * (st2.at_ - st.at_) + 3000 * ((bs s).length + 1 - st2.at_) ≤ 3000 * ((bs s).length + 1 - st.at_) := by omega
                omega
              · have hb3 : st3.bad = false := hb3
                obtain ⟨g1, g2, g3, -⟩ := hgo3 hb3
                obtain ⟨y, hy1, hy2⟩ := hcat hb3
                refine ⟨⟨by show st.at_ + 1 ≤ st3.at_ + 1; omega, g2, by show _ ≤ 1000 * (st3.at_ - st.at_) + 2 * 1; omega⟩, twoOf .or noBytes (ys ++ [y]), ?_, twoOf_norm (f := .or) (fun _ _ => rfl) (by simp [hys, hy2]) (.inr (by simp))⟩
                rw [hfin]
                have hno := p1 hla hb3
                have hF' : fin = (ys ++ [y], st3.cl) := by
                  rw [← hF, hy1]
                  obtain ⟨q', rfl⟩ : ∃ k, q = k + 1 := ⟨q - 1, by omega⟩
                  have i124 : isB (bs s) 124 st3.cl = (false, st3.cl) := by rw [isB_cl, if_neg hno, decide_eq_false hno]
                  have hcb : st3.cl.bad = false := rfl
                  unfold orLoop
                  simp only [hcb, i124, Bool.false_eq_true, if_false]
                rw [hF']
                rfl
            have last3 : ∀ {l : Bool} {w11 : World}, (l = true → st3.long = true ∨ 400 < (twoOf .or .empty (xs ++ [twoOf .cat .empty zs])).size) → Keeps (· = bt) w10 w11 → TO w11 bt s (st3.wl l) → LdA 258 ⟨b8, 0, none⟩ w11 fun x66 => StA P T.frisketref05_Node ⟨b1, 0, none⟩ x66 w11 fun w16 => LdA 258 ⟨b1, 0, none⟩ w16 fun r0 => K r0 w16 := by
              intro l w11 hll k11 t11
              refine LdA.node (k11.blk u10.at_ (by omega)) (StA.ret (k11.blk hb110 (by omega)) fun w12 u12 => ?_)
              refine hk u _ (st3.wl l) w12 ((kk10.trans k11).then u12.keeps fun i hi e => by omega) (u12.keeps.blk t11 (by omega)) ?_ (rr l hll)
              exact hu10.mono ((V.move k11 (M' := fun b => b < w1.heap.size ∨ b = b8) (fun b _ e => .inl (by omega)) fun _ _ h => h).trans (V.move u12.keeps (fun b _ e => .inl (by omega)) fun b _ h => .inl (by have : b < w.heap.size := h; omega)))
            refine Ld.bool (cell_of t10 rfl) (Br.mk (fun hl4 => ?_) (fun hl4 => ?_))
            · refine TO.st (st' := st3.wl true) t10 (by simp) rfl fun w11 t11 k11 => last3 (fun _ => .inl hl4) k11 t11
            · refine LdA.node u10.at_ ?_
              refine ref05_Size_spec _ (twoOf .or .empty (xs ++ [twoOf .cat .empty zs])) (Nat.le_refl _) (by omega) hu10 fun w11 k11 => ?_
              refine TO.st (st' := st3.wl (decide ((400 : Int) < ((twoOf .or .empty (xs ++ [twoOf .cat .empty zs])).size : Nat)))) (t10.keep k11) (by simp) rfl fun w12 t12 k12 => last3 (fun e => .inr (by have := of_decide_eq_true e; omega)) ((k11.no).trans k12) t12
          · -- another one
            obtain ⟨hb3, h124⟩ := p2 hla
            obtain ⟨g1, g2, g3, -⟩ := hgo3 hb3
            obtain ⟨y, hy1, hy2⟩ := hcat hb3
            have hl3 := lt_of_get h124
            refine Ld.int (cell_of t7 rfl) (TO.step t7 rfl hs (by omega) fun w8 t8 k8 => ?_)
            have ha : st3.adv.at_ = st3.at_ + 1 := rfl
            obtain ⟨q', rfl⟩ : ∃ k, q = k + 1 := ⟨q - 1, by omega⟩
            refine hR ((bs s).length - st3.adv.at_ + 1) all' w8 (by omega) ⟨vs ++ [v], xs ++ [twoOf .cat .empty zs], st3.adv, (kk6.then0 k7).trans k8, k8.blk (k7.blk0 hb16) (by omega), t8, ga7.keep k8 (fun b _ e => by omega), hb3, by omega, g2, by omega, by omega, ?_, by have := k8.size; have := k7.size; omega, q', ys ++ [y], by omega, by simp [hys, hy2], ?_, fun e => ?_⟩
            · rw [tot_snoc]; omega
            · rw [← hF, hy1]
              have i124 : isB (bs s) 124 st3.cl = (true, st3.adv.cl) := by rw [isB_cl, if_pos h124, decide_eq_true h124]
              have hcb : st3.cl.bad = false := rfl
              conv => rhs; unfold orLoop
              simp only [hcb, i124, Bool.false_eq_true, if_false, if_true]
            · rcases hlg3 e with h | h | ⟨z, hz, h⟩ | ⟨z, hz, h⟩
              · exact .inl h
              · rw [hb3] at h; cases h
              · exact .inr ⟨z, by simp [hz], h⟩
              · refine .inr ⟨twoOf .cat .empty zs, by simp, ?_⟩
                have h1 := tot_mem hz
                have h2 := hcsz.2 (fun e => by subst e; simp at hz)
                omega
        · intro j9 hj9
          refine Ld.bool (cell_of t6 rfl) (Br.mk (fun hbb => hj9 _ _ ⟨⟨rfl, .refl⟩, (fun _ h => by rw [hbb] at h; cases h), fun e => by cases e⟩) (fun hbb => ?_))
          refine ref05_sees_spec (b := 124) t6 rfl fun w7 hh7 k7 => hj9 _ _ ⟨⟨hh7, k7⟩, (fun e _ => by simpa using e), fun e => ⟨hbb, by simpa using e⟩⟩
    · intro j10 hj10
      refine Draw.hp fun w4 e4 k4 => ?_
      have t4 := t3.keep k4
      have base4 : Keeps (· = bt) w2 w4 ∧ TO w4 bt s st3 ∧ GathN w4 w2.heap.size l ls zs ∧ w2.heap.size ≤ w4.heap.size := ⟨k3.then0 k4, t4, ga3.keep k4 (fun b _ e => e.elim), by have := k4.size; omega⟩
      have hcell : ∀ w' : World, w'.heap = w3.heap → w'.heap[bt]? = some (tobj s st3) := fun w' e => by rw [e]; exact t3
      refine LdS.of (t := .bool) (v := st3.bad) (fun w' e => cell_of (hcell w' e) rfl) (Br.mk (fun hbb => ?_) (fun hbb => hj10 _ _ ⟨base4, (fun e => by cases e), fun _ h => by rw [h] at hbb; cases hbb⟩))
      have hb3 : st3.bad = false := by simpa using hbb
      refine LdS.of (t := .int .i64) (v := (st3.at_ : Int)) (fun w' e => cell_of (hcell w' e) rfl) (LdS.of (t := .str) (v := s) (fun w' e => cell_of (hcell w' e) rfl) (Br.mk (fun ht => ?_) (fun hf => ?_)))
      · have hl : st3.at_ < (bs s).length := by have ht : (st3.at_ : Int) < (s.size : Int) := of_decide_eq_true ht; omega
        have hx : (bs s)[st3.at_]? = some (bs s)[st3.at_] := List.getElem?_eq_getElem hl
        refine ref05_sees_spec (b := 124) t4 rfl fun w5 e5 k5 => ⟨e5.trans e4, ?_⟩
        have base5 : Keeps (· = bt) w2 w5 ∧ TO w5 bt s st3 ∧ GathN w5 w2.heap.size l ls zs ∧ w2.heap.size ≤ w5.heap.size := ⟨base4.1.then0 k5, base4.2.1.keep k5, base4.2.2.1.keep k5 (fun b _ e => e.elim), by have := k5.size; have := base4.2.2.2; omega⟩
        refine Br.mk (fun h124 => ?_) (fun h124 => ?_)
        · have h124 : ¬ (bs s)[st3.at_]? = some 124 := by simpa using h124
          refine ref05_sees_spec (b := 41) base5.2.1 rfl fun w6 e6 k6 => ⟨(e6.trans e5).trans e4, hj10 _ _ ⟨⟨base5.1.then0 k6, base5.2.1.keep k6, base5.2.2.1.keep k6 (fun b _ e => e.elim), by have := k6.size; have := base5.2.2.2; omega⟩, fun e => ⟨hb3, _, hx, ?_, ?_⟩, fun e _ c hc => ?_⟩⟩
          · rintro h; rw [h] at hx; exact h124 hx
          · rintro h; rw [h] at hx; simp [hx] at e
          · right
            have : (bs s)[st3.at_]? = some 41 := by simpa using e
            rw [this] at hc; cases hc; rfl
        · have h124 : (bs s)[st3.at_]? = some 124 := by simpa using h124
          exact hj10 _ _ ⟨base5, (fun e => by cases e), fun _ _ c hc => by rw [h124] at hc; cases hc; exact .inl rfl⟩
      · have hf : ¬ (st3.at_ : Int) < (s.size : Int) := of_decide_eq_false hf
        refine hj10 _ _ ⟨base4, (fun e => by cases e), fun _ _ c hc => ?_⟩
        have := lt_of_get hc
        omega
end Go.Fk
end

section
set_option linter.unusedVariables false
set_option linter.unusedSimpArgs false
namespace Go.Fk
open Go

/-- What the reference's parser hands back: where it says that all is well the plain parser says so, and has the same expression. -/
theorem ref05_Parse_spec {w : World} {s : ByteArray} {K : (Array Value × Int × Bool) → World → Prop} (hs : Small s)
    (hk : ∀ v x at_ great w', Keeps No w w' → RNd (V (LtV w.heap.size) w') v x → (at_ < 0 → great = false → (parseF (bs s)).2.2 = 0 ∧ (parseF (bs s)).1.norm = x.norm) → ((parseF (bs s)).2.2 = 0 → at_ < 0 ∧ great = false) → K (v.cells.toArray, at_, great) w') : frisketref05_Parse.C s w K := by
  have hsz := size_bs s
  have hsm := hs; unfold Small at hsm
  refine frisketref05_Parse.ok _ _ _ ?_
  simp only [frisketref05_Parse.M, NilC_some, zero_cells]
  refine Al.mk fun b1 w1 n1 => Al.mk fun b2 w2 n2 => ?_
  have e1 := n1.eq; have s1 := n1.size; have e2 := n2.eq; have s2 := n2.size
  let st0 : PS := ⟨0, false, false, 0⟩
  have t2 : TO w2 b2 s st0 := n2.at_
  refine ref05_or_spec 51 t2 hs rfl (by show 0 ≤ _; omega) (by show 0 ≤ 50; omega) rfl fun v x st w3 k3 t3 r3 rr => ?_
  refine Al.mk fun b3 w4 n4 => StA.node n4.at_ fun w5 u5 => ?_
  have e4 := n4.eq; have s3 := k3.size; have s4 := n4.size
  have k35 : Keeps No w3 w5 := u5.keeps0 n4.keeps (by omega)
  have k02 : Keeps No w w2 := n1.keeps.trans n2.keeps
  have k05 : Keeps No w w5 := (((k02.no (M := No)).then k3 fun i hi e => by omega)).trans k35
  have t5 : TO w5 b2 s st := t3.keep k35
  have hb1 : w5.heap[b1]? = some (nodeObj ⟨0, noB, nil3⟩) := k35.blk0 (k3.blk (n2.keeps.blk0 n1.at_) (by omega))
  have hb3 : w5.heap[b3]? = some (nodeObj v) := u5.at_
  have r5 : RNd (V (fun b => b < w2.heap.size ∨ b = b3) w5) v x := r3.mono ((V.move n4.keeps (M' := fun b => b < w2.heap.size ∨ b = b3) (fun _ _ h => h.elim) fun b hb h => by
    show b < _
    rcases h with h | h <;> omega).trans (V.move u5.keeps (fun _ _ h => .inr h) fun _ _ h => h))
  have hne : (st.bad = true ∨ st.at_ < (bs s).length ∨ 400 < x.size) → (parseF (bs s)).2.2 ≠ 0 := by
    intro hor
    by_cases hbd : st.bad = true
    · have hno : (orF (bs s) 51 st0).2.bad = true := rr.no hbd
      unfold parseF
      show (let r := orF (bs s) 51 st0; _ : Re × Nat × Nat).2.2 ≠ 0
      generalize orF (bs s) 51 st0 = r at hno
      dsimp only
      cases hl : r.2.long <;> simp [hno]
    · have hbd : st.bad = false := by simpa using hbd
      obtain ⟨_, y, hy1, hy2⟩ := rr.go hbd
      have hys := size_of_norm hy2
      have e : orF (bs s) 51 ⟨0, false, false, 0⟩ = (y, st.cl) := hy1
      unfold parseF
      rw [e]
      have c1 : st.cl.long = false := rfl
      have c2 : st.cl.bad = false := rfl
      have c3 : st.cl.at_ = st.at_ := rfl
      rw [hbd] at hor
      by_cases hlt : st.at_ < (bs s).length
      · have hlt2 : st.at_ < s.size := by omega
        simp [c1, c2, c3, hlt2]
      · have h4 : 400 < y.size := by
          rcases hor with h | h | h
          · cases h
          · exact absurd h hlt
          · omega
        have hlt2 : ¬ st.at_ < s.size := by omega
        simp [c1, c2, c3, hlt2, h4]
  have fail : ∀ {w6 : World} {a : Int} {g : Bool}, Keeps No w5 w6 → (parseF (bs s)).2.2 ≠ 0 → (a < 0 → g = false → False) → StA P T.frisketref05_Node ⟨b1, 0, none⟩ (NV.cells ⟨0, noB, nil3⟩).toArray w6 fun w7 => LdA 258 ⟨b1, 0, none⟩ w7 fun r0 => K (r0, a, g) w7 := by
    intro w6 a g k6 hpn hno
    refine StA.ret (K := fun r0 w7 => K (r0, a, g) w7) (k6.blk0 hb1) fun w7 u7 => ?_
    exact hk _ (.set noB) a g w7 (u7.keeps0 (k05.trans k6) (by omega)) .set (fun h1 h2 => (hno h1 h2).elim) fun e => absurd e hpn
  refine Ld.bool (cell_of t5 rfl) (Br.mk (fun hg => ?_) (fun hg => ?_))
  · exact App.build build0 (fail .refl (hne (by
      rcases rr.lg hg with h | h | h
      · cases h
      · exact .inl h
      · exact .inr (.inr h))) fun _ h => by cases h)
  · refine Join.cut (fun b w6 => w6 = w5 ∧ (b = false → st.bad = false ∧ (bs s).length ≤ st.at_) ∧ (b = true → st.bad = true ∨ st.at_ < (bs s).length)) ?_ ?_
    · rintro b w6 ⟨rfl, hb, hbb⟩
      refine Br.mk (fun hbt => ?_) (fun hbf => ?_)
      · refine ⟨fun x => Keeps (· = b1) w6 x, Keeps.drew.no, ?_⟩
        refine AppS.build build0 (LdS.of (t := .int .i64) (v := (st.at_ : Int)) (fun w' hw' => cell_of (hw'.blk t5 (by omega)) rfl) ?_)
        refine StA.node (Keeps.drew.blk0 hb1) fun w7 u7 => ⟨(Keeps.drew.no (M := (· = b1))).trans u7.keeps, LdA.node u7.at_ ?_⟩
        exact hk _ (.set noB) _ _ w7 (u7.keeps0 (k05.trans .drew) (by omega)) .set (fun h1 _ => by omega) fun e => absurd e (hne ((hbb hbt).imp id .inl))
      · obtain ⟨hbd, hle⟩ := hb hbf
        have hat : st.at_ = (bs s).length := Nat.le_antisymm rr.le hle
        have hszb := rr.szb
        have h0 : st0.at_ = 0 := rfl
        refine LdA.node hb3 ?_
        refine ref05_Size_spec x.size x (Nat.le_refl _) (by rw [h0] at hszb; omega) r5 fun w7 k7 => ?_
        refine Br.mk (fun h400 => ?_) (fun h400 => ?_)
        · exact App.build build0 (fail k7 (hne (.inr (.inr (by have := of_decide_eq_true h400; omega)))) fun _ h => by cases h)
        · have h400 : ¬ (400 : Int) < (x.size : Int) := of_decide_eq_false h400
          refine LdA.node (k7.blk0 hb3) (StA.ret (K := fun r0 w7 => K (r0, -1, false) w7) (k7.blk0 hb1) fun w8 u8 => ?_)
          refine hk _ x _ _ w8 (u8.keeps0 (k05.trans k7) (by omega)) ?_ (fun _ _ => ?_) fun _ => ⟨by omega, rfl⟩
          · exact r5.mono ((V.keeps0 k7).trans (V.move u8.keeps (fun b _ e => .inl (by omega)) fun b _ h => .inl (by have : b < w.heap.size := h; omega)))
          · obtain ⟨_, y, hy1, hy2⟩ := rr.go hbd
            have hys := size_of_norm hy2
            have e : parseF (bs s) = (y, 0, 0) := by
              unfold parseF
              have : orF (bs s) 51 ⟨0, false, false, 0⟩ = (y, st.cl) := hy1
              rw [this]
              have c1 : st.cl.long = false := rfl
              have c2 : st.cl.bad = false := rfl
              have c3 : ¬ st.cl.at_ < (bs s).length := by show ¬ st.at_ < _; omega
              have c4 : ¬ 400 < y.size := by omega
              simp [c1, c2, c4]
              show s.size ≤ st.at_
              omega
            rw [e]
            exact ⟨rfl, hy2⟩
    · intro j hj
      refine Ld.bool (cell_of t5 rfl) (Br.mk (fun ht => hj _ _ ⟨rfl, (fun e => by cases e), fun _ => .inl ht⟩) (fun hbd => ?_))
      refine Ld.int (cell_of t5 rfl) (hj _ _ ⟨rfl, (fun e => ⟨hbd, ?_⟩), fun e => .inr (by have e : (st.at_ : Int) < (s.size : Int) := of_decide_eq_true e; omega)⟩)
      have e : ¬ (st.at_ : Int) < (s.size : Int) := of_decide_eq_false e
      omega
end Go.Fk
end

section
set_option linter.unusedVariables false
set_option linter.unusedSimpArgs false
namespace Go.Fk
open Go

theorem parse_small {s : List UInt8} (h : (parseF s).2.2 = 0) : (parseF s).1.size ≤ 400 := by
  unfold parseF at h ⊢
  generalize orF s 51 ⟨0, false, false, 0⟩ = r at *
  dsimp only at h ⊢
  split at h
  · cases h
  · split at h
    · cases h
    · split at h
      · cases h
      · rename_i h1 h2 h3
        simp only [h1, h2, h3, if_false]
        simp
        omega

/-- Two lists that are gathered side by side. -/
structure Two (w : World) (base : Nat) (a b : Sl) (ps : List (Option Addr)) (ys : List Re) (vs : List NV) (xs : List Re) : Prop where
  oa : Own w base T.p_regex_Node 1 a (ps.map (Ty.enc .ptr))
  ob : Own w base T.frisketref05_Node 258 b (vs.map NV.cells).flatten
  na : All2 (Nd (V (fun c => c < base ∨ a.blk c ∨ b.blk c) w)) ps ys
  nb : All2 (RNd (V (fun c => c < base ∨ a.blk c ∨ b.blk c) w)) vs xs
  ab : ∀ c, a.blk c → ¬ b.blk c

theorem blk_one {l : Sl} {g : Nat} (h : l.a = some ⟨g, 0, none⟩) {b : Nat} (hb : l.blk b) : b = g := by
  obtain ⟨a, ha, rfl⟩ := hb
  rw [h] at ha; cases ha; rfl

theorem Two.keep {w w' : World} {base : Nat} {a b : Sl} {ps : List (Option Addr)} {ys : List Re} {vs : List NV} {xs : List Re} (h : Two w base a b ps ys vs xs) (k : Keeps No w w') : Two w' base a b ps ys vs xs :=
  ⟨h.oa.keep0 k, h.ob.keep0 k, h.na.mono fun _ _ x => x.mono (V.keeps0 k), h.nb.mono fun _ _ x => x.mono (V.keeps0 k), h.ab⟩

theorem Two.n {w : World} {base : Nat} {a b : Sl} {ps : List (Option Addr)} {ys : List Re} {vs : List NV} {xs : List Re} (h : Two w base a b ps ys vs xs) : a.n = ps.length ∧ b.n = vs.length := by
  have h1 := h.oa.len
  have h2 := h.ob.len
  rw [flatten_len cellsN_len, List.length_map] at h2
  simp at h1
  omega

/-- One more of each. -/
theorem Two.add {w : World} {base : Nat} {a b : Sl} {ps : List (Option Addr)} {ys : List Re} {vs : List NV} {xs : List Re} {p : Option Addr} {y : Re} {v : NV} {x : Re} {k : Sl → Sl → World → Prop} {b3 : Nat} (h : Two w base a b ps ys vs xs) (hb : base ≤ w.heap.size) (hlen : ps.length < 1000000000) (hlen2 : vs.length < 1000000000)
    (h3 : w.heap[b3]? = some (nodeObj v)) (hb3 : ¬ a.blk b3 ∧ ¬ b.blk b3)
    (hN : Nd (V (fun c => c < base ∨ a.blk c ∨ b.blk c) w) p y) (hR : RNd (V (fun c => c < base ∨ a.blk c ∨ b.blk c) w) v x)
    (hk : ∀ a' b' w', Two w' base a' b' (ps ++ [p]) (ys ++ [y]) (vs ++ [v]) (xs ++ [x]) → Keeps (fun c => base ≤ c) w w' → k a' b' w') :
    Al (.cells #[.pointer p] T.p_regex_Node (0, 0)) w fun b5 w7 => App P (Builtin.append_ #[T.sl_p_regex_Node, T.sl_p_regex_Node] T.sl_p_regex_Node #[.slice a.a a.n a.c, .slice (some ⟨b5, 0, none⟩) 1 1]) (.one .sl) w7 fun x53 w8 =>
      LdA 258 ⟨b3, 0, none⟩ w8 fun x55 => App P (Instr.buildSlice T.sl_frisketref05_Node 1 #[(0, .agg x55)]) (.one .sl) w8 fun x56 w9 => App P (Builtin.append_ #[T.sl_frisketref05_Node, T.sl_frisketref05_Node] T.sl_frisketref05_Node #[.slice b.a b.n b.c, .slice x56.a x56.n x56.c]) (.one .sl) w9 fun x57 w10 => k x53 x57 w10 := by
  obtain ⟨n1, n2⟩ := h.n
  refine append1 (t := .ptr) (x := p) E_pNode h.oa rfl (by omega) (by omega) hb fun a' w1 o1 m1 k1 g1 => ?_
  obtain ⟨ga, hga, hga2⟩ := g1
  have s1 := k1.size
  have hA : ∀ c, a'.blk c → a.blk c ∨ w.heap.size ≤ c := fun c hc => by rw [blk_one hga hc]; exact hga2
  have hab : ∀ c, a'.blk c → ¬ b.blk c := fun c hc hbc => by
    rcases hA c hc with h1 | h1
    · exact h.ab c h1 hbc
    · have := (h.ob.ge hbc).2; omega
  have v1 : Vle (V (fun c => c < base ∨ a.blk c ∨ b.blk c) w) (V (fun c => c < base ∨ a'.blk c ∨ b.blk c) w1) := V.move k1 (fun c _ hc => .inr (.inl hc)) fun c hlt hc => by
    rcases hc with h1 | h1 | h1
    · exact .inl h1
    · exact .inr (.inl ((hA c h1).resolve_right (by omega)))
    · exact .inr (.inr h1)
  refine LdA.node (k1.blk h3 hb3.1) ?_
  refine App.slice1 fun b6 w2 n6 => ?_
  have e6 := n6.eq; have s6 := n6.size
  have o2 : Own w1 base T.frisketref05_Node 258 b (vs.map NV.cells).flatten := h.ob.keep k1 fun c hc hbc => h.ab c hc hbc
  refine appendC (c := v.cells) elNode (o2.keep0 n6.keeps) v.len n6.at_ v.one (by omega) (by omega) (by omega) fun b' w3 o3 m3 k3 g3 => ?_
  obtain ⟨gb, hgb, hgb2⟩ := g3
  have hB : ∀ c, b'.blk c → b.blk c ∨ w1.heap.size ≤ c := fun c hc => by rw [blk_one hgb hc]; exact hgb2.imp id (by omega)
  have v2 : Vle (V (fun c => c < base ∨ a'.blk c ∨ b.blk c) w1) (V (fun c => c < base ∨ a'.blk c ∨ b'.blk c) w3) := (V.keeps0 n6.keeps).trans (V.move k3 (fun c _ hc => .inr (.inr hc)) fun c hlt hc => by
    rcases hc with h1 | h1 | h1
    · exact .inl h1
    · exact .inr (.inl h1)
    · refine .inr (.inr ?_)
      rw [blk_one hgb h1] at hlt ⊢
      exact hgb2.resolve_right (by omega))
  refine hk a' b' w3 ⟨?_, by simpa using o3, (h.na.append (.cons hN .nil)).mono fun _ _ x => x.mono (v1.trans v2), (h.nb.append (.cons hR .nil)).mono fun _ _ x => x.mono (v1.trans v2), fun c hc hbc => ?_⟩ ?_
  · exact (o1.keep0 n6.keeps).keep k3 fun c hc ha => hab c ha hc
  · rcases hB c hbc with h1 | h1
    · exact hab c hc h1
    · have := (o1.ge hc).2; omega
  · exact ((k1.mono fun c _ hc => (h.oa.ge hc).1).trans (n6.keeps.no)).trans (k3.mono fun c _ hc => (o2.ge hc).1)

/-- The texts that are expressions. -/
def rulesF (ss : List ByteArray) : List Re := ss.filterMap fun s => if (parseF (bs s)).2.2 = 0 then some (parseF (bs s)).1 else none
theorem rulesF_snoc (ss : List ByteArray) (s : ByteArray) : rulesF (ss ++ [s]) = rulesF ss ++ (if (parseF (bs s)).2.2 = 0 then [(parseF (bs s)).1] else []) := by
  unfold rulesF
  rw [List.filterMap_append]
  congr 1
  by_cases h : (parseF (bs s)).2.2 = 0 <;> simp [h]

theorem Rules_spec {M : Nat → Prop} {w : World} {l : Sl} {ss : List ByteArray} {K : (Sl × Sl × Int) → World → Prop} (hl : SlT .str (V M w) l ss) (hss : ∀ s ∈ ss, Small s) (hlen : ss.length < 1000000)
    (hk : ∀ a b bad ps ys vs xs w', Keeps No w w' → Two w' w.heap.size a b ps ys vs xs → ys.map Re.norm = xs.map Re.norm → ys.length ≤ ss.length → (∀ y ∈ ys, y.size ≤ 400) → ys = rulesF ss → K (a, b, bad) w') : frisketlaw06_Rules.C l w K := by
  refine frisketlaw06_Rules.ok _ _ _ ?_
  simp only [frisketlaw06_Rules.M, zero_cells]
  have hn := hl.1
  refine Loop.mk (fun t w' => Keeps No w w' ∧ ∃ (i : Nat) (bad : Int) (ps : List (Option Addr)) (ys : List Re) (vs : List NV) (xs : List Re), i ≤ ss.length ∧ t.2.2 = (bad, (i : Int)) ∧ 0 ≤ bad ∧ bad ≤ i ∧ Two w' w.heap.size t.1 t.2.1 ps ys vs xs ∧ ys.map Re.norm = xs.map Re.norm ∧ ys.length ≤ i ∧ (∀ y ∈ ys, y.size ≤ 400) ∧ ys = rulesF (ss.take i))
    (fun t => ss.length - t.2.2.2.toNat) ⟨.refl, 0, 0, [], [], [], [], by omega, rfl, by omega, by omega, ⟨by simpa using Own.nil _ _ _ _, by simpa using Own.nil _ _ _ _, .nil, .nil, fun c ⟨a, h, _⟩ => by cases h⟩, rfl, by simp, by simp, rfl⟩ ?_
  rintro ⟨a, b, bd, ii⟩ w1 ⟨k1, i, bad, ps, ys, vs, xs, hi, hti, hb0, hb1, htw, hnorm, hyl, hys, hyr⟩ R hR
  simp only [Prod.mk.injEq] at hti
  obtain ⟨rfl, rfl⟩ := hti
  refine Br.mk (fun ht => ?_) (fun hf => ?_)
  · have ht : i < ss.length := by simpa [hn] using ht
    refine IdxS.get (M := M) (hl.mono (V.keeps0 k1)) (by simp) (by simp; omega) fun s hs => ?_
    simp at hs
    have hsm := hss s (List.mem_of_getElem? hs)
    refine regex_Parse_spec hsm fun p w2 k2 hN _ => ?_
    refine IdxS.get (M := M) (hl.mono (V.keeps0 (k1.trans k2))) (by simp) (by simp; omega) fun s' hs' => ?_
    simp at hs'
    rw [hs] at hs'
    cases hs'
    refine ref05_Parse_spec hsm fun v x at_ great w3 k3 hR3 hok hback => ?_
    refine Al.mk fun b3 w4 n4 => StA.node n4.at_ fun w5 u5 => ?_
    have k35 : Keeps No w3 w5 := u5.keeps0 n4.keeps (by have := n4.eq; omega)
    have k15 : Keeps No w1 w5 := (k2.trans k3).trans k35
    have s2 := k2.size; have s3 := k3.size; have e4 := n4.eq; have s1 := k1.size
    refine Join.cut (fun (fl : Bool) w6 => w6 = w5 ∧ (fl = false → (parseF (bs s)).2.2 = 0 ∧ at_ < 0 ∧ great = false) ∧ (fl = true → (parseF (bs s)).2.2 ≠ 0)) ?_ ?_
    · rintro fl w6 ⟨rfl, hbd, hbt⟩
      have htk : ss.take (i + 1) = ss.take i ++ [s] := by rw [List.take_add_one, hs]; rfl
      refine Br.mk (fun htr => ?_) (fun hf => ?_)
      · dsimp only
        rw [w64_eq (by omega), w64_eq (by omega)]
        refine hR _ w6 ⟨k1.trans k15, i + 1, bd + 1, ps, ys, vs, xs, by omega, by simp, by omega, by omega, htw.keep k15, hnorm, by omega, hys, by rw [htk, rulesF_snoc, if_neg (hbt htr), List.append_nil]; exact hyr⟩ (by dsimp only; omega)
      · obtain ⟨p1, p2, p3⟩ := hbd hf
        obtain ⟨_, hnm⟩ := hok p2 p3
        have hal := htw.na.length; have hbl := htw.nb.length
        have hnl : ys.length = xs.length := by simpa using congrArg List.length hnorm
        have hout : ∀ c, (c < w.heap.size ∨ a.blk c ∨ b.blk c) → c < w1.heap.size := fun c hc => by
          rcases hc with h | h | h
          · omega
          · exact (htw.oa.ge h).2
          · exact (htw.ob.ge h).2
        refine Two.add (p := p) (y := (parseF (bs s)).1) (x := x) (htw.keep k15) (by have := k15.size; omega) (by omega) (by omega) u5.at_ ⟨fun h => by have := (htw.oa.ge h).2; omega, fun h => by have := (htw.ob.ge h).2; omega⟩ ?_ ?_ fun a' b' w7 htw7 k7 => ?_
        · exact (hN p1).mono ((V.keeps0 (k3.trans k35)).trans (V.sub fun c _ hc => hout c hc))
        · refine hR3.mono (((V.move n4.keeps (M' := fun c => c < w1.heap.size ∨ c = b3) (fun _ _ h => h.elim) fun c hc h => ?_).trans (V.move u5.keeps (fun _ _ h => .inr h) fun _ _ h => h)).trans (V.sub fun c _ hc => .inl (hout c hc)))
          show c < w2.heap.size
          rcases h with h | h <;> omega
        · dsimp only
          rw [w64_eq (by omega)]
          refine hR _ w7 ⟨((k1.trans k15).no (M := No)).then k7 fun c hc h => by omega, i + 1, bd, _, _, _, _, by omega, by simp, by omega, by omega, htw7, by simp [hnorm, hnm], by simp; omega, ?_, by rw [htk, rulesF_snoc, if_pos p1, ← hyr]⟩ (by dsimp only; omega)
          intro y hy
          rcases List.mem_append.1 hy with h | h
          · exact hys y h
          · simp at h; subst h; exact parse_small p1
    · intro j hj
      refine Br.mk (fun h0 => hj _ _ ⟨rfl, (fun e => by cases e), fun _ e => by rw [e] at h0; simp at h0⟩) (fun h1 => Br.mk (fun h0 => hj _ _ ⟨rfl, (fun e => by cases e), fun _ e => by have h5 := (hback e).1; have h6 : (0 : Int) ≤ at_ := of_decide_eq_true h0; omega⟩) (fun h2 => hj _ _ ⟨rfl, (fun h3 => ⟨?_, ?_, h3⟩), fun h3 e => by have := (hback e).2; rw [this] at h3; cases h3⟩))
      · have h1 : ((parseF (bs s)).2.2 : Int) = 0 := by simpa using h1
        omega
      · have h2 : ¬ (0 : Int) ≤ at_ := of_decide_eq_false h2
        omega
  · have hf : ss.length ≤ i := by simpa [hn] using hf
    rw [List.take_of_length_le hf] at hyr
    exact hk a b bd ps ys vs xs w1 k1 htw hnorm (by omega) hys hyr
end Go.Fk
end

section
set_option linter.unusedVariables false
set_option linter.unusedSimpArgs false
namespace Go.Fk
open Go

/-! ## Whose positions they are -/

theorem emp_of_cnt {x : Re} (h : x.cnt = 0) : x.emp = true := by
  induction x with
  | set f => simp [Re.cnt] at h
  | empty => rfl
  | cat a b iha ihb => simp only [Re.cnt] at h; simp [Re.emp, iha (by omega), ihb (by omega)]
  | or a b iha ihb => simp only [Re.cnt] at h; simp [Re.emp, iha (by omega)]
  | star a ih => rfl

theorem first_ne (x : Re) : ∀ n, 0 < x.cnt → ∃ p, x.first n p := by
  induction x with
  | set f => intro n _; exact ⟨n, rfl⟩
  | empty => intro n h; simp [Re.cnt] at h
  | cat a b iha ihb =>
    intro n h
    simp only [Re.cnt] at h
    by_cases ha : a.cnt = 0
    · obtain ⟨p, hp⟩ := ihb (n + a.cnt) (by omega)
      exact ⟨p, .inr ⟨emp_of_cnt ha, hp⟩⟩
    · obtain ⟨p, hp⟩ := iha n (by omega)
      exact ⟨p, .inl hp⟩
  | or a b iha ihb =>
    intro n h
    simp only [Re.cnt] at h
    by_cases ha : a.cnt = 0
    · obtain ⟨p, hp⟩ := ihb (n + a.cnt) (by omega)
      exact ⟨p, .inr hp⟩
    · obtain ⟨p, hp⟩ := iha n (by omega)
      exact ⟨p, .inl hp⟩
  | star a ih => intro n h; exact ih n h
theorem last_ne (x : Re) : ∀ n, 0 < x.cnt → ∃ p, x.last n p := by
  induction x with
  | set f => intro n _; exact ⟨n, rfl⟩
  | empty => intro n h; simp [Re.cnt] at h
  | cat a b iha ihb =>
    intro n h
    simp only [Re.cnt] at h
    by_cases hb : b.cnt = 0
    · obtain ⟨p, hp⟩ := iha n (by omega)
      exact ⟨p, .inr ⟨emp_of_cnt hb, hp⟩⟩
    · obtain ⟨p, hp⟩ := ihb (n + a.cnt) (by omega)
      exact ⟨p, .inl hp⟩
  | or a b iha ihb =>
    intro n h
    simp only [Re.cnt] at h
    by_cases ha : a.cnt = 0
    · obtain ⟨p, hp⟩ := ihb (n + a.cnt) (by omega)
      exact ⟨p, .inr hp⟩
    · obtain ⟨p, hp⟩ := iha n (by omega)
      exact ⟨p, .inl hp⟩
  | star a ih => intro n h; exact ih n h

theorem poss_get {x : Re} {r : Int} {i : Nat} (h : i < x.cnt) (l : List ((Nat → Bool) × Int)) : (((x.poss.map fun f => (f, r)) ++ l)[i]?).map (·.2) = some r := by
  rw [List.getElem?_append_left (by simp [Re.poss_len, h])]
  rw [List.getElem?_map, List.getElem?_eq_getElem (by rw [Re.poss_len]; exact h)]
  rfl
theorem poss_skip {x : Re} {r : Int} {i : Nat} (h : x.cnt ≤ i) (l : List ((Nat → Bool) × Int)) : ((x.poss.map fun f => (f, r)) ++ l)[i]? = l[i - x.cnt]? := by
  rw [List.getElem?_append_right (by simp [Re.poss_len, h])]
  simp [Re.poss_len]

theorem kn_rule (xs : List Re) : ∀ (n r : Int) (i : Nat) (k : Kn), (mKs n xs)[i]? = some k → ((∃ q, k.first q) ↔ ∃ q, k.last q) ∧ ∀ q, (k.first q ∨ k.last q) → n ≤ q ∧ ((mFs r xs)[(q - n).toNat]?).map (·.2) = some (r + i) := by
  induction xs with
  | nil => intro n r i k h; simp [mKs] at h
  | cons x xs ih =>
    intro n r i k h
    cases i with
    | zero =>
      simp [mKs] at h
      subst h
      refine ⟨?_, fun q hq => ?_⟩
      · constructor
        · rintro ⟨q, hq⟩
          have := Re.first_in hq
          exact last_ne x n (by omega)
        · rintro ⟨q, hq⟩
          have := Re.last_in hq
          exact first_ne x n (by omega)
      · have hin : n ≤ q ∧ q < n + x.cnt := by rcases hq with h | h; exact Re.first_in h; exact Re.last_in h
        refine ⟨hin.1, ?_⟩
        simp only [mFs]
        rw [poss_get (by omega)]
        simp
    | succ i =>
      simp [mKs] at h
      obtain ⟨h1, h2⟩ := ih (n + x.cnt) (r + 1) i k h
      refine ⟨h1, fun q hq => ?_⟩
      obtain ⟨h3, h4⟩ := h2 q hq
      refine ⟨by omega, ?_⟩
      simp only [mFs]
      rw [poss_skip (by omega)]
      have e : (q - n).toNat - x.cnt = (q - (n + x.cnt)).toNat := by omega
      rw [e, h4]
      congr 1
      omega

theorem fol_rule (xs : List Re) : ∀ (n r : Int) (p q : Int), mFol n xs p q → n ≤ p ∧ n ≤ q ∧ ((mFs r xs)[(p - n).toNat]?).map (·.2) = ((mFs r xs)[(q - n).toNat]?).map (·.2) ∧ (p - n).toNat < (mFs r xs).length ∧ (q - n).toNat < (mFs r xs).length := by
  induction xs with
  | nil => intro n r p q h; exact h.elim
  | cons x xs ih =>
    intro n r p q h
    simp only [mFol] at h
    have hl : (mFs r (x :: xs)).length = x.cnt + (mFs (r + 1) xs).length := by simp [mFs, Re.poss_len]
    rcases h with h | h
    · have := Re.fol_in h
      refine ⟨by omega, by omega, ?_, by omega, by omega⟩
      simp only [mFs]
      rw [poss_get (by omega), poss_get (by omega)]
    · obtain ⟨h1, h2, h3, h4, h5⟩ := ih (n + x.cnt) (r + 1) p q h
      refine ⟨by omega, by omega, ?_, by omega, by omega⟩
      simp only [mFs]
      rw [poss_skip (by omega), poss_skip (by omega)]
      have e1 : (p - n).toNat - x.cnt = (p - (n + x.cnt)).toNat := by omega
      have e2 : (q - n).toNat - x.cnt = (q - (n + x.cnt)).toNat := by omega
      rw [e1, e2, h3]

theorem ruleAt_first {xs : List Re} {i q : Int} (h : (knAt (mKs 0 xs) i).first q ∨ (knAt (mKs 0 xs) i).last q) : ruleAt (mFs 0 xs) q = i := by
  unfold knAt at h
  split at h
  · rename_i h0
    cases hk : (mKs 0 xs)[i.toNat]? with
    | none => rw [hk] at h; rcases h with h | h <;> exact h.elim
    | some k =>
      rw [hk] at h
      obtain ⟨h1, h2⟩ := (kn_rule xs 0 0 i.toNat k hk).2 q h
      unfold ruleAt
      rw [if_pos h1]
      simp only [Int.sub_zero] at h2
      rw [h2]
      simp; omega
  · rcases h with h | h <;> exact h.elim
theorem ruleAt_fol {xs : List Re} {p q : Int} (h : mFol 0 xs p q) : ruleAt (mFs 0 xs) q = ruleAt (mFs 0 xs) p := by
  obtain ⟨h1, h2, h3, _⟩ := fol_rule xs 0 0 p q h
  simp only [Int.sub_zero] at h3
  unfold ruleAt
  rw [if_pos h1, if_pos h2, h3]
theorem kn_ne {xs : List Re} {i : Int} : (∃ q, (knAt (mKs 0 xs) i).first q) ↔ ∃ q, (knAt (mKs 0 xs) i).last q := by
  unfold knAt
  split
  · cases hk : (mKs 0 xs)[i.toNat]? with
    | none => simp
    | some k => exact (kn_rule xs 0 0 i.toNat k hk).1
  · simp

theorem rising_nil {xs : List Int} {S : Int → Prop} (h : Rising xs S) : xs.length = 0 ↔ ¬ ∃ q, S q := by
  cases xs with
  | nil => simp; intro q hq; have := (h.2 q).2 hq; simp at this
  | cons a l => simp; exact ⟨a, (h.2 a).1 (by simp)⟩

/-! ## NfaOwn -/

theorem strs40 {M : Nat → Prop} {w : World} {l : Sl} {ss : List ByteArray} (hl : SlT .str (V M w) l ss) (hlen : ss.length < 1000000) {K : Bool → World → Prop} {rest : World → Prop} (hK : K true w) (hrest : (∀ s ∈ ss, s.size ≤ 40) → rest w) :
    Loop (fun (s2 : Int) w3 again3 => Br (decide (s2 < (l.n : Int))) (IdxS l s2 1 fun p33 => Ld .str p33 w3 fun x34 => Br (decide ((40 : Int) < (x34.size : Int))) (K true w3) (again3 (w64 (s2 + (1 : Int))) w3)) (rest w3)) 0 w := by
  have hn := hl.1
  refine Loop.mk (fun i w' => w' = w ∧ ∃ k : Nat, k ≤ ss.length ∧ i = (k : Int) ∧ ∀ s ∈ ss.take k, s.size ≤ 40) (fun i => ss.length - i.toNat) ⟨rfl, 0, by omega, rfl, by simp⟩ ?_
  rintro i w' ⟨rfl, k, hkl, rfl, hs⟩ R hR
  refine Br.mk (fun ht => ?_) (fun hf => ?_)
  · have ht : k < ss.length := by have := of_decide_eq_true ht; omega
    refine IdxS.get (M := M) hl (by omega) (by omega) fun x hx => ?_
    simp at hx
    refine Br.mk (fun _ => hK) (fun h40 => ?_)
    have h40 : ¬ (40 : Int) < (x.size : Int) := of_decide_eq_false h40
    rw [w64_eq (by omega)]
    refine hR _ _ ⟨rfl, k + 1, by omega, by omega, fun s hsm => ?_⟩ (by omega)
    rw [List.take_add_one, hx] at hsm
    simp at hsm
    rcases hsm with h | rfl
    · exact hs s h
    · omega
  · have hf : ss.length ≤ k := by have := of_decide_eq_false hf; omega
    rw [List.take_of_length_le hf] at hs
    exact hrest hs
end Go.Fk
end

section
set_option linter.unusedVariables false
namespace Go.Fk
open Go

theorem Clo.congr {R S : Nat → Nat → Prop} (h : ∀ i j, R i j ↔ S i j) {i j : Nat} : Clo R i j ↔ Clo S i j := ⟨Clo.mono fun i j => (h i j).1, Clo.mono fun i j => (h i j).2⟩

theorem Re.m_norm {s : List UInt8} (x : Re) : ∀ {i j : Nat}, x.norm.m s i j ↔ x.m s i j := by
  induction x with
  | set f =>
    intro i j
    simp only [Re.norm, Re.m]
    constructor
    · rintro ⟨h, c, hc, hf⟩
      refine ⟨h, c, hc, ?_⟩
      have := c.toNat_lt
      simpa [this] using hf
    · rintro ⟨h, c, hc, hf⟩
      refine ⟨h, c, hc, ?_⟩
      have := c.toNat_lt
      simpa [this] using hf
  | empty => intro i j; exact Iff.rfl
  | cat a b iha ihb => intro i j; simp only [Re.norm, Re.m, iha, ihb]
  | or a b iha ihb => intro i j; simp only [Re.norm, Re.m, iha, ihb]
  | star a ih => intro i j; exact Clo.congr fun i j => ih
theorem m_of_norm {s : List UInt8} {x y : Re} (h : y.norm = x.norm) {i j : Nat} : y.m s i j ↔ x.m s i j := by rw [← Re.m_norm y, h, Re.m_norm x]

theorem mach_rule (ys : List Re) : ∀ (n r : Int) (i : Nat) (y : Re), ys[i]? = some y → ∃ off : Int, n ≤ off ∧ (mKs n ys)[i]? = some ⟨y.first off, y.last off, y.emp⟩ ∧ (∀ (k : Nat) f, y.poss[k]? = some f → (mFs r ys)[(off - n).toNat + k]? = some (f, r + i)) ∧
    ∀ p q, off ≤ p → p < off + y.cnt → (mFol n ys p q ↔ y.fol off p q) := by
  induction ys with
  | nil => intro n r i y h; simp at h
  | cons x xs ih =>
    intro n r i y h
    cases i with
    | zero =>
      simp at h; subst h
      refine ⟨n, Int.le_refl _, rfl, fun k f hk => ?_, fun p q h1 h2 => ?_⟩
      · have hlt : k < x.poss.length := (List.getElem?_eq_some_iff.1 hk).1
        simp only [mFs, Int.sub_self]
        rw [List.getElem?_append_left (by simpa using hlt)]
        simp [hk]
      · simp only [mFol]
        constructor
        · rintro (h | h)
          · exact h
          · have := (fol_rule xs _ 0 _ _ h).1; omega
        · exact .inl
    | succ i =>
      simp at h
      obtain ⟨off, h1, h2, h3, h4⟩ := ih (n + x.cnt) (r + 1) i y h
      refine ⟨off, by omega, by simpa [mKs] using h2, fun k f hk => ?_, fun p q g1 g2 => ?_⟩
      · simp only [mFs]
        have := h3 k f hk
        rw [poss_skip (by omega)]
        have e : (off - n).toNat + k - x.cnt = (off - (n + x.cnt)).toNat + k := by omega
        rw [e, this]
        simp; omega
      · simp only [mFol]
        rw [← h4 p q g1 g2]
        constructor
        · rintro (h | h)
          · have := Re.fol_in h; omega
          · exact h
        · exact .inr

/-- The run of a rule tells what the expression means. -/
theorem okP_iff {ys : List Re} {i : Nat} {y : Re} (h : ys[i]? = some y) (s : List UInt8) (t : Nat) : okP (mFs 0 ys) (mFol 0 ys) (knAt (mKs 0 ys) i) s t ↔ y.m s 0 t := by
  obtain ⟨off, h1, h2, h3, h4⟩ := mach_rule ys 0 0 i y h
  have hk : knAt (mKs 0 ys) i = ⟨y.first off, y.last off, y.emp⟩ := knAt_in (by omega) (by simpa using h2)
  have hfit : Fits (hasAt (mFs 0 ys)) y off := by
    intro k f hk c hc
    have := h3 k f hk
    have e : (off + k).toNat = (off - 0).toNat + k := by omega
    rw [hasAt_in (by omega) (by rw [e]; exact this)]
  rw [acc_iff y off hfit 0 t, hk]
  have hp : ∀ p q, y.first off p → (Pth (mFol 0 ys) (hasAt (mFs 0 ys)) s 0 p t q ↔ Pth (y.fol off) (hasAt (mFs 0 ys)) s 0 p t q) := by
    intro p q hp
    constructor
    · intro t
      exact (t.stay (Q := fun p => off ≤ p ∧ p < off + y.cnt) (fun p q h hp => by
        have := (h4 p q hp.1 hp.2).1 h
        exact ⟨this, (Re.fol_in this).2⟩) (Re.first_in hp)).2
    · intro t
      exact t.mono fun p q h => (h4 p q (Re.fol_in h).1.1 (Re.fol_in h).1.2).2 h
  constructor
  · rintro (⟨rfl, e⟩ | ⟨q, ⟨p, f, g⟩, l⟩)
    · exact .inl ⟨rfl, e⟩
    · exact .inr ⟨p, q, f, l, (hp p q f).1 g⟩
  · rintro (⟨rfl, e⟩ | ⟨p, q, f, l, g⟩)
    · exact .inl ⟨rfl, e⟩
    · exact .inr ⟨q, ⟨p, f, (hp p q f).2 g⟩, l⟩
end Go.Fk
end

section
set_option maxRecDepth 100000
set_option linter.unusedVariables false
namespace Go.Fk
open Go

/-- frisket/frisketlaw07.DfaRuns -/
def frisketlaw07_DfaRuns.M (l_0 : Sl) (s_1 : ByteArray) (K : Bool → World → Prop) (w : World) : Prop :=
  Join (fun (s1 : Bool) w1 => Br s1 (frisketlaw07_awake.C  w1 fun x23 w2 => K x23 w2) (frisketlaw07_Make.C l_0 w1 fun x26 w3 => Br (x26.1.isNone) (K true w3) (Loop (fun (s2 : Int × Int) w4 again3 => Br (decide ((0 : Int) ≤ s2.2)) (Join (fun (s4 : Bool) w5 => Br s4 (again3 (s2.2, (w64 (s2.2 - (1 : Int)))) w5) (again3 (s2.1, (w64 (s2.2 - (1 : Int)))) w5)) fun j5 => Br (!(s_1.toList == ((⟨#[]⟩) : ByteArray).toList)) (IdxS x26.2 s2.2 258 fun p43 => LdA 258 p43 w4 fun x44 => frisketref05_Matches.C x44 s_1 w4 fun x46 w6 => j5 x46 w6) (j5 false w4)) (dfa_Dfa_Run.C x26.1 s_1 w4 fun x52 w7 => Br (!x52.2) (Br (x52.1 == (0 : Int)) (K (s2.1 == (-1 : Int)) w7) (K false w7)) (dfa_Dfa_Accept.C x26.1 x52.1 w7 fun x65 w8 => K (x65 == s2.1) w8))) ((-1), (w64 ((x26.2.n : Int) - (1 : Int)))) w3))) fun j6 => frisketlaw07_Great.C l_0 w fun x12 w9 => Br (decide ((0 : Int) < x12)) (j6 true w9) (Br (decide ((16 : Int) < (s_1.size : Int))) (j6 true w9) (frisketlaw07_awake.C  w9 fun x20 w10 => j6 (!x20) w10))
theorem frisketlaw07_DfaRuns.ok (l_0 : Sl) (s_1 : ByteArray) (K : Bool → World → Prop) (w : World) (h : frisketlaw07_DfaRuns.M l_0 s_1 K w) : frisketlaw07_DfaRuns.C l_0 s_1 w K :=
  calls_of_sem (P := P) (H := [(12, .one (.int .i64)), (20, .one .bool), (23, .one .bool), (26, .tup [.one .ptr, .one .sl]), (44, .big), (46, .one .bool), (52, .tup [.one (.int .i64), .one .bool]), (65, .one (.int .i64))]) (ann := (.n .z (.n (.j [(22, .one .bool)] [0, 1] .z .z) (.n .z (.n .z (.n .z (.n (.n .z (.l [(7, .one (.int .i64)), (8, .one (.int .i64))] [1, 5, 6] (.n .z (.n (.j [(47, .one .bool)] [1, 5, 6, 7, 8] .z .z) .z)))) .z))))))) (args := [.slice l_0.a l_0.n l_0.c, .string s_1]) (rt := .one .bool) P_mixed rfl rfl (by kernel_rfl) (by kernel_rfl)
    ((show _ = frisketlaw07_DfaRuns.M l_0 s_1 K w by kernel_rfl).mpr h)

/-- frisket/frisketlaw07.DfaClasses -/
def frisketlaw07_DfaClasses.M (l_0 : Sl) (a_1 : Int) (b_2 : Int) (K : Bool → World → Prop) (w : World) : Prop :=
  Join (fun (s1 : Bool) w1 => Br s1 (frisketlaw07_awake.C  w1 fun x25 w2 => K x25 w2) (frisketlaw07_Make.C l_0 w1 fun x28 w3 => Br (x28.1.isNone) (K true w3) (Loop (fun (s2 : Bool × Int) w4 again3 => dfa_Dfa_States.C x28.1 w4 fun x35 w5 => Br (decide (s2.2 < x35)) (dfa_Dfa_Next.C x28.1 s2.2 a_1 w5 fun x43 w6 => dfa_Dfa_Next.C x28.1 s2.2 b_2 w6 fun x50 w7 => Br s2.1 (Br (x43.1 == x50.1) (again3 ((x43.2 == x50.2), (w64 (s2.2 + (1 : Int)))) w7) (again3 (false, (w64 (s2.2 + (1 : Int)))) w7)) (again3 (false, (w64 (s2.2 + (1 : Int)))) w7)) (Loop (fun (s4 : Int × Int) w8 again5 => Br (decide (s4.2 < (256 : Int))) (dfa_Dfa_Class.C x28.1 (IntKind.wrap .u8 (s4.2)) w8 fun x71 w9 => Join (fun (s6 : Bool) w10 => Br s6 (K false w10) (App P (Builtin.max_ #[T.int, T.int] T.int #[.int .i64 s4.1, .int .i64 x71]) (.one (.int .i64)) w10 fun x82 w11 => again5 (x82, (w64 (s4.2 + (1 : Int)))) w11)) fun j7 => Br (decide (x71 < (0 : Int))) (j7 true w9) (j7 (decide ((w64 (s4.1 + (1 : Int))) < x71)) w9)) (dfa_Dfa_Classes.C x28.1 w8 fun x85 w12 => Br (s4.1 == (w64 (x85 - (1 : Int)))) (dfa_Dfa_Class.C x28.1 a_1 w12 fun x91 w13 => dfa_Dfa_Class.C x28.1 b_2 w13 fun x94 w14 => K ((x91 == x94) == s2.1) w14) (K false w12))) ((-1), 0) w5)) (true, 0) w3))) fun j8 => frisketlaw07_Great.C l_0 w fun x19 w15 => Br (decide ((0 : Int) < x19)) (j8 true w15) (frisketlaw07_awake.C  w15 fun x22 w16 => j8 (!x22) w16)
theorem frisketlaw07_DfaClasses.ok (l_0 : Sl) (a_1 : Int) (b_2 : Int) (K : Bool → World → Prop) (w : World) (h : frisketlaw07_DfaClasses.M l_0 a_1 b_2 K w) : frisketlaw07_DfaClasses.C l_0 a_1 b_2 w K :=
  calls_of_sem (P := P) (H := [(19, .one (.int .i64)), (22, .one .bool), (25, .one .bool), (28, .tup [.one .ptr, .one .sl]), (35, .one (.int .i64)), (43, .tup [.one (.int .i64), .one .bool]), (50, .tup [.one (.int .i64), .one .bool]), (71, .one (.int .i64)), (82, .one (.int .i64)), (85, .one (.int .i64)), (91, .one (.int .i64)), (94, .one (.int .i64))]) (ann := (.n .z (.n (.j [(24, .one .bool)] [0, 1, 2] .z .z) (.n .z (.n .z (.n .z (.n (.n .z (.l [(9, .one .bool), (10, .one (.int .i64))] [1, 2, 7] .z)) (.n .z (.n (.n .z (.l [(15, .one (.int .i64)), (16, .one (.int .i64))] [1, 2, 7, 9] (.n .z (.n (.n .z (.n (.j [(79, .one .bool)] [1, 2, 7, 9, 15, 16, 17] .z .z) .z)) .z)))) .z))))))))) (args := [.slice l_0.a l_0.n l_0.c, .int .u8 a_1, .int .u8 b_2]) (rt := .one .bool) P_mixed rfl rfl (by kernel_rfl) (by kernel_rfl)
    ((show _ = frisketlaw07_DfaClasses.M l_0 a_1 b_2 K w by kernel_rfl).mpr h)

/-- frisket/frisketlaw07.DfaStates -/
def frisketlaw07_DfaStates.M (l_0 : Sl) (c_1 : Int) (K : Bool → World → Prop) (w : World) : Prop :=
  Join (fun (s1 : Bool) w1 => Br s1 (frisketlaw07_awake.C  w1 fun x32 w2 => K x32 w2) (frisketlaw06_Rules.C l_0 w1 fun x35 w3 => nfa_New.C x35.1 w3 fun x41 w4 => dfa_New.C x41.1 w4 fun x46 w5 => Br (x41.1.isNone) (Br (x46.1.isNone) (K (x46.2 == (1 : Int)) w5) (K false w5)) (Join (fun (s2 : Bool) w6 => Br s2 (Br (x46.1.isNone) (Br (x46.2 == (3 : Int)) (K true w6) (K (x46.2 == (0 : Int)) w6)) (K (x46.2 == (0 : Int)) w6)) (Loop (fun (s3 : Int × Int) w7 again4 => dfa_Dfa_States.C x46.1 w7 fun x76 w8 => Br (decide (s3.2 < x76)) (dfa_Dfa_Positions.C x46.1 s3.2 w8 fun x82 w9 => Join (fun (s5 : Bool) w10 => Br s5 (K false w10) (Loop (fun (s6 : Sl × Int) w11 again7 => nfa_Machine_Len.C x41.1 w11 fun x101 w12 => Br (decide (s6.2 < x101)) (Loop (fun (s8 : Bool × Int) w13 again9 => Br (decide (s8.2 < (x82.n : Int))) (Br s8.1 (again9 (true, (w64 (s8.2 + (1 : Int)))) w13) (IdxS x82 s8.2 1 fun p116 => Ld (.int .i64) p116 w13 fun x117 => nfa_Machine_Follow.C x41.1 x117 w13 fun x118 w14 => frisketlaw07_has.C x118 s6.2 w14 fun x120 w15 => again9 (x120, (w64 (s8.2 + (1 : Int)))) w15)) (Join (fun (s10 : Bool) w16 => Join (fun (s11 : Bool) w17 => Br s11 (Al (.cells #[.int .i64 s6.2] T.int (0, 0)) w17 fun b12 w18 => App P (Builtin.append_ #[T.sl_int, T.sl_int] T.sl_int #[.slice s6.1.a s6.1.n s6.1.c, .slice (some ⟨b12, 0, none⟩) 1 1]) (.one .sl) w18 fun x141 w19 => again7 (x141, (w64 (s6.2 + (1 : Int)))) w19) (again7 (s6.1, (w64 (s6.2 + (1 : Int)))) w17)) fun j13 => Br s10 (nfa_Machine_Has.C x41.1 s6.2 c_1 w16 fun x136 w20 => j13 x136 w20) (j13 false w16)) fun j14 => Br (s3.2 == (0 : Int)) (nfa_Machine_Rule.C x41.1 s6.2 w13 fun x127 w21 => nfa_Machine_First.C x41.1 x127 w21 fun x128 w22 => frisketlaw07_has.C x128 s6.2 w22 fun x130 w23 => j14 x130 w23) (j14 s8.1 w13))) (false, 0) w12) (dfa_Dfa_Next.C x46.1 s3.2 c_1 w12 fun x146 w24 => Join (fun (s15 : Bool) w25 => Br s15 (K false w25) (Loop (fun (s16 : Int × Int) w26 again17 => Br (decide (s16.2 < (256 : Int))) (dfa_Dfa_Next.C x46.1 s3.2 (IntKind.wrap .u8 (s16.2)) w26 fun x182 w27 => Join (fun (s18 : Bool) w28 => Br s18 (K false w28) (Br x182.2 (App P (Builtin.max_ #[T.int, T.int] T.int #[.int .i64 s16.1, .int .i64 x182.1]) (.one (.int .i64)) w28 fun x195 w29 => again17 (x195, (w64 (s16.2 + (1 : Int)))) w29) (again17 (s16.1, (w64 (s16.2 + (1 : Int)))) w28))) fun j19 => Br x182.2 (j19 (decide ((w64 (s16.1 + (1 : Int))) < x182.1)) w27) (j19 false w27)) (Loop (fun (s20 : Int) w30 again21 => Br (decide (s20 < s3.2)) (dfa_Dfa_Positions.C x46.1 s20 w30 fun x203 w31 => frisketlaw07_same.C x203 x82 w31 fun x205 w32 => Br x205 (K false w32) (again21 (w64 (s20 + (1 : Int))) w32)) (again4 (s16.1, (w64 (s3.2 + (1 : Int)))) w30)) 1 w26)) (s3.1, 0) w25)) fun j22 => Br (!(x146.2 == (decide ((0 : Int) < (s6.1.n : Int))))) (j22 true w24) (Br x146.2 (dfa_Dfa_Positions.C x46.1 x146.1 w24 fun x159 w33 => frisketlaw07_same.C x159 s6.1 w33 fun x161 w34 => Br (!x161) (j22 true w34) (Br (!x146.2) (j22 (x146.1 != (0 : Int)) w34) (j22 false w34))) (Br (!x146.2) (j22 (x146.1 != (0 : Int)) w24) (j22 false w24))))) (⟨none, 0, 0⟩, 0) w10)) fun j23 => Br (decide ((0 : Int) < s3.2)) (Br ((x82.n : Int) == (0 : Int)) (j23 true w9) (Br (s3.2 == (0 : Int)) (j23 ((x82.n : Int) != (0 : Int)) w9) (j23 false w9))) (Br (s3.2 == (0 : Int)) (j23 ((x82.n : Int) != (0 : Int)) w9) (j23 false w9))) (dfa_Dfa_States.C x46.1 w8 fun x208 w35 => K (s3.1 == (w64 (x208 - (1 : Int)))) w35)) (0, 0) w6)) fun j24 => Br (x46.2 != (0 : Int)) (j24 true w5) (dfa_Dfa_States.C x46.1 w5 fun x61 w36 => j24 (decide ((200 : Int) < x61)) w36)))) fun j25 => frisketlaw07_Great.C l_0 w fun x26 w37 => Br (decide ((0 : Int) < x26)) (j25 true w37) (frisketlaw07_awake.C  w37 fun x29 w38 => j25 (!x29) w38)
theorem frisketlaw07_DfaStates.ok (l_0 : Sl) (c_1 : Int) (K : Bool → World → Prop) (w : World) (h : frisketlaw07_DfaStates.M l_0 c_1 K w) : frisketlaw07_DfaStates.C l_0 c_1 w K :=
  calls_of_sem (P := P) (H := [(26, .one (.int .i64)), (29, .one .bool), (32, .one .bool), (35, .tup [.one .sl, .one .sl, .one (.int .i64)]), (41, .tup [.one .ptr, .one (.int .i64)]), (46, .tup [.one .ptr, .one (.int .i64)]), (61, .one (.int .i64)), (76, .one (.int .i64)), (82, .one .sl), (101, .one (.int .i64)), (117, .one (.int .i64)), (118, .one .sl), (120, .one .bool), (127, .one (.int .i64)), (128, .one .sl), (130, .one .bool), (136, .one .bool), (146, .tup [.one (.int .i64), .one .bool]), (159, .one .sl), (161, .one .bool), (182, .tup [.one (.int .i64), .one .bool]), (195, .one (.int .i64)), (203, .one .sl), (205, .one .bool), (208, .one (.int .i64))]) (ann := (.n .z (.n (.j [(31, .one .bool)] [0, 1] .z .z) (.n .z (.n .z (.n .z (.n .z (.n (.j [(63, .one .bool)] [1, 8, 10, 11] .z .z) (.n .z (.n (.n .z (.l [(12, .one (.int .i64)), (13, .one (.int .i64))] [1, 8, 10] (.n .z (.n (.n .z (.n (.j [(98, .one .bool)] [1, 8, 10, 12, 13, 14] .z .z) (.n .z (.n (.n .z (.l [(15, .one .sl), (16, .one (.int .i64))] [1, 8, 10, 12, 13, 14] (.n .z (.n (.n .z (.n (.n .z (.l [(17, .one .bool), (18, .one (.int .i64))] [1, 8, 10, 12, 13, 14, 15, 16] .z)) (.j [(17, .one .bool)] [1, 8, 10, 12, 13, 14, 15, 16] .z (.j [(137, .one .bool)] [1, 8, 10, 12, 13, 14, 15, 16] .z .z)))) .z)))) (.n .z (.n (.j [(172, .one .bool)] [1, 8, 10, 12, 13, 14] .z .z) (.n (.n .z (.l [(12, .one (.int .i64)), (21, .one (.int .i64))] [1, 8, 10, 13, 14] (.n .z (.n (.n .z (.n (.j [(191, .one .bool)] [1, 8, 10, 12, 13, 14, 21, 22, 23] .z .z) .z)) .z)))) (.n .z (.l [(24, .one (.int .i64))] [1, 8, 10, 12, 13, 14] .z))))))))) .z)))) .z)))))))))) (args := [.slice l_0.a l_0.n l_0.c, .int .u8 c_1]) (rt := .one .bool) P_mixed rfl rfl (by kernel_rfl) (by kernel_rfl)
    ((show _ = frisketlaw07_DfaStates.M l_0 c_1 K w by kernel_rfl).mpr h)

/-- frisket/frisketlaw07.DfaNone -/
def frisketlaw07_DfaNone.M (n_0 : Int) (b_1 : Int) (s_2 : ByteArray) (K : Bool → World → Prop) (w : World) : Prop :=
  Br (decide ((30 : Int) < (s_2.size : Int))) (frisketlaw07_awake.C  w fun x17 w1 => K x17 w1) (dfa_New.C none w fun x19 w2 => dfa_Dfa_Next.C none n_0 b_1 w2 fun x26 w3 => dfa_Dfa_Run.C none s_2 w3 fun x32 w4 => Br (x19.1.isNone) (Br (x19.2 == (1 : Int)) (Br (x26.1 == (0 : Int)) (Br (!x26.2) (Br (x32.1 == (0 : Int)) (Br (!x32.2) (dfa_Dfa_States.C none w4 fun x59 w5 => Br (x59 == (0 : Int)) (dfa_Dfa_Accept.C none n_0 w5 fun x65 w6 => Br (x65 == (-1 : Int)) (dfa_Dfa_Positions.C none n_0 w6 fun x71 w7 => Br ((x71.n : Int) == (0 : Int)) (dfa_Dfa_Classes.C none w7 fun x77 w8 => Br (x77 == (0 : Int)) (dfa_Dfa_Class.C none b_1 w8 fun x83 w9 => Br (x83 == (-1 : Int)) (frisketlaw07_awake.C  w9 fun x87 w10 => K x87 w10) (K false w9)) (K false w8)) (K false w7)) (K false w6)) (K false w5)) (K false w4)) (K false w4)) (K false w4)) (K false w4)) (K false w4)) (K false w4))
theorem frisketlaw07_DfaNone.ok (n_0 : Int) (b_1 : Int) (s_2 : ByteArray) (K : Bool → World → Prop) (w : World) (h : frisketlaw07_DfaNone.M n_0 b_1 s_2 K w) : frisketlaw07_DfaNone.C n_0 b_1 s_2 w K :=
  calls_of_sem (P := P) (H := [(17, .one .bool), (19, .tup [.one .ptr, .one (.int .i64)]), (26, .tup [.one (.int .i64), .one .bool]), (32, .tup [.one (.int .i64), .one .bool]), (59, .one (.int .i64)), (65, .one (.int .i64)), (71, .one .sl), (77, .one (.int .i64)), (83, .one (.int .i64)), (87, .one .bool)]) (ann := .z) (args := [.int .i64 n_0, .int .u8 b_1, .string s_2]) (rt := .one .bool) P_mixed rfl rfl (by kernel_rfl) (by kernel_rfl)
    ((show _ = frisketlaw07_DfaNone.M n_0 b_1 s_2 K w by kernel_rfl).mpr h)

/-- frisket/frisketlaw07.Great -/
def frisketlaw07_Great.M (l_0 : Sl) (K : Int → World → Prop) (w : World) : Prop :=
  App P (Builtin.max_ #[T.int, T.int] T.int #[.int .i64 (w64 ((l_0.n : Int) - (6 : Int))), .int .i64 0]) (.one (.int .i64)) w fun x8 w1 => Loop (fun (s1 : Int × Int) w2 again2 => Br (decide (s1.2 < (l_0.n : Int))) (IdxS l_0 s1.2 1 fun p18 => Ld .str p18 w2 fun x19 => App P (Builtin.max_ #[T.int, T.int] T.int #[.int .i64 (w64 ((x19.size : Int) - (40 : Int))), .int .i64 0]) (.one (.int .i64)) w2 fun x22 w3 => again2 ((w64 (s1.1 + x22)), (w64 (s1.2 + (1 : Int)))) w3) (K s1.1 w2)) (x8, 0) w1
theorem frisketlaw07_Great.ok (l_0 : Sl) (K : Int → World → Prop) (w : World) (h : frisketlaw07_Great.M l_0 K w) : frisketlaw07_Great.C l_0 w K :=
  calls_of_sem (P := P) (H := [(8, .one (.int .i64)), (19, .one .str), (22, .one (.int .i64))]) (ann := (.n .z (.n .z (.n (.n .z (.l [(3, .one (.int .i64)), (4, .one (.int .i64))] [0] .z)) .z)))) (args := [.slice l_0.a l_0.n l_0.c]) (rt := .one (.int .i64)) P_mixed rfl rfl (by kernel_rfl) (by kernel_rfl)
    ((show _ = frisketlaw07_Great.M l_0 K w by kernel_rfl).mpr h)

/-- frisket/frisketlaw07.awake -/
def frisketlaw07_awake.M  (K : Bool → World → Prop) (w : World) : Prop :=
  Al (.cells #[.string (⟨#[97, 98]⟩), .string (⟨#[97, 42]⟩)] T.string (0, 0)) w fun b1 w1 => frisketlaw07_Make.C (⟨(some ⟨b1, 0, none⟩), 2, 2⟩) w1 fun x9 w2 => dfa_Dfa_Run.C x9.1 (⟨#[97, 97]⟩) w2 fun x14 w3 => dfa_Dfa_Run.C x9.1 (⟨#[97, 98]⟩) w3 fun x19 w4 => dfa_Dfa_Accept.C x9.1 x14.1 w4 fun x24 w5 => Br (x24 == (1 : Int)) (dfa_Dfa_Accept.C x9.1 x19.1 w5 fun x29 w6 => Br (x29 == (0 : Int)) (dfa_Dfa_Accept.C x9.1 0 w6 fun x34 w7 => K (x34 == (-1 : Int)) w7) (K false w6)) (K false w5)
theorem frisketlaw07_awake.ok  (K : Bool → World → Prop) (w : World) (h : frisketlaw07_awake.M  K w) : frisketlaw07_awake.C  w K :=
  calls_of_sem (P := P) (H := [(9, .tup [.one .ptr, .one .sl]), (14, .tup [.one (.int .i64), .one .bool]), (19, .tup [.one (.int .i64), .one .bool]), (24, .one (.int .i64)), (29, .one (.int .i64)), (34, .one (.int .i64))]) (ann := .z) (args := []) (rt := .one .bool) P_mixed rfl rfl (by kernel_rfl) (by kernel_rfl)
    ((show _ = frisketlaw07_awake.M  K w by kernel_rfl).mpr h)

/-- frisket/frisketlaw07.Make -/
def frisketlaw07_Make.M (l_0 : Sl) (K : (Option Addr × Sl) → World → Prop) (w : World) : Prop :=
  frisketlaw06_Rules.C l_0 w fun x13 w1 => nfa_New.C x13.1 w1 fun x19 w2 => dfa_New.C x19.1 w2 fun x24 w3 => Br (x24.2 != (0 : Int)) (K (none, ⟨none, 0, 0⟩) w3) (K (x24.1, x13.2.1) w3)
theorem frisketlaw07_Make.ok (l_0 : Sl) (K : (Option Addr × Sl) → World → Prop) (w : World) (h : frisketlaw07_Make.M l_0 K w) : frisketlaw07_Make.C l_0 w K :=
  calls_of_sem (P := P) (H := [(13, .tup [.one .sl, .one .sl, .one (.int .i64)]), (19, .tup [.one .ptr, .one (.int .i64)]), (24, .tup [.one .ptr, .one (.int .i64)])]) (ann := .z) (args := [.slice l_0.a l_0.n l_0.c]) (rt := .tup [.one .ptr, .one .sl]) P_mixed rfl rfl (by kernel_rfl) (by kernel_rfl)
    ((show _ = frisketlaw07_Make.M l_0 K w by kernel_rfl).mpr h)

/-- (*frisket/dfa.Dfa).Run -/
def dfa_Dfa_Run.M (d_0 : Option Addr) (s_1 : ByteArray) (K : (Int × Bool) → World → Prop) (w : World) : Prop :=
  Loop (fun (s1 : Int × Bool × Int) w1 again2 => Join (fun (s3 : Bool) w2 => Br s3 (IdxStr s_1 s1.2.2 fun x25 => dfa_Dfa_Next.C d_0 s1.1 (x25.toNat : Int) w2 fun x26 w3 => again2 (x26.1, x26.2, (w64 (s1.2.2 + (1 : Int)))) w3) (K (s1.1, s1.2.1) w2)) fun j4 => Br (decide (s1.2.2 < (s_1.size : Int))) (j4 s1.2.1 w1) (j4 false w1)) (0, (!d_0.isNone), 0) w
theorem dfa_Dfa_Run.ok (d_0 : Option Addr) (s_1 : ByteArray) (K : (Int × Bool) → World → Prop) (w : World) (h : dfa_Dfa_Run.M d_0 s_1 K w) : dfa_Dfa_Run.C d_0 s_1 w K :=
  calls_of_sem (P := P) (H := [(26, .tup [.one (.int .i64), .one .bool])]) (ann := (.n .z (.n .z (.n (.n .z (.l [(6, .one (.int .i64)), (7, .one .bool), (8, .one (.int .i64))] [0, 1] (.n (.j [(17, .one .bool)] [0, 1, 6, 7, 8] .z .z) .z))) .z)))) (args := [.pointer d_0, .string s_1]) (rt := .tup [.one (.int .i64), .one .bool]) P_mixed rfl rfl (by kernel_rfl) (by kernel_rfl)
    ((show _ = dfa_Dfa_Run.M d_0 s_1 K w by kernel_rfl).mpr h)

/-- (*frisket/dfa.Dfa).Accept -/
def dfa_Dfa_Accept.M (d_0 : Option Addr) (n_1 : Int) (K : Int → World → Prop) (w : World) : Prop :=
  dfa_Dfa_has.C d_0 n_1 w fun x7 w1 => Br (!x7) (K (-1) w1) (NilC d_0 fun a10 => Ld .sl (a10.add 1) w1 fun x12 => IdxS x12 n_1 258 fun p14 => Ld (.int .i64) (p14.add 257) w1 fun x16 => K x16 w1)
theorem dfa_Dfa_Accept.ok (d_0 : Option Addr) (n_1 : Int) (K : Int → World → Prop) (w : World) (h : dfa_Dfa_Accept.M d_0 n_1 K w) : dfa_Dfa_Accept.C d_0 n_1 w K :=
  calls_of_sem (P := P) (H := [(7, .one .bool), (12, .one .sl), (16, .one (.int .i64))]) (ann := .z) (args := [.pointer d_0, .int .i64 n_1]) (rt := .one (.int .i64)) P_mixed rfl rfl (by kernel_rfl) (by kernel_rfl)
    ((show _ = dfa_Dfa_Accept.M d_0 n_1 K w by kernel_rfl).mpr h)

/-- (*frisket/dfa.Dfa).States -/
def dfa_Dfa_States.M (d_0 : Option Addr) (K : Int → World → Prop) (w : World) : Prop :=
  Br (d_0.isNone) (K 0 w) (NilC d_0 fun a6 => Ld .sl (a6.add 1) w fun x8 => K (x8.n : Int) w)
theorem dfa_Dfa_States.ok (d_0 : Option Addr) (K : Int → World → Prop) (w : World) (h : dfa_Dfa_States.M d_0 K w) : dfa_Dfa_States.C d_0 w K :=
  calls_of_sem (P := P) (H := [(8, .one .sl)]) (ann := .z) (args := [.pointer d_0]) (rt := .one (.int .i64)) P_mixed rfl rfl (by kernel_rfl) (by kernel_rfl)
    ((show _ = dfa_Dfa_States.M d_0 K w by kernel_rfl).mpr h)

/-- (*frisket/dfa.Dfa).Next -/
def dfa_Dfa_Next.M (d_0 : Option Addr) (n_1 : Int) (b_2 : Int) (K : (Int × Bool) → World → Prop) (w : World) : Prop :=
  Join (fun (s1 : Bool) w1 => Br s1 (K (0, false) w1) (NilC d_0 fun a26 => Ld .sl (a26.add 1) w1 fun x28 => IdxS x28 n_1 258 fun p31 => IdxA 256 (p31.add 1) b_2 1 fun p33 => Ld (.int .i64) p33 w1 fun x34 => K (x34, true) w1)) fun j2 => dfa_Dfa_has.C d_0 n_1 w fun x10 w2 => Br (!x10) (j2 true w2) (NilC d_0 fun a14 => Ld .sl (a14.add 1) w2 fun x16 => IdxS x16 n_1 258 fun p19 => IdxA 256 (p19.add 1) b_2 1 fun p21 => Ld (.int .i64) p21 w2 fun x22 => j2 (x22 == (-1 : Int)) w2)
theorem dfa_Dfa_Next.ok (d_0 : Option Addr) (n_1 : Int) (b_2 : Int) (K : (Int × Bool) → World → Prop) (w : World) (h : dfa_Dfa_Next.M d_0 n_1 b_2 K w) : dfa_Dfa_Next.C d_0 n_1 b_2 w K :=
  calls_of_sem (P := P) (H := [(10, .one .bool), (16, .one .sl), (22, .one (.int .i64)), (28, .one .sl), (34, .one (.int .i64))]) (ann := (.n .z (.n (.j [(24, .one .bool)] [0, 1, 2] .z .z) .z))) (args := [.pointer d_0, .int .i64 n_1, .int .u8 b_2]) (rt := .tup [.one (.int .i64), .one .bool]) P_mixed rfl rfl (by kernel_rfl) (by kernel_rfl)
    ((show _ = dfa_Dfa_Next.M d_0 n_1 b_2 K w by kernel_rfl).mpr h)

/-- (*frisket/dfa.Dfa).Class -/
def dfa_Dfa_Class.M (d_0 : Option Addr) (b_1 : Int) (K : Int → World → Prop) (w : World) : Prop :=
  Br (d_0.isNone) (K (-1) w) (NilC d_0 fun a9 => IdxA 256 (a9.add 2) b_1 1 fun p11 => Ld (.int .i64) p11 w fun x12 => K x12 w)
theorem dfa_Dfa_Class.ok (d_0 : Option Addr) (b_1 : Int) (K : Int → World → Prop) (w : World) (h : dfa_Dfa_Class.M d_0 b_1 K w) : dfa_Dfa_Class.C d_0 b_1 w K :=
  calls_of_sem (P := P) (H := [(12, .one (.int .i64))]) (ann := .z) (args := [.pointer d_0, .int .u8 b_1]) (rt := .one (.int .i64)) P_mixed rfl rfl (by kernel_rfl) (by kernel_rfl)
    ((show _ = dfa_Dfa_Class.M d_0 b_1 K w by kernel_rfl).mpr h)

/-- (*frisket/dfa.Dfa).Classes -/
def dfa_Dfa_Classes.M (d_0 : Option Addr) (K : Int → World → Prop) (w : World) : Prop :=
  Br (d_0.isNone) (K 0 w) (NilC d_0 fun a6 => Ld (.int .i64) (a6.add 258) w fun x8 => K x8 w)
theorem dfa_Dfa_Classes.ok (d_0 : Option Addr) (K : Int → World → Prop) (w : World) (h : dfa_Dfa_Classes.M d_0 K w) : dfa_Dfa_Classes.C d_0 w K :=
  calls_of_sem (P := P) (H := [(8, .one (.int .i64))]) (ann := .z) (args := [.pointer d_0]) (rt := .one (.int .i64)) P_mixed rfl rfl (by kernel_rfl) (by kernel_rfl)
    ((show _ = dfa_Dfa_Classes.M d_0 K w by kernel_rfl).mpr h)

/-- frisket/dfa.New -/
def dfa_New.M (m_0 : Option Addr) (K : (Option Addr × Int) → World → Prop) (w : World) : Prop :=
  Br (m_0.isNone) (K (none, 1) w) (App P (Instr.build T.dfa_state #[(2, .int .i64 (-1))]) .big w fun x10 w1 => App P (Instr.buildSlice T.sl_dfa_state 1 #[(0, .agg x10)]) (.one .sl) w1 fun x11 w2 => App P (Instr.build T.dfa_Dfa #[(0, .pointer m_0), (1, .slice x11.a x11.n x11.c)]) .big w2 fun x12 w3 => Al (.cells x12 T.dfa_Dfa (0, 0)) w3 fun b1 w4 => Al (.map #[] 0) w4 fun m2 w5 => Al (.cells #[.pointer (some (⟨b1, 0, none⟩)), .map (some m2)] T.dfa_build (0, 0)) w5 fun b3 w6 => Loop (fun (s4 : Int) w7 again5 => Ld .sl (⟨b1, 1, none⟩) w7 fun x22 => Br (decide (s4 < (x22.n : Int))) (dfa_build_fill.C (some (⟨b3, 0, none⟩)) s4 w7 fun x29 w8 => Ld .sl (⟨b1, 1, none⟩) w8 fun x33 => Br (decide ((2000 : Int) < (x33.n : Int))) (K (none, 3) w8) (again5 (w64 (s4 + (1 : Int))) w8)) (dfa_Dfa_group.C (some (⟨b1, 0, none⟩)) w7 fun x37 w9 => K ((some (⟨b1, 0, none⟩)), 0) w9)) 0 w6)
theorem dfa_New.ok (m_0 : Option Addr) (K : (Option Addr × Int) → World → Prop) (w : World) (h : dfa_New.M m_0 K w) : dfa_New.C m_0 w K :=
  calls_of_sem (P := P) (H := [(10, .big), (11, .one .sl), (12, .big), (22, .one .sl), (29, .tup []), (33, .one .sl), (37, .tup [])]) (ann := (.n .z (.n .z (.n .z (.n .z (.n (.n .z (.l [(6, .one (.int .i64))] [4, 5] .z)) .z)))))) (args := [.pointer m_0]) (rt := .tup [.one .ptr, .one (.int .i64)]) P_mixed rfl rfl (by kernel_rfl) (by kernel_rfl)
    ((show _ = dfa_New.M m_0 K w by kernel_rfl).mpr h)

/-- (*frisket/dfa.Dfa).Positions -/
def dfa_Dfa_Positions.M (d_0 : Option Addr) (n_1 : Int) (K : Sl → World → Prop) (w : World) : Prop :=
  dfa_Dfa_has.C d_0 n_1 w fun x7 w1 => Br (!x7) (K (⟨none, 0, 0⟩) w1) (NilC d_0 fun a10 => Ld .sl (a10.add 1) w1 fun x12 => IdxS x12 n_1 258 fun p14 => Ld .sl p14 w1 fun x16 => slices_Clone_int.C x16 w1 fun x17 w2 => K x17 w2)
theorem dfa_Dfa_Positions.ok (d_0 : Option Addr) (n_1 : Int) (K : Sl → World → Prop) (w : World) (h : dfa_Dfa_Positions.M d_0 n_1 K w) : dfa_Dfa_Positions.C d_0 n_1 w K :=
  calls_of_sem (P := P) (H := [(7, .one .bool), (12, .one .sl), (16, .one .sl), (17, .one .sl)]) (ann := .z) (args := [.pointer d_0, .int .i64 n_1]) (rt := .one .sl) P_mixed rfl rfl (by kernel_rfl) (by kernel_rfl)
    ((show _ = dfa_Dfa_Positions.M d_0 n_1 K w by kernel_rfl).mpr h)

/-- frisket/frisketlaw07.has -/
def frisketlaw07_has.M (l_0 : Sl) (n_1 : Int) (K : Bool → World → Prop) (w : World) : Prop :=
  Loop (fun (s1 : Int) w1 again2 => Br (decide (s1 < (l_0.n : Int))) (IdxS l_0 s1 1 fun p14 => Ld (.int .i64) p14 w1 fun x15 => Br (x15 == n_1) (K true w1) (again2 (w64 (s1 + (1 : Int))) w1)) (K false w1)) 0 w
theorem frisketlaw07_has.ok (l_0 : Sl) (n_1 : Int) (K : Bool → World → Prop) (w : World) (h : frisketlaw07_has.M l_0 n_1 K w) : frisketlaw07_has.C l_0 n_1 w K :=
  calls_of_sem (P := P) (H := [(15, .one (.int .i64))]) (ann := (.n .z (.n (.n .z (.l [(5, .one (.int .i64))] [0, 1] .z)) .z))) (args := [.slice l_0.a l_0.n l_0.c, .int .i64 n_1]) (rt := .one .bool) P_mixed rfl rfl (by kernel_rfl) (by kernel_rfl)
    ((show _ = frisketlaw07_has.M l_0 n_1 K w by kernel_rfl).mpr h)

/-- frisket/frisketlaw07.same -/
def frisketlaw07_same.M (a_0 : Sl) (b_1 : Sl) (K : Bool → World → Prop) (w : World) : Prop :=
  Br ((a_0.n : Int) != (b_1.n : Int)) (K false w) (Loop (fun (s1 : Int) w1 again2 => Br (decide (s1 < (a_0.n : Int))) (Draw w1 fun S3 w2 => IdxS a_0 s1 1 fun p19 => LdS S3 (.int .i64) p19 fun x20 => IdxS b_1 s1 1 fun p23 => LdS S3 (.int .i64) p23 fun x24 => Br (x20 != x24) (K false w2) (again2 (w64 (s1 + (1 : Int))) w2)) (K true w1)) 0 w)
theorem frisketlaw07_same.ok (a_0 : Sl) (b_1 : Sl) (K : Bool → World → Prop) (w : World) (h : frisketlaw07_same.M a_0 b_1 K w) : frisketlaw07_same.C a_0 b_1 w K :=
  calls_of_sem (P := P) (H := [(20, .one (.int .i64)), (24, .one (.int .i64))]) (ann := (.n .z (.n .z (.n (.n .z (.l [(5, .one (.int .i64))] [0, 1] .z)) .z)))) (args := [.slice a_0.a a_0.n a_0.c, .slice b_1.a b_1.n b_1.c]) (rt := .one .bool) P_mixed rfl rfl (by kernel_rfl) (by kernel_rfl)
    ((show _ = frisketlaw07_same.M a_0 b_1 K w by kernel_rfl).mpr h)

/-- (*frisket/dfa.Dfa).has -/
def dfa_Dfa_has.M (d_0 : Option Addr) (n_1 : Int) (K : Bool → World → Prop) (w : World) : Prop :=
  Br (decide ((0 : Int) ≤ n_1)) (dfa_Dfa_States.C d_0 w fun x10 w1 => K (decide (n_1 < x10)) w1) (K false w)
theorem dfa_Dfa_has.ok (d_0 : Option Addr) (n_1 : Int) (K : Bool → World → Prop) (w : World) (h : dfa_Dfa_has.M d_0 n_1 K w) : dfa_Dfa_has.C d_0 n_1 w K :=
  calls_of_sem (P := P) (H := [(10, .one (.int .i64))]) (ann := .z) (args := [.pointer d_0, .int .i64 n_1]) (rt := .one .bool) P_mixed rfl rfl (by kernel_rfl) (by kernel_rfl)
    ((show _ = dfa_Dfa_has.M d_0 n_1 K w by kernel_rfl).mpr h)

/-- (*frisket/dfa.build).fill -/
def dfa_build_fill.M (b_0 : Option Addr) (n_1 : Int) (K : Unit → World → Prop) (w : World) : Prop :=
  Draw w fun S1 w1 => NilC b_0 fun a11 => LdS S1 .ptr a11 fun x13 => NilC x13 fun a14 => LdS S1 .ptr a14 fun x16 => NilC b_0 fun a18 => LdS S1 .ptr a18 fun x20 => NilC x20 fun a21 => LdS S1 .sl (a21.add 1) fun x23 => IdxS x23 n_1 258 fun p25 => LdS S1 .sl p25 fun x27 => dfa_behind.C x16 x27 w1 fun x28 w2 => (S1 w2 ∧ Loop (fun (s2 : Int) w3 again3 => Br (decide (s2 < (256 : Int))) (Loop (fun (s4 : Sl × Int) w4 again5 => Br (decide (s4.2 < (x28.n : Int))) (IdxS x28 s4.2 1 fun p36 => Ld (.int .i64) p36 w4 fun x37 => NilC b_0 fun a39 => Ld .ptr a39 w4 fun x41 => NilC x41 fun a42 => Ld .ptr a42 w4 fun x44 => nfa_Machine_Has.C x44 x37 (IntKind.wrap .u8 (s2)) w4 fun x48 w5 => Br x48 (Al (.cells #[.int .i64 x37] T.int (0, 0)) w5 fun b6 w6 => App P (Builtin.append_ #[T.sl_int, T.sl_int] T.sl_int #[.slice s4.1.a s4.1.n s4.1.c, .slice (some ⟨b6, 0, none⟩) 1 1]) (.one .sl) w6 fun x52 w7 => again5 (x52, (w64 (s4.2 + (1 : Int)))) w7) (again5 (s4.1, (w64 (s4.2 + (1 : Int)))) w5)) (dfa_build_place.C b_0 s4.1 w4 fun x56 w8 => NilC b_0 fun a58 => Ld .ptr a58 w8 fun x60 => NilC x60 fun a61 => Ld .sl (a61.add 1) w8 fun x63 => IdxS x63 n_1 258 fun p67 => IdxA 256 (p67.add 1) s2 1 fun p69 => St p69 (.int .i64 x56) w8 fun w9 => again3 (w64 (s2 + (1 : Int))) w9)) (⟨none, 0, 0⟩, 0) w3) (K () w3)) 0 w2)
theorem dfa_build_fill.ok (b_0 : Option Addr) (n_1 : Int) (K : Unit → World → Prop) (w : World) (h : dfa_build_fill.M b_0 n_1 K w) : dfa_build_fill.C b_0 n_1 w K :=
  calls_of_sem (P := P) (H := [(13, .one .ptr), (16, .one .ptr), (20, .one .ptr), (23, .one .sl), (27, .one .sl), (28, .one .sl), (37, .one (.int .i64)), (41, .one .ptr), (44, .one .ptr), (48, .one .bool), (56, .one (.int .i64)), (60, .one .ptr), (63, .one .sl)]) (ann := (.n .z (.n .z (.l [(29, .one (.int .i64))] [0, 1, 4] (.n .z (.n .z (.n (.n .z (.n .z (.n (.n .z (.l [(6, .one .sl), (34, .one (.int .i64))] [0, 1, 4, 5, 29, 32, 33] .z)) .z))) .z))))))) (args := [.pointer b_0, .int .i64 n_1]) (rt := .tup []) P_mixed rfl rfl (by kernel_rfl) (by kernel_rfl)
    ((show _ = dfa_build_fill.M b_0 n_1 K w by kernel_rfl).mpr h)

/-- (*frisket/dfa.Dfa).group -/
def dfa_Dfa_group.M (d_0 : Option Addr) (K : Unit → World → Prop) (w : World) : Prop :=
  Al (.map #[] 0) w fun m1 w1 => Loop (fun (s2 : Int) w2 again3 => Br (decide (s2 < (256 : Int))) (NilC d_0 fun a15 => Ld .sl (a15.add 1) w2 fun x17 => App P (Instr.makeSlice T.sl_int (.int .i64 0) (.int .i64 (x17.n : Int))) (.one .sl) w2 fun x19 w3 => NilC d_0 fun a21 => Ld .sl (a21.add 1) w3 fun x23 => Loop (fun (s4 : Sl × Int) w4 again5 => Br (decide (s4.2 < (x23.n : Int))) (IdxS x23 s4.2 258 fun p27 => LdA 258 p27 w4 fun x28 => Al (.cells (#[(.slice none 0 0 : Value)] ++ Array.replicate 257 (.int .i64 0 : Value)) T.dfa_state (0, 0)) w4 fun b6 w5 => StA P T.dfa_state (⟨b6, 0, none⟩) x28 w5 fun w6 => IdxA 256 (⟨b6, 1, none⟩) s2 1 fun p32 => Ld (.int .i64) p32 w6 fun x33 => Al (.cells #[.int .i64 (w64 (x33 + (1 : Int)))] T.int (0, 0)) w6 fun b7 w7 => App P (Builtin.append_ #[T.sl_int, T.sl_int] T.sl_int #[.slice s4.1.a s4.1.n s4.1.c, .slice (some ⟨b7, 0, none⟩) 1 1]) (.one .sl) w7 fun x36 w8 => again5 (x36, (w64 (s4.2 + (1 : Int)))) w8) (dfa_text.C s4.1 w4 fun x39 w9 => App P (Instr.lookup T.map_string_int (.map (some m1)) (.string x39) true) (.tup [.one (.int .i64), .one .bool]) w9 fun x43 w10 => Join (fun (s8 : Int) w11 => NilC d_0 fun a56 => IdxA 256 (a56.add 2) s2 1 fun p58 => St p58 (.int .i64 s8) w11 fun w12 => again3 (w64 (s2 + (1 : Int))) w12) fun j9 => Br (!x43.2) (App P (Builtin.len_ #[T.map_string_int] T.int #[.map (some m1)]) (.one (.int .i64)) w10 fun x49 w13 => App0 P (Instr.mapUpdate T.map_string_int (.map (some m1)) (.string x39) (.int .i64 x49)) w13 fun w14 => j9 x49 w14) (j9 x43.1 w10))) (x19, 0) w3) (App P (Builtin.len_ #[T.map_string_int] T.int #[.map (some m1)]) (.one (.int .i64)) w2 fun x62 w15 => NilC d_0 fun a63 => St (a63.add 258) (.int .i64 x62) w15 fun w16 => K () w16)) 0 w1
theorem dfa_Dfa_group.ok (d_0 : Option Addr) (K : Unit → World → Prop) (w : World) (h : dfa_Dfa_group.M d_0 K w) : dfa_Dfa_group.C d_0 w K :=
  calls_of_sem (P := P) (H := [(17, .one .sl), (19, .one .sl), (23, .one .sl), (28, .big), (33, .one (.int .i64)), (39, .one .str), (43, .tup [.one (.int .i64), .one .bool])]) (ann := (.n .z (.n (.n .z (.l [(11, .one (.int .i64))] [0, 2] (.n .z (.n .z (.n (.n .z (.n .z (.n (.n .z (.l [(4, .one .sl), (25, .one (.int .i64))] [0, 2, 3, 11, 23, 24] .z)) (.n .z (.n .z (.j [(8, .one (.int .i64))] [0, 2, 3, 11] .z .z)))))) .z))))) .z))) (args := [.pointer d_0]) (rt := .tup []) P_mixed rfl rfl (by kernel_rfl) (by kernel_rfl)
    ((show _ = dfa_Dfa_group.M d_0 K w by kernel_rfl).mpr h)

/-- slices.Clone[[]int,int] -/
def slices_Clone_int.M (s_0 : Sl) (K : Sl → World → Prop) (w : World) : Prop :=
  Br (s_0.a.isNone) (K (⟨none, 0, 0⟩) w) (Al (.cells #[] T.int (0, 0)) w fun b1 w1 => App P (Builtin.append_ #[T.sl_int, T.sl_int] T.sl_int #[.slice (some ⟨b1, 0, none⟩) 0 0, .slice s_0.a s_0.n s_0.c]) (.one .sl) w1 fun x7 w2 => K x7 w2)
theorem slices_Clone_int.ok (s_0 : Sl) (K : Sl → World → Prop) (w : World) (h : slices_Clone_int.M s_0 K w) : slices_Clone_int.C s_0 w K :=
  calls_of_sem (P := P) (H := []) (ann := .z) (args := [.slice s_0.a s_0.n s_0.c]) (rt := .one .sl) P_mixed rfl rfl (by kernel_rfl) (by kernel_rfl)
    ((show _ = slices_Clone_int.M s_0 K w by kernel_rfl).mpr h)

/-- frisket/dfa.behind -/
def dfa_behind.M (m_0 : Option Addr) (at_1 : Sl) (K : Sl → World → Prop) (w : World) : Prop :=
  Join (fun (s1 : Sl) w1 => Loop (fun (s2 : Sl × Int) w2 again3 => Br (decide (s2.2 < (at_1.n : Int))) (IdxS at_1 s2.2 1 fun p26 => Ld (.int .i64) p26 w2 fun x27 => nfa_Machine_Follow.C m_0 x27 w2 fun x31 w3 => App P (Builtin.append_ #[T.sl_int, T.sl_int] T.sl_int #[.slice s2.1.a s2.1.n s2.1.c, .slice x31.a x31.n x31.c]) (.one .sl) w3 fun x32 w4 => again3 (x32, (w64 (s2.2 + (1 : Int)))) w4) (slices_Sort.C s2.1 w2 fun x35 w5 => slices_Compact_int.C s2.1 w5 fun x37 w6 => K x37 w6)) (s1, 0) w1) fun j4 => Br (at_1.a.isNone) (nfa_Machine_Rules.C m_0 w fun x12 w7 => Loop (fun (s5 : Sl × Int) w8 again6 => Br (decide (s5.2 < x12)) (nfa_Machine_First.C m_0 s5.2 w8 fun x19 w9 => App P (Builtin.append_ #[T.sl_int, T.sl_int] T.sl_int #[.slice s5.1.a s5.1.n s5.1.c, .slice x19.a x19.n x19.c]) (.one .sl) w9 fun x20 w10 => again6 (x20, (w64 (s5.2 + (1 : Int)))) w10) (j4 s5.1 w8)) (⟨none, 0, 0⟩, 0) w7) (j4 (⟨none, 0, 0⟩) w)
theorem dfa_behind.ok (m_0 : Option Addr) (at_1 : Sl) (K : Sl → World → Prop) (w : World) (h : dfa_behind.M m_0 at_1 K w) : dfa_behind.C m_0 at_1 w K :=
  calls_of_sem (P := P) (H := [(12, .one (.int .i64)), (19, .one .sl), (27, .one (.int .i64)), (31, .one .sl), (35, .tup []), (37, .one .sl)]) (ann := (.n .z (.n .z (.j [(5, .one .sl)] [0, 1] (.n .z (.n (.n .z (.l [(5, .one .sl), (13, .one (.int .i64))] [0, 1, 12] .z)) .z)) (.n (.n .z (.l [(5, .one .sl), (24, .one (.int .i64))] [0, 22, 23] .z)) .z))))) (args := [.pointer m_0, .slice at_1.a at_1.n at_1.c]) (rt := .one .sl) P_mixed rfl rfl (by kernel_rfl) (by kernel_rfl)
    ((show _ = dfa_behind.M m_0 at_1 K w by kernel_rfl).mpr h)

/-- (*frisket/dfa.build).place -/
def dfa_build_place.M (b_0 : Option Addr) (at_1 : Sl) (K : Int → World → Prop) (w : World) : Prop :=
  Br ((at_1.n : Int) == (0 : Int)) (K (-1) w) (dfa_text.C at_1 w fun x12 w1 => NilC b_0 fun a15 => Ld .map (a15.add 1) w1 fun x17 => App P (Instr.lookup T.map_string_int (.map x17) (.string x12) true) (.tup [.one (.int .i64), .one .bool]) w1 fun x19 w2 => Br (!x19.2) (NilC b_0 fun a25 => Ld .ptr a25 w2 fun x27 => NilC x27 fun a28 => Ld .sl (a28.add 1) w2 fun x30 => NilC b_0 fun a33 => Ld .map (a33.add 1) w2 fun x35 => App0 P (Instr.mapUpdate T.map_string_int (.map x35) (.string x12) (.int .i64 (x30.n : Int))) w2 fun w3 => Draw w3 fun S1 w4 => NilC b_0 fun a39 => LdS S1 .ptr a39 fun x41 => NilC b_0 fun a43 => LdS S1 .ptr a43 fun x45 => NilC x45 fun a46 => NilC b_0 fun a51 => LdS S1 .ptr a51 fun x53 => NilC x53 fun a54 => LdS S1 .ptr a54 fun x56 => (Ld .sl (a46.add 1) w4 fun x48 => (S1 w4 ∧ dfa_accept.C x56 at_1 w4 fun x58 w5 => (S1 w5 ∧ AppS P S1 (Instr.build T.dfa_state #[(0, .slice at_1.a at_1.n at_1.c), (2, .int .i64 x58)]) .big fun x59 => App P (Instr.buildSlice T.sl_dfa_state 1 #[(0, .agg x59)]) (.one .sl) w5 fun x60 w6 => (S1 w6 ∧ App P (Builtin.append_ #[T.sl_dfa_state, T.sl_dfa_state] T.sl_dfa_state #[.slice x48.a x48.n x48.c, .slice x60.a x60.n x60.c]) (.one .sl) w6 fun x61 w7 => (S1 w7 ∧ NilC x41 fun a62 => St (a62.add 1) (.slice x61.a x61.n x61.c) w7 fun w8 => (S1 w8 ∧ K (x30.n : Int) w8)))))) ∧ (dfa_accept.C x56 at_1 w4 fun x58 w9 => (S1 w9 ∧ AppS P S1 (Instr.build T.dfa_state #[(0, .slice at_1.a at_1.n at_1.c), (2, .int .i64 x58)]) .big fun x59 => (Ld .sl (a46.add 1) w9 fun x48 => (S1 w9 ∧ App P (Instr.buildSlice T.sl_dfa_state 1 #[(0, .agg x59)]) (.one .sl) w9 fun x60 w10 => (S1 w10 ∧ App P (Builtin.append_ #[T.sl_dfa_state, T.sl_dfa_state] T.sl_dfa_state #[.slice x48.a x48.n x48.c, .slice x60.a x60.n x60.c]) (.one .sl) w10 fun x61 w11 => (S1 w11 ∧ NilC x41 fun a62 => St (a62.add 1) (.slice x61.a x61.n x61.c) w11 fun w12 => (S1 w12 ∧ K (x30.n : Int) w12))))) ∧ (App P (Instr.buildSlice T.sl_dfa_state 1 #[(0, .agg x59)]) (.one .sl) w9 fun x60 w13 => (S1 w13 ∧ Ld .sl (a46.add 1) w13 fun x48 => (S1 w13 ∧ App P (Builtin.append_ #[T.sl_dfa_state, T.sl_dfa_state] T.sl_dfa_state #[.slice x48.a x48.n x48.c, .slice x60.a x60.n x60.c]) (.one .sl) w13 fun x61 w14 => (S1 w14 ∧ NilC x41 fun a62 => St (a62.add 1) (.slice x61.a x61.n x61.c) w14 fun w15 => (S1 w15 ∧ K (x30.n : Int) w15)))))))) (K x19.1 w2))
theorem dfa_build_place.ok (b_0 : Option Addr) (at_1 : Sl) (K : Int → World → Prop) (w : World) (h : dfa_build_place.M b_0 at_1 K w) : dfa_build_place.C b_0 at_1 w K :=
  calls_of_sem (P := P) (H := [(12, .one .str), (17, .one .map), (19, .tup [.one (.int .i64), .one .bool]), (27, .one .ptr), (30, .one .sl), (35, .one .map), (41, .one .ptr), (45, .one .ptr), (48, .one .sl), (53, .one .ptr), (56, .one .ptr), (58, .one (.int .i64)), (59, .big), (60, .one .sl)]) (ann := (.n .z (.n .z (.n .z (.n .z (.n (.n .z (.n (.n .z (.n .z (.e [10]))) .z)) .z)))))) (args := [.pointer b_0, .slice at_1.a at_1.n at_1.c]) (rt := .one (.int .i64)) P_mixed rfl rfl (by kernel_rfl) (by kernel_rfl)
    ((show _ = dfa_build_place.M b_0 at_1 K w by kernel_rfl).mpr h)

/-- frisket/dfa.text -/
def dfa_text.M (l_0 : Sl) (K : ByteArray → World → Prop) (w : World) : Prop :=
  App P (Instr.makeSlice T.sl_uint8 (.int .i64 0) (.int .i64 (w64 ((2 : Int) * (l_0.n : Int))))) (.one .sl) w fun x9 w1 => Loop (fun (s1 : Sl × Int) w2 again2 => Br (decide (s1.2 < (l_0.n : Int))) (IdxS l_0 s1.2 1 fun p14 => Ld (.int .i64) p14 w2 fun x15 => Need (0 ≤ (8 : Int)) (Al (.cells #[.int .u8 (IntKind.wrap .u8 (x15)), .int .u8 (IntKind.wrap .u8 ((Int.fdiv x15 (2 ^ min (Int.toNat (8 : Int)) (IntKind.bits .i64)))))] T.uint8 (0, 0)) w2 fun b3 w3 => App P (Builtin.append_ #[T.sl_uint8, T.sl_uint8] T.sl_uint8 #[.slice s1.1.a s1.1.n s1.1.c, .slice (some ⟨b3, 0, none⟩) 2 2]) (.one .sl) w3 fun x23 w4 => again2 (x23, (w64 (s1.2 + (1 : Int)))) w4)) (App P (convert T.sl_uint8 T.string (.slice s1.1.a s1.1.n s1.1.c)) (.one .str) w2 fun x26 w5 => K x26 w5)) (x9, 0) w1
theorem dfa_text.ok (l_0 : Sl) (K : ByteArray → World → Prop) (w : World) (h : dfa_text.M l_0 K w) : dfa_text.C l_0 w K :=
  calls_of_sem (P := P) (H := [(9, .one .sl), (15, .one (.int .i64)), (26, .one .str)]) (ann := (.n .z (.n .z (.n (.n .z (.l [(3, .one .sl), (12, .one (.int .i64))] [10, 11] .z)) .z)))) (args := [.slice l_0.a l_0.n l_0.c]) (rt := .one .str) P_mixed rfl rfl (by kernel_rfl) (by kernel_rfl)
    ((show _ = dfa_text.M l_0 K w by kernel_rfl).mpr h)

/-- frisket/dfa.accept -/
def dfa_accept.M (m_0 : Option Addr) (at_1 : Sl) (K : Int → World → Prop) (w : World) : Prop :=
  Loop (fun (s1 : Int × Int) w1 again2 => Br (decide (s1.2 < (at_1.n : Int))) (IdxS at_1 s1.2 1 fun p13 => Ld (.int .i64) p13 w1 fun x14 => nfa_Machine_Rule.C m_0 x14 w1 fun x17 w2 => Join (fun (s3 : Bool) w3 => Br s3 (again2 (x17, (w64 (s1.2 + (1 : Int)))) w3) (again2 (s1.1, (w64 (s1.2 + (1 : Int)))) w3)) fun j4 => Br (s1.1 == (-1 : Int)) (nfa_Machine_Last.C m_0 x17 w2 fun x28 w4 => slices_Contains_int.C x28 x14 w4 fun x30 w5 => j4 x30 w5) (Br (decide (x17 < s1.1)) (nfa_Machine_Last.C m_0 x17 w2 fun x28 w6 => slices_Contains_int.C x28 x14 w6 fun x30 w7 => j4 x30 w7) (j4 false w2))) (K s1.1 w1)) ((-1), 0) w
theorem dfa_accept.ok (m_0 : Option Addr) (at_1 : Sl) (K : Int → World → Prop) (w : World) (h : dfa_accept.M m_0 at_1 K w) : dfa_accept.C m_0 at_1 w K :=
  calls_of_sem (P := P) (H := [(14, .one (.int .i64)), (17, .one (.int .i64)), (28, .one .sl), (30, .one .bool)]) (ann := (.n .z (.n .z (.n (.n .z (.l [(5, .one (.int .i64)), (11, .one (.int .i64))] [0, 9, 10] (.n .z (.n .z (.n (.n .z (.n .z (.j [(31, .one .bool)] [0, 5, 8, 9, 10, 11] .z .z))) .z))))) .z)))) (args := [.pointer m_0, .slice at_1.a at_1.n at_1.c]) (rt := .one (.int .i64)) P_mixed rfl rfl (by kernel_rfl) (by kernel_rfl)
    ((show _ = dfa_accept.M m_0 at_1 K w by kernel_rfl).mpr h)

/-- slices.Contains[[]int,int] -/
def slices_Contains_int.M (s_0 : Sl) (v_1 : Int) (K : Bool → World → Prop) (w : World) : Prop :=
  slices_Index_int.C s_0 v_1 w fun x7 w1 => K (decide ((0 : Int) ≤ x7)) w1
theorem slices_Contains_int.ok (s_0 : Sl) (v_1 : Int) (K : Bool → World → Prop) (w : World) (h : slices_Contains_int.M s_0 v_1 K w) : slices_Contains_int.C s_0 v_1 w K :=
  calls_of_sem (P := P) (H := [(7, .one (.int .i64))]) (ann := .z) (args := [.slice s_0.a s_0.n s_0.c, .int .i64 v_1]) (rt := .one .bool) P_mixed rfl rfl (by kernel_rfl) (by kernel_rfl)
    ((show _ = slices_Contains_int.M s_0 v_1 K w by kernel_rfl).mpr h)

/-- slices.Index[[]int,int] -/
def slices_Index_int.M (s_0 : Sl) (v_1 : Int) (K : Int → World → Prop) (w : World) : Prop :=
  Loop (fun (s1 : Int) w1 again2 => Br (decide (s1 < (s_0.n : Int))) (IdxS s_0 s1 1 fun p14 => Ld (.int .i64) p14 w1 fun x15 => Br (v_1 == x15) (K s1 w1) (again2 (w64 (s1 + (1 : Int))) w1)) (K (-1) w1)) 0 w
theorem slices_Index_int.ok (s_0 : Sl) (v_1 : Int) (K : Int → World → Prop) (w : World) (h : slices_Index_int.M s_0 v_1 K w) : slices_Index_int.C s_0 v_1 w K :=
  calls_of_sem (P := P) (H := [(15, .one (.int .i64))]) (ann := (.n .z (.n (.n .z (.l [(8, .one (.int .i64))] [0, 1, 7] .z)) .z))) (args := [.slice s_0.a s_0.n s_0.c, .int .i64 v_1]) (rt := .one (.int .i64)) P_mixed rfl rfl (by kernel_rfl) (by kernel_rfl)
    ((show _ = slices_Index_int.M s_0 v_1 K w by kernel_rfl).mpr h)

end Go.Fk
end

section
set_option linter.unusedVariables false
namespace Go.Fk
open Go

/-! ## Rows of one-cell elements that are made, written, copied -/

abbrev rowObj (t : Ty) (E : TypeId) (xs : List t.T) : Obj := .cells (xs.map t.enc).toArray E (0, 0)

theorem Row.sl {t : Ty} {E : TypeId} {xs : List t.T} {w : World} {b n c : Nat} {M : Nat → Prop} (h : w.heap[b]? = some (rowObj t E xs)) (hM : ¬ M b) (hn : n = xs.length) : SlT t (V M w) ⟨some ⟨b, 0, none⟩, n, c⟩ xs :=
  ⟨hn, .inr ⟨b, 0, _, _, _, rfl, ⟨hM, h⟩, fun i x hx => by simp [hx]⟩⟩

theorem App.make1 {P : Program} {T E : TypeId} {bytes n : Nat} {t : Ty} {z : t.T} {w : World} {k : Sl → World → Prop} (hE : Elem P T E (t.enc z) 1 bytes) (hz : (t.enc z).cells = #[t.enc z]) (hb : bytes * n ≤ 281474976710656) (hn : n ≤ 9223372036854775807)
    (hk : ∀ b w', New b (rowObj t E (List.replicate n z)) w w' → k ⟨some ⟨b, 0, none⟩, n, n⟩ w') : App P (Instr.makeSlice T (.int .i64 (n : Int)) (.int .i64 (n : Int))) (.one .sl) w k := by
  obtain ⟨i, hi, hzz⟩ := Option.map_eq_some_iff.1 hE.inf
  simp only [Prod.mk.injEq] at hzz
  obtain ⟨h1, h2, h3⟩ := hzz
  have hr := run_make (P := P) w T E i (t.enc z) hE.sl hi h1 .i64 .i64 n n (by omega) (by omega) (by rw [h3]; have := Int.ofNat_le.2 hb; simpa using this) (by have := Int.ofNat_le.2 hn; simpa using this)
  have e : madeCells (t.enc z).cells ((n : Int).toNat * i.size) = ((List.replicate n z).map t.enc).toArray := by
    rw [hz, h2, Nat.mul_one, Int.toNat_natCast, List.map_replicate]
    rw [← toList_madeCells_one]
  rw [e] at hr
  refine Al.mk (o := rowObj t E (List.replicate n z)) (w := w) (k := fun b w' => b = w.heap.size → App P (Instr.makeSlice T (.int .i64 (n : Int)) (.int .i64 (n : Int))) (.one .sl) w k) (fun b w' hb' hbe => ?_) rfl
  refine Al.mk (o := rowObj t E (List.replicate n z)) (w := w) (k := fun b w' => w' = w.alloc (rowObj t E (List.replicate n z)) → App P (Instr.makeSlice T (.int .i64 (n : Int)) (.int .i64 (n : Int))) (.one .sl) w k) (fun b2 w2 hb2 hbe2 => ?_) rfl
  refine ⟨⟨some ⟨w.heap.size, 0, none⟩, n, n⟩, w2, ?_, ?_⟩
  · rw [hbe2]
    simp only [Int.toNat_natCast] at hr
    exact hr
  · have := hk b2 w2 hb2
    rw [hb2.eq] at this
    exact this

theorem IdxS.put {t : Ty} {E : TypeId} {xs : List t.T} {w : World} {b n c : Nat} {i : Int} {v : t.T} {k : World → Prop} (h : w.heap[b]? = some (rowObj t E xs)) (h0 : 0 ≤ i) (h1 : i < n) (hn : n = xs.length)
    (hk : ∀ w', Upd b (rowObj t E (xs.set i.toNat v)) w w' → k w') : IdxS ⟨some ⟨b, 0, none⟩, n, c⟩ i 1 fun p => St p (t.enc v) w k := by
  refine ⟨_, rfl, ⟨h0, h1⟩, ?_⟩
  rw [add_eq, Nat.mul_one, Nat.zero_add]
  refine St.blk h (by simp; omega) fun w' u => hk w' ?_
  have e : ((xs.map t.enc).toArray.setIfInBounds i.toNat (t.enc v)) = ((xs.set i.toNat v).map t.enc).toArray := by
    rw [List.map_set]; simp
  rw [e] at u
  exact u

theorem App.copy1 {P : Program} {T E E' : TypeId} {bytes : Nat} {t : Ty} {z : Value} {w : World} {M : Nat → Prop} {b n c : Nat} {l : Sl} {xs ys : List t.T} {k : Int → World → Prop} {R : TypeId} (hE : Elem P T E z 1 bytes) (h : w.heap[b]? = some (rowObj t E' xs)) (hn : n = xs.length)
    (hl : SlT t (V M w) l ys) (hy : ys.length = xs.length) (hne : ys ≠ []) (h1 : ∀ y ∈ ys, (t.enc y).oneCell' = true)
    (hk : ∀ w', Upd b (rowObj t E' ys) w w' → k n w') : App P (Builtin.copy_ #[T, T] R #[.slice (some ⟨b, 0, none⟩) n c, .slice l.a l.n l.c]) (.one (.int .i64)) w k := by
  obtain ⟨e1, e2⟩ := hl
  obtain ⟨i, hi, hzz⟩ := Option.map_eq_some_iff.1 hE.inf
  simp only [Prod.mk.injEq] at hzz
  rcases e2 with rfl | ⟨b', off, cs, E2, fr, e3, e4, e5⟩
  · exact absurd rfl hne
  · have hr := run_copy_row (P := P) w T T R E b 0 n c ⟨b', off, none⟩ l.n l.c (xs.map t.enc).toArray E' (ys.map t.enc) hE.sl (by rw [hi]; simp [hzz.2.1]) h (by rw [List.length_map, e1, hn, hy]; exact (Nat.min_self _).symm)
      (fun j v hv => by
        rw [add_eq]
        rw [List.getElem?_map] at hv
        obtain ⟨y, hy1, rfl⟩ := Option.map_eq_some_iff.1 hv
        exact cell_of e4.2 (e5 _ _ hy1)) (by simp [hy]) (fun v hv => by obtain ⟨y, hy1, rfl⟩ := List.mem_map.1 hv; exact h1 y hy1)
    have e : ((xs.map t.enc).toArray.toList.take 0 ++ ys.map t.enc ++ (xs.map t.enc).toArray.toList.drop (0 + (ys.map t.enc).length)).toArray = (ys.map t.enc).toArray := by
      simp [hy]
    rw [e] at hr
    refine ⟨(n : Int), w.setRow b (ys.map t.enc).toArray, ?_, hk _ ?_⟩
    · rw [e3]
      have : ((ys.map t.enc).length : Int) = n := by rw [List.length_map, hn, hy]
      rw [hr]
      simp [goInt, RTy.enc, Ty.enc, this, hn, hy]
    · have hr := setRow_heap w b _ (ys.map t.enc).toArray _ _ h
      refine ⟨hr, ⟨rfl, rfl, rfl, by simp [World.setRow], fun i _ hi => ?_⟩, by simp [World.setRow]⟩
      simp only [World.setRow, Array.getElem?_modify]
      rw [if_neg (fun h => hi h.symm)]

abbrev tBool : TypeId := T.bool
theorem elBool : Elem P T.sl_bool tBool (Ty.bool.enc false) 1 1 := ⟨by kernel_rfl, by kernel_rfl, rfl, by decide⟩
end Go.Fk
end
