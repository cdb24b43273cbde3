/-
  A part of the proof: what the functions of the program come to, read off the model: no premise of its own, no axiom. By an AI agent.
-/
import Derived.Test.YtedphbahdjhckaaGreatA7
set_option linter.all false
section
set_option linter.unusedVariables false
namespace Go.Fk
open Go

/-! ## The least automaton tells what the other one tells -/

section
variable {ys : List Re} {svs : List DSt} {cl : Nat → Int} {nc : Int}

theorem Aut.of (h : DfaOK (mFs 0 ys) (mFol 0 ys) (mKs 0 ys) svs cl nc) (hy : ys.length ≤ 100000) : Aut svs where
  pos := by
    obtain ⟨sv, g, _⟩ := h.sts.zero
    exact (List.getElem?_eq_some_iff.1 g).1
  few := h.few
  rng sv hs c hc := by
    rcases h.good hs hc with ⟨h1, _⟩ | ⟨i, sv', h0, h1, h2, _⟩
    · exact .inl h1
    · have := (List.getElem?_eq_some_iff.1 h2).1
      right; omega
  acc sv hs := by
    have hlen : (mKs 0 ys).length = ys.length := mKs_len ys 0
    rcases h.sts.acc sv hs with ⟨h1, _⟩ | ⟨⟨h0, p, hp, h1, h2⟩, _⟩
    · omega
    · refine ⟨by omega, ?_⟩
      refine Classical.byContradiction fun hn => ?_
      unfold lastAt at h1
      rw [knAt_out (by omega)] at h1
      exact h1

theorem runFrom_cons {c : UInt8} {l : List UInt8} {a : Int} : runFrom svs (c :: l) (a, true) = runFrom svs l (nextOf svs a c.toNat) := by simp [runFrom]
theorem runFrom_false {n : Int} : ∀ l : List UInt8, runFrom svs l (n, false) = (n, false)
  | [] => rfl
  | c :: l => by have := runFrom_false (n := n) l; simpa [runFrom] using this
theorem mRun_cons {ms : List LSt} {c : UInt8} {l : List UInt8} {a : Int} : mRun ms (c :: l) (a, true) = mRun ms l (mNext ms a c.toNat) := by simp [mRun]
theorem mRun_false {ms : List LSt} {n : Int} : ∀ l : List UInt8, mRun ms l (n, false) = (n, false)
  | [] => rfl
  | c :: l => by have := mRun_false (ms := ms) (n := n) l; simpa [mRun] using this
theorem runFrom_append (l m : List UInt8) (st : Int × Bool) : runFrom svs (l ++ m) st = runFrom svs m (runFrom svs l st) := by simp [runFrom, List.foldl_append]
theorem mRun_append {ms : List LSt} (l m : List UInt8) (st : Int × Bool) : mRun ms (l ++ m) st = mRun ms m (mRun ms l st) := by simp [mRun, List.foldl_append]

theorem ac_in {n : Nat} (h : ac svs n ≠ -1) : n < svs.length := by
  refine Classical.byContradiction fun hn => h ?_
  unfold ac accOf
  rw [stAt_out (by omega)]; rfl

theorem dead_run (A : Aut svs) : ∀ (l : List UInt8) (i : Nat), ¬ Alive svs i → (runFrom svs l ((i : Int), true)).2 = true → accOf svs (runFrom svs l ((i : Int), true)).1 = -1
  | [], i, h, _ => by
    refine Classical.byContradiction fun hn => h ?_
    have hn : ac svs i ≠ -1 := hn
    exact .acc (ac_in hn) hn
  | c :: l, i, h, h2 => by
    rw [runFrom_cons] at h2 ⊢
    have hc : c.toNat < 256 := by have := c.toNat_lt; omega
    rw [A.next hc] at h2 ⊢
    cases hx : nxt svs i c.toNat with
    | none => rw [hx] at h2; dsimp only at h2; rw [runFrom_false] at h2; cases h2
    | some k =>
      rw [hx] at h2
      dsimp only at h2 ⊢
      exact dead_run A l k (fun hk => h (.step hc hx hk)) h2

theorem alive_run (A : Aut svs) {i : Nat} (h : Alive svs i) : ∃ (l : List UInt8) (k : Nat), runFrom svs l ((i : Int), true) = ((k : Int), true) ∧ ac svs k ≠ -1 := by
  induction h with
  | acc hn ha => exact ⟨[], _, rfl, ha⟩
  | step hb hx _ ih =>
    obtain ⟨l, k', h1, h2⟩ := ih
    rename_i n b k hk
    have hb' : (UInt8.ofNat b).toNat = b := by simp [UInt8.toNat_ofNat']; omega
    refine ⟨UInt8.ofNat b :: l, k', ?_, h2⟩
    rw [runFrom_cons, hb', A.next hb, hx]
    exact h1

variable {lv : Nat → Bool} {kd : Nat → Int} {fs : List Nat} {ms : List LSt} {of_ : Nat → Int}

/-- The state x of the least automaton is of the kind of the state i. -/
def Rel (svs : List DSt) (kd : Nat → Int) (fs : List Nat) (x : Int) (i : Nat) : Prop := ∃ (xn m : Nat), x = xn ∧ fs[xn]? = some m ∧ kd m = kd i ∧ i < svs.length

theorem LeastOK.rel0 (L : LeastOK svs lv kd fs ms of_) (A : Aut svs) : Rel svs kd fs 0 0 := ⟨0, 0, rfl, L.fsok.zero, rfl, A.pos⟩

theorem LeastOK.at_ (L : LeastOK svs lv kd fs ms of_) {x m : Nat} (h : fs[x]? = some m) : ∃ s, ms[x]? = some s ∧ mAt ms (x : Int) = some s ∧ s.acc = ac svs m ∧ ∀ b, b < 256 → GoodL svs lv kd fs m b (s.nx b) := by
  have hx := (List.getElem?_eq_some_iff.1 h).1
  have hxm : x < ms.length := by rw [L.len]; exact hx
  have hs : ms[x]? = some ms[x] := List.getElem?_eq_getElem hxm
  obtain ⟨n, h1, h2, h3⟩ := L.msok.each x _ hs
  rw [h] at h1
  cases h1
  exact ⟨_, hs, mAt_in (by omega) (by simpa using hs), h2, h3⟩

theorem LeastOK.next (L : LeastOK svs lv kd fs ms of_) (A : Aut svs) {x : Int} {i b : Nat} (h : Rel svs kd fs x i) (hb : b < 256) :
    (∃ (k : Nat) (y : Int), nxt svs i b = some k ∧ lv k = true ∧ mNext ms x b = (y, true) ∧ Rel svs kd fs y k) ∨ (mNext ms x b = (0, false) ∧ ∀ k, nxt svs i b = some k → lv k = false) := by
  obtain ⟨xn, m, rfl, hx, hk, hi⟩ := h
  obtain ⟨s, h1, h2, _, h4⟩ := L.at_ hx
  have hm := L.fsok.lt m (List.mem_of_getElem? hx)
  have hst := L.stable m i hm hi hk b hb
  rcases h4 b hb with ⟨g1, g2⟩ | ⟨k0, y, m', g1, g2, g3, g4, g5⟩
  · right
    refine ⟨by simp [mNext, h2, g1], fun k hk' => ?_⟩
    have e1 : kNext svs lv kd m b = -1 := by
      unfold kNext
      cases hn : nxt svs m b with
      | none => rfl
      | some k1 => simp [g2 k1 hn]
    rw [e1] at hst
    have := (L.kinds.rng k (A.nxt_lt hb hk').1).1
    unfold kNext at hst
    rw [hk'] at hst
    dsimp only at hst
    by_cases hl : lv k = true
    · rw [if_pos hl] at hst; omega
    · simpa using hl
  · left
    have e1 : kNext svs lv kd m b = kd k0 := by unfold kNext; rw [g1]; simp [g2]
    rw [e1] at hst
    have hr := (L.kinds.rng k0 (A.nxt_lt hb g1).1).1
    unfold kNext at hst
    cases hn : nxt svs i b with
    | none => rw [hn] at hst; dsimp only at hst; omega
    | some k =>
      rw [hn] at hst
      dsimp only at hst
      by_cases hl : lv k = true
      · rw [if_pos hl] at hst
        refine ⟨k, y, rfl, hl, ?_, y, m', rfl, g4, g5.trans hst, (A.nxt_lt hb hn).1⟩
        have : ¬ (y : Int) = -1 := by omega
        simp [mNext, h2, g3, this]
      · rw [if_neg hl] at hst; omega

theorem LeastOK.ac_live (L : LeastOK svs lv kd fs ms of_) {i : Nat} (h : lv i = false) : ac svs i = -1 := by
  refine Classical.byContradiction fun hn => ?_
  have := (L.alive i (ac_in hn)).2 (.acc (ac_in hn) hn)
  rw [h] at this; cases this

theorem LeastOK.kd_eq (L : LeastOK svs lv kd fs ms of_) (A : Aut svs) {i j : Nat} (hi : i < svs.length) (hj : j < svs.length) (h : kd i = kd j) : lv i = lv j ∧ ac svs i = ac svs j := by
  have h0 := L.kinds.zero i j hi hj h
  have h1 := A.ac_rng i; have h2 := A.ac_rng j
  unfold kd0 at h0
  cases ha : lv i <;> cases hb : lv j
  · exact ⟨rfl, by rw [L.ac_live ha, L.ac_live hb]⟩
  · rw [ha, hb] at h0; simp at h0; omega
  · rw [ha, hb] at h0; simp at h0; omega
  · rw [ha, hb] at h0; simp at h0; exact ⟨rfl, by omega⟩

theorem LeastOK.acc (L : LeastOK svs lv kd fs ms of_) (A : Aut svs) {x : Int} {i : Nat} (h : Rel svs kd fs x i) : mAcc ms x = ac svs i := by
  obtain ⟨xn, m, rfl, hx, hk, hi⟩ := h
  obtain ⟨s, h1, h2, h3, _⟩ := L.at_ hx
  have : mAcc ms (xn : Int) = s.acc := by simp [mAcc, h2]
  rw [this, h3]
  exact (L.kd_eq A (L.fsok.lt m (List.mem_of_getElem? hx)) hi hk).2

theorem LeastOK.dead (L : LeastOK svs lv kd fs ms of_) {k : Nat} (hk : k < svs.length) (h : lv k = false) : ¬ Alive svs k := fun ha => by
  have := (L.alive k hk).2 ha
  rw [h] at this; cases this

theorem LeastOK.run (L : LeastOK svs lv kd fs ms of_) (A : Aut svs) : ∀ (l : List UInt8) {x : Int} {i : Nat}, Rel svs kd fs x i →
    (∃ (y : Int) (k : Nat), mRun ms l (x, true) = (y, true) ∧ runFrom svs l ((i : Int), true) = ((k : Int), true) ∧ Rel svs kd fs y k) ∨
    ((mRun ms l (x, true)).2 = false ∧ ((runFrom svs l ((i : Int), true)).2 = true → accOf svs (runFrom svs l ((i : Int), true)).1 = -1))
  | [], x, i, h => .inl ⟨x, i, rfl, rfl, h⟩
  | c :: l, x, i, h => by
    have hc : c.toNat < 256 := by have := c.toNat_lt; omega
    rw [mRun_cons, runFrom_cons, A.next hc]
    rcases L.next A h hc with ⟨k, y, h1, h2, h3, h4⟩ | ⟨h1, h2⟩
    · rw [h1, h3]
      exact L.run A l h4
    · right
      rw [h1, mRun_false]
      refine ⟨rfl, fun hr => ?_⟩
      cases hx : nxt svs i c.toNat with
      | none => rw [hx] at hr; dsimp only at hr; rw [runFrom_false] at hr; cases hr
      | some k =>
        rw [hx] at hr
        dsimp only at hr ⊢
        exact dead_run A l k (L.dead (A.nxt_lt hc hx).1 (h2 k hx)) hr
end
end Go.Fk
end

section
set_option linter.unusedVariables false
namespace Go.Fk
open Go

/-! ## The document's example; LeastNone; LeastRuns -/

abbrev chA : Re := .set fun i => i == 97
abbrev chB : Re := .set fun i => i == 98
abbrev chC : Re := .set fun i => i == 99
abbrev chD : Re := .set fun i => i == 100
abbrev exR : Re := .or (.cat chA (.cat chB chC)) (.cat chA (.cat chB chD))
theorem rules_awake8 : rulesF [⟨#[97, 98, 99, 124, 97, 98, 100]⟩] = [exR] := by rfl

theorem exR_len {s : List UInt8} {t : Nat} (h : exR.m s 0 t) : t = 3 := by
  rcases h with ⟨k, ⟨rfl, _⟩, ⟨k2, ⟨rfl, _⟩, ⟨rfl, _⟩⟩⟩ | ⟨k, ⟨rfl, _⟩, ⟨k2, ⟨rfl, _⟩, ⟨rfl, _⟩⟩⟩ <;> rfl

theorem str1 {H : View} {c : Nat} {p : ByteArray} {E : Nat} (h : H c (.cells #[.string p] E (0, 0))) : SlT .str H ⟨some ⟨c, 0, none⟩, 1, 1⟩ [p] :=
  ⟨rfl, .inr ⟨c, 0, _, _, _, rfl, h, fun i x hx => by
    rcases i with _ | i
    · simp at hx; subst hx; rfl
    · simp at hx⟩⟩

theorem LeastV.some {H : View} {p : Option Addr} {N : Nat} {ms : List LSt} {of_ : Nat → Int} (h : LeastV H p N ms of_) : p.isNone = false := by
  obtain ⟨b, l, o, rfl, _⟩ := h
  rfl

theorem awake8_spec {w : World} {K : Bool → World → Prop} (hK : ∀ w', Keeps No w w' → K true w') : frisketlaw08_awake.C w K := by
  refine frisketlaw08_awake.ok _ _ ?_
  simp only [frisketlaw08_awake.M]
  refine Al.mk fun b1 w1 n1 => ?_
  refine Make_spec (M := No) (str1 ⟨id, n1.at_⟩) (fun s hs => by simp at hs; subst hs; unfold Small; decide) (by simp) (fun w2 k2 h => ?_) fun d b xs vs svs cl nc w2 k2 hm => ?_
  · rw [rules_awake8] at h
    rcases h with h | h | ⟨svs, h, hl⟩
    · cases h
    · simp [mCnt, Re.cnt] at h
    · have := h.few
      simp [mFs, Re.poss] at this
      omega
  · rw [rules_awake8] at hm
    have hd : DfaO (V No w2) d svs cl nc := .inr hm.dv
    have hsome : d.isNone = false := by have := hm.dv.some; simpa using this
    have A := Aut.of hm.ok (by simp)
    refine least_New_spec hd hsome A fun p lv kd fs ms of_ w3 k3 hlv L => ?_
    have hlo : LeastO (V No w3) p svs.length ms of_ := .inr hlv
    refine least_Run_spec hlo (by decide) ?_
    refine least_Run_spec hlo (by decide) ?_
    rw [hlv.some, Bool.not_false]
    have r1 := run_law (s := bs ⟨#[97, 98, 99]⟩) hm.ok (by decide)
    have r2 := run_law (s := bs ⟨#[97, 98, 100]⟩) hm.ok (by decide)
    have l1 : LeastI (Means [exR] (bs ⟨#[97, 98, 99]⟩) 3) 1 0 := .inr ⟨0, by omega, rfl, ⟨_, rfl, .inl ⟨1, ⟨rfl, 97, rfl, rfl⟩, ⟨2, ⟨rfl, 98, rfl, rfl⟩, ⟨rfl, 99, rfl, rfl⟩⟩⟩⟩, fun j hj _ => by omega⟩
    have l2 : LeastI (Means [exR] (bs ⟨#[97, 98, 100]⟩) 3) 1 0 := .inr ⟨0, by omega, rfl, ⟨_, rfl, .inr ⟨1, ⟨rfl, 97, rfl, rfl⟩, ⟨2, ⟨rfl, 98, rfl, rfl⟩, ⟨rfl, 100, rfl, rfl⟩⟩⟩⟩, fun j hj _ => by omega⟩
    -- where each leads, and that nothing follows
    have lead : ∀ s : List UInt8, s.length = 3 → LeastI (Means [exR] s s.length) 1 0 → ∃ (y : Int) (k : Nat), mRun ms s (0, true) = (y, true) ∧ Rel svs kd fs y k ∧ ac svs k = 0 ∧ ∀ b a, b < 256 → nxt svs k b = some a → lv a = false := by
      intro s hs hl
      have hr := run_law (s := s) hm.ok (by omega)
      have hrun : (runFrom svs s (0, true)).2 = true ∧ accOf svs (runFrom svs s (0, true)).1 = 0 := by
        cases h : (runFrom svs s (0, true)).2 with
        | false => have := (hr.1 h).2.one hl; cases this
        | true => exact ⟨rfl, (hr.2 h).one hl⟩
      rcases L.run A s (L.rel0 A) with ⟨y, k, h1, h2, h3⟩ | ⟨_, h2⟩
      · have h2q : runFrom svs s (0, true) = ((k : Int), true) := h2
        rw [h2q] at hrun
        refine ⟨y, k, h1, h3, hrun.2, fun b a hb hx => ?_⟩
        cases hla : lv a with
        | false => rfl
        | true =>
          have hal := (L.alive a (A.nxt_lt hb hx).1).1 hla
          obtain ⟨l, k', h4, h5⟩ := alive_run A hal
          have hb' : (UInt8.ofNat b).toNat = b := by simp [UInt8.toNat_ofNat']; omega
          have hrr : runFrom svs (s ++ UInt8.ofNat b :: l) (0, true) = ((k' : Int), true) := by
            rw [runFrom_append]
            have h2' : runFrom svs s (0, true) = ((k : Int), true) := h2
            rw [h2', runFrom_cons, hb', A.next hb, hx]
            exact h4
          have hr2 := (run_law (s := s ++ UInt8.ofNat b :: l) hm.ok (by simp; omega)).2 (by rw [hrr])
          rw [hrr] at hr2
          rcases hr2 with ⟨h6, _⟩ | ⟨i, hi, _, ⟨y', hy', hmy⟩, _⟩
          · exact absurd h6 h5
          · have hi0 : i = 0 := by simp at hi; omega
            subst hi0
            cases hy'
            have := exR_len hmy
            simp at this
            omega
      · have h2' : (runFrom svs s (0, true)).2 = true → accOf svs (runFrom svs s (0, true)).1 = -1 := h2
        rw [h2' hrun.1] at hrun
        cases hrun.2
    obtain ⟨y1, k1, g1, g2, g3, g4⟩ := lead (bs ⟨#[97, 98, 99]⟩) rfl l1
    obtain ⟨y2, k2', q1, q2, q3, q4⟩ := lead (bs ⟨#[97, 98, 100]⟩) rfl l2
    have hk1 : k1 < svs.length := by obtain ⟨_, _, _, _, _, h⟩ := g2; exact h
    have hk2 : k2' < svs.length := by obtain ⟨_, _, _, _, _, h⟩ := q2; exact h
    have lvk : ∀ k, k < svs.length → ac svs k = 0 → lv k = true := fun k hk h => (L.alive k hk).2 (.acc hk (by omega))
    have hE : Bis svs lv (fun i j => i = k1 ∧ j = k2') := {
      kd := by
        rintro i j ⟨rfl, rfl⟩
        unfold kd0
        rw [if_pos (lvk _ hk1 g3), if_pos (lvk _ hk2 q3), g3, q3]
      next := by
        rintro i j b ⟨rfl, rfl⟩ hb
        cases h1 : nxt svs i b with
        | none =>
          cases h2 : nxt svs j b with
          | none => trivial
          | some c => exact q4 b c hb h2
        | some a =>
          have ha := g4 b a hb h1
          cases h2 : nxt svs j b with
          | none => exact ha
          | some c => exact ⟨by rw [ha, q4 b c hb h2], fun h => by rw [ha] at h; cases h⟩ }
    have hkd := L.kinds.eqv _ hE k1 k2' hk1 hk2 ⟨rfl, rfl⟩
    have hy : y1 = y2 := by
      obtain ⟨x1, m1, rfl, h1, h2, _⟩ := g2
      obtain ⟨x2, m2, rfl, h3, h4, _⟩ := q2
      rw [L.fsok.inj h1 h3 (by rw [h2, h4, hkd])]
    subst hy
    rw [g1, q1]
    simp only [beq_self_eq_true, Br_true]
    refine least_Accept_spec hlo ?_
    rw [L.acc A g2, g3]
    exact hK w3 ((n1.keeps.trans k2).trans k3)

theorem least_New_nil {w : World} {K : (Option Addr × Int) → World → Prop} (hK : K (none, 1) w) : least_New.C none w K := by
  refine least_New.ok _ _ _ ?_
  simp only [least_New.M]
  exact hK

theorem LeastNone_spec {w : World} {n : Int} {b : Nat} (hb : b < 256) {s : ByteArray} {K : Bool → World → Prop} (hK : ∀ w', Keeps No w w' → K true w') : frisketlaw08_LeastNone.C n b s w K := by
  refine frisketlaw08_LeastNone.ok _ _ _ _ _ ?_
  simp only [frisketlaw08_LeastNone.M]
  refine Br.mk (fun _ => awake8_spec hK) (fun hf => ?_)
  have hf := of_decide_eq_false hf
  have hl : LeastO (V No w) none 0 [] (fun _ => -1) := .inl ⟨rfl, rfl, rfl⟩
  refine least_New_nil (least_Next_spec hl hb (least_Run_spec hl (by omega) (least_Of_spec hl (least_Longest_spec hl (by omega) ?_))))
  have e0 : ∀ n b, mNext [] n b = (0, false) := fun n b => by simp [mNext, mAt_out (ms := []) (n := n) (by simp)]
  have e3 : mOf 0 (fun _ => -1) n = (0, false) := by simp only [mOf]; rw [if_neg (by omega)]
  have e4 : (mLong [] (bs s) (-1, 0, 0, 0)).1 = -1 ∧ (mLong [] (bs s) (-1, 0, 0, 0)).2.1 = 0 := by
    cases bs s with
    | nil => exact ⟨rfl, rfl⟩
    | cons c l => simp [mLong, e0]
  have e5 : mAcc [] n = -1 := by simp [mAcc, mAt_out (ms := []) (n := n) (by simp)]
  simp only [e0, mRun_false, e3, e4, Option.isNone_none, Bool.not_true, Bool.not_false, beq_self_eq_true, Br_true]
  refine least_States_spec hl ?_
  simp only [List.length_nil, Int.natCast_zero, beq_self_eq_true, Br_true]
  refine least_Accept_spec hl ?_
  simp only [e5, beq_self_eq_true, Br_true]
  exact awake8_spec fun w2 k2 => hK w2 k2
end Go.Fk
end
