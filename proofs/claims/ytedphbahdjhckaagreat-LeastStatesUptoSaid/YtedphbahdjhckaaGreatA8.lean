/-
  A part of the proof: what the functions of the program come to, read off the model: no premise of its own, no axiom. By an AI agent.
-/
import Derived.Test.YtedphbahdjhckaaGreatA7
set_option linter.all false
section
set_option linter.unusedVariables false
namespace Go.Fk
open Go

/-! ## The least automaton tells what the other one tells -/

section
variable {ys : List Re} {svs : List DSt} {cl : Nat → Int} {nc : Int}

theorem Aut.of (h : DfaOK (mFs 0 ys) (mFol 0 ys) (mKs 0 ys) svs cl nc) (hy : ys.length ≤ 100000) : Aut svs where
  pos := by
    obtain ⟨sv, g, _⟩ := h.sts.zero
    exact (List.getElem?_eq_some_iff.1 g).1
  few := h.few
  rng sv hs c hc := by
    rcases h.good hs hc with ⟨h1, _⟩ | ⟨i, sv', h0, h1, h2, _⟩
    · exact .inl h1
    · have := (List.getElem?_eq_some_iff.1 h2).1
      right; omega
  acc sv hs := by
    have hlen : (mKs 0 ys).length = ys.length := mKs_len ys 0
    rcases h.sts.acc sv hs with ⟨h1, _⟩ | ⟨⟨h0, p, hp, h1, h2⟩, _⟩
    · omega
    · refine ⟨by omega, ?_⟩
      refine Classical.byContradiction fun hn => ?_
      unfold lastAt at h1
      rw [knAt_out (by omega)] at h1
      exact h1

theorem runFrom_cons {c : UInt8} {l : List UInt8} {a : Int} : runFrom svs (c :: l) (a, true) = runFrom svs l (nextOf svs a c.toNat) := by simp [runFrom]
theorem runFrom_false {n : Int} : ∀ l : List UInt8, runFrom svs l (n, false) = (n, false)
  | [] => rfl
  | c :: l => by have := runFrom_false (n := n) l; simpa [runFrom] using this
theorem mRun_cons {ms : List LSt} {c : UInt8} {l : List UInt8} {a : Int} : mRun ms (c :: l) (a, true) = mRun ms l (mNext ms a c.toNat) := by simp [mRun]
theorem mRun_false {ms : List LSt} {n : Int} : ∀ l : List UInt8, mRun ms l (n, false) = (n, false)
  | [] => rfl
  | c :: l => by have := mRun_false (ms := ms) (n := n) l; simpa [mRun] using this
theorem runFrom_append (l m : List UInt8) (st : Int × Bool) : runFrom svs (l ++ m) st = runFrom svs m (runFrom svs l st) := by simp [runFrom, List.foldl_append]
theorem mRun_append {ms : List LSt} (l m : List UInt8) (st : Int × Bool) : mRun ms (l ++ m) st = mRun ms m (mRun ms l st) := by simp [mRun, List.foldl_append]

theorem ac_in {n : Nat} (h : ac svs n ≠ -1) : n < svs.length := by
  refine Classical.byContradiction fun hn => h ?_
  unfold ac accOf
  rw [stAt_out (by omega)]; rfl

theorem dead_run (A : Aut svs) : ∀ (l : List UInt8) (i : Nat), ¬ Alive svs i → (runFrom svs l ((i : Int), true)).2 = true → accOf svs (runFrom svs l ((i : Int), true)).1 = -1
  | [], i, h, _ => by
    refine Classical.byContradiction fun hn => h ?_
    have hn : ac svs i ≠ -1 := hn
    exact .acc (ac_in hn) hn
  | c :: l, i, h, h2 => by
    rw [runFrom_cons] at h2 ⊢
    have hc : c.toNat < 256 := by have := c.toNat_lt; omega
    rw [A.next hc] at h2 ⊢
    cases hx : nxt svs i c.toNat with
    | none => rw [hx] at h2; dsimp only at h2; rw [runFrom_false] at h2; cases h2
    | some k =>
      rw [hx] at h2
      dsimp only at h2 ⊢
      exact dead_run A l k (fun hk => h (.step hc hx hk)) h2

theorem alive_run (A : Aut svs) {i : Nat} (h : Alive svs i) : ∃ (l : List UInt8) (k : Nat), runFrom svs l ((i : Int), true) = ((k : Int), true) ∧ ac svs k ≠ -1 := by
  induction h with
  | acc hn ha => exact ⟨[], _, rfl, ha⟩
  | step hb hx _ ih =>
    obtain ⟨l, k', h1, h2⟩ := ih
    rename_i n b k hk
    have hb' : (UInt8.ofNat b).toNat = b := by simp [UInt8.toNat_ofNat']; omega
    refine ⟨UInt8.ofNat b :: l, k', ?_, h2⟩
    rw [runFrom_cons, hb', A.next hb, hx]
    exact h1

variable {lv : Nat → Bool} {kd : Nat → Int} {fs : List Nat} {ms : List LSt} {of_ : Nat → Int}

/-- The state x of the least automaton is of the kind of the state i. -/
def Rel (svs : List DSt) (kd : Nat → Int) (fs : List Nat) (x : Int) (i : Nat) : Prop := ∃ (xn m : Nat), x = xn ∧ fs[xn]? = some m ∧ kd m = kd i ∧ i < svs.length

theorem LeastOK.rel0 (L : LeastOK svs lv kd fs ms of_) (A : Aut svs) : Rel svs kd fs 0 0 := ⟨0, 0, rfl, L.fsok.zero, rfl, A.pos⟩

theorem LeastOK.at_ (L : LeastOK svs lv kd fs ms of_) {x m : Nat} (h : fs[x]? = some m) : ∃ s, ms[x]? = some s ∧ mAt ms (x : Int) = some s ∧ s.acc = ac svs m ∧ ∀ b, b < 256 → GoodL svs lv kd fs m b (s.nx b) := by
  have hx := (List.getElem?_eq_some_iff.1 h).1
  have hxm : x < ms.length := by rw [L.len]; exact hx
  have hs : ms[x]? = some ms[x] := List.getElem?_eq_getElem hxm
  obtain ⟨n, h1, h2, h3⟩ := L.msok.each x _ hs
  rw [h] at h1
  cases h1
  exact ⟨_, hs, mAt_in (by omega) (by simpa using hs), h2, h3⟩

theorem LeastOK.next (L : LeastOK svs lv kd fs ms of_) (A : Aut svs) {x : Int} {i b : Nat} (h : Rel svs kd fs x i) (hb : b < 256) :
    (∃ (k : Nat) (y : Int), nxt svs i b = some k ∧ lv k = true ∧ mNext ms x b = (y, true) ∧ Rel svs kd fs y k) ∨ (mNext ms x b = (0, false) ∧ ∀ k, nxt svs i b = some k → lv k = false) := by
  obtain ⟨xn, m, rfl, hx, hk, hi⟩ := h
  obtain ⟨s, h1, h2, _, h4⟩ := L.at_ hx
  have hm := L.fsok.lt m (List.mem_of_getElem? hx)
  have hst := L.stable m i hm hi hk b hb
  rcases h4 b hb with ⟨g1, g2⟩ | ⟨k0, y, m', g1, g2, g3, g4, g5⟩
  · right
    refine ⟨by simp [mNext, h2, g1], fun k hk' => ?_⟩
    have e1 : kNext svs lv kd m b = -1 := by
      unfold kNext
      cases hn : nxt svs m b with
      | none => rfl
      | some k1 => simp [g2 k1 hn]
    rw [e1] at hst
    have := (L.kinds.rng k (A.nxt_lt hb hk').1).1
    unfold kNext at hst
    rw [hk'] at hst
    dsimp only at hst
    by_cases hl : lv k = true
    · rw [if_pos hl] at hst; omega
    · simpa using hl
  · left
    have e1 : kNext svs lv kd m b = kd k0 := by unfold kNext; rw [g1]; simp [g2]
    rw [e1] at hst
    have hr := (L.kinds.rng k0 (A.nxt_lt hb g1).1).1
    unfold kNext at hst
    cases hn : nxt svs i b with
    | none => rw [hn] at hst; dsimp only at hst; omega
    | some k =>
      rw [hn] at hst
      dsimp only at hst
      by_cases hl : lv k = true
      · rw [if_pos hl] at hst
        refine ⟨k, y, rfl, hl, ?_, y, m', rfl, g4, g5.trans hst, (A.nxt_lt hb hn).1⟩
        have : ¬ (y : Int) = -1 := by omega
        simp [mNext, h2, g3, this]
      · rw [if_neg hl] at hst; omega

theorem LeastOK.ac_live (L : LeastOK svs lv kd fs ms of_) {i : Nat} (h : lv i = false) : ac svs i = -1 := by
  refine Classical.byContradiction fun hn => ?_
  have := (L.alive i (ac_in hn)).2 (.acc (ac_in hn) hn)
  rw [h] at this; cases this

theorem LeastOK.kd_eq (L : LeastOK svs lv kd fs ms of_) (A : Aut svs) {i j : Nat} (hi : i < svs.length) (hj : j < svs.length) (h : kd i = kd j) : lv i = lv j ∧ ac svs i = ac svs j := by
  have h0 := L.kinds.zero i j hi hj h
  have h1 := A.ac_rng i; have h2 := A.ac_rng j
  unfold kd0 at h0
  cases ha : lv i <;> cases hb : lv j
  · exact ⟨rfl, by rw [L.ac_live ha, L.ac_live hb]⟩
  · rw [ha, hb] at h0; simp at h0; omega
  · rw [ha, hb] at h0; simp at h0; omega
  · rw [ha, hb] at h0; simp at h0; exact ⟨rfl, by omega⟩

theorem LeastOK.acc (L : LeastOK svs lv kd fs ms of_) (A : Aut svs) {x : Int} {i : Nat} (h : Rel svs kd fs x i) : mAcc ms x = ac svs i := by
  obtain ⟨xn, m, rfl, hx, hk, hi⟩ := h
  obtain ⟨s, h1, h2, h3, _⟩ := L.at_ hx
  have : mAcc ms (xn : Int) = s.acc := by simp [mAcc, h2]
  rw [this, h3]
  exact (L.kd_eq A (L.fsok.lt m (List.mem_of_getElem? hx)) hi hk).2

theorem LeastOK.dead (L : LeastOK svs lv kd fs ms of_) {k : Nat} (hk : k < svs.length) (h : lv k = false) : ¬ Alive svs k := fun ha => by
  have := (L.alive k hk).2 ha
  rw [h] at this; cases this

theorem LeastOK.run (L : LeastOK svs lv kd fs ms of_) (A : Aut svs) : ∀ (l : List UInt8) {x : Int} {i : Nat}, Rel svs kd fs x i →
    (∃ (y : Int) (k : Nat), mRun ms l (x, true) = (y, true) ∧ runFrom svs l ((i : Int), true) = ((k : Int), true) ∧ Rel svs kd fs y k) ∨
    ((mRun ms l (x, true)).2 = false ∧ ((runFrom svs l ((i : Int), true)).2 = true → accOf svs (runFrom svs l ((i : Int), true)).1 = -1))
  | [], x, i, h => .inl ⟨x, i, rfl, rfl, h⟩
  | c :: l, x, i, h => by
    have hc : c.toNat < 256 := by have := c.toNat_lt; omega
    rw [mRun_cons, runFrom_cons, A.next hc]
    rcases L.next A h hc with ⟨k, y, h1, h2, h3, h4⟩ | ⟨h1, h2⟩
    · rw [h1, h3]
      exact L.run A l h4
    · right
      rw [h1, mRun_false]
      refine ⟨rfl, fun hr => ?_⟩
      cases hx : nxt svs i c.toNat with
      | none => rw [hx] at hr; dsimp only at hr; rw [runFrom_false] at hr; cases hr
      | some k =>
        rw [hx] at hr
        dsimp only at hr ⊢
        exact dead_run A l k (L.dead (A.nxt_lt hc hx).1 (h2 k hx)) hr
end
end Go.Fk
end

section
set_option linter.unusedVariables false
namespace Go.Fk
open Go

/-! ## The document's example; LeastNone; LeastRuns -/

abbrev chA : Re := .set fun i => i == 97
abbrev chB : Re := .set fun i => i == 98
abbrev chC : Re := .set fun i => i == 99
abbrev chD : Re := .set fun i => i == 100
abbrev exR : Re := .or (.cat chA (.cat chB chC)) (.cat chA (.cat chB chD))
theorem rules_awake8 : rulesF [⟨#[97, 98, 99, 124, 97, 98, 100]⟩] = [exR] := by rfl

theorem exR_len {s : List UInt8} {t : Nat} (h : exR.m s 0 t) : t = 3 := by
  rcases h with ⟨k, ⟨rfl, _⟩, ⟨k2, ⟨rfl, _⟩, ⟨rfl, _⟩⟩⟩ | ⟨k, ⟨rfl, _⟩, ⟨k2, ⟨rfl, _⟩, ⟨rfl, _⟩⟩⟩ <;> rfl

theorem str1 {H : View} {c : Nat} {p : ByteArray} {E : Nat} (h : H c (.cells #[.string p] E (0, 0))) : SlT .str H ⟨some ⟨c, 0, none⟩, 1, 1⟩ [p] :=
  ⟨rfl, .inr ⟨c, 0, _, _, _, rfl, h, fun i x hx => by
    rcases i with _ | i
    · simp at hx; subst hx; rfl
    · simp at hx⟩⟩

theorem LeastV.some {H : View} {p : Option Addr} {N : Nat} {ms : List LSt} {of_ : Nat → Int} (h : LeastV H p N ms of_) : p.isNone = false := by
  obtain ⟨b, l, o, rfl, _⟩ := h
  rfl

theorem awake8_spec {w : World} {K : Bool → World → Prop} (hK : ∀ w', Keeps No w w' → K true w') : frisketlaw08_awake.C w K := by
  refine frisketlaw08_awake.ok _ _ ?_
  simp only [frisketlaw08_awake.M]
  refine Al.mk fun b1 w1 n1 => ?_
  refine Make_spec (M := No) (str1 ⟨id, n1.at_⟩) (fun s hs => by simp at hs; subst hs; unfold Small; decide) (by simp) (fun w2 k2 h => ?_) fun d b xs vs svs cl nc w2 k2 hm => ?_
  · rw [rules_awake8] at h
    rcases h with h | h | ⟨svs, h, hl⟩
    · cases h
    · simp [mCnt, Re.cnt] at h
    · have := h.few
      simp [mFs, Re.poss] at this
      omega
  · rw [rules_awake8] at hm
    have hd : DfaO (V No w2) d svs cl nc := .inr hm.dv
    have hsome : d.isNone = false := by have := hm.dv.some; simpa using this
    have A := Aut.of hm.ok (by simp)
    refine least_New_spec hd hsome A fun p lv kd fs ms of_ w3 k3 hlv L => ?_
    have hlo : LeastO (V No w3) p svs.length ms of_ := .inr hlv
    refine least_Run_spec hlo (by decide) ?_
    refine least_Run_spec hlo (by decide) ?_
    rw [hlv.some, Bool.not_false]
    have r1 := run_law (s := bs ⟨#[97, 98, 99]⟩) hm.ok (by decide)
    have r2 := run_law (s := bs ⟨#[97, 98, 100]⟩) hm.ok (by decide)
    have l1 : LeastI (Means [exR] (bs ⟨#[97, 98, 99]⟩) 3) 1 0 := .inr ⟨0, by omega, rfl, ⟨_, rfl, .inl ⟨1, ⟨rfl, 97, rfl, rfl⟩, ⟨2, ⟨rfl, 98, rfl, rfl⟩, ⟨rfl, 99, rfl, rfl⟩⟩⟩⟩, fun j hj _ => by omega⟩
    have l2 : LeastI (Means [exR] (bs ⟨#[97, 98, 100]⟩) 3) 1 0 := .inr ⟨0, by omega, rfl, ⟨_, rfl, .inr ⟨1, ⟨rfl, 97, rfl, rfl⟩, ⟨2, ⟨rfl, 98, rfl, rfl⟩, ⟨rfl, 100, rfl, rfl⟩⟩⟩⟩, fun j hj _ => by omega⟩
    -- where each leads, and that nothing follows
    have lead : ∀ s : List UInt8, s.length = 3 → LeastI (Means [exR] s s.length) 1 0 → ∃ (y : Int) (k : Nat), mRun ms s (0, true) = (y, true) ∧ Rel svs kd fs y k ∧ ac svs k = 0 ∧ ∀ b a, b < 256 → nxt svs k b = some a → lv a = false := by
      intro s hs hl
      have hr := run_law (s := s) hm.ok (by omega)
      have hrun : (runFrom svs s (0, true)).2 = true ∧ accOf svs (runFrom svs s (0, true)).1 = 0 := by
        cases h : (runFrom svs s (0, true)).2 with
        | false => have := (hr.1 h).2.one hl; cases this
        | true => exact ⟨rfl, (hr.2 h).one hl⟩
      rcases L.run A s (L.rel0 A) with ⟨y, k, h1, h2, h3⟩ | ⟨_, h2⟩
      · have h2q : runFrom svs s (0, true) = ((k : Int), true) := h2
        rw [h2q] at hrun
        refine ⟨y, k, h1, h3, hrun.2, fun b a hb hx => ?_⟩
        cases hla : lv a with
        | false => rfl
        | true =>
          have hal := (L.alive a (A.nxt_lt hb hx).1).1 hla
          obtain ⟨l, k', h4, h5⟩ := alive_run A hal
          have hb' : (UInt8.ofNat b).toNat = b := by simp [UInt8.toNat_ofNat']; omega
          have hrr : runFrom svs (s ++ UInt8.ofNat b :: l) (0, true) = ((k' : Int), true) := by
            rw [runFrom_append]
            have h2' : runFrom svs s (0, true) = ((k : Int), true) := h2
            rw [h2', runFrom_cons, hb', A.next hb, hx]
            exact h4
          have hr2 := (run_law (s := s ++ UInt8.ofNat b :: l) hm.ok (by simp; omega)).2 (by rw [hrr])
          rw [hrr] at hr2
          rcases hr2 with ⟨h6, _⟩ | ⟨i, hi, _, ⟨y', hy', hmy⟩, _⟩
          · exact absurd h6 h5
          · have hi0 : i = 0 := by simp at hi; omega
            subst hi0
            cases hy'
            have := exR_len hmy
            simp at this
            omega
      · have h2' : (runFrom svs s (0, true)).2 = true → accOf svs (runFrom svs s (0, true)).1 = -1 := h2
        rw [h2' hrun.1] at hrun
        cases hrun.2
    obtain ⟨y1, k1, g1, g2, g3, g4⟩ := lead (bs ⟨#[97, 98, 99]⟩) rfl l1
    obtain ⟨y2, k2', q1, q2, q3, q4⟩ := lead (bs ⟨#[97, 98, 100]⟩) rfl l2
    have hk1 : k1 < svs.length := by obtain ⟨_, _, _, _, _, h⟩ := g2; exact h
    have hk2 : k2' < svs.length := by obtain ⟨_, _, _, _, _, h⟩ := q2; exact h
    have lvk : ∀ k, k < svs.length → ac svs k = 0 → lv k = true := fun k hk h => (L.alive k hk).2 (.acc hk (by omega))
    have hE : Bis svs lv (fun i j => i = k1 ∧ j = k2') := {
      kd := by
        rintro i j ⟨rfl, rfl⟩
        unfold kd0
        rw [if_pos (lvk _ hk1 g3), if_pos (lvk _ hk2 q3), g3, q3]
      next := by
        rintro i j b ⟨rfl, rfl⟩ hb
        cases h1 : nxt svs i b with
        | none =>
          cases h2 : nxt svs j b with
          | none => trivial
          | some c => exact q4 b c hb h2
        | some a =>
          have ha := g4 b a hb h1
          cases h2 : nxt svs j b with
          | none => exact ha
          | some c => exact ⟨by rw [ha, q4 b c hb h2], fun h => by rw [ha] at h; cases h⟩ }
    have hkd := L.kinds.eqv _ hE k1 k2' hk1 hk2 ⟨rfl, rfl⟩
    have hy : y1 = y2 := by
      obtain ⟨x1, m1, rfl, h1, h2, _⟩ := g2
      obtain ⟨x2, m2, rfl, h3, h4, _⟩ := q2
      rw [L.fsok.inj h1 h3 (by rw [h2, h4, hkd])]
    subst hy
    rw [g1, q1]
    simp only [beq_self_eq_true, Br_true]
    refine least_Accept_spec hlo ?_
    rw [L.acc A g2, g3]
    exact hK w3 ((n1.keeps.trans k2).trans k3)

theorem least_New_nil {w : World} {K : (Option Addr × Int) → World → Prop} (hK : K (none, 1) w) : least_New.C none w K := by
  refine least_New.ok _ _ _ ?_
  simp only [least_New.M]
  exact hK

theorem LeastNone_spec {w : World} {n : Int} {b : Nat} (hb : b < 256) {s : ByteArray} {K : Bool → World → Prop} (hK : ∀ w', Keeps No w w' → K true w') : frisketlaw08_LeastNone.C n b s w K := by
  refine frisketlaw08_LeastNone.ok _ _ _ _ _ ?_
  simp only [frisketlaw08_LeastNone.M]
  refine Br.mk (fun _ => awake8_spec hK) (fun hf => ?_)
  have hf := of_decide_eq_false hf
  have hl : LeastO (V No w) none 0 [] (fun _ => -1) := .inl ⟨rfl, rfl, rfl⟩
  refine least_New_nil (least_Next_spec hl hb (least_Run_spec hl (by omega) (least_Of_spec hl (least_Longest_spec hl (by omega) ?_))))
  have e0 : ∀ n b, mNext [] n b = (0, false) := fun n b => by simp [mNext, mAt_out (ms := []) (n := n) (by simp)]
  have e3 : mOf 0 (fun _ => -1) n = (0, false) := by simp only [mOf]; rw [if_neg (by omega)]
  have e4 : (mLong [] (bs s) (-1, 0, 0, 0)).1 = -1 ∧ (mLong [] (bs s) (-1, 0, 0, 0)).2.1 = 0 := by
    cases bs s with
    | nil => exact ⟨rfl, rfl⟩
    | cons c l => simp [mLong, e0]
  have e5 : mAcc [] n = -1 := by simp [mAcc, mAt_out (ms := []) (n := n) (by simp)]
  simp only [e0, mRun_false, e3, e4, Option.isNone_none, Bool.not_true, Bool.not_false, beq_self_eq_true, Br_true]
  refine least_States_spec hl ?_
  simp only [List.length_nil, Int.natCast_zero, beq_self_eq_true, Br_true]
  refine least_Accept_spec hl ?_
  simp only [e5, beq_self_eq_true, Br_true]
  exact awake8_spec fun w2 k2 => hK w2 k2
end Go.Fk
end

section
set_option linter.unusedVariables false
namespace Go.Fk
open Go

/-! ## LeastRuns -/

def allM (ms : List LSt) : List Int := ms.flatMap fun m => rowL m.nx
theorem allM_get {ms : List LSt} {n : Nat} {m : LSt} {b : Nat} (h : ms[n]? = some m) (hb : b < 256) : (allM ms)[n * 256 + b]? = some (m.nx b) := by
  unfold allM
  rw [List.flatMap_def]
  refine flatten_get (sz := 256) (fun c hc => ?_) (i := n) (c := rowL m.nx) ?_ (rowL_get hb)
  · obtain ⟨i, _, rfl⟩ := List.mem_map.1 hc
    exact rowL_len
  · rw [List.getElem?_map, h]; rfl
theorem allM_len {ms : List LSt} : (allM ms).length = ms.length * 256 := by
  unfold allM
  rw [List.flatMap_def, flatten_len (sz := 256) (fun c hc => by obtain ⟨i, _, rfl⟩ := List.mem_map.1 hc; exact rowL_len)]
  simp

set_option maxRecDepth 20000 in
theorem LeastRuns_spec {M : Nat → Prop} {w : World} {l : Sl} {ss : List ByteArray} {s : ByteArray} {K : Bool → World → Prop} (hl : SlT .str (V M w) l ss) (hlen : ss.length ≤ 1048576) (hsz : ∀ s ∈ ss, s.size ≤ 1048576) (hK : ∀ w', Keeps No w w' → K true w') : frisketlaw08_LeastRuns.C l s w K := by
  refine frisketlaw08_LeastRuns.ok _ _ _ _ ?_
  simp only [frisketlaw08_LeastRuns.M]
  refine Join.cut (fun b w1 => Keeps No w w1 ∧ (b = false → (ss.length ≤ 6 ∧ ∀ s ∈ ss, s.size ≤ 40) ∧ s.size ≤ 60)) ?_ ?_
  · rintro b w1 ⟨k1, hb⟩
    refine Br.mk (fun _ => awake8_spec fun w2 k2 => hK w2 (k1.trans k2)) (fun hbf => ?_)
    obtain ⟨⟨h6, h40⟩, h60⟩ := hb hbf
    refine Make_spec (hl.mono (V.keeps0 k1)) (fun s hs => by have := h40 s hs; unfold Small; omega) (by omega) (fun w2 k2 _ => ?_) fun d bb xs vs svs cl nc w2 k2 hm => ?_
    · exact hK w2 (k1.trans k2)
    · have hsome : d.isNone = false := by have := hm.dv.some; simpa using this
      dsimp only
      rw [hsome, Br_false]
      have hrl : (rulesF ss).length ≤ ss.length := by unfold rulesF; exact List.length_filterMap_le _ _
      have A := Aut.of hm.ok (by omega)
      have hfew := A.few
      refine least_New_spec (.inr hm.dv) hsome A fun p lv kd fs ms of_ w4 k4 hlv L => ?_
      have hd4 : DfaO (V No w4) d svs cl nc := (DfaO.mono (.inr hm.dv) (V.keeps0 k4))
      have hlo : LeastO (V No w4) p svs.length ms of_ := .inr hlv
      have kw : Keeps No w w4 := (k1.trans k2).trans k4
      simp only [bne_self_eq_false, Br_false]
      refine dfa_Run_spec hd4 (by omega) ?_
      refine least_Run_spec hlo (by omega) ?_
      rw [hlv.some, hsome, Bool.not_false]
      have hms := L.msok.top
      have hfl := L.fsok.le
      have hlenm := L.len
      refine Join.cut (fun (b : Bool) w' => w' = w4 ∧ b = false) ?_ ?_
      · rintro b w' ⟨rfl, rfl⟩
        simp only [Br_false]
        -- met one behind the other
        refine Loop.mk (fun t w7 => w7 = w' ∧ ∃ n : Nat, n ≤ ms.length ∧ t.2 = (n : Int) ∧ goTop ((allM ms).take (n * 256)) 0 = some t.1 ∧ 0 ≤ t.1 ∧ t.1 ≤ 5000) (fun t => ms.length - t.2.toNat) ⟨rfl, 0, by omega, rfl, by simp [goTop], by simp, by simp⟩ ?_
        rintro ⟨top, nn⟩ w7 ⟨rfl, n, hn, hnn, htop, ht0, ht1⟩ R hR
        dsimp only at hnn htop ht0 ht1 ⊢
        subst hnn
        refine least_States_spec hlo ?_
        refine Br.mk (fun ht => ?_) (fun hf => ?_)
        · have ht : n < ms.length := by have := of_decide_eq_true ht; omega
          have hmn : ms[n]? = some ms[n] := List.getElem?_eq_getElem ht
          generalize ms[n] = m at hmn
          have hat := mAt_in (n := (n : Int)) (by omega) (by simpa using hmn)
          refine Loop.mk (fun t w11 => w11 = w7 ∧ ∃ b : Nat, b ≤ 256 ∧ t.2 = (b : Int) ∧ goTop ((allM ms).take (n * 256 + b)) 0 = some t.1 ∧ 0 ≤ t.1 ∧ t.1 ≤ 5000) (fun t => 256 - t.2.toNat) ⟨rfl, 0, by omega, rfl, htop, ht0, ht1⟩ ?_
          rintro ⟨tp, b2⟩ w11 ⟨rfl, b, hb2, hbb, htp, htp0, htp1⟩ R4 hR4
          dsimp only at hbb htp htp0 htp1 ⊢
          subst hbb
          refine Br.mk (fun htb => ?_) (fun hfb => ?_)
          · have htb : b < 256 := by have := of_decide_eq_true htb; omega
            rw [u8_small htb]
            refine least_Next_spec hlo htb ?_
            obtain ⟨q1, q2⟩ := goTop_take hms (allM_get hmn htb) htp
            have hrng : m.nx b = -1 ∨ 0 ≤ m.nx b ∧ m.nx b < fs.length := by
              obtain ⟨nf, _, _, h3⟩ := L.msok.each n m hmn
              rcases h3 b htb with ⟨h, _⟩ | ⟨k, x, m', _, _, h, h4, _⟩
              · exact .inl h
              · have := (List.getElem?_eq_some_iff.1 h4).1
                right; omega
            have e4 : w64 ((b : Int) + 1) = ((b + 1 : Nat) : Int) := by rw [w64_eq (by omega)]; omega
            rw [e4]
            by_cases hnx : m.nx b = -1
            · have en : mNext ms (n : Int) b = (0, false) := by simp [mNext, hat, hnx]
              rw [en]
              rw [if_pos (by omega)] at q2
              exact hR4 _ _ ⟨rfl, b + 1, by omega, rfl, q2, htp0, htp1⟩ (by dsimp only; omega)
            · have en : mNext ms (n : Int) b = (m.nx b, true) := by simp [mNext, hat, hnx]
              rw [en]
              have hk0 : ¬ m.nx b < 0 := by omega
              have hlt : decide (w64 (tp + 1) < m.nx b) = false := by
                rw [w64_eq (by omega)]; exact decide_eq_false (by omega)
              show Join _ _
              refine Join.cut (fun (s18 : Bool) w' => w' = w11 ∧ s18 = false) ?_ (fun j hj => hj _ _ ⟨rfl, hlt⟩)
              rintro s18 w' ⟨rfl, rfl⟩
              show App _ _ _ _ _
              refine App.max2 ?_
              rw [if_neg hk0] at q2
              refine hR4 _ _ ⟨rfl, b + 1, by omega, rfl, q2, ?_, ?_⟩ (by dsimp only; omega)
              · dsimp only; split <;> omega
              · dsimp only; split <;> omega
          · have hfb : b = 256 := by have := of_decide_eq_false hfb; omega
            subst hfb
            have e4 : w64 ((n : Int) + 1) = ((n + 1 : Nat) : Int) := by rw [w64_eq (by omega)]; omega
            rw [e4]
            refine hR _ _ ⟨rfl, n + 1, by omega, rfl, ?_, htp0, htp1⟩ (by dsimp only; omega)
            have : (n + 1) * 256 = n * 256 + 256 := by omega
            rw [this]; exact htp
        · have hf : n = ms.length := by have := of_decide_eq_false hf; omega
          subst hf
          rw [List.take_of_length_le (by rw [allM_len]; omega)] at htop
          have hms' : goTop (allM ms) 0 = some ((fs.length : Int) - 1) := hms
          rw [hms'] at htop
          have htop := Option.some.inj htop
          refine least_States_spec hlo ?_
          have : (top == w64 ((ms.length : Int) - 1)) = true := by
            rw [w64_eq (by omega), beq_iff_eq]; omega
          rw [this]
          exact hK w7 kw
      · intro j hj
        rcases L.run A (bs s) (L.rel0 A) with ⟨y, k, h1, h2, h3⟩ | ⟨h1, h2⟩
        · have h2' : runFrom svs (bs s) (0, true) = ((k : Int), true) := h2
          rw [h1, h2']
          simp only [Bool.not_true, Br_true, Br_false]
          refine dfa_Accept_spec hd4 (least_Accept_spec hlo ?_)
          have e : (accOf svs (k : Int) != mAcc ms y) = false := by
            rw [L.acc A h3]; simp [ac]
          rw [e]
          simp only [Br_false]
          exact hj _ _ ⟨rfl, rfl⟩
        · have h2' : (runFrom svs (bs s) (0, true)).2 = true → accOf svs (runFrom svs (bs s) (0, true)).1 = -1 := h2
          simp only [h1, Bool.not_false, Br_true, Br_false]
          refine Br.mk (fun hp => ?_) (fun _ => hj _ _ ⟨rfl, rfl⟩)
          refine dfa_Accept_spec hd4 ?_
          rw [h2' hp]
          exact hj _ _ ⟨rfl, by decide⟩
  · intro j hj
    refine Great_spec hl hlen hsz fun n hn => ?_
    refine Br.mk (fun _ => hj _ _ ⟨.refl, fun e => by cases e⟩) (fun hf => Br.mk (fun _ => hj _ _ ⟨.refl, fun e => by cases e⟩) (fun hf2 => ?_))
    refine awake8_spec fun w1 k1 => hj _ _ ⟨k1, fun _ => ⟨hn (of_decide_eq_false hf), ?_⟩⟩
    have := of_decide_eq_false hf2
    omega
end Go.Fk
end

section
set_option linter.unusedVariables false
namespace Go.Fk
open Go

/-! ## LeastLongest -/

theorem bs_take {s : ByteArray} {t : Nat} : bs (s.extract 0 t) = (bs s).take t := by
  simp [bs]

theorem App.prefix {w : World} {s : ByteArray} {t : Nat} {K : ByteArray → World → Prop} (h : t ≤ s.size) (hK : K (s.extract 0 t) w) : App P (Instr.sliceAt T.string (.string s) none (some (.int .i64 (t : Int))) none) (.one .str) w K := by
  refine ⟨s.extract 0 t, w, ?_, hK⟩
  rw [run_sliceAt_string w _ _ _ _ _ strTy, run_slice_string_h w _ _ strTy .i64 _ (by omega) (by omega)]
  rfl
theorem App.min2 {ts : Array TypeId} {t : TypeId} {k k' : IntKind} {x y : Int} {w : World} {K : Int → World → Prop} (hK : K (if y < x then y else x) w) : App P (Builtin.min_ ts t #[.int k x, .int k' y]) (.one (.int k)) w K :=
  ⟨_, w, run_min_int2 w ts t k k' x y, hK⟩

def LongR (x : Re) (s : List UInt8) (r : Int) : Prop := (r = -1 ∧ ∀ j, j ≤ s.length → ¬ x.m s 0 j) ∨ ∃ j : Nat, j ≤ s.length ∧ r = j ∧ x.m s 0 j ∧ ∀ j', j' ≤ s.length → x.m s 0 j' → j' ≤ j

theorem refLongest_spec {w : World} {v : NV} {x : Re} {s : ByteArray} {K : Int → World → Prop} (hs : s.size ≤ 1000000) (h : RNd (V No w) v x) (hK : ∀ r w', Keeps No w w' → LongR x (bs s) r → K r w') : frisketref05_Longest.C v.cells.toArray s w K := by
  have hsz := size_bs s
  refine frisketref05_Longest.ok _ _ _ _ ?_
  simp only [frisketref05_Longest.M]
  refine Al.mk fun b1 w1 n1 => ?_
  rw [w64_eq (by omega)]
  have eN : ((s.size : Int) + 1) = ((s.size + 1 : Nat) : Int) := by omega
  rw [eN]
  refine App.make1 (t := .bool) (z := false) elBool rfl (by omega) (by omega) fun b2 w2 n2 => ?_
  have k02 : Keeps No w w2 := n1.keeps.trans n2.keeps
  have e1 := n1.eq; have e2 := n2.eq; have z1 := n1.size; have z2 := n2.size
  have hb1 : w2.heap[b1]? = some (nodeObj v) := n2.keeps.blk0 n1.at_
  have hb2 : w2.heap[b2]? = some (rowObj .bool tBool (rowB (s.size + 1) fun _ => false)) := by rw [← rowB_none]; exact n2.at_
  refine IdxS.putB (i := 0) hb2 (by omega) fun w3 u3 => ?_
  have k03 : Keeps No w w3 := u3.keeps0 k02 (by omega)
  refine LdA.node (u3.keeps.blk hb1 (by omega)) ?_
  refine Ends_spec x.size x (Nat.le_refl _) hs (h.mono (V.keeps0 k03)) (Row.sl u3.at_ id rowB_len.symm) fun l g w4 k4 hl he => ?_
  have hg : ∀ j, j ≤ s.size → (g j = true ↔ x.m (bs s) 0 j) := fun j hj => by
    rw [he j (by omega)]
    constructor
    · rintro ⟨i, hi, hf, hm⟩
      by_cases e : i = 0
      · subst e; exact hm
      · simp [e] at hf
    · intro hm; exact ⟨0, by omega, by simp, hm⟩
  refine Loop.mk (fun t w' => w' = w4 ∧ ∃ k : Nat, k ≤ s.size + 1 ∧ t = (k : Int) - 1 ∧ ∀ j, k ≤ j → j ≤ s.size → ¬ x.m (bs s) 0 j) (fun t => (t + 1).toNat) ⟨rfl, s.size + 1, by omega, by omega, fun j h1 h2 => by omega⟩ ?_
  rintro t w' ⟨rfl, k, hk, rfl, hno⟩ R hR
  refine Br.mk (fun ht => ?_) (fun hf => ?_)
  · have ht : 1 ≤ k := by have := of_decide_eq_true ht; omega
    obtain ⟨j, rfl⟩ : ∃ j, k = j + 1 := ⟨k - 1, by omega⟩
    have ej : ((j + 1 : Nat) : Int) - 1 = (j : Int) := by omega
    rw [ej]
    refine IdxS.bool hl (by omega) ?_
    refine Br.mk (fun h => ?_) (fun h => ?_)
    · exact hK _ w' (k03.trans k4) (.inr ⟨j, by omega, rfl, (hg j (by omega)).1 h, fun j' h1 h2 => Nat.le_of_not_lt fun hlt => hno j' (by omega) (by omega) h2⟩)
    · rw [w64_eq (by omega)]
      refine hR _ _ ⟨rfl, j, by omega, rfl, fun j' h1 h2 hm => ?_⟩ (by omega)
      by_cases e : j' = j
      · subst e; rw [(hg j' h2).2 hm] at h; cases h
      · exact hno j' (by omega) h2 hm
  · have hf : k = 0 := by have := of_decide_eq_false hf; omega
    subst hf
    exact hK _ w' (k03.trans k4) (.inl ⟨rfl, fun j hj => hno j (by omega) (by omega)⟩)

section
variable {ms : List LSt} {s : List UInt8}

/-- What is met after t letters. -/
def qAt (ms : List LSt) (s : List UInt8) (t : Nat) : Int × Bool := mRun ms (s.take t) (0, true)
def BestAt (ms : List LSt) (s : List UInt8) (j : Nat) (r z : Int) : Prop :=
  (r = -1 ∧ z = 0 ∧ ∀ t, 0 < t → t ≤ j → mAcc ms (qAt ms s t).1 = -1) ∨ ∃ t : Nat, 0 < t ∧ t ≤ j ∧ z = t ∧ r = mAcc ms (qAt ms s t).1 ∧ r ≠ -1 ∧ ∀ t', t < t' → t' ≤ j → mAcc ms (qAt ms s t').1 = -1

theorem qAt_succ {j : Nat} {c : UInt8} {n : Int} (hc : s[j]? = some c) (hq : qAt ms s j = (n, true)) : qAt ms s (j + 1) = mNext ms n c.toNat := by
  unfold qAt at hq ⊢
  rw [List.take_add_one, hc, mRun_append, hq]
  simp [mRun]

theorem mLong_law : ∀ (l : List UInt8) (j : Nat) (r z n : Int), s.drop j = l → j ≤ s.length → qAt ms s j = (n, true) → (∀ t, t ≤ j → (qAt ms s t).2 = true) → BestAt ms s j r z →
    ∃ (F : Nat) (r' z' : Int), F ≤ s.length ∧ (∀ t, t ≤ F → (qAt ms s t).2 = true) ∧ (F < s.length → (qAt ms s (F + 1)).2 = false) ∧ BestAt ms s F r' z' ∧ mLong ms l (r, z, n, j) = (r', z', ((min (F + 1) s.length : Nat) : Int))
  | [], j, r, z, n, hl, hj, hq, hall, hb => by
    have : s.length ≤ j := by
      have := congrArg List.length hl
      simp at this
      omega
    have hjs : j = s.length := by omega
    refine ⟨j, r, z, hj, hall, fun h => by omega, hb, ?_⟩
    rw [mLong]
    have : min (j + 1) s.length = j := by omega
    rw [this]
  | c :: l, j, r, z, n, hl, hj, hq, hall, hb => by
    have hlt : j < s.length := by
      refine Nat.lt_of_not_le fun h => ?_
      rw [List.drop_of_length_le h] at hl; cases hl
    have hd := List.drop_eq_getElem_cons hlt
    rw [hl] at hd
    have hc : s[j]? = some c := by rw [List.getElem?_eq_getElem hlt]; exact congrArg some (List.cons.inj hd).1.symm
    have hl' : s.drop (j + 1) = l := (List.cons.inj hd).2.symm
    have hq' := qAt_succ hc hq
    rw [mLong]
    dsimp only
    by_cases hx : (mNext ms n c.toNat).2 = true
    · rw [if_pos hx]
      have hqn : qAt ms s (j + 1) = ((mNext ms n c.toNat).1, true) := by rw [hq', ← hx]
      have hall' : ∀ t, t ≤ j + 1 → (qAt ms s t).2 = true := fun t ht => by
        by_cases e : t = j + 1
        · subst e; rw [hq']; exact hx
        · exact hall t (by omega)
      by_cases ha : mAcc ms (mNext ms n c.toNat).1 = -1
      · rw [if_pos ha]
        refine mLong_law l (j + 1) r z _ hl' (by omega) hqn hall' ?_
        have hz : mAcc ms (qAt ms s (j + 1)).1 = -1 := by rw [hq']; exact ha
        rcases hb with ⟨h1, h2, h3⟩ | ⟨t, h1, h2, h3, h4, h5, h6⟩
        · refine .inl ⟨h1, h2, fun t h4 h5 => ?_⟩
          by_cases e : t = j + 1
          · subst e; exact hz
          · exact h3 t h4 (by omega)
        · refine .inr ⟨t, h1, by omega, h3, h4, h5, fun t' h7 h8 => ?_⟩
          by_cases e : t' = j + 1
          · subst e; exact hz
          · exact h6 t' h7 (by omega)
      · rw [if_neg ha]
        refine mLong_law l (j + 1) _ _ _ hl' (by omega) hqn hall' (.inr ⟨j + 1, by omega, by omega, rfl, by rw [hq'], ha, fun t' h1 h2 => by omega⟩)
    · have hx' : (mNext ms n c.toNat).2 = false := by simpa using hx
      rw [if_neg hx]
      refine ⟨j, r, z, by omega, hall, fun _ => by rw [hq']; exact hx', hb, ?_⟩
      have : min (j + 1) s.length = j + 1 := by omega
      rw [this]
end

section
variable {ys : List Re} {svs : List DSt} {cl : Nat → Int} {nc : Int} {lv : Nat → Bool} {kd : Nat → Int} {fs : List Nat} {ms : List LSt} {of_ : Nat → Int} {s : List UInt8}

/-- At t letters: what the least automaton accepts is the least expression that means them. -/
theorem LeastOK.means (L : LeastOK svs lv kd fs ms of_) (A : Aut svs) (h : DfaOK (mFs 0 ys) (mFol 0 ys) (mKs 0 ys) svs cl nc) {t : Nat} (h0 : 0 < t) (ht : t ≤ s.length) :
    ((qAt ms s t).2 = true → LeastI (Means ys s t) ys.length (mAcc ms (qAt ms s t).1)) ∧ ((qAt ms s t).2 = false → LeastI (Means ys s t) ys.length (-1)) := by
  have hst := run_state (s := s) h t ht
  have hlaw : ((runFrom svs (s.take t) (0, true)).2 = false → LeastI (Means ys s t) ys.length (-1)) ∧ ((runFrom svs (s.take t) (0, true)).2 = true → LeastI (Means ys s t) ys.length (accOf svs (runFrom svs (s.take t) (0, true)).1)) := by
    rcases hst with ⟨e0, _⟩ | ⟨_, ⟨i, sv, e, hi0, hi, hq⟩ | ⟨e, hq⟩⟩
    · omega
    · rw [e]
      refine ⟨fun h => by simp at h, fun _ => ?_⟩
      have hat : stAt svs (i : Int) = some sv := stAt_in (by omega) (by simpa using hi)
      have : accOf svs (i : Int) = sv.acc := by simp [accOf, hat]
      show LeastI _ _ (accOf svs (i : Int))
      rw [this]
      exact acc_least h0 hq (h.sts.acc sv (List.mem_of_getElem? hi))
    · rw [e]
      exact ⟨fun _ => acc_least (xs := []) h0 (fun q => by simp [hq q]) (.inl ⟨rfl, by simp⟩), fun h => by simp at h⟩
  unfold qAt
  rcases L.run A (s.take t) (L.rel0 A) with ⟨y, k, h1, h2, h3⟩ | ⟨h1, h2⟩
  · have h2' : runFrom svs (s.take t) (0, true) = ((k : Int), true) := h2
    rw [h1]
    refine ⟨fun _ => ?_, fun h => by cases h⟩
    have := hlaw.2 (by rw [h2'])
    rw [h2'] at this
    show LeastI _ _ (mAcc ms y)
    rw [L.acc A h3]; exact this
  · have h2' : (runFrom svs (s.take t) (0, true)).2 = true → accOf svs (runFrom svs (s.take t) (0, true)).1 = -1 := h2
    refine ⟨(fun h => by rw [h1] at h; cases h), fun _ => ?_⟩
    cases hr : (runFrom svs (s.take t) (0, true)).2 with
    | false => exact hlaw.1 hr
    | true => have := hlaw.2 hr; rw [h2' hr] at this; exact this

theorem qAt_dead {F : Nat} (hF : (qAt ms s (F + 1)).2 = false) : ∀ t, F + 1 ≤ t → (qAt ms s t).2 = false := by
  intro t ht
  unfold qAt at hF ⊢
  have : s.take t = s.take (F + 1) ++ (s.drop (F + 1)).take (t - (F + 1)) := by
    rw [← List.take_add]
    congr 1
    omega
  rw [this, mRun_append]
  have h1 : mRun ms (s.take (F + 1)) (0, true) = ((mRun ms (s.take (F + 1)) (0, true)).1, false) := by rw [← hF]
  rw [h1, mRun_false]

/-- The longest beginning that is meant, and the least expression that means it. -/
def LawBest (M : Nat → Nat → Prop) (n N : Nat) (r z : Int) : Prop :=
  (r = -1 ∧ z = 0 ∧ ∀ i t, i < n → 0 < t → t ≤ N → ¬ M t i) ∨ ∃ (t i : Nat), 0 < t ∧ t ≤ N ∧ i < n ∧ z = t ∧ r = i ∧ M t i ∧ (∀ j, j < i → ¬ M t j) ∧ ∀ j t', j < n → t < t' → t' ≤ N → ¬ M t' j

theorem LawBest.one {M : Nat → Nat → Prop} {n N : Nat} {r z r' z' : Int} (h : LawBest M n N r z) (h' : LawBest M n N r' z') : r = r' ∧ z = z' := by
  rcases h with ⟨rfl, rfl, h1⟩ | ⟨t, i, a1, a2, a3, rfl, rfl, a4, a5, a6⟩ <;> rcases h' with ⟨rfl, rfl, g1⟩ | ⟨t', i', b1, b2, b3, rfl, rfl, b4, b5, b6⟩
  · exact ⟨rfl, rfl⟩
  · exact absurd b4 (h1 i' t' b3 b1 b2)
  · exact absurd a4 (g1 i t a3 a1 a2)
  · have : t = t' := by
      rcases Nat.lt_trichotomy t t' with g | g | g
      · exact absurd b4 (a6 i' t' b3 g b2)
      · exact g
      · exact absurd a4 (b6 i t a3 g a2)
    subst this
    have : i = i' := by
      rcases Nat.lt_trichotomy i i' with g | g | g
      · exact absurd a4 (b5 i g)
      · exact g
      · exact absurd b4 (a5 i' g)
    subst this
    exact ⟨rfl, rfl⟩

theorem LeastOK.best (L : LeastOK svs lv kd fs ms of_) (A : Aut svs) (h : DfaOK (mFs 0 ys) (mFol 0 ys) (mKs 0 ys) svs cl nc) {F : Nat} {r z : Int} (hF : F ≤ s.length) (hall : ∀ t, t ≤ F → (qAt ms s t).2 = true) (hno : F < s.length → (qAt ms s (F + 1)).2 = false)
    (hb : BestAt ms s F r z) : LawBest (Means ys s) ys.length s.length r z := by
  have dead : ∀ t, F < t → t ≤ s.length → ∀ i, i < ys.length → ¬ Means ys s t i := fun t h1 h2 i hi hm => by
    rcases (L.means A h (by omega) h2).2 (qAt_dead (hno (by omega)) t (by omega)) with ⟨_, g⟩ | ⟨i', _, e, _⟩
    · exact g i hi hm
    · omega
  have none' : ∀ t, 0 < t → t ≤ F → mAcc ms (qAt ms s t).1 = -1 → ∀ i, i < ys.length → ¬ Means ys s t i := fun t h0 h1 ha i hi hm => by
    have := (L.means A h h0 (by omega)).1 (hall t h1)
    rw [ha] at this
    rcases this with ⟨_, g⟩ | ⟨i', _, e, _⟩
    · exact g i hi hm
    · omega
  rcases hb with ⟨h1, h2, h3⟩ | ⟨t, h1, h2, h3, h4, h5, h6⟩
  · refine .inl ⟨h1, h2, fun i t hi h0 ht => ?_⟩
    by_cases e : t ≤ F
    · exact none' t h0 e (h3 t h0 e) i hi
    · exact dead t (by omega) ht i hi
  · have hl := (L.means A h h1 (by omega)).1 (hall t h2)
    rw [← h4] at hl
    rcases hl with ⟨e, _⟩ | ⟨i, hi, e, hm, hmin⟩
    · exact absurd e h5
    · refine .inr ⟨t, i, h1, by omega, hi, h3, e, hm, fun j hj hmj => by have := hmin j (by omega) hmj; omega, fun j t' hj ht ht' => ?_⟩
      by_cases e' : t' ≤ F
      · exact none' t' (by omega) e' (h6 t' ht e') j hj
      · exact dead t' (by omega) ht' j hj
end
end Go.Fk
end

section
set_option linter.unusedVariables false
namespace Go.Fk
open Go

theorem LawBest.step {M : Nat → Nat → Prop} {k N : Nat} {r z : Int} (h : LawBest M k N r z) {v : Int} (hv : (v = -1 ∧ ∀ j, j ≤ N → ¬ M j k) ∨ ∃ j : Nat, j ≤ N ∧ v = j ∧ M j k ∧ ∀ j', j' ≤ N → M j' k → j' ≤ j) :
    (z < v → LawBest M (k + 1) N k v) ∧ (¬ z < v → LawBest M (k + 1) N r z) := by
  have hz : 0 ≤ z := by rcases h with ⟨_, h, _⟩ | ⟨t, i, _, _, _, h, _⟩ <;> omega
  -- none beyond what was met
  have beyond : ∀ (i t : Nat), i < k → z < (t : Int) → t ≤ N → ¬ M t i := by
    rcases h with ⟨_, rfl, h1⟩ | ⟨t0, i0, a1, a2, a3, rfl, _, a4, a5, a6⟩
    · intro i t hi ht hN; exact h1 i t hi (by omega) hN
    · intro i t hi ht hN; exact a6 i t hi (by omega) hN
  constructor
  · intro hlt
    rcases hv with ⟨rfl, _⟩ | ⟨j, h1, rfl, h2, h3⟩
    · omega
    · refine .inr ⟨j, k, by omega, h1, by omega, rfl, rfl, h2, fun i hi => beyond i j hi hlt h1, fun i t' hi ht hN => ?_⟩
      by_cases e : i = k
      · subst e; intro hm; have := h3 t' hN hm; omega
      · exact beyond i t' (by omega) (by omega) hN
  · intro hge
    have hk : ∀ (t : Nat), z < (t : Int) → t ≤ N → ¬ M t k := fun t ht hN hm => by
      rcases hv with ⟨rfl, h1⟩ | ⟨j, h1, rfl, h2, h3⟩
      · exact h1 t hN hm
      · have := h3 t hN hm; omega
    rcases h with ⟨h1, rfl, h2⟩ | ⟨t0, i0, a1, a2, a3, rfl, a0, a4, a5, a6⟩
    · refine .inl ⟨h1, rfl, fun i t hi h0 hN => ?_⟩
      by_cases e : i = k
      · subst e; exact hk t (by omega) hN
      · exact h2 i t (by omega) h0 hN
    · refine .inr ⟨t0, i0, a1, a2, by omega, rfl, a0, a4, a5, fun i t' hi ht hN => ?_⟩
      by_cases e : i = k
      · subst e; exact hk t' (by omega) hN
      · exact a6 i t' (by omega) ht hN

theorem LawBest.congr {M M' : Nat → Nat → Prop} {n N : Nat} {r z : Int} (h : LawBest M n N r z) (e : ∀ t i, M t i ↔ M' t i) : LawBest M' n N r z := by
  have : M = M' := by funext t i; exact propext (e t i)
  rw [← this]; exact h

set_option maxRecDepth 20000 in
theorem LeastLongest_spec {M : Nat → Prop} {w : World} {l : Sl} {ss : List ByteArray} {s : ByteArray} {K : Bool → World → Prop} (hl : SlT .str (V M w) l ss) (hlen : ss.length ≤ 1048576) (hsz : ∀ s ∈ ss, s.size ≤ 1048576) (hK : ∀ w', Keeps No w w' → K true w') : frisketlaw08_LeastLongest.C l s w K := by
  refine frisketlaw08_LeastLongest.ok _ _ _ _ ?_
  simp only [frisketlaw08_LeastLongest.M]
  refine Join.cut (fun b w1 => Keeps No w w1 ∧ (b = false → (ss.length ≤ 6 ∧ ∀ s ∈ ss, s.size ≤ 40) ∧ s.size ≤ 14)) ?_ ?_
  · rintro b w1 ⟨k1, hb⟩
    refine Br.mk (fun _ => awake8_spec fun w2 k2 => hK w2 (k1.trans k2)) (fun hbf => ?_)
    obtain ⟨⟨h6, h40⟩, h14⟩ := hb hbf
    have hszs := size_bs s
    refine Make_spec (hl.mono (V.keeps0 k1)) (fun s hs => by have := h40 s hs; unfold Small; omega) (by omega) (fun w2 k2 _ => ?_) fun d bb xs vs svs cl nc w2 k2 hm => ?_
    · exact hK w2 (k1.trans k2)
    · have hsome : d.isNone = false := by have := hm.dv.some; simpa using this
      dsimp only
      rw [hsome, Br_false]
      have hrl : (rulesF ss).length ≤ ss.length := by unfold rulesF; exact List.length_filterMap_le _ _
      have A := Aut.of hm.ok (by omega)
      refine least_New_spec (.inr hm.dv) hsome A fun p lv kd fs ms of_ w4 k4 hlv L => ?_
      have hlo : LeastO (V No w4) p svs.length ms of_ := .inr hlv
      have kw : Keeps No w w4 := (k1.trans k2).trans k4
      have hm4 := hm.keep k4
      dsimp only
      refine least_Longest_spec hlo (by omega) ?_
      have hq0 : ∀ t, t ≤ 0 → (qAt ms (bs s) t).2 = true := fun t ht => by
        have h0 : t = 0 := by omega
        rw [h0]; rfl
      obtain ⟨F, r, z, hF, hall, hno, hbest, hml⟩ := mLong_law (ms := ms) (s := bs s) (bs s) 0 (-1) 0 0 rfl (by omega) rfl hq0 (.inl ⟨rfl, rfl, fun t h1 h2 => by omega⟩)
      rw [hml]
      have hb8 := L.best A hm.ok hF hall hno hbest
      have hbn := hm4.rb.1
      simp only [List.length_map] at hbn
      have hvx := hm4.nb.length
      have hyx : (rulesF ss).length = xs.length := by simpa using congrArg List.length hm.nm
      have hmx : ∀ t i, Means (rulesF ss) (bs s) t i ↔ Means xs (bs s) t i := by
        intro t i
        have hg := congrArg (fun l => l[i]?) hm.nm
        simp only [List.getElem?_map] at hg
        constructor
        · rintro ⟨y, hy, hmy⟩
          rw [hy] at hg
          cases hx : xs[i]? with
          | none => rw [hx] at hg; cases hg
          | some x => rw [hx] at hg; exact ⟨x, hx, (m_of_norm (Option.some.inj hg)).1 hmy⟩
        · rintro ⟨x, hx, hmx⟩
          rw [hx] at hg
          cases hy : (rulesF ss)[i]? with
          | none => rw [hy] at hg; cases hg
          | some y => rw [hy] at hg; exact ⟨y, hy, (m_of_norm (Option.some.inj hg)).2 hmx⟩
      refine Loop.mk (fun t w' => Keeps No w4 w' ∧ ∃ k : Nat, k ≤ vs.length ∧ t.2.2 = (k : Int) ∧ LawBest (Means xs (bs s)) k (bs s).length t.1 t.2.1) (fun t => vs.length - t.2.2.toNat) ⟨.refl, 0, by omega, rfl, .inl ⟨rfl, rfl, fun i t hi => by omega⟩⟩ ?_
      rintro ⟨want, best, kk⟩ w5 ⟨k5, k, hk, hkk, hlb⟩ R hR
      dsimp only at hkk hlb ⊢
      subst hkk
      have hm5 := hm4.keep k5
      refine Br.mk (fun ht => ?_) (fun hf => ?_)
      · have ht : k < vs.length := by have := of_decide_eq_true ht; omega
        have e4 : w64 ((k : Int) + 1) = ((k + 1 : Nat) : Int) := by rw [w64_eq (by omega)]; omega
        rw [e4]
        refine IdxS.node (M := No) hm5.rb (by omega) (by omega) fun v hv => ?_
        rw [Int.toNat_natCast] at hv
        obtain ⟨x, hx, hN⟩ := hm5.nb.get _ _ hv
        refine refLongest_spec (by omega) hN fun r1 w6 k6 hr1 => ?_
        have hst := hlb.step (v := r1) (by
          have hmk : ∀ j, Means xs (bs s) j k ↔ x.m (bs s) 0 j := fun j => ⟨fun ⟨x', hx', h⟩ => by rw [hx] at hx'; cases hx'; exact h, fun h => ⟨x, hx, h⟩⟩
          rcases hr1 with ⟨g1, g2⟩ | ⟨j, g1, g2, g3, g4⟩
          · exact .inl ⟨g1, fun j hj h => g2 j hj ((hmk j).1 h)⟩
          · exact .inr ⟨j, g1, g2, (hmk j).2 g3, fun j' hj' h => g4 j' hj' ((hmk j').1 h)⟩)
        refine Br.mk (fun hlt => ?_) (fun hlt => ?_)
        · exact hR _ _ ⟨k5.trans k6, k + 1, by omega, rfl, hst.1 (of_decide_eq_true hlt)⟩ (by dsimp only; omega)
        · exact hR _ _ ⟨k5.trans k6, k + 1, by omega, rfl, hst.2 (of_decide_eq_false hlt)⟩ (by dsimp only; omega)
      · have hf : k = vs.length := by have := of_decide_eq_false hf; omega
        subst hf
        have hb8' : LawBest (Means xs (bs s)) vs.length (bs s).length r z := by
          have := hb8.congr hmx
          have e : vs.length = (rulesF ss).length := by omega
          rw [e]; exact this
        obtain ⟨rfl, rfl⟩ := hlb.one hb8'
        have hlo5 : LeastO (V No w5) p svs.length ms of_ := hlo.mono (V.keeps0 k5)
        have hz : best ≤ F := by rcases hbest with ⟨_, h, _⟩ | ⟨t, _, h2, h, _⟩ <;> omega
        have hmin : min (F + 1) (bs s).length = if (s.size : Int) < ((F + 1 : Nat) : Int) then s.size else F + 1 := by
          split <;> omega
        refine Join.cut (fun (b : Bool) w' => w' = w5 ∧ b = false) ?_ ?_
        · rintro b w' ⟨rfl, rfl⟩
          rw [Br_false]
          refine Join.cut (fun (f : Int) w'' => w'' = w' ∧ f = F) ?_ ?_
          · rintro f w'' ⟨e1, e2⟩
            rw [e1, e2]
            refine App.min2 ?_
            have e4 : w64 ((F : Int) + 1) = ((F + 1 : Nat) : Int) := by rw [w64_eq (by omega)]; omega
            rw [e4]
            have : ((((min (F + 1) (bs s).length : Nat) : Int)) == (if (s.size : Int) < ((F + 1 : Nat) : Int) then (s.size : Int) else ((F + 1 : Nat) : Int))) = true := by
              rw [beq_iff_eq]
              split <;> omega
            rw [this]
            exact hK w' (kw.trans k5)
          · intro j6 hj6
            refine Loop.mk (fun (t : Int) w'' => w'' = w' ∧ ∃ f : Nat, f ≤ F ∧ t = (f : Int)) (fun t => s.size - t.toNat) ⟨rfl, 0, by omega, rfl⟩ ?_
            rintro t w'' ⟨rfl, f, hfF, rfl⟩ R7 hR7
            refine Br.mk (fun ht => ?_) (fun hf => ?_)
            · have ht : f < s.size := by have := of_decide_eq_true ht; omega
              have e4 : w64 ((f : Int) + 1) = ((f + 1 : Nat) : Int) := by rw [w64_eq (by omega)]; omega
              rw [e4]
              refine App.prefix (by omega) ?_
              refine least_Run_spec hlo5 (by have := size_bs (s.extract 0 (f + 1)); rw [bs_take, List.length_take] at this; omega) ?_
              rw [hlv.some, Bool.not_false, bs_take]
              show Br (!(qAt ms (bs s) (f + 1)).2) _ _
              refine Br.mk (fun hx => ?_) (fun hx => ?_)
              · have hx : (qAt ms (bs s) (f + 1)).2 = false := by simpa using hx
                refine hj6 _ _ ⟨rfl, ?_⟩
                have : ¬ f + 1 ≤ F := fun h => by rw [hall (f + 1) h] at hx; cases hx
                omega
              · have hx : (qAt ms (bs s) (f + 1)).2 = true := by simpa using hx
                refine hR7 _ _ ⟨rfl, f + 1, ?_, rfl⟩ (by omega)
                refine Nat.lt_of_le_of_ne hfF fun e => ?_
                subst e
                rw [hno (by omega)] at hx; cases hx
            · have hf : ¬ f < s.size := by have := of_decide_eq_false hf; omega
              exact hj6 _ _ ⟨rfl, by omega⟩
        · intro j9 hj9
          simp only [bne_self_eq_false, Br_false]
          have e1 : decide ((((min (F + 1) (bs s).length : Nat) : Int)) < best) = false := decide_eq_false (by omega)
          have e2 : decide ((s.size : Int) < ((min (F + 1) (bs s).length : Nat) : Int)) = false := decide_eq_false (by omega)
          rw [e1, e2, Br_false]
          exact hj9 _ _ ⟨rfl, rfl⟩
  · intro j hj
    refine Great_spec hl hlen hsz fun n hn => ?_
    refine Br.mk (fun _ => hj _ _ ⟨.refl, fun e => by cases e⟩) (fun hf => Br.mk (fun _ => hj _ _ ⟨.refl, fun e => by cases e⟩) (fun hf2 => ?_))
    refine awake8_spec fun w1 k1 => hj _ _ ⟨k1, fun _ => ⟨hn (of_decide_eq_false hf), ?_⟩⟩
    have := of_decide_eq_false hf2
    omega
end Go.Fk
end

section
set_option linter.unusedVariables false
namespace Go.Fk
open Go Go.MapKept

/-! ## Which states are alike -/

section
variable {ys : List Re} {svs : List DSt} {cl : Nat → Int} {nc : Int} {lv : Nat → Bool} {kd : Nat → Int} {fs : List Nat} {ms : List LSt} {of_ : Nat → Int}

def su (svs : List DSt) (i b : Nat) : Nat := (nxt svs i b).getD svs.length
inductive Apart (svs : List DSt) : Nat → Nat → Prop
  | acc {i k : Nat} : ac svs i ≠ ac svs k → Apart svs i k
  | step {i k b : Nat} : b < 256 → Apart svs (su svs i b) (su svs k b) → Apart svs i k

theorem Apart.ne {i k : Nat} (h : Apart svs i k) : i ≠ k := by
  induction h with
  | acc h => exact fun e => h (by rw [e])
  | step _ _ ih => exact fun e => ih (by rw [e])

theorem su_le (A : Aut svs) {i b : Nat} (hb : b < 256) : su svs i b ≤ svs.length := by
  unfold su
  cases hx : nxt svs i b with
  | none => exact Nat.le_refl _
  | some k => exact Nat.le_of_lt (A.nxt_lt hb hx).1

theorem no_alive (A : Aut svs) : ¬ Alive svs svs.length := by
  intro h
  generalize hn : svs.length = n at h
  cases h with
  | acc h1 _ => omega
  | step hb hx _ => have := (A.nxt_lt hb hx).2; omega

theorem dead_ac {i : Nat} (h : ¬ Alive svs i) : ac svs i = -1 := Classical.byContradiction fun hn => h (.acc (ac_in hn) hn)

theorem dead_su (A : Aut svs) {i b : Nat} (hb : b < 256) (h : ¬ Alive svs i) : ¬ Alive svs (su svs i b) := by
  unfold su
  cases hx : nxt svs i b with
  | none => exact no_alive A
  | some k => exact fun hk => h (.step hb hx hk)

theorem alive_apart (A : Aut svs) {i : Nat} (h : Alive svs i) : ∀ {j : Nat}, ¬ Alive svs j → Apart svs i j := by
  induction h with
  | acc hn ha => intro j hj; exact .acc (by rw [dead_ac hj]; exact ha)
  | step hb hx _ ih =>
    intro j hj
    refine .step hb ?_
    have e : ∀ {n b k : Nat}, nxt svs n b = some k → su svs n b = k := fun h => by simp [su, h]
    rw [e hx]
    exact ih (dead_su A hb hj)

theorem apart_sym {i k : Nat} (h : Apart svs i k) : Apart svs k i := by
  induction h with
  | acc h => exact .acc (Ne.symm h)
  | step hb _ ih => exact .step hb ih

def EqK (svs : List DSt) (kd : Nat → Int) (i k : Nat) : Prop := (i < svs.length ∧ k < svs.length ∧ Alive svs i ∧ Alive svs k ∧ kd i = kd k) ∨ (¬ Alive svs i ∧ ¬ Alive svs k)

theorem LeastOK.kn (L : LeastOK svs lv kd fs ms of_) (A : Aut svs) {i b : Nat} (hb : b < 256) : (∃ a, nxt svs i b = some a ∧ Alive svs a ∧ a < svs.length ∧ su svs i b = a ∧ kNext svs lv kd i b = kd a ∧ 0 ≤ kd a) ∨ (¬ Alive svs (su svs i b) ∧ kNext svs lv kd i b = -1) := by
  unfold kNext su
  cases hx : nxt svs i b with
  | none => exact .inr ⟨no_alive A, rfl⟩
  | some a =>
    have ha := (A.nxt_lt hb hx).1
    by_cases hl : lv a = true
    · exact .inl ⟨a, rfl, (L.alive a ha).1 hl, ha, rfl, by simp [hl], (L.kinds.rng a ha).1⟩
    · exact .inr ⟨fun h => hl ((L.alive a ha).2 h), by simp [hl]⟩

theorem LeastOK.apart_not (L : LeastOK svs lv kd fs ms of_) (A : Aut svs) {i k : Nat} (h : Apart svs i k) : ¬ EqK svs kd i k := by
  induction h with
  | acc h =>
    rintro (⟨h1, h2, _, _, h3⟩ | ⟨h1, h2⟩)
    · exact h (L.kd_eq A h1 h2 h3).2
    · exact h (by rw [dead_ac h1, dead_ac h2])
  | step hb _ ih =>
    rename_i i k b _
    rintro (⟨h1, h2, _, _, h3⟩ | ⟨h1, h2⟩)
    · have hst := L.stable i k h1 h2 h3 b hb
      refine ih ?_
      rcases L.kn A (i := i) hb with ⟨a, _, g2, g3, g4, g5, g6⟩ | ⟨g1, g2⟩ <;> rcases L.kn A (i := k) hb with ⟨c, _, q2, q3, q4, q5, q6⟩ | ⟨q1, q2⟩
      · rw [g4, q4]
        exact .inl ⟨g3, q3, g2, q2, by rw [← g5, ← q5, hst]⟩
      · omega
      · omega
      · exact .inr ⟨g1, q1⟩
    · exact ih (.inr ⟨dead_su A hb h1, dead_su A hb h2⟩)

theorem LeastOK.apart_kd (L : LeastOK svs lv kd fs ms of_) (A : Aut svs) {i k : Nat} (hi : i < svs.length) (hk : k < svs.length) (ai : Alive svs i) (ak : Alive svs k) : Apart svs i k ↔ kd i ≠ kd k := by
  refine ⟨fun h e => L.apart_not A h (.inl ⟨hi, hk, ai, ak, e⟩), fun hne => Classical.byContradiction fun hna => hne ?_⟩
  have key : ∀ {a c : Nat}, a < svs.length → c < svs.length → ¬ Apart svs a c → lv a = lv c := fun {a c} ha hc h => by
    cases h1 : lv a <;> cases h2 : lv c
    · rfl
    · exact absurd (apart_sym (alive_apart A ((L.alive c hc).1 h2) (L.dead ha h1))) h
    · exact absurd (alive_apart A ((L.alive a ha).1 h1) (L.dead hc h2)) h
    · rfl
  refine L.kinds.eqv (fun i j => i < svs.length ∧ j < svs.length ∧ ¬ Apart svs i j) ⟨?_, ?_⟩ i k hi hk ⟨hi, hk, hna⟩
  · rintro i j ⟨h1, h2, h3⟩
    have e1 := key h1 h2 h3
    have e2 : ac svs i = ac svs j := Classical.byContradiction fun h => h3 (.acc h)
    unfold kd0
    rw [e1, e2]
  · rintro i j b ⟨h1, h2, h3⟩ hb
    have h4 : ¬ Apart svs (su svs i b) (su svs j b) := fun h => h3 (.step hb h)
    cases x1 : nxt svs i b with
    | none =>
      cases x2 : nxt svs j b with
      | none => trivial
      | some c =>
        have hc := (A.nxt_lt hb x2).1
        have e1 : su svs i b = svs.length := by simp [su, x1]
        have e2 : su svs j b = c := by simp [su, x2]
        rw [e1, e2] at h4
        show lv c = false
        cases hl : lv c with
        | false => rfl
        | true => exact absurd (apart_sym (alive_apart A ((L.alive c hc).1 hl) (no_alive A))) h4
    | some a =>
      have ha := (A.nxt_lt hb x1).1
      have e1 : su svs i b = a := by simp [su, x1]
      cases x2 : nxt svs j b with
      | none =>
        have e2 : su svs j b = svs.length := by simp [su, x2]
        rw [e1, e2] at h4
        show lv a = false
        cases hl : lv a with
        | false => rfl
        | true => exact absurd (alive_apart A ((L.alive a ha).1 hl) (no_alive A)) h4
      | some c =>
        have hc := (A.nxt_lt hb x2).1
        have e2 : su svs j b = c := by simp [su, x2]
        rw [e1, e2] at h4
        exact ⟨key ha hc h4, fun _ => ⟨ha, hc, h4⟩⟩

/-- Every state is met. -/
theorem met_from (h : DfaOK (mFs 0 ys) (mFol 0 ys) (mKs 0 ys) svs cl nc) {i : Nat} (h0 : 0 < i) (hi : i < svs.length) : ∃ j b, j < i ∧ b < 256 ∧ nxt svs j b = some i := by
  obtain ⟨j, b, h1, h2, h3⟩ := h.done.met i h0 hi
  have hb : b < 256 := by rcases h2 with ⟨_, h⟩ | ⟨_, h⟩ <;> omega
  have hj : svs[j]? = some svs[j] := List.getElem?_eq_getElem (by omega)
  refine ⟨j, b, h1, hb, ?_⟩
  unfold nxAt at h3
  rw [hj] at h3
  simp only [Option.map_some, Option.getD_some] at h3
  unfold nxt
  rw [hj]
  dsimp only
  rw [h3, if_neg (by omega)]
  simp

theorem LeastOK.placed (L : LeastOK svs lv kd fs ms of_) (A : Aut svs) (h : DfaOK (mFs 0 ys) (mFol 0 ys) (mKs 0 ys) svs cl nc) : ∀ (n i : Nat), i ≤ n → i < svs.length → Alive svs i → ∃ x, Rel svs kd fs x i := by
  intro n
  induction n with
  | zero => intro i hi _ _; have : i = 0 := by omega
            subst this; exact ⟨0, L.rel0 A⟩
  | succ n ih =>
    intro i hi hlt ha
    by_cases h0 : i = 0
    · subst h0; exact ⟨0, L.rel0 A⟩
    · obtain ⟨j, b, h1, h2, h3⟩ := met_from h (by omega) hlt
      obtain ⟨x, hx⟩ := ih j (by omega) (by omega) (.step h2 h3 ha)
      rcases L.next A hx h2 with ⟨k, y, g1, _, _, g4⟩ | ⟨_, g2⟩
      · rw [h3] at g1; cases g1
        exact ⟨y, g4⟩
      · have := g2 i h3
        have := (L.alive i hlt).2 ha
        simp_all

theorem LeastOK.ofSpec (L : LeastOK svs lv kd fs ms of_) (A : Aut svs) (h : DfaOK (mFs 0 ys) (mFol 0 ys) (mKs 0 ys) svs cl nc) {i : Nat} (hi : i < svs.length) :
    ((Alive svs i ∨ i = 0) ∧ ∃ x, mOf svs.length of_ (i : Int) = (x, true) ∧ Rel svs kd fs x i) ∨ (¬ (Alive svs i ∨ i = 0) ∧ mOf svs.length of_ (i : Int) = (0, false)) := by
  have hmo : mOf svs.length of_ (i : Int) = if of_ i = -1 then (0, false) else (of_ i, true) := by
    unfold mOf
    rw [if_pos (by omega), Int.toNat_natCast]
  rcases L.ofok i hi with ⟨x, m, h1, h2, h3, h4⟩ | ⟨h1, h2⟩
  · left
    refine ⟨h3.imp (L.alive i hi).1 id, x, ?_, x, m, rfl, h1, h2, hi⟩
    rw [hmo, h4, if_neg (by omega)]
  · right
    refine ⟨fun hh => h2 ⟨hh.imp (L.alive i hi).2 id, ?_⟩, by rw [hmo, h1, if_pos rfl]⟩
    rcases hh with hh | hh
    · obtain ⟨x, xn, m, _, g1, g2, _⟩ := L.placed A h i i (Nat.le_refl _) hi hh
      exact ⟨xn, m, g1, g2⟩
    · subst hh
      exact ⟨0, 0, L.fsok.zero, rfl⟩

theorem Rel.one (L : LeastOK svs lv kd fs ms of_) {x y : Int} {i k : Nat} (h : Rel svs kd fs x i) (h' : Rel svs kd fs y k) : x = y ↔ kd i = kd k := by
  obtain ⟨xn, m, rfl, h1, h2, _⟩ := h
  obtain ⟨yn, m', rfl, h3, h4, _⟩ := h'
  constructor
  · intro e
    have : xn = yn := by omega
    subst this
    rw [h1] at h3; cases h3
    rw [← h2, ← h4]
  · intro e
    rw [L.fsok.inj h1 h3 (by rw [h2, h4, e])]
end

/-! ## What the law finds apart -/

theorem elSl : Elem P T.sl_sl_bool T.sl_bool (Ty.sl.enc ⟨none, 0, 0⟩) 1 24 := ⟨by kernel_rfl, by kernel_rfl, rfl, by decide⟩

abbrev rowOf (N : Nat) (b : Nat) : Sl := ⟨some ⟨b, 0, none⟩, N, N⟩
/-- Rows of bools: the outer row's block, the inner rows'. -/
structure Mx (w : World) (N bo : Nat) (bk : Nat → Nat) (f : Nat → Nat → Bool) : Prop where
  out : w.heap[bo]? = some (rowObj .sl T.sl_bool (rowG N fun i => rowOf N (bk i)))
  row : ∀ i, i < N → w.heap[bk i]? = some (rowObj .bool tBool (rowG N (f i)))
  ne : ∀ i, i < N → bk i ≠ bo
  inj : ∀ i j, i < N → j < N → bk i = bk j → i = j

theorem Mx.congr {w : World} {N bo : Nat} {bk : Nat → Nat} {f g : Nat → Nat → Bool} (h : Mx w N bo bk f) (e : ∀ i k, i < N → k < N → f i k = g i k) : Mx w N bo bk g :=
  ⟨h.out, fun i hi => by rw [h.row i hi]; congr 2; exact rowG_congr fun k hk => e i k hi hk, h.ne, h.inj⟩

theorem Mx.keep {w w' : World} {N bo : Nat} {bk : Nat → Nat} {f : Nat → Nat → Bool} (h : Mx w N bo bk f) (k : Keeps No w w') : Mx w' N bo bk f :=
  ⟨k.blk0 h.out, fun i hi => k.blk0 (h.row i hi), h.ne, h.inj⟩

theorem Mx.get {w : World} {N bo : Nat} {bk : Nat → Nat} {f : Nat → Nat → Bool} {K : Bool → Prop} (h : Mx w N bo bk f) {i k : Nat} (hi : i < N) (hk : k < N) (hK : K (f i k)) :
    IdxS (rowOf N bo) (i : Int) 1 fun p => Ld .sl p w fun x => IdxS x (k : Int) 1 fun q => Ld .bool q w K :=
  IdxS.getG (t := .sl) (Row.sl (M := No) h.out (fun h => h) rowG_len.symm) hi (IdxS.getG (t := .bool) (Row.sl (M := No) (h.row i hi) (fun h => h) rowG_len.symm) hk hK)

theorem Mx.put {w : World} {N bo : Nat} {bk : Nat → Nat} {f : Nat → Nat → Bool} {K : World → Prop} (h : Mx w N bo bk f) {i k : Nat} (hi : i < N) (hk : k < N) {v : Bool}
    (hK : ∀ w', Keeps (· = bk i) w w' → Mx w' N bo bk (fun a c => if a = i ∧ c = k then v else f a c) → K w') :
    IdxS (rowOf N bo) (i : Int) 1 fun p => Ld .sl p w fun x => IdxS x (k : Int) 1 fun q => St q (.bool v) w K := by
  refine IdxS.getG (t := .sl) (Row.sl (M := No) h.out (fun h => h) rowG_len.symm) hi (IdxS.putG (t := .bool) (v := v) (h.row i hi) hk fun w' u => hK w' u.keeps ⟨u.keeps.blk h.out (h.ne i hi).symm, fun a ha => ?_, h.ne, h.inj⟩)
  by_cases e : a = i
  · subst e
    rw [u.at_]
    congr 2
    exact rowG_congr fun c hc => by simp
  · rw [u.keeps.blk (h.row a ha) (fun h' => e (h.inj a i ha hi h'))]
    congr 2
    exact rowG_congr fun c hc => by simp [e]
end Go.Fk
end

section
set_option linter.unusedVariables false
namespace Go.Fk
open Go Go.MapKept

variable {svs : List DSt} {cl : Nat → Int} {nc : Int}

def flatB (N : Nat) (f : Nat → Nat → Bool) (t : Nat) : Bool := f (t / N) (t % N)
theorem flat_at {N i k : Nat} (hk : k < N) {f : Nat → Nat → Bool} : flatB N f (i * N + k) = f i k := by
  unfold flatB
  rw [show i * N + k = k + N * i by rw [Nat.mul_comm]; omega, Nat.add_mul_div_left _ _ (by omega), Nat.add_mul_mod_self_left, Nat.div_eq_of_lt hk, Nat.mod_eq_of_lt hk, Nat.zero_add]

def apCnt (N : Nat) (f : Nat → Nat → Bool) : Nat := cntB (flatB N f) (N * N)
theorem apCnt_le {N : Nat} {f : Nat → Nat → Bool} : apCnt N f ≤ N * N := cntB_le _ _
theorem apCnt_mono {N : Nat} {f g : Nat → Nat → Bool} (h : ∀ i k, f i k = true → g i k = true) : apCnt N f ≤ apCnt N g := cntB_mono (fun t ht => h _ _ ht) _
theorem apCnt_lt {N i k : Nat} {f g : Nat → Nat → Bool} (h : ∀ i k, f i k = true → g i k = true) (hi : i < N) (hk : k < N) (h1 : f i k = false) (h2 : g i k = true) : apCnt N f < apCnt N g := by
  refine cntB_lt (fun t ht => h _ _ ht) (i := i * N + k) ?_ ((flat_at hk).trans h1) ((flat_at hk).trans h2)
  have h3 : (i + 1) * N ≤ N * N := Nat.mul_le_mul_right N (by omega)
  rw [Nat.add_mul] at h3
  omega

structure ApInv (svs : List DSt) (f : Nat → Nat → Bool) : Prop where
  snd : ∀ i k, i ≤ svs.length → k ≤ svs.length → f i k = true → Apart svs i k
  acc : ∀ i k, i ≤ svs.length → k ≤ svs.length → ac svs i ≠ ac svs k → f i k = true
  sym : ∀ i k, i ≤ svs.length → k ≤ svs.length → f i k = f k i

def ApClo (svs : List DSt) (f : Nat → Nat → Bool) (i k b : Nat) : Prop := ∀ i' k' b', k' < i' → i' ≤ svs.length → b' < 256 → (i' < i ∨ i' = i ∧ (k' < k ∨ k' = k ∧ b' < b)) → f (su svs i' b') (su svs k' b') = true → f i' k' = true

theorem ApInv.all {f : Nat → Nat → Bool} (A : Aut svs) (h : ApInv svs f) (hc : ApClo svs f (svs.length + 1) 0 0) {i k : Nat} (hi : i ≤ svs.length) (hk : k ≤ svs.length) : f i k = true ↔ Apart svs i k := by
  refine ⟨h.snd i k hi hk, fun ha => ?_⟩
  induction ha with
  | acc hne => exact h.acc _ _ hi hk hne
  | step hb hap ih =>
    rename_i i k b
    have h1 := ih (su_le A hb) (su_le A hb)
    rcases Nat.lt_trichotomy k i with g | g | g
    · exact hc i k b g hi hb (.inl (by omega)) h1
    · subst g; exact absurd rfl hap.ne
    · rw [h.sym _ _ hi hk]
      refine hc k i b g hk hb (.inl (by omega)) ?_
      rw [h.sym _ _ (su_le A hb) (su_le A hb)]; exact h1

set_option maxRecDepth 20000 in
theorem alike_spec {w : World} {d : Option Addr} (hd : DfaO (V No w) d svs cl nc) (A : Aut svs) {K : Sl → World → Prop}
    (hK : ∀ bo bk f w', Keeps No w w' → Mx w' (svs.length + 1) bo bk f → (∀ i k, i ≤ svs.length → k ≤ svs.length → (f i k = true ↔ Apart svs i k)) → K (rowOf (svs.length + 1) bo) w') : frisketlaw08_alike.C d w K := by
  have hfew := A.few
  refine frisketlaw08_alike.ok _ _ _ ?_
  simp only [frisketlaw08_alike.M]
  refine dfa_States_spec hd ?_
  rw [w64_eq (by omega)]
  have eN : ((svs.length : Int) + 1) = ((svs.length + 1 : Nat) : Int) := by omega
  rw [eN]
  refine App.make1 (t := .sl) (z := ⟨none, 0, 0⟩) elSl rfl (by omega) (by omega) fun bo w2 n2 => ?_
  have e2 := n2.eq; have z2 := n2.size
  have o2 := n2.at_
  rw [rowG_rep] at o2
  let N := svs.length + 1
  have hN : N = svs.length + 1 := rfl
  have acN : ∀ (i : Nat), accOf svs (i : Int) = ac svs i := fun i => rfl
  -- the rows are made
  refine Loop.mk (fun s w' => Keeps No w w' ∧ w2.heap.size ≤ w'.heap.size ∧ ∃ (i : Nat) (bk : Nat → Nat), i ≤ N ∧ s = (i : Int) ∧ w'.heap[bo]? = some (rowObj .sl T.sl_bool (rowG N fun j => if j < i then rowOf N (bk j) else ⟨none, 0, 0⟩)) ∧
      (∀ j, j < i → w2.heap.size ≤ bk j ∧ bk j < w'.heap.size) ∧ (∀ j j', j < i → j' < i → bk j = bk j' → j = j') ∧ ∀ j, j < i → w'.heap[bk j]? = some (rowObj .bool tBool (rowG N fun k => ac svs j != ac svs k))) (fun s => N - s.toNat)
    ⟨n2.keeps, Nat.le_refl _, 0, fun _ => 0, by omega, rfl, by simpa using o2, fun j hj => by omega, fun j j' hj => by omega, fun j hj => by omega⟩ ?_
  rintro s w3 ⟨k3, z3, i, bk, hi, rfl, o3, hbk, hinj, hrow⟩ R hR
  refine Br.mk (fun ht => ?_) (fun hf => ?_)
  · have ht : i < N := by have := of_decide_eq_true ht; omega
    refine App.make1 (t := .bool) (z := false) elBool rfl (by omega) (by omega) fun bn w4 n4 => ?_
    have e4 := n4.eq; have z4 := n4.size
    have o4 := n4.at_
    rw [rowG_rep] at o4
    refine IdxS.putG (t := .sl) (v := rowOf N bn) (n4.keeps.blk0 o3) ht fun w5 u5 => ?_
    have k05 : Keeps No w w5 := (k3.trans n4.keeps).then u5.keeps fun b hb h => by omega
    have z5 := u5.size
    have out5 : w5.heap[bo]? = some (rowObj .sl T.sl_bool (rowG N fun j => if j < i + 1 then rowOf N (if j = i then bn else bk j) else ⟨none, 0, 0⟩)) := by
      rw [u5.at_]
      congr 2
      refine rowG_congr fun j hj => ?_
      by_cases e : j = i
      · subst e; simp
      · have : (j < i + 1) ↔ j < i := by omega
        simp [e, this]
    refine Loop.mk (fun t w' => Keeps (· = bn) w5 w' ∧ ∃ k : Nat, k ≤ N ∧ t = (k : Int) ∧ w'.heap[bn]? = some (rowObj .bool tBool (rowG N fun c => if c < k then ac svs i != ac svs c else false))) (fun t => N - t.toNat) ⟨.refl, 0, by omega, rfl, by simpa using u5.keeps.blk o4 (by omega)⟩ ?_
    rintro t w6 ⟨k6, k, hk, rfl, o6⟩ R2 hR2
    have k06 : Keeps No w w6 := k05.then k6 fun b hb h => by have := k3.size; omega
    have out6 := k6.blk out5 (by omega)
    refine Br.mk (fun htk => ?_) (fun hfk => ?_)
    · have htk : k < N := by have := of_decide_eq_true htk; omega
      have e4' : w64 ((k : Int) + 1) = ((k + 1 : Nat) : Int) := by rw [w64_eq (by omega)]; omega
      rw [e4']
      refine ⟨fun x => x.heap[bo]? = some (rowObj .sl T.sl_bool (rowG N fun j => if j < i + 1 then rowOf N (if j = i then bn else bk j) else ⟨none, 0, 0⟩)), out6, ⟨_, rfl, ⟨by omega, Int.ofNat_lt.2 ht⟩, ?_⟩⟩
      rw [add_eq, Nat.mul_one, Nat.zero_add, Int.toNat_natCast]
      refine ⟨rowOf N bn, fun x hx => cell_of hx ?_, ?_⟩
      · rw [List.getElem?_toArray, List.getElem?_map, rowG_get ht]
        simp
      have kd6 : Keeps No w6 w6.drew := Keeps.drew
      have hd7 := hd.mono (V.keeps0 (M := No) (k06.trans kd6))
      refine dfa_Accept_spec hd7 ⟨out6, dfa_Accept_spec hd7 ⟨out6, ?_⟩⟩
      refine IdxS.putG (t := .bool) (v := ac svs i != ac svs k) (kd6.blk0 o6) htk fun w7 u7 => ?_
      refine ⟨u7.keeps.blk (kd6.blk0 out6) (by omega), hR2 _ _ ⟨(k6.then0 kd6).trans u7.keeps, k + 1, by omega, rfl, ?_⟩ (by omega)⟩
      rw [u7.at_]
      congr 2
      refine rowG_congr fun c hc => ?_
      by_cases e : c = k
      · subst e; simp
      · have : (c < k + 1) ↔ c < k := by omega
        simp [e, this]
    · have hfk : k = N := by have := of_decide_eq_false hfk; omega
      subst hfk
      have e4' : w64 ((i : Int) + 1) = ((i + 1 : Nat) : Int) := by rw [w64_eq (by omega)]; omega
      rw [e4']
      have z6 := k6.size
      refine hR _ _ ⟨k06, by omega, i + 1, fun j => if j = i then bn else bk j, by omega, rfl, out6, fun j hj => ?_, fun j j' hj hj' e => ?_, fun j hj => ?_⟩ (by omega)
      · by_cases e : j = i
        · simp only [e, if_true]; omega
        · have := hbk j (by omega)
          simp only [e, if_false]; omega
      · by_cases e1 : j = i <;> by_cases e2 : j' = i
        · omega
        · simp only [e1, e2, if_true, if_false] at e
          have := hbk j' (by omega); omega
        · simp only [e1, e2, if_true, if_false] at e
          have := hbk j (by omega); omega
        · simp only [e1, e2, if_false] at e
          exact hinj j j' (by omega) (by omega) e
      · by_cases e : j = i
        · subst e
          simp only [if_true]
          rw [o6]
          congr 2
          exact rowG_congr fun c hc => by rw [if_pos hc]
        · simp only [e, if_false]
          have hb := hbk j (by omega)
          exact k6.blk (u5.keeps.blk (n4.keeps.blk0 (hrow j (by omega))) (by omega)) (by omega)
  · have hf : i = N := by have := of_decide_eq_false hf; omega
    subst hf
    have hmx : Mx w3 N bo bk (fun j k => ac svs j != ac svs k) := ⟨by rw [o3]; congr 2; exact rowG_congr fun j hj => by rw [if_pos hj], hrow, fun j hj => by have := hbk j hj; omega, hinj⟩
    have hge : ∀ j, j < N → w.heap.size ≤ bk j := fun j hj => by have := hbk j hj; omega
    have hinv0 : ApInv svs (fun j k => ac svs j != ac svs k) := ⟨fun i k _ _ h => .acc (by simpa using h), fun i k _ _ h => by simpa using h, fun i k _ _ => by
      show (ac svs i != ac svs k) = (ac svs k != ac svs i)
      by_cases e : ac svs i = ac svs k
      · rw [e]
      · rw [bne_iff_ne.2 e, bne_iff_ne.2 (Ne.symm e)]⟩
    refine Loop.mkn (fun m (s : Bool) w' => ∃ f, Keeps No w w' ∧ Mx w' N bo bk f ∧ ApInv svs f ∧ (s = false → ApClo svs f N 0 0) ∧ m = N * N - apCnt N f + (if s then 1 else 0)) _ ⟨_, k3, hmx, hinv0, (fun h => by cases h), rfl⟩ ?_
    rintro m s w4 ⟨f, k4, m4, hInv, hclo, rfl⟩ R3 hR3
    refine Br.mk (fun hs => ?_) (fun hs => ?_)
    · subst hs
      have hcf : apCnt N f ≤ N * N := apCnt_le
      let St3 : Bool → (Nat → Nat → Bool) → World → Prop := fun more f' w' => Keeps No w w' ∧ Mx w' N bo bk f' ∧ (∀ i k, f i k = true → f' i k = true) ∧ ApInv svs f' ∧ (more = true → apCnt N f < apCnt N f') ∧ (more = false → f' = f)
      refine Loop.mk (fun (t : Bool × Int) w' => ∃ (i : Nat) (f' : Nat → Nat → Bool), i ≤ N ∧ t.2 = (i : Int) ∧ St3 t.1 f' w' ∧ (t.1 = false → ApClo svs f' i 0 0)) (fun t => N - t.2.toNat) ⟨0, f, by omega, rfl, ⟨k4, m4, fun _ _ h => h, hInv, (fun h => by cases h), fun _ => rfl⟩, fun _ i' k' b' _ _ _ h => by omega⟩ ?_
      rintro ⟨more, ii⟩ w5 ⟨i, f5, hi5, hii, hst5, hclo5⟩ R4 hR4
      dsimp only at hii hst5 hclo5 ⊢
      subst hii
      refine Br.mk (fun ht => ?_) (fun hf => ?_)
      · have ht : i < N := by have := of_decide_eq_true ht; omega
        have e4' : w64 ((i : Int) + 1) = ((i + 1 : Nat) : Int) := by rw [w64_eq (by omega)]; omega
        rw [e4']
        refine Loop.mk (fun (t : Bool × Int) w' => ∃ (k : Nat) (f' : Nat → Nat → Bool), k ≤ i ∧ t.2 = (k : Int) ∧ St3 t.1 f' w' ∧ (t.1 = false → ApClo svs f' i k 0)) (fun t => i - t.2.toNat) ⟨0, f5, by omega, rfl, hst5, hclo5⟩ ?_
        rintro ⟨more6, kk⟩ w6 ⟨k, f6, hk6, hkk, hst6, hclo6⟩ R5 hR5
        dsimp only at hkk hst6 hclo6 ⊢
        subst hkk
        refine Br.mk (fun htk => ?_) (fun hfk => ?_)
        · have htk : k < i := by have := of_decide_eq_true htk; omega
          have e5' : w64 ((k : Int) + 1) = ((k + 1 : Nat) : Int) := by rw [w64_eq (by omega)]; omega
          rw [e5']
          obtain ⟨k06, m6, hle6, hInv6, hlt6, heq6⟩ := hst6
          refine m6.get ht (by omega) ?_
          refine Br.mk (fun hap => ?_) (fun hap => ?_)
          · refine hR5 _ _ ⟨k + 1, f6, by omega, rfl, ⟨k06, m6, hle6, hInv6, hlt6, heq6⟩, fun hm i' k' b' h1 h2 h3 h4 h5 => ?_⟩ (by dsimp only; omega)
            by_cases e : i' = i ∧ k' = k
            · obtain ⟨rfl, rfl⟩ := e; exact hap
            · exact hclo6 hm i' k' b' h1 h2 h3 (by omega) h5
          · refine Loop.mk (fun (t : Bool × Int) w' => ∃ b : Nat, b ≤ 256 ∧ t.2 = (b : Int) ∧ t.1 = more6 ∧ w' = w6 ∧ (more6 = false → ApClo svs f6 i k b)) (fun t => 256 - t.2.toNat) ⟨0, by omega, rfl, rfl, rfl, hclo6⟩ ?_
            rintro ⟨more7, bb⟩ w7 ⟨b, hb7, hbb, rfl, rfl, hclo7⟩ R6 hR6
            dsimp only at hbb ⊢
            subst hbb
            refine Br.mk (fun htb => ?_) (fun hfb => ?_)
            · have htb : b < 256 := by have := of_decide_eq_true htb; omega
              have e6' : w64 ((b : Int) + 1) = ((b + 1 : Nat) : Int) := by rw [w64_eq (by omega)]; omega
              rw [u8_small htb, e6']
              have hd7 := hd.mono (V.keeps0 (M := No) k06)
              refine dfa_Next_spec hd7 htb (dfa_Next_spec hd7 htb ?_)
              have nx : ∀ n : Nat, (if (nextOf svs (n : Int) b).2 = true then (nextOf svs (n : Int) b).1 else (svs.length : Int)) = ((su svs n b : Nat) : Int) := fun n => by
                rw [A.next htb]
                unfold su
                cases nxt svs n b with
                | none => simp
                | some c => simp
              refine Join.cut (fun (x : Int) w' => w' = w7 ∧ x = ((su svs i b : Nat) : Int)) ?_ ?_
              · rintro x w' ⟨rfl, rfl⟩
                refine Join.cut (fun (y : Int) w'' => w'' = w' ∧ y = ((su svs k b : Nat) : Int)) ?_ ?_
                · rintro y w'' ⟨rfl, rfl⟩
                  have hs1 := su_le A (i := i) htb
                  have hs2 := su_le A (i := k) htb
                  refine m6.get (by omega) (by omega) ?_
                  refine Br.mk (fun hap2 => ?_) (fun hap2 => ?_)
                  · refine m6.put (v := true) ht (by omega) fun w8 k8 m8 => m8.put (v := true) (by omega) ht fun w9 k9 m9 => ?_
                    have hsnd : Apart svs i k := .step htb (hInv6.snd _ _ hs1 hs2 hap2)
                    have g1 : ∀ a c, f6 a c = true → (if a = k ∧ c = i then true else if a = i ∧ c = k then true else f6 a c) = true := fun a c h => by split; rfl; split; rfl; exact h
                    refine hR5 _ _ ⟨k + 1, _, by omega, rfl, ⟨(k06.then k8 fun b' hb' h => by have := hge i ht; omega).then k9 fun b' hb' h => by have := hge k (by omega); omega, m9, fun a c h => g1 a c (hle6 a c h), ⟨fun a c ha hc h => ?_, fun a c ha hc h => g1 a c (hInv6.acc a c ha hc h), fun a c ha hc => ?_⟩, fun _ => ?_, (fun h => by cases h)⟩, (fun h => by cases h)⟩ (by dsimp only; omega)
                    · by_cases e1 : a = k ∧ c = i
                      · rw [e1.1, e1.2]; exact apart_sym hsnd
                      · by_cases e2 : a = i ∧ c = k
                        · rw [e2.1, e2.2]; exact hsnd
                        · rw [if_neg e1, if_neg e2] at h
                          exact hInv6.snd a c ha hc h
                    · have := hInv6.sym a c ha hc
                      by_cases e1 : a = k ∧ c = i
                      · obtain ⟨rfl, rfl⟩ := e1; simp
                      · by_cases e2 : a = i ∧ c = k
                        · obtain ⟨rfl, rfl⟩ := e2; simp
                        · have e3 : ¬ (c = k ∧ a = i) := fun h => e2 ⟨h.2, h.1⟩
                          have e4 : ¬ (c = i ∧ a = k) := fun h => e1 ⟨h.2, h.1⟩
                          rw [if_neg e1, if_neg e2, if_neg e3, if_neg e4]; exact this
                    · exact Nat.lt_of_le_of_lt (apCnt_mono hle6) (apCnt_lt g1 ht (k := k) (by omega) hap (by simp))
                  · refine hR6 _ _ ⟨b + 1, by omega, rfl, rfl, rfl, fun hm i' k' b' h1 h2 h3 h4 h5 => ?_⟩ (by dsimp only; omega)
                    by_cases e : i' = i ∧ k' = k ∧ b' = b
                    · obtain ⟨rfl, rfl, rfl⟩ := e
                      rw [hap2] at h5; cases h5
                    · exact hclo7 hm i' k' b' h1 h2 h3 (by omega) h5
                · intro j hj
                  have hx := nx k
                  refine Br.mk (fun h => hj _ _ ⟨rfl, ?_⟩) (fun h => hj _ _ ⟨rfl, ?_⟩)
                  · rw [if_neg (by simpa using h)] at hx; exact hx
                  · rw [if_pos (by simpa using h)] at hx; exact hx
              · intro j hj
                have hx := nx i
                refine Br.mk (fun h => hj _ _ ⟨rfl, ?_⟩) (fun h => hj _ _ ⟨rfl, ?_⟩)
                · rw [if_neg (by simpa using h)] at hx; exact hx
                · rw [if_pos (by simpa using h)] at hx; exact hx
            · have hfb : b = 256 := by have := of_decide_eq_false hfb; omega
              subst hfb
              refine hR5 _ _ ⟨k + 1, f6, by omega, rfl, ⟨k06, m6, hle6, hInv6, hlt6, heq6⟩, fun hm i' k' b' h1 h2 h3 h4 h5 => ?_⟩ (by dsimp only; omega)
              exact hclo7 hm i' k' b' h1 h2 h3 (by omega) h5
        · have hfk : k = i := by have := of_decide_eq_false hfk; omega
          subst hfk
          refine hR4 _ _ ⟨k + 1, f6, by omega, rfl, hst6, fun hm i' k' b' h1 h2 h3 h4 h5 => ?_⟩ (by dsimp only; omega)
          exact hclo6 hm i' k' b' h1 h2 h3 (by omega) h5
      · have hf : i = N := by have := of_decide_eq_false hf; omega
        subst hf
        obtain ⟨k05, m5, hle5, hInv5, hlt5, heq5⟩ := hst5
        have hc5 : apCnt N f5 ≤ N * N := apCnt_le
        refine hR3 _ _ _ ?_ ⟨f5, k05, m5, hInv5, hclo5, rfl⟩
        cases more with
        | true => have := hlt5 rfl; simp; omega
        | false => rw [heq5 rfl]; simp
    · subst hs
      exact hK bo bk f w4 k4 m4 fun i k hi hk => hInv.all A (hclo rfl) hi hk
end Go.Fk
end

section
set_option linter.unusedVariables false
namespace Go.Fk
open Go Go.MapKept

/-! ## LeastStates -/

set_option maxRecDepth 20000 in
theorem LeastStates_spec {M : Nat → Prop} {w : World} {l : Sl} {ss : List ByteArray} {K : Bool → World → Prop} (hl : SlT .str (V M w) l ss) (hlen : ss.length ≤ 1048576) (hsz : ∀ s ∈ ss, s.size ≤ 1048576) (hK : ∀ w', Keeps No w w' → K true w') : frisketlaw08_LeastStates.C l w K := by
  refine frisketlaw08_LeastStates.ok _ _ _ ?_
  simp only [frisketlaw08_LeastStates.M]
  refine Join.cut (fun b w1 => Keeps No w w1 ∧ (b = false → (ss.length ≤ 6 ∧ ∀ s ∈ ss, s.size ≤ 40))) ?_ ?_
  case refine_2 =>
    intro j hj
    refine Great_spec hl hlen hsz fun n hn => ?_
    refine Br.mk (fun _ => hj _ _ ⟨.refl, fun e => by cases e⟩) (fun hf => ?_)
    exact awake8_spec fun w1 k1 => hj _ _ ⟨k1, fun _ => hn (of_decide_eq_false hf)⟩
  rintro b w1 ⟨k1, hb⟩
  refine Br.mk (fun _ => awake8_spec fun w2 k2 => hK w2 (k1.trans k2)) (fun hbf => ?_)
  obtain ⟨h6, h40⟩ := hb hbf
  refine Make_spec (hl.mono (V.keeps0 k1)) (fun s hs => by have := h40 s hs; unfold Small; omega) (by omega) (fun w2 k2 _ => ?_) fun d bb xs vs svs cl nc w2 k2 hm => ?_
  · exact hK w2 (k1.trans k2)
  have hsome : d.isNone = false := by have := hm.dv.some; simpa using this
  dsimp only
  rw [hsome]
  have hrl : (rulesF ss).length ≤ ss.length := by unfold rulesF; exact List.length_filterMap_le _ _
  have A := Aut.of hm.ok (by omega)
  have hd2 : DfaO (V No w2) d svs cl nc := .inr hm.dv
  refine Join.cut (fun (s2 : Bool) w' => w' = w2) ?_ (fun j hj => by rw [Br_false]; exact dfa_States_spec hd2 (hj _ _ rfl))
  rintro s2 w' rfl
  refine Br.mk (fun _ => hK w' (k1.trans k2)) (fun _ => ?_)
  refine least_New_spec hd2 hsome A fun p lv kd fs ms of_ w4 k4 hlv L => ?_
  have kw4 := (k1.trans k2).trans k4
  have hlo4 : LeastO (V No w4) p svs.length ms of_ := .inr hlv
  have hd4 : DfaO (V No w4) d svs cl nc := hd2.mono (V.keeps0 k4)
  have hfl := L.fsok.le
  have hlenm := L.len
  dsimp only
  refine Join.cut (fun (s3 : Bool) w' => w' = w4 ∧ s3 = false) ?_ ?_
  case refine_2 =>
    intro j hj
    rw [hlv.some, Br_false, bne_self_eq_false, Br_false]
    refine least_States_spec hlo4 (dfa_States_spec hd4 (hj _ _ ⟨rfl, decide_eq_false (by omega)⟩))
  rintro s3 w' ⟨rfl, rfl⟩
  rw [Br_false]
  refine alike_spec hd4 A fun bo bk f w7 k7 mx hap => ?_
  have hd7 := hd4.mono (V.keeps0 (M := No) k7)
  have hlo7 := hlo4.mono (V.keeps0 (M := No) k7)
  have kw7 := kw4.trans k7
  refine dfa_States_spec hd7 ?_
  have fa : ∀ i, i < svs.length → (f i svs.length = true ↔ Alive svs i) := fun i hi => by
    rw [hap i _ (by omega) (Nat.le_refl _)]
    constructor
    · intro h
      exact Classical.byContradiction fun hn => L.apart_not A h (.inr ⟨hn, no_alive A⟩)
    · intro h; exact alive_apart A h (no_alive A)
  have fb : ∀ i, i < svs.length → ¬ Alive svs i → f i svs.length = false := fun i hi h => by
    cases hh : f i svs.length with
    | false => rfl
    | true => exact absurd ((fa i hi).1 hh) h
  refine Loop.mk (fun (s : Int) w' => w' = w7 ∧ ∃ i : Nat, i ≤ svs.length ∧ s = (i : Int)) (fun s => svs.length - s.toNat) ⟨rfl, 0, by omega, rfl⟩ ?_
  rintro s w8 ⟨rfl, i, hi, rfl⟩ R hR
  refine Br.mk (fun ht => ?_) (fun _ => hK w8 kw7)
  have ht : i < svs.length := by have := of_decide_eq_true ht; omega
  have hfew := A.few
  have e4 : w64 ((i : Int) + 1) = ((i + 1 : Nat) : Int) := by rw [w64_eq (by omega)]; omega
  rw [e4]
  have hnext : R ((i + 1 : Nat) : Int) w8 := hR _ _ ⟨rfl, i + 1, by omega, rfl⟩ (by omega)
  refine least_Of_spec hlo7 ?_
  have hof := L.ofSpec A hm.ok ht
  refine Join.cut (fun (s6 : Bool) w' => w' = w8 ∧ s6 = false) ?_ ?_
  case refine_2 =>
    intro j hj
    by_cases h0 : i = 0
    · rcases hof with ⟨_, x, h1, _⟩ | ⟨h1, _⟩
      · rw [h1]
        subst h0
        simp only [Int.natCast_zero, beq_self_eq_true, Bool.not_true, Br_true, Br_false]
        exact hj _ _ ⟨rfl, rfl⟩
      · exact absurd (.inr h0) h1
    · have e0 : (((i : Nat) : Int) == 0) = false := by rw [beq_eq_false_iff_ne]; omega
      rw [e0, Br_false]
      refine mx.get (by omega) (by omega) ?_
      rcases hof with ⟨h1, x, h2, _⟩ | ⟨h1, h2⟩
      · rw [h2, (fa i ht).2 (h1.resolve_right h0)]
        simp only [beq_self_eq_true, Bool.not_true, Br_false]
        exact hj _ _ ⟨rfl, rfl⟩
      · rw [h2, fb i ht (fun h => h1 (.inl h))]
        simp only [beq_self_eq_true, Bool.not_true, Bool.not_false, Br_false, Br_true, bne_self_eq_false]
        exact hj _ _ ⟨rfl, rfl⟩
  rintro s6 w' ⟨rfl, rfl⟩
  rw [Br_false]
  refine Loop.mk (fun (s : Int) w'' => w'' = w' ∧ ∃ k : Nat, k ≤ i ∧ s = (k : Int)) (fun s => i - s.toNat) ⟨rfl, 0, by omega, rfl⟩ ?_
  rintro s w9 ⟨rfl, k, hk, rfl⟩ R2 hR2
  refine Join.cut (fun (s9 : Bool) w'' => w'' = w9 ∧ (s9 = true → k < i ∧ (mOf svs.length of_ (i : Int)).2 = true)) ?_ ?_
  case refine_2 =>
    intro j hj
    refine Br.mk (fun hlt => hj _ _ ⟨rfl, fun h => ⟨?_, h⟩⟩) (fun _ => hj _ _ ⟨rfl, fun h => by cases h⟩)
    have := of_decide_eq_true hlt
    omega
  rintro s9 w10 ⟨rfl, h9⟩
  refine Br.mk (fun h9t => ?_) (fun _ => ?_)
  · obtain ⟨hki, hok⟩ := h9 h9t
    have hkN : k < svs.length := by omega
    have e5 : w64 ((k : Int) + 1) = ((k + 1 : Nat) : Int) := by rw [w64_eq (by omega)]; omega
    rw [e5]
    refine least_Of_spec hlo7 ?_
    refine Join.cut (fun (s10 : Bool) w'' => w'' = w10 ∧ s10 = false) ?_ ?_
    · rintro s10 w11 ⟨rfl, rfl⟩
      rw [Br_false]
      exact hR2 _ _ ⟨rfl, k + 1, by omega, rfl⟩ (by omega)
    · intro j hj
      rcases hof with ⟨h1, x, h2, h3⟩ | ⟨h1, h2⟩
      · rcases L.ofSpec A hm.ok hkN with ⟨g1, y, g2, g3⟩ | ⟨g1, g2⟩
        · rw [h2, g2]
          simp only [Br_true]
          refine mx.get (by omega) (by omega) (Br.mk (fun ak => mx.get (by omega) (by omega) (Br.mk (fun ai => mx.get (by omega) (by omega) ?_) (fun _ => hj _ _ ⟨rfl, rfl⟩))) (fun _ => hj _ _ ⟨rfl, rfl⟩))
          refine hj _ _ ⟨rfl, ?_⟩
          have ha := L.apart_kd A ht hkN ((fa i ht).1 ai) ((fa k hkN).1 ak)
          have hone := Rel.one L h3 g3
          have hfik := hap i k (by omega) (by omega)
          rw [beq_eq_false_iff_ne]
          intro e
          by_cases hxy : x = y
          · have h4 : f i k = true := by rw [← e]; simp [hxy]
            exact (ha.1 (hfik.1 h4)) (hone.1 hxy)
          · have h4 : f i k = true := hfik.2 (ha.2 fun h => hxy (hone.2 h))
            rw [h4] at e
            exact hxy (by simpa using e)
        · rw [g2]
          rw [Br_false]
          exact hj _ _ ⟨rfl, rfl⟩
      · rw [h2] at hok; cases hok
  · rcases hof with ⟨h1, x, h2, h3⟩ | ⟨h1, h2⟩
    · rw [h2]
      simp only [Bool.not_true, Br_false]
      refine least_Accept_spec hlo7 (dfa_Accept_spec hd7 ?_)
      have e : (mAcc ms x != accOf svs (i : Int)) = false := by rw [L.acc A h3]; simp [ac]
      rw [e, Br_false]
      refine Loop.mk (fun (s : Int) w'' => w'' = w10 ∧ ∃ b : Nat, b ≤ 256 ∧ s = (b : Int)) (fun s => 256 - s.toNat) ⟨rfl, 0, by omega, rfl⟩ ?_
      rintro s w11 ⟨rfl, b, hb, rfl⟩ R3 hR3
      refine Br.mk (fun htb => ?_) (fun _ => hnext)
      have htb : b < 256 := by have := of_decide_eq_true htb; omega
      have e5 : w64 ((b : Int) + 1) = ((b + 1 : Nat) : Int) := by rw [w64_eq (by omega)]; omega
      rw [u8_small htb, e5]
      have hgo : R3 ((b + 1 : Nat) : Int) w11 := hR3 _ _ ⟨rfl, b + 1, by omega, rfl⟩ (by omega)
      refine dfa_Next_spec hd7 htb (least_Next_spec hlo7 htb ?_)
      rw [A.next htb]
      rcases L.next A h3 htb with ⟨k', y, g1, g2, g3, g4⟩ | ⟨g1, g2⟩
      · have hk'N := (A.nxt_lt htb g1).1
        have hal := (L.alive k' hk'N).1 g2
        rw [g1, g3]
        simp only [Join, Br_true]
        refine mx.get (by omega) (by omega) ?_
        rw [(fa k' hk'N).2 hal]
        simp only [beq_self_eq_true, Bool.not_true, Br_false]
        refine least_Of_spec hlo7 ?_
        rcases L.ofSpec A hm.ok hk'N with ⟨_, y', q2, q3⟩ | ⟨q1, _⟩
        · rw [q2, (Rel.one L g4 q3).2 rfl]
          simp only [bne_self_eq_false, Br_false]
          exact hgo
        · exact absurd (.inl hal) q1
      · rw [g1]
        cases hx : nxt svs i b with
        | none =>
          simp only [Join, beq_self_eq_true, Bool.not_true, Br_false]
          exact hgo
        | some k' =>
          have hk'N := (A.nxt_lt htb hx).1
          simp only [Join, Br_true]
          refine mx.get (by omega) (by omega) ?_
          rw [fb k' hk'N (L.dead hk'N (g2 k' hx))]
          simp only [beq_self_eq_true, Bool.not_true, Br_false]
          exact hgo
    · rw [h2]
      simp only [Bool.not_false, Br_true]
      exact hnext
end Go.Fk
end
