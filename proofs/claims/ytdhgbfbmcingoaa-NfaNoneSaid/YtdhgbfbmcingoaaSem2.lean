/-
  A part of the proof: what the functions of the program come to, read off the model: no premise of its own, no axiom. By an AI agent.
-/
import Derived.Test.YtdhgbfbmcingoaaSem
set_option linter.all false
set_option linter.unusedSimpArgs false
set_option linter.unusedVariables false
namespace Go.Fk
open Go

variable {P : Program}

theorem good_v {s : Sem Value} {w w' : World} {v : Value} {k : Value → World → Prop} (h : s.run P w = .ok v w') (hk : k v w') :
    Good P k ((do pure (Next.value (← s)) : Sem Next).run P w) := by
  simp only [Sem.run_bind, h, Result.andThen_ok, Sem.run_pure, Good]; exact hk

theorem good_u {s : Sem Unit} {w w' : World} {k : Value → World → Prop} (h : s.run P w = .ok () w') (hk : k undef w') :
    Good P k ((do s; pure Next.skip : Sem Next).run P w) := by
  simp only [Sem.run_bind, h, Result.andThen_ok, Sem.run_pure, Good]; exact hk

theorem good_app {s : Sem Value} {rt : RTy} {w : World} {k : Value → World → Prop} (h : App P s rt w fun r w' => k (rt.enc r) w') :
    Good P k ((do pure (Next.value (← s)) : Sem Next).run P w) := by
  obtain ⟨r, w', h1, h2⟩ := h; exact good_v h1 h2

theorem good_app0 {s : Sem Unit} {w : World} {k : Value → World → Prop} (h : App0 P s w fun w' => k undef w') :
    Good P k ((do s; pure Next.skip : Sem Next).run P w) := by
  obtain ⟨w', h1, h2⟩ := h; exact good_u h1 h2

theorem run_underlying' {t : TypeId} {d : TypeDesc} (w : World) (h : P.underlying t = some d) : (underlying t).run P w = .ok d w := by
  simp only [underlying, Sem.run_bind, run_program, Result.andThen_ok, h, Sem.run_pure]
theorem run_typeInfo' {t : TypeId} {d : TypeInfo} (w : World) (h : P.info? t = some d) : (typeInfo t).run P w = .ok d w := by
  simp only [typeInfo, Sem.run_bind, run_program, Result.andThen_ok, h, Sem.run_pure]
theorem run_sizeOf' {t : TypeId} {d : TypeInfo} (w : World) (h : P.info? t = some d) : (sizeOf t).run P w = .ok d.size w := by
  simp only [sizeOf, Sem.run_bind, run_typeInfo' w h, Result.andThen_ok, Sem.run_pure]
theorem run_isAgg' {t : TypeId} {d : TypeDesc} (w : World) (h : P.underlying t = some d) : (isAgg t).run P w = .ok (isAggD d) w := by
  simp only [isAgg, Sem.run_bind, run_underlying' w h, Result.andThen_ok]
  cases d <;> rfl

theorem ldCells_ok {a : Addr} {w : World} {k : List Value → Prop} : ∀ (ts : List Ty) (i : Nat) (acc : List Value), LdCells a w k ts i acc →
    ∃ vs : List Value, vs.length = ts.length ∧ (∀ j v, vs[j]? = some v → w.cell? (a.add (i + j)) = some v) ∧ k (acc.reverse ++ vs)
  | [], i, acc, h => ⟨[], rfl, by simp, by simpa [LdCells] using h⟩
  | t :: ts, i, acc, ⟨x, h1, h2⟩ => by
    obtain ⟨vs, e1, e2, e3⟩ := ldCells_ok ts (i + 1) _ h2
    refine ⟨t.enc x :: vs, by simp [e1], fun j v hj => ?_, by simpa using e3⟩
    cases j with
    | zero => simp at hj; subst hj; simpa using h1
    | succ j => simp at hj; have := e2 j v hj; rwa [show i + 1 + j = i + (j + 1) from by omega] at this

theorem sLoad_ok {t : TypeId} {x : Value} {h : RTy} {k : Value → Prop} {w : World} (H : sLoad P t x h k w) : ∃ v, (Instr.loadAt t x).run P w = .ok v w ∧ k v := by
  unfold sLoad at H
  split at H <;> try exact H.elim
  rename_i a
  split at H <;> try exact H.elim
  rename_i u i hu hi
  have key : (Instr.loadAt t (.pointer (some a))).run P w = (if isAggD u then (loadCells a i.size >>= fun cs => pure (Value.agg cs)) else load a).run P w := by
    simp only [Instr.loadAt, Instr.sureAddr, Sem.run_bind, Sem.run_pure, Result.andThen_ok, loadVar, run_isAgg' w hu]
    cases isAggD u <;> simp [run_sizeOf' w hi]
  rw [key]
  split at H <;> try exact H.elim
  · rename_i ty hd
    obtain ⟨x, h1, h2⟩ := H
    exact ⟨_, by simp [hd, h1], h2⟩
  · rename_i ts hd
    split at H <;> try exact H.elim
    rename_i hl
    obtain ⟨vs, e1, e2, e3⟩ := ldCells_ok _ _ _ H
    have hl' : vs.length = i.size := by rw [e1]; exact Nat.eq_of_beq_eq_true hl
    have := run_loadCells_list (P := P) w a vs (fun j v hj => by simpa using e2 j v hj)
    rw [hl'] at this
    exact ⟨.agg vs.toArray, by simp [hd, this], by simpa using e3⟩
  · rename_i hd
    obtain ⟨cs, ⟨h1, h2⟩, h3⟩ := H
    have := run_loadCells_list (P := P) w a cs.toList (fun j v hj => h2 j v (by simpa using hj))
    simp only [Array.length_toList, h1] at this
    exact ⟨.agg cs, by simp [hd, this], by simpa using h3⟩

theorem stCells_ok {a : Addr} {k : World → Prop} : ∀ (vs : List Value) (i : Nat) (w : World), StCells a k vs i w → ∃ w', (storeCells a vs i).run P w = .ok () w' ∧ k w'
  | [], i, w, h => ⟨w, rfl, h⟩
  | v :: vs, i, w, h => by
    unfold StCells at h
    split at h <;> try exact h.elim
    rename_i h1
    obtain ⟨⟨hc, hf⟩, h2⟩ := h
    obtain ⟨w', e1, e2⟩ := stCells_ok vs (i + 1) _ h2
    obtain ⟨u, hu⟩ := Option.isSome_iff_exists.1 hc
    refine ⟨w', ?_, e2⟩
    have h1' : v.oneCell' = true := by cases v <;> simp_all [oneCell, Value.oneCell']
    simp only [storeCells, Sem.run_bind, run_store P w _ v _ h1', hu, hf, Result.andThen_ok]
    simpa using e1

theorem cellsL_eq (v : Value) : cellsL v = v.cells.toList := by cases v <;> rfl

theorem sStore_ok {t : TypeId} {x v : Value} {h : RTy} {k : World → Prop} {w : World} (H : sStore P t x v h k w) : ∃ w', (Instr.storeAt t x v).run P w = .ok () w' ∧ k w' := by
  unfold sStore at H
  split at H <;> try exact H.elim
  split at H <;> try exact H.elim
  rename_i a i hi
  split at H
  · split at H <;> try exact H.elim
    obtain ⟨w', h1, h2⟩ := H
    exact ⟨w', by simpa [Instr.storeAt, Instr.sureAddr] using h1, h2⟩
  · split at H <;> try exact H.elim
    rename_i hl
    obtain ⟨w', e1, e2⟩ := stCells_ok (P := P) _ _ _ H
    refine ⟨w', ?_, e2⟩
    have hl' : v.cells.size = i.size := by have := Nat.eq_of_beq_eq_true hl; rw [cellsL_eq] at this; simpa using this
    simp only [Instr.storeAt, Instr.sureAddr, Sem.run_bind, Sem.run_pure, Result.andThen_ok, storeVar, run_sizeOf' w hi, hl']
    rw [cellsL_eq] at e1
    simpa using e1

theorem run_eqGuard_int {op : BinOp} {t : TypeId} {x y : Operand} {a b : Value} (w : World) (h : ∀ c, a ≠ .agg c) (h' : a ≠ .nilIface) :
    (eqGuard op t x y a b).run P w = .ok () w := by
  unfold eqGuard
  cases op <;> simp <;> cases a <;> simp_all


theorem equalIn_bool {t : TypeId} (d : Nat) (w : World) (hu : P.underlying t = some .bool) (a b : Bool) : (Op.equalIn (d + 1) t (.bool a) (.bool b)).run P w = .ok (a == b) w := by
  simp [Op.equalIn, run_underlying' w hu]
theorem equalIn_ptr {t e : TypeId} (d : Nat) (w : World) (hu : P.underlying t = some (.pointer e)) (a : Option Addr) : (Op.equalIn (d + 1) t (.pointer a) (.pointer none)).run P w = .ok a.isNone w := by
  cases a <;> simp [Op.equalIn, run_underlying' w hu]
theorem equalIn_sl {t e : TypeId} (d : Nat) (w : World) (hu : P.underlying t = some (.slice e)) (a : Option Addr) (n c n' c' : Nat) : (Op.equalIn (d + 1) t (.slice a n c) (.slice none n' c')).run P w = .ok a.isNone w := by
  cases a <;> simp [Op.equalIn, run_underlying' w hu]
theorem equalIn_map {t e k : TypeId} (d : Nat) (w : World) (hu : P.underlying t = some (.map k e)) (a : Option Nat) : (Op.equalIn (d + 1) t (.map a) (.map none)).run P w = .ok a.isNone w := by
  cases a <;> simp [Op.equalIn, run_underlying' w hu]
theorem run_eql {t : TypeId} {x y : Value} {b : Bool} {w : World} (h : (Op.equalIn (9999 + 1) t x y).run P w = .ok b w) :
    (do pure (.bool (← Op.equal t x y)) : Sem Value).run P w = .ok (.bool b) w := by
  rw [Sem.run_bind, show Op.equal t x y = Op.equalIn (9999 + 1) t x y from rfl, h]; rfl
theorem run_neq {t : TypeId} {x y : Value} {b : Bool} {w : World} (h : (Op.equalIn (9999 + 1) t x y).run P w = .ok b w) :
    (do pure (.bool (!(← Op.equal t x y))) : Sem Value).run P w = .ok (.bool (!b)) w := by
  rw [Sem.run_bind, show Op.equal t x y = Op.equalIn (9999 + 1) t x y from rfl, h]; rfl

theorem sBin_pure {op : BinOp} {t : TypeId} {x y : Value} {ox oy : Operand} {yn : Bool} (hyn : yn = true → y = .pointer none ∨ (∃ l c, y = .slice none l c) ∨ y = .map none)
    {k : Value → Prop} {alt : Prop}
    (H : sBin P op t x y yn k alt) : (∃ v, (∀ w, (do eqGuard op t ox oy x y; binOp op t x y : Sem Value).run P w = .ok v w) ∧ k v) ∨ alt := by
  have fin : ∀ v, (∀ c, x ≠ .agg c) → x ≠ .nilIface → (∀ w, (binOp op t x y).run P w = .ok v w) → k v → (∃ v, (∀ w, (do eqGuard op t ox oy x y; binOp op t x y : Sem Value).run P w = .ok v w) ∧ k v) ∨ alt :=
    fun v h1 h2 h3 h4 => .inl ⟨v, fun w => by rw [Sem.run_bind, run_eqGuard_int w h1 h2, Result.andThen_ok, h3], h4⟩
  unfold sBin at H
  split at H
  · rename_i κ a κ' b
    split at H
    · obtain ⟨h1, h2⟩ := H
      exact fin _ (by simp) (by simp) (fun w => by simp only [binOp, Op.shift]; rw [if_neg (by omega)]; rfl) h2
    · obtain ⟨h1, h2⟩ := H
      exact fin _ (by simp) (by simp) (fun w => by simp only [binOp, Op.shift]; rw [if_neg (by omega)]; rfl) h2
    · rename_i n1 n2
      split at H <;> try exact H.elim
      rename_i hk; subst hk
      split at H
      all_goals first
        | exact .inr H
        | (obtain ⟨h1, h2⟩ := H; refine fin _ (by simp) (by simp) (fun w => ?_) h2; simp [binOp, Op.intDiv, h1]; done)
        | (refine fin _ (by simp) (by simp) (fun w => ?_) H; simp [binOp, Op.intArith, Op.intCmp]; done)
        | (refine fin _ (by simp) (by simp) (fun w => ?_) H; simp [binOp, Op.intBits, bAnd, bOr, bXor, bAndNot]; done)
  · split at H
    · exact fin _ (by simp) (by simp) (fun w => by simp [binOp, Op.stringOp]) H
    · exact fin _ (by simp) (by simp) (fun w => by simp [binOp, Op.stringOp]) H
    · obtain ⟨h1, h2⟩ := H
      exact fin _ (by simp) (by simp) (fun w => by simp only [binOp, Op.stringOp]; rw [if_neg (by omega)]; rfl) h2
    · exact .inr H
  · split at H <;> try exact H.elim
    · rename_i hu
      exact fin _ (by simp) (by simp) (fun w => run_eql (equalIn_bool _ w hu _ _)) H
    · rename_i hu
      exact fin _ (by simp) (by simp) (fun w => run_neq (equalIn_bool _ w hu _ _)) H
  · rename_i a b
    split at H
    · obtain rfl : b = none := by rcases hyn rfl with h | ⟨_, _, h⟩ | h <;> simp_all
      split at H <;> try exact H.elim
      · rename_i hu
        exact fin _ (by simp) (by simp) (fun w => run_eql (equalIn_ptr _ w hu _)) H
      · rename_i hu
        exact fin _ (by simp) (by simp) (fun w => run_neq (equalIn_ptr _ w hu _)) H
    · exact .inr H
  · rename_i a _ _ b _ _
    split at H
    · obtain rfl : b = none := by rcases hyn rfl with h | ⟨_, _, h⟩ | h <;> simp_all
      split at H <;> try exact H.elim
      · rename_i hu
        exact fin _ (by simp) (by simp) (fun w => run_eql (equalIn_sl _ w hu _ _ _ _ _)) H
      · rename_i hu
        exact fin _ (by simp) (by simp) (fun w => run_neq (equalIn_sl _ w hu _ _ _ _ _)) H
    · exact .inr H
  · rename_i a b
    split at H
    · obtain rfl : b = none := by rcases hyn rfl with h | ⟨_, _, h⟩ | h <;> simp_all
      split at H <;> try exact H.elim
      · rename_i hu
        exact fin _ (by simp) (by simp) (fun w => run_eql (equalIn_map _ w hu _)) H
      · rename_i hu
        exact fin _ (by simp) (by simp) (fun w => run_neq (equalIn_map _ w hu _)) H
    · exact .inr H
  · exact .inr H

theorem isNilC_spec {n : Operand → Value} {y : Operand} (hn : isNilC y = true) (hr : ∀ v, y = .const v → n y = v) : n y = .pointer none ∨ (∃ l c, n y = .slice none l c) ∨ n y = .map none := by
  unfold isNilC at hn
  split at hn
  · exact .inl (hr _ rfl)
  · exact .inr (.inl ⟨_, _, hr _ rfl⟩)
  · exact .inr (.inr (hr _ rfl))
  · cases hn

end Go.Fk
