/-
  A part of the proof: what the functions of the program come to, read off the model: no premise of its own, no axiom. By an AI agent.
-/
import Derived.Test.YtdhgbfbmcingoaaSem2
set_option linter.all false
set_option linter.unusedSimpArgs false
set_option linter.unusedVariables false
namespace Go.Fk
open Go

theorem execOp_rho {n : Nat} {e : Env} {a : Act} (h : Ag n e a) {o : Oper} (hk : known e o.op = true) (hs : ∀ cs b, o.op ≠ .select cs b) :
    execOp a.eval o = execOp (rho e) o :=
  execOp_congr o hs fun x hx => rho_sound h (by
    simp only [known, List.all_eq_true] at hk
    exact hk x (by simpa using hx))

theorem run_callFunc {P : Program} {F : Nat} (w : World) (args : Array Value) (h : enters P F = true) :
    (callFunc F args).run P w = .ok (.enter F args) w := by
  unfold enters at h
  split at h <;> try (cases h; done)
  rename_i fn hf
  split at h <;> try (cases h; done)
  rename_i c hb
  have hn : (fn.name == "runtime.NumGoroutine") = false := by simpa using h
  simp only [callFunc, Sem.run_bind, run_program, Result.andThen_ok, hf, hn, hb]
  simp

variable {P : Program}

theorem run_indexAt_sl {t el : TypeId} {inf : TypeInfo} (w : World) (a : Option Addr) (n c : Nat) (κ : IntKind) (j : Int) (hu : P.underlying t = some (.slice el)) (hi : P.info? el = some inf)
    {p : Addr} (ha : a = some p) (hb : 0 ≤ j ∧ j < n) : (Instr.indexAt t (.slice a n c) (.int κ j)).run P w = .ok (.pointer (some (p.add (j.toNat * inf.size)))) w := by
  subst ha
  simp [Instr.indexAt, asIntOf, run_underlying' w hu, hb, run_sizeOf' w hi]

theorem run_indexAt_arr {t el : TypeId} {inf : TypeInfo} (w : World) (p : Addr) (n : Nat) (κ : IntKind) (j : Int) (hu : P.underlying t = some (.array n el)) (hi : P.info? el = some inf)
    (hb : 0 ≤ j ∧ j < n) : (Instr.indexAt t (.pointer (some p)) (.int κ j)).run P w = .ok (.pointer (some (p.add (j.toNat * inf.size)))) w := by
  simp [Instr.indexAt, Instr.sureAddr, asIntOf, run_underlying' w hu, hb, run_sizeOf' w hi]

theorem run_index_str {t : TypeId} (w : World) (s : ByteArray) (κ : IntKind) (j : Int) (b : UInt8) (hu : P.underlying t = some .string) (h0 : 0 ≤ j) (hb : s[j.toNat]? = some b) :
    (Instr.index t (.string s) (.int κ j)).run P w = .ok (.int .u8 b.toNat) w := by
  simp [Instr.index, asIntOf, run_underlying' w hu, h0, hb]

theorem run_index_arr {t el : TypeId} {inf : TypeInfo} {u : TypeDesc} (w : World) (cs : Array Value) (n : Nat) (κ : IntKind) (j : Int) (v : Value) (hu : P.underlying t = some (.array n el)) (hel : P.underlying el = some u) (ha : isAggD u = false)
    (hi : P.info? el = some inf) (h1 : inf.size = 1) (h0 : 0 ≤ j ∧ j < n) (hb : cs[j.toNat]? = some v) :
    (Instr.index t (.agg cs) (.int κ j)).run P w = .ok v w := by
  simp [Instr.index, asIntOf, run_underlying' w hu, h0, part, run_isAgg' w hel, ha, run_sizeOf' w hi, h1, hb]

theorem run_nextv {s : Sem Value} {kt vt : Ty} {w : World} {k : Value → World → Prop}
    (h : Nxt P s kt vt w (fun w' => k (.tuple #[.bool false]) w') fun x y w' => k (.tuple #[.bool true, kt.enc x, vt.enc y]) w') :
    Good P k ((do pure (Next.value (← s)) : Sem Next).run P w) := by
  obtain ⟨w', ⟨h1, h2⟩ | ⟨x, y, h1, h2⟩⟩ := h
  · exact good_v h1 h2
  · exact good_v h1 h2

theorem semOp_ok {H : List (Nat × RTy)} {g : List (Nat × Bool)} {o : Oper} {e : Env} {k : Value → World → Prop} {w : World} (h : semOp P H g o e k w) :
    known e o.op = true ∧ (∀ cs b, o.op ≠ .select cs b) ∧ Good P k ((execOp (rho e) o).run P w) := by
  unfold semOp at h
  split at h
  · exact h.elim
  rename_i hk
  have sel : ∀ op, o.op = op → (∀ cs b, op ≠ .select cs b) → ∀ cs b, o.op ≠ .select cs b := fun op h1 h2 => h1 ▸ h2
  split at h
  all_goals try exact h.elim
  all_goals (rename_i hop; try refine ⟨hk, sel _ hop (by simp), ?_⟩)
  case h_1 => simp only [execOp, hop, Good, Sem.run_pure]; exact h
  case h_2 => simp only [execOp, hop, Good, Sem.run_pure]; exact h
  case h_3 c x y =>
    simp only [execOp, hop]
    split at h
    · rename_i b hb
      split at h <;> try exact h.elim
      rename_i yb hy
      split at h <;> try exact h.elim
      · simpa [hy, asBool, Good] using h
      · simpa [hy, asBool, Good] using h
    · split at h <;> try exact h.elim
      rename_i b p q h1 h2 h3
      simp only [h1, h2, h3, asBool, Sem.run_bind, Sem.run_pure, Result.andThen_ok, Good]
      cases b <;> simpa using h
  case h_4 t a =>
    simp only [execOp, hop]
    obtain ⟨v, h1, h2⟩ := sLoad_ok h
    exact good_v h1 h2
  case h_5 t a x =>
    simp only [execOp, hop]
    obtain ⟨v, h1, h2⟩ := sStore_ok h
    exact good_u h1 h2
  case h_6 x =>
    simp only [execOp, hop]
    split at h <;> try exact h.elim
    rename_i p hp
    obtain ⟨a, rfl, h2⟩ := h.out
    simp only [hp, Sem.run_pure, Good]; exact h2
  case h_7 op t x y yt =>
    simp only [execOp, hop]
    rcases sBin_pure (P := P) (ox := x) (oy := y) (fun hn => isNilC_spec (n := rho e) hn (fun v hv => by subst hv; rfl)) h with ⟨v, h1, h2⟩ | ⟨r, w', h1, h2⟩
    · exact good_v (h1 w) h2
    · exact good_v h1 h2
  case h_8 t x i =>
    simp only [execOp, hop]
    split at h <;> try exact h.elim
    · rename_i a n c κ j el hx hi hu
      split at h <;> try exact h.elim
      rename_i inf hinf
      obtain ⟨p, h1, h2, h3⟩ := h
      exact good_v (by rw [hx, hi]; exact run_indexAt_sl w _ _ _ _ _ hu hinf h1 h2) h3
    · rename_i p κ j n el hx hi hu
      split at h <;> try exact h.elim
      rename_i inf hinf
      obtain ⟨h2, h3⟩ := h
      exact good_v (by rw [hx, hi]; exact run_indexAt_arr w _ _ _ _ hu hinf h2) h3
  case h_9 t x i =>
    simp only [execOp, hop]
    split at h <;> try exact h.elim
    · rename_i s κ j hx hi hu
      obtain ⟨h0, b, h1, h2⟩ := h
      exact good_v (by rw [hx, hi]; exact run_index_str w _ _ _ _ hu h0 h1) h2
    · rename_i cs κ j n el hx hi hu
      split at h <;> try exact h.elim
      rename_i u inf ty hel hinf hh
      split at h <;> try exact h.elim
      rename_i hag hsz
      obtain ⟨h0, v, h1, h2⟩ := h
      exact good_v (by rw [hx, hi]; exact run_index_arr w _ _ _ _ _ hu hel hag hinf (Nat.eq_of_beq_eq_true hsz) h0 h1) h2
  case h_10 it _ =>
    simp only [execOp, hop]
    split at h <;> try exact h.elim
    exact run_nextv h
  case h_11 F args ats =>
    simp only [execOp, hop]
    split at h <;> try exact h.elim
    rename_i hF
    have : (do let d ← resolve (rho e) { callee := .value (.func F), args := args, argTypes := ats } o.type; invoke d.target d.args : Sem Next).run P w =
        .ok (.enter F (args.toList.map (rho e)).toArray) w := by
      simp only [resolve, rho, ev, Deferred.ofValue, Sem.run_bind, Sem.run_pure, Result.andThen_ok, invoke]
      rw [run_callFunc w _ hF]
      congr 2
      apply Array.ext'
      simp [rho]
    rw [this]
    simp only [Good]
    exact h.mono fun e w'' ⟨r, h1, h2⟩ => ⟨_, h1, h2⟩
  case h_12 f args ats _ =>
    simp only [execOp, hop]
    obtain ⟨F, first, cap, hf, hF, h⟩ := h
    have : (do let d ← resolve (rho e) { callee := .value f, args := args, argTypes := ats } o.type; invoke d.target d.args : Sem Next).run P w =
        .ok (.enter F ((first.toList ++ args.toList.map (rho e)) ++ cap.toList).toArray) w := by
      simp only [resolve, hf, Deferred.ofValue, Sem.run_bind, Sem.run_pure, Result.andThen_ok, invoke]
      rw [run_callFunc w _ hF]
      congr 2
      apply Array.ext'
      simp
    rw [this]
    simp only [Good]
    exact h.mono fun e w'' ⟨r, h1, h2⟩ => ⟨_, h1, h2⟩
  case h_13 t ps =>
    simp only [execOp, hop]
    split at h
    · exact good_app h
    · unfold Run at h; simpa only [execOp, hop] using h
  case h_14 t n ps =>
    simp only [execOp, hop]
    split at h
    · exact good_app h
    · unfold Run at h; simpa only [execOp, hop] using h
  case h_15 t x f =>
    simp only [execOp, hop]
    split at h
    · unfold Run at h; simpa only [execOp, hop] using h
    · exact good_app h
  case h_16 =>
    simp only [execOp, hop]
    simp only [resolve, Sem.run_bind, Sem.run_pure, Result.andThen_ok, invoke, builtin]
    simpa only [Sem.run_bind, Sem.run_pure] using good_app h
  case h_17 =>
    simp only [execOp, hop]
    simp only [resolve, Sem.run_bind, Sem.run_pure, Result.andThen_ok, invoke, builtin]
    simpa only [Sem.run_bind, Sem.run_pure] using good_app h
  case h_18 => simp only [execOp, hop]; exact good_app h
  case h_19 => simp only [execOp, hop]; exact good_app h
  case h_20 => simp only [execOp, hop]; exact good_app h
  case h_21 => simp only [execOp, hop]; exact good_app h
  case h_22 => simp only [execOp, hop]; exact good_app h
  case h_23 => simp only [execOp, hop]; exact good_app0 h
  case h_24 => simp only [execOp, hop]; exact good_app0 h
  case h_25 s d x =>
    split at h
    · exact h
    · simp only [execOp, hop]; exact good_app h
  case h_26 args ats =>
    split at h <;> try exact h.elim
    split at h
    · simp only [execOp, hop]
      simp only [resolve, Sem.run_bind, Sem.run_pure, Result.andThen_ok, invoke, builtin]
      simpa only [Sem.run_bind, Sem.run_pure] using good_app h
    · exact h
  case h_28 =>
    refine ⟨hk, ?_, h⟩
    intro cs b he
    simp_all

end Go.Fk
