/-
  A part of the proof: what the functions of the program come to, read off the model: no premise of its own, no axiom. By an AI agent.
-/
import Derived.Test.YtdhgbfbmcingoaaNp
import Derived.Test.YtdhgbfbmcingoaaHp3
import Derived.Test.YtdhgbfbmcingoaaMt
set_option linter.all false
set_option linter.unusedVariables false
namespace Go.Fk
open Go Go.MapKept

theorem append_nil {P : Program} {T T' E size bytes : Nat} {z : Value} {w : World} {k : Sl → World → Prop} (hE : Elem P T E z size bytes) (hk : k ⟨none, 0, 0⟩ w) :
    App P (Builtin.append_ #[T, T] T' #[.slice none 0 0, .slice none 0 0]) (.one .sl) w k := by
  obtain ⟨i, hi, hzz⟩ := Option.map_eq_some_iff.1 hE.inf
  refine ⟨⟨none, 0, 0⟩, w, ?_, hk⟩
  simp only [Prod.mk.injEq] at hzz
  obtain ⟨hz, hs, hb⟩ := hzz
  simp [Builtin.append_, run_underlying hE.sl, Go.run_sizeOf w hi, Builtin.lenOf, Builtin.firstCells, Result.andThen, RTy.enc, Ty.enc]
  done

theorem elPtr : Elem P T.sl_p_regex_Node T.p_regex_Node (.pointer none) 1 8 := ⟨by kernel_rfl, by kernel_rfl, rfl, by decide⟩
theorem elPos : Elem P T.sl_nfa_position T.nfa_position (.agg #[.int .u64 0, .int .u64 0, .int .u64 0, .int .u64 0, .int .i64 0, .map none]) 6 48 := ⟨by kernel_rfl, by kernel_rfl, rfl, by decide⟩
theorem elKnown : Elem P T.sl_nfa_known T.nfa_known (.agg #[.map none, .map none, .bool false]) 3 24 := ⟨by kernel_rfl, by kernel_rfl, rfl, by decide⟩
theorem elInt : Elem P T.sl_int T.int (.int .i64 0) 1 8 := ⟨by kernel_rfl, by kernel_rfl, rfl, by decide⟩
end Go.Fk
namespace Go.Fk
theorem regex_Parts_spec {M : Nat → Prop} {w : World} {p : Option Addr} {x : Re} {K : Sl → World → Prop} (hM : Old M w) (h : Nd (V M w) p x)
    (hk : ∀ l ps w', Keeps No w w' → SlT .ptr (V M w') l ps → All2 (Nd (V M w')) ps x.parts → K l w') : regex_Parts.C p w K := by
  have key : ∀ (c : Nat) (cs : List (Option Addr)) (m : Nat), w.heap[c]? = some (.cells (cs.map Value.pointer).toArray T.p_regex_Node (0, 0)) → cs.length = m → m ≤ 2 → All2 (Nd (V M w)) cs x.parts →
      App P (Builtin.append_ #[T.sl_p_regex_Node, T.sl_p_regex_Node] T.sl_p_regex_Node #[.slice none 0 0, .slice (some ⟨c, 0, none⟩) m m]) (.one .sl) w K := by
    intro c cs m hc hm hm2 ha
    refine append_own (l := ⟨none, 0, 0⟩) (xs := []) (news := cs.map Value.pointer) (base := w.heap.size) elPtr (Own.nil _ _ _ _) (by simpa using hm) (fun j u hu => ?_) (by simp [Value.oneCell']) (by simp only []; omega) (by simp only []; omega) (Nat.le_refl _) fun l' w' h1 h2 h3 h4 => ?_
    · rw [Nat.zero_add]
      exact cell_of hc (by simpa using hu)
    · have hk0 : Keeps No w w' := h3.mono fun b _ ⟨a, h, _⟩ => by simp at h
      refine hk l' cs w' hk0 (Own.reads (t := .ptr) (base := w.heap.size) (E := T.p_regex_Node) (show Own w' w.heap.size T.p_regex_Node 1 l' (cs.map Value.pointer) by simpa using h1) fun b hb hm => ?_) (ha.mono fun a b hN => hN.mono (V.keeps0 hk0))
      have := (h1.ge hb).1
      have := hM b hm
      omega
  cases h with
  | set h hw =>
    refine regex_Parts.ok _ _ _ ?_
    simp only [regex_Parts.M, NilC_some]
    exact Ld.sl (cell_of h.2 rfl) (append_nil elPtr (hk _ [] w Keeps.refl SlT.nil .nil))
  | empty h =>
    refine regex_Parts.ok _ _ _ ?_
    simp only [regex_Parts.M, NilC_some]
    exact Ld.sl (cell_of h.2 rfl) (append_nil elPtr (hk _ [] w Keeps.refl SlT.nil .nil))
  | cat h h' hp hq =>
    refine regex_Parts.ok _ _ _ ?_
    simp only [regex_Parts.M, NilC_some]
    exact Ld.sl (cell_of h.2 rfl) (key _ [_, _] 2 h'.2 rfl (by omega) (.cons hp (.cons hq .nil)))
  | or h h' hp hq =>
    refine regex_Parts.ok _ _ _ ?_
    simp only [regex_Parts.M, NilC_some]
    exact Ld.sl (cell_of h.2 rfl) (key _ [_, _] 2 h'.2 rfl (by omega) (.cons hp (.cons hq .nil)))
  | star h h' hp =>
    refine regex_Parts.ok _ _ _ ?_
    simp only [regex_Parts.M, NilC_some]
    exact Ld.sl (cell_of h.2 rfl) (key _ [_] 1 h'.2 rfl (by omega) (.cons hp .nil))

theorem cnt_parts {x : Re} (h : x.kind ≠ 0) : x.cnt = (x.parts.map Re.cnt).sum := by
  cases x <;> simp [Re.cnt, Re.parts, Re.kind] at *

theorem nfa_count_spec {most : Int} (hm0 : 0 ≤ most) (hm1 : most < 1000000) : ∀ (n : Nat) (x : Re), x.size ≤ n → ∀ {M : Nat → Prop} {w : World} {p : Option Addr} {K : Int → World → Prop} (hM : Old M w) (hs : x.size < 1000000000000) (h : Nd (V M w) p x)
    (hk : ∀ (r : Int) w', Keeps No w w' → 0 ≤ r → r ≤ x.cnt → ((x.cnt : Int) ≤ most → r = x.cnt) → (most < x.cnt → most < r) → K r w'), nfa_count.C p most w K := by
  intro n
  induction n with
  | zero => intro x hx; have := size_pos x; omega
  | succ n ih =>
    intro x hx M w p K hM hs h hk
    refine nfa_count.ok _ _ _ _ ?_
    simp only [nfa_count.M]
    refine regex_Kind_spec h ?_
    refine Br.mk (fun ht => ?_) (fun hf => ?_)
    · have : x.cnt = 1 := by cases x <;> simp [Re.kind, Re.cnt] at *
      exact hk 1 w Keeps.refl (by omega) (by omega) (by omega) (by omega)
    · have hkind : x.kind ≠ 0 := by simpa using hf
      refine regex_Parts_spec hM h fun l ps w1 hk1 hl ha => ?_
      have hc := cnt_parts hkind
      have hsz := Re.size_parts x
      have hp2 : x.parts.length ≤ 2 := by cases x <;> simp [Re.parts]
      have hlen := hl.1; have hal := ha.length
      refine Loop.mk (fun s w' => Keeps No w1 w' ∧ ∃ (k : Nat), k ≤ ps.length ∧ s.2 = (k : Int) ∧ 0 ≤ s.1 ∧ s.1 ≤ (((x.parts.map Re.cnt).take k).sum : Nat) ∧ ((((x.parts.map Re.cnt).take k).sum : Nat) ≤ most → s.1 = (((x.parts.map Re.cnt).take k).sum : Nat)) ∧
        (most < (((x.parts.map Re.cnt).take k).sum : Nat) → most < s.1)) (fun s => (ps.length : Nat) - s.2.toNat) ⟨Keeps.refl, 0, by omega, by simp⟩ ?_
      rintro ⟨s1, s2⟩ w2 ⟨hk2, k, hkl, e2, h0, h1, h2, h3⟩ R hR
      dsimp only at e2 h0 h1 h2 h3
      subst e2
      refine Br.mk (fun ht => ?_) (fun hf => ?_)
      · have ht : k < ps.length := by simpa [hlen] using ht
        refine IdxS.get (M := M) (hl.mono (V.keeps0 hk2)) (by simp) (by simp; omega) fun q hq => ?_
        simp at hq
        obtain ⟨y, hy, hN⟩ := ha.get _ _ hq
        have hy' : (x.parts.map Re.cnt)[k]? = some y.cnt := by simp [hy]
        have h4 := sum_take_succ _ _ _ hy'
        have h5 := sum_take_le (x.parts.map Re.cnt) (k + 1)
        have hyz : (x.parts.map Re.size)[k]? = some y.size := by simp [hy]
        have h6 := sum_take_succ _ _ _ hyz
        have h7 := sum_take_le (x.parts.map Re.size) (k + 1)
        have h8 := x.cnt_size
        refine Br.mk (fun ht => ?_) (fun hf => ?_)
        · have ht := of_decide_eq_true ht
          exact hk s1 w2 (hk1.trans hk2) h0 (by omega) (by omega) (fun _ => ht)
        · have hf := of_decide_eq_false hf
          refine ih y (by omega) ((hM.keeps hk1).keeps hk2) (by omega) (hN.mono (V.keeps0 hk2)) fun r w3 hk3 g0 g1 g2 g3 => ?_
          refine hR _ _ ⟨hk2.trans hk3, k + 1, by omega, ?_⟩ ?_
          · dsimp only
            rw [w64_eq (by omega), w64_eq (by omega), h4]
            refine ⟨by omega, by omega, by omega, ?_, ?_⟩ <;> omega
          · dsimp only; rw [w64_eq (by omega)]; omega
      · have hf : ps.length ≤ k := by simpa [hlen] using hf
        have : k = x.parts.length := by omega
        subst this
        have e : (List.take x.parts.length (List.map Re.cnt x.parts)).sum = x.cnt := by rw [hc, List.take_of_length_le (by simp)]
        rw [e] at h1 h2 h3
        exact hk s1 w2 (hk1.trans hk2) h0 h1 h2 h3
end Go.Fk
