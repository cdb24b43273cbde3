/-
  A part of the proof: what the functions of the program come to, read off the model: no premise of its own, no axiom. By an AI agent.
-/
import Derived.Test.YtjcelcnlndahpaaGreatA9
import Derived.Test.YtjcelcnlndahpaaGreatA1
set_option linter.all false
section
set_option linter.unusedVariables false
namespace Go.Fk
open Go Go.MapKept

/-! ## Where tokens stand -/

theorem toks_pos {T : Nat → Tok} {N : Nat} (h : Goes T N) : ∃ pos : Nat → Nat, pos 0 = 0 ∧ pos (toks T N 0).length = N ∧ (∀ k x, (toks T N 0)[k]? = some x → x = T (pos k) ∧ x.f = pos k ∧ x.t = pos (k + 1) ∧ pos k < pos (k + 1) ∧ pos k < N) ∧ ∀ k, k ≤ (toks T N 0).length → pos k ≤ N ∧ (toks T N 0).drop k = toks T N (pos k) := by
  have hs := toks_split h N 0 (by omega) (by omega)
  refine ⟨posK 0 (toks T N 0), by simp [posK], ?_, fun k x hx => ?_, fun k hk => ⟨(hs k hk).1, (hs k hk).2.2.1⟩⟩
  · obtain ⟨h1, h2, h3, _⟩ := hs _ (Nat.le_refl _)
    rw [List.drop_length] at h3
    refine Nat.le_antisymm h1 (Nat.le_of_not_lt fun hlt => ?_)
    rw [toks_step h hlt] at h3
    cases h3
  · have hk := (List.getElem?_eq_some_iff.1 hx).1
    obtain ⟨h1, h2, h3, h4⟩ := hs k (by omega)
    obtain ⟨h5, h6⟩ := h4 hk
    rw [hx] at h6
    have hx2 := Option.some.inj h6
    have g := h _ h5
    have hp : posK 0 (toks T N 0) (k + 1) = x.t.toNat := by simp [posK, hx]
    rw [hp]
    rw [← hx2] at g
    exact ⟨hx2, g.1, by omega, by omega, h5⟩

theorem pos_lt {pos : Nat → Nat} {n : Nat} (h : ∀ k, k < n → pos k < pos (k + 1)) : ∀ i j, i < j → j ≤ n → pos i < pos j := by
  intro i j hij hj
  induction j with
  | zero => omega
  | succ j ih =>
    by_cases e : i = j
    · subst e; exact h i (by omega)
    · exact Nat.lt_trans (ih (by omega) (by omega)) (h j (by omega))

/-- What is known of a text's tokens. -/
structure PosOf (ms : List LSt) (s : List UInt8) (pos : Nat → Nat) : Prop where
  zero : pos 0 = 0
  last : pos (toksOf ms s).length = s.length
  at_ : ∀ k x, (toksOf ms s)[k]? = some x → x = tokF ms s (pos k) ∧ x.f = pos k ∧ x.t = pos (k + 1) ∧ pos k < s.length
  drop : ∀ k, k ≤ (toksOf ms s).length → pos k ≤ s.length ∧ (toksOf ms s).drop k = toks (tokF ms s) s.length (pos k)
  mono : ∀ i j, i < j → j ≤ (toksOf ms s).length → pos i < pos j
theorem posOf (ms : List LSt) (s : List UInt8) : ∃ pos, PosOf ms s pos := by
  obtain ⟨pos, h1, h2, h3, h4⟩ := toks_pos (goes_tok (ms := ms) (s := s))
  refine ⟨pos, h1, h2, fun k x hx => ?_, h4, pos_lt fun k hk => ?_⟩
  · obtain ⟨a, b, c, _, e⟩ := h3 k x hx
    exact ⟨a, b, c, e⟩
  · exact (h3 k _ (List.getElem?_eq_getElem hk)).2.2.2.1
theorem PosOf.le {ms : List LSt} {s : List UInt8} {pos : Nat → Nat} (h : PosOf ms s pos) {i j : Nat} (hij : i ≤ j) (hj : j ≤ (toksOf ms s).length) : pos i ≤ pos j := by
  by_cases e : i = j
  · subst e; exact Nat.le_refl _
  · exact Nat.le_of_lt (h.mono i j (by omega) hj)

section
variable {w : World} {bt : Nat} {s : Option Addr} {text : ByteArray} {l : Sl} {n : Int} {ms : List LSt}

theorem At_closure {ts : List Tok} {w0 : World} (h : TapeAt w0 bt s text l ts n) {b1 b2 : Nat} {place : Int} (h1 : w0.heap[b1]? = some (.cells #[.pointer (some ⟨bt, 0, none⟩)] T.p_relex_Tape (0, 0))) (h2 : w0.heap[b2]? = some (.cells #[.int .i64 place] T.int (0, 0))) {i : Nat} (hi : i < ts.length) {w1 : World} (k1 : Keeps No w0 w1) (k : Bool → World → Prop)
    (hk : ∀ w2, Keeps No w1 w2 → k (decide (place < (ts[i]).t)) w2) : CallV P (.func (.func FN.relex_Tape_At_S1) #[] #[.pointer (some ⟨b1, 0, none⟩), .pointer (some ⟨b2, 0, none⟩)]) [.int .i64 i] (.one .bool) w1 k := by
  refine ⟨FN.relex_Tape_At_S1, #[], #[.pointer (some ⟨b1, 0, none⟩), .pointer (some ⟨b2, 0, none⟩)], rfl, by kernel_rfl, ?_⟩
  show relex_Tape_At_S1.C i ⟨b1, 0, none⟩ ⟨b2, 0, none⟩ w1 k
  refine relex_Tape_At_S1.ok _ _ _ _ _ ?_
  simp only [relex_Tape_At_S1.M]
  refine Draw.kp fun w2 e2 k2 => ?_
  have k02 := k1.trans k2
  refine LdK.ptr (cell_of (k02.blk0 h1) rfl) ?_
  simp only [NilC_some, add_eq]
  refine LdK.sl (cell_of (k02.blk0 h.obj) rfl) (IdxS.tok (h.free.mono (V.keeps0 k02)) (by omega) (by omega) fun x p hx hp => LdK.int hp.t (LdK.int (cell_of (k02.blk0 h2) rfl) ?_))
  have hx : ts[i] = x := by
    rw [Int.toNat_natCast, List.getElem?_eq_getElem hi] at hx
    exact Option.some.inj hx
  rw [← hx]
  exact hk w2 k2

theorem relex_At_none {place : Int} {K : ((Int × Int × Int × Int) × Bool) → World → Prop} (hK : ∀ w', Keeps No w w' → K ((0, 0, 0, 0), false) w') : relex_Tape_At.C none place w K := by
  refine relex_Tape_At.ok _ _ _ _ ?_
  simp only [relex_Tape_At.M]
  refine Al.mk fun b1 w1 n1 => Al.mk fun b2 w2 n2 => Al.mk fun b3 w3 n3 => ?_
  refine Join.cut (fun b w' => w'.heap = w3.heap ∧ Keeps No w3 w' ∧ b = true) ?_ ?_
  · rintro b w4 ⟨e4, k4, rfl⟩
    rw [Br_true]
    exact St4 (k4.blk0 n3.at_) fun w5 u => Ld4i u.at_ (hK w5 (u.keeps0 (((n1.keeps.trans n2.keeps).trans n3.keeps).trans k4) (by have := n1.eq; have := n2.eq; have := n3.eq; have := n1.size; have := n2.size; omega)))
  · intro j hj
    refine Draw.kp fun w4 e4 k4 => LdK.ptr (cell_of (k4.blk0 (n3.keeps.blk0 (n2.keeps.blk0 n1.at_))) rfl) ?_
    rw [Option.isNone_none, Br_true]
    exact hj _ _ ⟨e4, k4, rfl⟩

theorem relex_At_spec (h : TapeAt w bt s text l (toksOf ms (bs text)) n) (hlen : text.size ≤ 1000000) {place : Int} {K : ((Int × Int × Int × Int) × Bool) → World → Prop}
    (h0 : ¬ (0 ≤ place ∧ place < text.size) → ∀ w', Keeps No w w' → K ((0, 0, 0, 0), false) w')
    (h1 : ∀ (i : Nat) x w', Keeps No w w' → 0 ≤ place → place < text.size → (toksOf ms (bs text))[i]? = some x → place < x.t → (∀ j y, j < i → (toksOf ms (bs text))[j]? = some y → y.t ≤ place) → K ((x.c, x.f, x.t, x.l), true) w') : relex_Tape_At.C (some ⟨bt, 0, none⟩) place w K := by
  have hsz := size_bs text
  obtain ⟨pos, hp⟩ := posOf ms (bs text)
  have htl := toks_len (ms := ms) (s := bs text)
  refine relex_Tape_At.ok _ _ _ _ ?_
  simp only [relex_Tape_At.M]
  refine Al.mk fun b1 w1 n1 => Al.mk fun b2 w2 n2 => Al.mk fun b3 w3 n3 => ?_
  have k03 : Keeps No w w3 := (n1.keeps.trans n2.keeps).trans n3.keeps
  have e1 := n1.eq; have e2 := n2.eq; have e3 := n3.eq; have z1 := n1.size; have z2 := n2.size
  have hb1 := n3.keeps.blk0 (n2.keeps.blk0 n1.at_)
  have hb2 := n3.keeps.blk0 n2.at_
  refine Join.cut (fun b w' => Keeps No w3 w' ∧ (b = true ↔ ¬ (0 ≤ place ∧ place < text.size))) ?_ ?_
  · rintro b w4 ⟨k4, hb⟩
    have k04 := k03.trans k4
    refine Br.mk (fun e => St4 (k4.blk0 n3.at_) fun w5 u => Ld4i u.at_ (h0 (hb.1 e) w5 (u.keeps0 k04 (by omega)))) (fun e => ?_)
    have hin : 0 ≤ place ∧ place < text.size := Classical.byContradiction fun hn => by rw [hb.2 hn] at e; cases e
    have h4 := h.keep k04
    refine Ld.ptr (cell_of (k4.blk0 hb1) rfl) ?_
    simp only [NilC_some, add_eq]
    refine Ld.slv (l := l) (cell_of h4.obj rfl) ?_
    have hln : (l.n : Int) = ((toksOf ms (bs text)).length : Int) := by rw [h.len]
    rw [hln]
    refine Search_spec (M := No) (q := fun i => match (toksOf ms (bs text))[i]? with | some x => decide (place < x.t) | none => false) (by omega) (fun i j hij hj hq => ?_) (fun i hi w5 k5 k hk => ?_) fun i w5 k5 hi hlo hhi => ?_
    · have hxi := List.getElem?_eq_getElem (l := toksOf ms (bs text)) (i := i) (by omega)
      have hxj := List.getElem?_eq_getElem (l := toksOf ms (bs text)) (i := j) hj
      rw [hxi] at hq
      simp only [decide_eq_true_eq] at hq
      simp only [hxj, decide_eq_true_eq]
      have g1 := (hp.at_ i _ hxi).2.2.1
      have g2 := (hp.at_ j _ hxj).2.2.1
      have := hp.le (i := i + 1) (j := j + 1) (by omega) (by omega)
      omega
    · refine At_closure h4 (k4.blk0 hb1) (k4.blk0 hb2) hi k5 k fun w6 k6 => ?_
      have := hk w6 k6
      rwa [List.getElem?_eq_getElem hi] at this
    · -- the token that is found
      have hil : i < (toksOf ms (bs text)).length := by
        refine Nat.lt_of_le_of_ne hi fun e => ?_
        subst e
        have hpos : 0 < (toksOf ms (bs text)).length := Nat.pos_of_ne_zero fun e => by have := hp.last; rw [e, hp.zero] at this; omega
        have hx := List.getElem?_eq_getElem (l := toksOf ms (bs text)) (i := (toksOf ms (bs text)).length - 1) (by omega)
        have := hlo ((toksOf ms (bs text)).length - 1) (by omega)
        rw [hx] at this
        simp only [decide_eq_false_iff_not] at this
        have g := (hp.at_ _ _ hx).2.2.1
        rw [show (toksOf ms (bs text)).length - 1 + 1 = (toksOf ms (bs text)).length from by omega, hp.last] at g
        omega
      have k05 := k04.trans k5
      have hx := List.getElem?_eq_getElem hil
      refine Ld.ptr (cell_of (k5.blk0 (k4.blk0 hb1)) rfl) ?_
      simp only [NilC_some, add_eq]
      refine Ld.slv (l := l) (cell_of (h4.keep k5).obj rfl) (IdxS.tok (h4.keep k5).free (by omega) (by omega) fun x p hx' hp' => hp'.ld ?_)
      rw [Int.toNat_natCast] at hx'
      refine St4 (k5.blk0 (k4.blk0 n3.at_)) fun w6 u => Ld4i u.at_ ?_
      refine h1 i x w6 (u.keeps0 k05 (by omega)) hin.1 hin.2 hx' ?_ fun j y hj hy => ?_
      · have := hhi i (Nat.le_refl _) hil
        rw [hx'] at this
        simpa using this
      · have := hlo j hj
        rw [hy] at this
        simp only [decide_eq_false_iff_not] at this
        omega
  · intro j hj
    refine Draw.kp fun w4 e4 k4 => LdK.ptr (cell_of (k4.blk0 hb1) rfl) ?_
    rw [Option.isNone_some, Br_false]
    refine LdK.int (cell_of (k4.blk0 hb2) rfl) (Br.mk (fun e => hj _ _ ⟨k4, ?_⟩) (fun e => ?_))
    · have e : place < 0 := of_decide_eq_true e
      simp; omega
    have e : ¬ place < 0 := of_decide_eq_false e
    refine LdK.int (cell_of (k4.blk0 hb2) rfl) (LdK.ptr (cell_of (k4.blk0 hb1) rfl) ?_)
    simp only [NilC_some, add_eq]
    refine LdK.str (cell_of (h.keep (k03.trans k4)).obj rfl) (hj _ _ ⟨k4, ?_⟩)
    rw [decide_eq_true_eq]; omega

theorem begins_closure {ts : List Tok} {w0 : World} (h : TapeAt w0 bt s text l ts n) {b1 b2 b3 : Nat} {first : Nat} {place : Int} (h1 : w0.heap[b1]? = some (.cells #[.pointer (some ⟨bt, 0, none⟩)] T.p_relex_Tape (0, 0))) (h2 : w0.heap[b2]? = some (.cells #[.int .i64 first] T.int (0, 0))) (h3 : w0.heap[b3]? = some (.cells #[.int .i64 place] T.int (0, 0))) (hlen : ts.length ≤ 1000000) {i : Nat} (hi : first + i < ts.length) {w1 : World} (k1 : Keeps No w0 w1) (k : Bool → World → Prop)
    (hk : ∀ w2, Keeps No w1 w2 → k (decide (place ≤ (ts[first + i]).f)) w2) : CallV P (.func (.func FN.relex_Tape_begins_S1) #[] #[.pointer (some ⟨b1, 0, none⟩), .pointer (some ⟨b2, 0, none⟩), .pointer (some ⟨b3, 0, none⟩)]) [.int .i64 i] (.one .bool) w1 k := by
  refine ⟨FN.relex_Tape_begins_S1, #[], #[.pointer (some ⟨b1, 0, none⟩), .pointer (some ⟨b2, 0, none⟩), .pointer (some ⟨b3, 0, none⟩)], rfl, by kernel_rfl, ?_⟩
  show relex_Tape_begins_S1.C i ⟨b1, 0, none⟩ ⟨b2, 0, none⟩ ⟨b3, 0, none⟩ w1 k
  refine relex_Tape_begins_S1.ok _ _ _ _ _ _ ?_
  simp only [relex_Tape_begins_S1.M]
  refine Draw.kp fun w2 e2 k2 => ?_
  have k02 := k1.trans k2
  refine LdK.ptr (cell_of (k02.blk0 h1) rfl) ?_
  simp only [NilC_some, add_eq]
  refine LdK.sl (cell_of (k02.blk0 h.obj) rfl) (LdK.int (cell_of (k02.blk0 h2) rfl) ?_)
  have ew : w64 ((first : Int) + (i : Int)) = ((first + i : Nat) : Int) := by rw [w64_eq (by omega)]; omega
  rw [ew]
  refine IdxS.tok (h.free.mono (V.keeps0 k02)) (by omega) (by omega) fun x p hx hp => LdK.int hp.f (LdK.int (cell_of (k02.blk0 h3) rfl) ?_)
  have hx : ts[first + i] = x := by
    rw [Int.toNat_natCast, List.getElem?_eq_getElem hi] at hx
    exact Option.some.inj hx
  rw [← hx]
  exact hk w2 k2

theorem relex_begins_spec (h : TapeAt w bt s text l (toksOf ms (bs text)) n) (hlen : text.size ≤ 1000000) {first : Nat} (hf : first ≤ (toksOf ms (bs text)).length) {place : Int} {K : Int → World → Prop}
    (h1 : ∀ (i : Nat) x w', Keeps No w w' → first ≤ i → (toksOf ms (bs text))[i]? = some x → x.f = place → K i w') (h0 : ∀ w', Keeps No w w' → (∀ (i : Nat) x, first ≤ i → (toksOf ms (bs text))[i]? = some x → x.f ≠ place) → K (-1) w') : relex_Tape_begins.C (some ⟨bt, 0, none⟩) first place w K := by
  have hsz := size_bs text
  obtain ⟨pos, hp⟩ := posOf ms (bs text)
  have htl := toks_len (ms := ms) (s := bs text)
  generalize hts : toksOf ms (bs text) = ts at *
  refine relex_Tape_begins.ok _ _ _ _ _ ?_
  simp only [relex_Tape_begins.M]
  refine Al.mk fun b1 w1 n1 => Al.mk fun b2 w2 n2 => Al.mk fun b3 w3 n3 => ?_
  have k03 : Keeps No w w3 := (n1.keeps.trans n2.keeps).trans n3.keeps
  have hb1 := n3.keeps.blk0 (n2.keeps.blk0 n1.at_)
  have hb2 := n3.keeps.blk0 n2.at_
  have hb3 := n3.at_
  refine Draw.kp fun w4 e4 k4 => ?_
  have k04 := k03.trans k4
  have h4 := h.keep k04
  refine LdK.int (cell_of (k4.blk0 hb2) rfl) (LdK.ptr (cell_of (k4.blk0 hb1) rfl) ?_)
  simp only [NilC_some, add_eq]
  refine LdK.sl (cell_of h4.obj rfl) (LdK.int (cell_of (k4.blk0 hb2) rfl) ⟨.refl, ?_⟩)
  have hln := h.len
  have ew : w64 ((l.n : Int) - (first : Int)) = ((ts.length - first : Nat) : Int) := by rw [w64_eq (by omega)]; omega
  rw [ew]
  refine Search_spec (M := No) (q := fun i => match ts[first + i]? with | some x => decide (place ≤ x.f) | none => false) (by omega) (fun i j hij hj hq => ?_) (fun i hi w5 k5 k hk => ?_) fun i w5 k5 hi hlo hhi => ⟨k5, ?_⟩
  · have hxi := List.getElem?_eq_getElem (l := ts) (i := first + i) (by omega)
    have hxj := List.getElem?_eq_getElem (l := ts) (i := first + j) (by omega)
    rw [hxi] at hq
    simp only [decide_eq_true_eq] at hq
    simp only [hxj, decide_eq_true_eq]
    have g1 := (hp.at_ (first + i) (ts[first + i]'(by omega)) (by rw [hts]; exact hxi)).2.1
    have g2 := (hp.at_ (first + j) (ts[first + j]'(by omega)) (by rw [hts]; exact hxj)).2.1
    have := hp.le (i := first + i) (j := first + j) (by omega) (by rw [hts]; omega)
    omega
  · refine begins_closure h4 (k4.blk0 hb1) (k4.blk0 hb2) (k4.blk0 hb3) (by omega) (by omega) k5 k fun w6 k6 => ?_
    have := hk w6 k6
    rwa [List.getElem?_eq_getElem (by omega)] at this
  · have ew2 : w64 ((first : Int) + (i : Int)) = ((first + i : Nat) : Int) := by rw [w64_eq (by omega)]; omega
    rw [ew2]
    have k05 := k04.trans k5
    refine Join.cut (fun b w' => Keeps No w5 w' ∧ (b = true → ∃ x, ts[first + i]? = some x ∧ x.f = place) ∧ (b = false → ∀ x, ts[first + i]? = some x → x.f ≠ place)) ?_ ?_
    · rintro b w6 ⟨k6, hb, hb'⟩
      refine Br.mk (fun e => ?_) (fun e => h0 w6 (k05.trans k6) fun j y hj hy hyf => ?_)
      rotate_left
      · have hjl := (List.getElem?_eq_some_iff.1 hy).1
        by_cases hji : j < first + i
        · have := hlo (j - first) (by omega)
          rw [show first + (j - first) = j from by omega, hy] at this
          simp only [decide_eq_false_iff_not] at this
          omega
        · have hx := List.getElem?_eq_getElem (l := ts) (i := first + i) (by omega)
          have h1 := hb' e _ hx
          have h2 := hhi i (Nat.le_refl _) (by omega)
          rw [hx] at h2
          simp only [decide_eq_true_eq] at h2
          have g1 := (hp.at_ (first + i) (ts[first + i]'(by omega)) (by rw [hts]; exact hx)).2.1
          have g2 := (hp.at_ j y (by rw [hts]; exact hy)).2.1
          have := hp.le (i := first + i) (j := j) (by omega) (by rw [hts]; omega)
          omega
      obtain ⟨x, hx, hxf⟩ := hb e
      exact h1 (first + i) x w6 (k05.trans k6) (by omega) hx hxf
    · intro j hj
      refine Draw.kp fun w7 e7 k7 => LdK.ptr (cell_of (k7.blk0 (k5.blk0 (k4.blk0 hb1))) rfl) ?_
      simp only [NilC_some, add_eq]
      have h7 := (h4.keep k5).keep k7
      refine LdK.sl (cell_of h7.obj rfl) (Br.mk (fun e => ?_) (fun e => hj _ _ ⟨k7, fun e => (by cases e), fun _ x hx => by have := (List.getElem?_eq_some_iff.1 hx).1; have e := of_decide_eq_false e; omega⟩))
      have e : first + i < ts.length := by have := of_decide_eq_true e; omega
      refine LdK.ptr (cell_of (k7.blk0 (k5.blk0 (k4.blk0 hb1))) rfl) (LdK.sl (cell_of h7.obj rfl) (IdxS.tok h7.free (by omega) (by omega) fun x p hx hp' => LdK.int hp'.f (LdK.int (cell_of (k7.blk0 (k5.blk0 (k4.blk0 hb3))) rfl) (hj _ _ ⟨k7, fun e => ⟨x, by rw [Int.toNat_natCast] at hx; exact hx, by simpa using e⟩, fun e y hy => by rw [Int.toNat_natCast, hy] at hx; cases hx; simpa using e⟩))))
end
end Go.Fk
end

section
set_option linter.unusedVariables false
namespace Go.Fk
open Go Go.MapKept

theorem Grow.lt {w : World} {base : Nat} {M : Nat → Prop} {E sz : Nat} {l : Sl} {xs : List (List Value)} (h : Grow w base M E sz l xs) (hb : base ≤ w.heap.size) : ∀ c, l.blk c → c < w.heap.size := fun c hc => by
  rcases h with ⟨_, _, _, h⟩ | h
  · have := h c hc; omega
  · exact (h.ge hc).2
theorem Grow.keep {w w' : World} {base : Nat} {M N : Nat → Prop} {E sz : Nat} {l : Sl} {xs : List (List Value)} (h : Grow w base M E sz l xs) (k : Keeps N w w') (hM : ∀ b, N b → M b) (hN : ∀ b, N b → l.blk b → b < base) : Grow w' base M E sz l xs := by
  rcases h with ⟨h1, h2, h3, h4⟩ | h
  · exact .inl ⟨h1.mono (V.move k (fun b _ hb => hM b hb) fun _ _ h => h), h2, h3, h4⟩
  · exact .inr (h.keep k fun b hb hl => by have := hN b hb hl; have := (h.ge hl).1; omega)

/-- A token that begins here could be an old one. -/
def CanRest (ts : List Tok) (from_ to_ wsz : Nat) (by_ : Int) (first : Nat) (i : Int) : Prop := (to_ : Int) ≤ i - by_ ∧ ((from_ + wsz : Nat) : Int) ≤ i ∧ ∃ (r : Nat) (y : Tok), first ≤ r ∧ ts[r]? = some y ∧ y.f = i - by_
/-- Of an edit: the tokens behind it. -/
structure Spliced (ts ts' : List Tok) (from_ to_ wsz : Nat) (by_ : Int) (first m : Nat) : Prop where
  le : first ≤ m ∧ m ≤ ts'.length ∧ first ≤ ts.length
  head : ∀ (k : Nat) x, k < first → ts'[k]? = some x → ts[k]? = some x ∧ x.l ≤ from_
  tail : ∀ (k : Nat) x, m ≤ k → ts'[k]? = some x → ts'.length - k ≤ ts.length ∧ ∃ y, ts[ts.length - (ts'.length - k)]? = some y ∧ x = y.mv by_ ∧ ((from_ + wsz : Nat) : Int) ≤ x.f
  fresh : ∀ (k : Nat) x, first ≤ k → k < m → ts'[k]? = some x → ¬ CanRest ts from_ to_ wsz by_ first x.f

theorem Spliced.mk' {ts xs tl : List Tok} {from_ to_ wsz first : Nat} {by_ : Int} (hf : first ≤ ts.length) (hl : ∀ x ∈ ts.take first, x.l ≤ from_) (hx : ∀ x ∈ xs, ¬ CanRest ts from_ to_ wsz by_ first x.f)
    (htl : ∀ (j : Nat) x, tl[j]? = some x → tl.length - j ≤ ts.length ∧ ∃ y, ts[ts.length - (tl.length - j)]? = some y ∧ x = y.mv by_ ∧ ((from_ + wsz : Nat) : Int) ≤ x.f) : Spliced ts (ts.take first ++ xs ++ tl) from_ to_ wsz by_ first (first + xs.length) := by
  have hlen : (ts.take first).length = first := by simp; omega
  refine ⟨⟨by omega, by simp; omega, hf⟩, fun k x hk hx => ?_, fun k x hk hx => ?_, fun k x hk hk2 hx' => ?_⟩
  rotate_right
  · rw [List.append_assoc, List.getElem?_append_right (by omega), List.getElem?_append_left (by omega)] at hx'
    exact hx x (List.mem_of_getElem? hx')
  · rw [List.append_assoc, List.getElem?_append_left (by omega)] at hx
    refine ⟨?_, hl x (List.mem_of_getElem? hx)⟩
    rw [List.getElem?_take, if_pos hk] at hx
    exact hx
  · have hl2 : (ts.take first ++ xs).length = first + xs.length := by simp; omega
    rw [List.getElem?_append_right (by omega), hl2] at hx
    obtain ⟨h1, y, h2, h3, h4⟩ := htl _ x hx
    have e : (ts.take first ++ xs ++ tl).length - k = tl.length - (k - (first + xs.length)) := by
      have hj := (List.getElem?_eq_some_iff.1 hx).1
      rw [List.length_append, hl2]; omega
    rw [e]
    exact ⟨h1, y, h2, h3, h4⟩

section
variable {w : World} {bt : Nat} {s : Option Addr} {text with_ : ByteArray} {l : Sl} {n : Int} {ms : List LSt}

theorem relex_Splice_none {a b : Int} {K : ((Int × Int) × Int) → World → Prop} (hK : ∀ w', Keeps No w w' → K ((0, 0), 1) w') : relex_Tape_Splice.C none a b with_ w K := by
  refine relex_Tape_Splice.ok _ _ _ _ _ _ ?_
  simp only [relex_Tape_Splice.M]
  refine Al.mk fun b1 w1 n1 => ?_
  rw [Option.isNone_none, Br_true]
  exact St.blk n1.at_ (by simp) fun w2 u2 => St.blk u2.at_ (by simp) fun w3 u3 => Ld2i (u2.trans u3).at_ (hK w3 ((u2.trans u3).keeps0 n1.keeps (by have := n1.eq; omega)))

theorem relex_Splice_out {ts : List Tok} {a b : Int} (ht : TapeAt w bt s text l ts n) (h : ¬ (0 ≤ a ∧ a ≤ b ∧ b ≤ text.size)) {K : ((Int × Int) × Int) → World → Prop} (hK : ∀ w', Keeps No w w' → K ((0, 0), 2) w') : relex_Tape_Splice.C (some ⟨bt, 0, none⟩) a b with_ w K := by
  refine relex_Tape_Splice.ok _ _ _ _ _ _ ?_
  simp only [relex_Tape_Splice.M]
  refine Al.mk fun b1 w1 n1 => ?_
  rw [Option.isNone_some, Br_false]
  refine Join.cut (fun b w' => w' = w1 ∧ b = true) ?_ ?_
  · rintro b w' ⟨rfl, rfl⟩
    rw [Br_true]
    exact St.blk n1.at_ (by simp) fun w2 u2 => St.blk u2.at_ (by simp) fun w3 u3 => Ld2i (u2.trans u3).at_ (hK w3 ((u2.trans u3).keeps0 n1.keeps (by have := n1.eq; omega)))
  · intro j hj
    refine Br.mk (fun _ => hj _ _ ⟨rfl, rfl⟩) (fun e1 => Br.mk (fun _ => hj _ _ ⟨rfl, rfl⟩) (fun e2 => ?_))
    have e1 := of_decide_eq_false e1
    have e2 := of_decide_eq_false e2
    simp only [NilC_some, add_eq]
    refine Ld.str (cell_of (ht.keep n1.keeps).obj rfl) (hj _ _ ⟨rfl, ?_⟩)
    rw [decide_eq_true_eq]; omega

/-- The text behind an edit. -/
def splT (text with_ : ByteArray) (a b : Nat) : ByteArray := (text.extract 0 a ++ with_) ++ text.extract b text.size
theorem splT_bs {a b : Nat} : bs (splT text with_ a b) = (bs text).take a ++ bs with_ ++ (bs text).drop b := by
  unfold splT
  rw [bs_append, bs_append, bs_take, bs_from]

set_option maxHeartbeats 1000000 in
theorem relex_Splice_spec {cs : List Cls} {N0 : Nat} {of_ : Nat → Int} (hs : ScanV (V (· = bt) w) s cs N0 ms of_) (ht : TapeAt w bt s text l (toksOf ms (bs text)) n) {from_ to_ : Nat} (h1 : from_ ≤ to_) (h2 : to_ ≤ text.size) (hsz : text.size + with_.size ≤ 1000000) (hn : -1000000000000 ≤ n ∧ n ≤ 1000000000000) {K : ((Int × Int) × Int) → World → Prop}
    (hK : ∀ l' (first m : Nat) w', Keeps (· = bt) w w' → TapeAt w' bt s (splT text with_ from_ to_) l' (toksOf ms (bs (splT text with_ from_ to_))) (n + ((m - first : Nat) : Int)) →
      Spliced (toksOf ms (bs text)) (toksOf ms (bs (splT text with_ from_ to_))) from_ to_ with_.size ((with_.size : Int) - ((to_ : Int) - from_)) first m → K (((first : Int), (m : Int)), 0) w') : relex_Tape_Splice.C (some ⟨bt, 0, none⟩) from_ to_ with_ w K := by
  have hbs := size_bs text
  have hbw := size_bs with_
  have htl := toks_len (ms := ms) (s := bs text)
  have hbtlt := lt_of_some ht.obj
  obtain ⟨pos, hp⟩ := posOf ms (bs text)
  -- the new text
  have hT' := splT_bs (text := text) (with_ := with_) (a := from_) (b := to_)
  have hN' : (bs (splT text with_ from_ to_)).length = from_ + with_.size + (text.size - to_) := by rw [hT']; simp; omega
  have hsz' := size_bs (splT text with_ from_ to_)
  generalize hX : splT text with_ from_ to_ = text' at hT' hN' hsz' hK
  have hhead : (bs text').take from_ = (bs text).take from_ := by
    rw [hT', List.append_assoc, List.take_append_of_le_length (by rw [List.length_take]; omega), List.take_take, Nat.min_self]
  have htail : ∀ b' b : Nat, to_ ≤ b → b ≤ text.size → (b' : Int) = b + ((with_.size : Int) - ((to_ : Int) - from_)) → (bs text').drop b' = (bs text).drop b := by
    intro b' b hb hb2 hbb
    have hl : ((bs text).take from_ ++ bs with_).length = from_ + with_.size := by simp; omega
    rw [hT', List.drop_append, List.drop_eq_nil_of_le (by omega), List.nil_append, List.drop_drop, hl]
    congr 1
    omega
  have gT := goes_tok (ms := ms) (s := bs text)
  have gT' := goes_tok (ms := ms) (s := bs text')
  generalize hts : toksOf ms (bs text) = ts at *
  have hby : -1000000 ≤ (with_.size : Int) - ((to_ : Int) - from_) ∧ (with_.size : Int) - ((to_ : Int) - from_) ≤ 1000000 := by omega
  generalize hbyg : (with_.size : Int) - ((to_ : Int) - from_) = by_ at *
  have hat : ∀ {k x}, ts[k]? = some x → x = tokF ms (bs text) (pos k) ∧ x.f = pos k ∧ x.t = pos (k + 1) ∧ pos k < (bs text).length := fun {k x} h => hp.at_ k x (by rw [hts]; exact h)
  have hdrop : ∀ k, k ≤ ts.length → pos k ≤ (bs text).length ∧ ts.drop k = toks (tokF ms (bs text)) (bs text).length (pos k) := fun k h => by have := hp.drop k (by rw [hts]; exact h); rw [hts] at this; exact this
  have hle : ∀ {i j}, i ≤ j → j ≤ ts.length → pos i ≤ pos j := fun {i j} h1 h2 => hp.le h1 (by rw [hts]; exact h2)
  -- the tokens that look no further than the place stay
  have hkeep : ∀ first, first ≤ ts.length → (∀ x ∈ ts.take first, x.l ≤ from_) → pos first ≤ from_ ∧ ∀ k, k ≤ first → toks (tokF ms (bs text')) (bs text').length 0 = ts.take k ++ toks (tokF ms (bs text')) (bs text').length (pos k) := by
    intro first hf hlk
    have hin : ∀ k, k < first → ∃ x, ts[k]? = some x ∧ x.l ≤ from_ := fun k hk => by
      have hx := List.getElem?_eq_getElem (l := ts) (i := k) (by omega)
      exact ⟨_, hx, hlk _ (List.mem_of_getElem? (i := k) (by rw [List.getElem?_take, if_pos hk]; exact hx))⟩
    have hpf : ∀ k, k ≤ first → pos k ≤ from_ := by
      intro k hk
      cases k with
      | zero => rw [hp.zero]; omega
      | succ k =>
        obtain ⟨x, hx, hxl⟩ := hin k (by omega)
        have g := hat hx
        have hb := tok_bounds (ms := ms) g.2.2.2
        rw [← g.1] at hb
        omega
    refine ⟨hpf first (Nat.le_refl _), fun k hk => ?_⟩
    induction k with
    | zero => rw [hp.zero]; simp
    | succ k ih =>
      obtain ⟨x, hx, hxl⟩ := hin k (by omega)
      have g := hat hx
      have hpk1 := hpf (k + 1) hk
      have hlt : pos k < pos (k + 1) := by
        have hb := tok_bounds (ms := ms) g.2.2.2
        rw [← g.1] at hb
        omega
      have hsame : tokF ms (bs text') (pos k) = x := by
        rw [g.1]
        exact tok_same (n := from_) (by omega) (by omega) (by rw [← g.1]; exact hxl) hhead
      rw [ih (by omega), toks_step gT' (by omega), hsame, List.take_add_one, hx, g.2.2.1]
      simp
  refine relex_Tape_Splice.ok _ _ _ _ _ _ ?_
  simp only [relex_Tape_Splice.M]
  refine Al.mk fun b1 w1 n1 => ?_
  have e1 := n1.eq; have z1 := n1.size
  rw [Option.isNone_some, Br_false]
  have ht1 := ht.keep n1.keeps
  refine Join.cut (fun b w' => w' = w1 ∧ b = false) ?_ ?_
  rotate_left
  · intro j hj
    refine Br.mk (fun e => by have e := of_decide_eq_true e; omega) (fun _ => Br.mk (fun e => by have e := of_decide_eq_true e; omega) (fun _ => ?_))
    simp only [NilC_some, add_eq]
    refine Ld.str (cell_of ht1.obj rfl) (hj _ _ ⟨rfl, ?_⟩)
    rw [decide_eq_false_iff_not]; omega
  rintro b w1 ⟨rfl, rfl⟩
  rw [Br_false]
  simp only [NilC_some, add_eq]
  refine Ld.str (cell_of ht1.obj rfl) ?_
  have ew1 : w64 ((to_ : Int) - (from_ : Int)) = (to_ : Int) - from_ := w64_eq (by omega)
  have ew2 : w64 ((text.size : Int) + (with_.size : Int)) = (text.size : Int) + with_.size := w64_eq (by omega)
  have ew3 : w64 ((with_.size : Int) - ((to_ : Int) - (from_ : Int))) = by_ := by rw [w64_eq (by omega)]; exact hbyg
  simp only [ew1, ew2, ew3]
  rw [w64_eq (by omega)]
  refine Br.mk (fun e => by have e := of_decide_eq_true e; omega) (fun _ => ?_)
  -- the text
  have hx1 : (text.extract 0 from_).size = from_ := by
    have := size_bs (text.extract 0 from_)
    rw [bs_take, List.length_take] at this; omega
  have hx2 : (text.extract to_ text.size).size = text.size - to_ := by
    have := size_bs (text.extract to_ text.size)
    rw [bs_from, List.length_drop] at this; omega
  have hx3 : (text.extract 0 from_ ++ with_).size = from_ + with_.size := by rw [size_bs, bs_append, List.length_append, ← size_bs, ← size_bs, hx1]
  have hmax : IntKind.i64.max = 9223372036854775807 := rfl
  refine Join.cut (fun (tx : ByteArray) w' => Keeps No w1 w' ∧ tx = text') ?_ ?_
  rotate_left
  · intro j hj
    refine Draw.kp fun w2 e2 k2 => LdK.str (cell_of (ht1.keep k2).obj rfl) (LdK.str (cell_of (ht1.keep k2).obj rfl) ⟨?_, ?_⟩)
    · exact App.prefix (by omega) ⟨.refl, by rw [hx1]; omega, App.suffix (by omega) ⟨.refl, by rw [hx3, hx2]; omega, hj _ _ ⟨k2, hX⟩⟩⟩
    · exact App.suffix (by omega) ⟨.refl, App.prefix (by omega) ⟨.refl, by rw [hx1]; omega, by rw [hx3, hx2]; omega, hj _ _ ⟨k2, hX⟩⟩⟩
  rintro tx w2 ⟨k2, rfl⟩
  have ht2 := ht1.keep k2
  refine relex_ahead_spec ht2 (by omega) fun first hf hlook => ?_
  obtain ⟨hpf, hkp⟩ := hkeep first hf hlook
  have hkf := hkp first (Nat.le_refl _)
  refine Ld.slv (l := l) (cell_of ht2.obj rfl) ?_
  have hln := ht2.len
  refine App.subHM elTok (by have := ht2.cap; omega) ?_
  have k02 : Keeps No w w2 := n1.keeps.trans k2
  have hv0 : SlTok (V (fun b => b = bt ∨ w.heap.size ≤ b) w2) l ts := ht.toks.mono (V.move k02 (fun _ _ h => h.elim) fun b hb h => h.resolve_right (by omega))
  have hv2 : SlTok (V (fun b => b = bt ∨ w.heap.size ≤ b) w2) ⟨l.a, first, first⟩ (ts.take first) := by
    have := SlC.take (c := first) hv0 (k := first) (by simpa using hf)
    rw [← List.map_take] at this
    exact this
  refine Join.cut (fun (a : Int) w' => w' = w2 ∧ a = pos first) ?_ ?_
  rotate_left
  · intro j hj
    refine Br.mk (fun e => ?_) (fun e => ?_)
    · have e : 0 < first := by have := of_decide_eq_true e; omega
      have ew : w64 ((first : Int) - 1) = ((first - 1 : Nat) : Int) := by rw [w64_eq (by omega)]; omega
      rw [ew]
      refine IdxS.tok hv2 (by omega) (by simp; omega) fun x p hx hxp => Ld.int hxp.t (hj _ _ ⟨rfl, ?_⟩)
      rw [Int.toNat_natCast, List.getElem?_take, if_pos (by omega)] at hx
      have := (hat hx).2.2.1
      rw [this, show first - 1 + 1 = first from by omega]
    · have e : first = 0 := by have := of_decide_eq_false e; omega
      subst e
      exact hj _ _ ⟨rfl, by rw [hp.zero]; rfl⟩
  rintro a w2' ⟨rfl, rfl⟩
  refine Ld.slv (l := l) (cell_of ht2.obj rfl) ?_
  have z2 := k02.size
  -- the loop
  let J : Sl → Nat → List Tok → World → Prop := fun q i xs w' => Keeps (· = bt) w w' ∧ w'.heap[b1]? = some (.cells #[.int .i64 0, .int .i64 0] T.api_Span (0, 0)) ∧ w'.heap[bt]? = some (tpObj s text l (n + (xs.length : Int))) ∧ Grow w' w.heap.size (fun b => b = bt ∨ w.heap.size ≤ b) T.scan_Token 4 q ((ts.take first ++ xs).map Tok.cells) ∧ (∀ c, q.blk c → c ≠ b1) ∧ (∀ x ∈ xs, ¬ CanRest ts from_ to_ with_.size by_ first x.f) ∧ i ≤ (bs tx).length ∧ xs.length ≤ i ∧ ts.take first ++ xs ++ toks (tokF ms (bs tx)) (bs tx).length i = toks (tokF ms (bs tx)) (bs tx).length 0
  refine Join.cut (fun (q : Sl × Int) w' => ∃ i xs, J q.1 i xs w' ∧ ((q.2 = -1 ∧ (bs tx).length ≤ i) ∨ ∃ (r : Nat) (x : Tok), q.2 = r ∧ ts[r]? = some x ∧ x.f = (i : Int) - by_ ∧ (to_ : Int) ≤ (i : Int) - by_ ∧ from_ + with_.size ≤ i)) ?_ ?_
  rotate_left
  · intro j9 hj9
    refine Loop.mk (fun (t : Sl × Int × Int) w' => ∃ (i : Nat) (xs : List Tok), t.2.1 = (i : Int) ∧ t.2.2 = -1 ∧ J t.1 i xs w') (fun t => (bs tx).length - t.2.1.toNat) ⟨pos first, [], rfl, rfl, k02.no, k2.blk0 n1.at_, by simpa using ht2.obj, .inl ⟨by rw [List.append_nil]; exact hv2, rfl, fun h => by have := (ht2.nil h).1; show first = 0; omega, fun c hc => ht.old c hc⟩, fun c hc => by have := ht.old c hc; omega, by simp, by omega, by simp, by simpa using hkf.symm⟩ ?_
    rintro ⟨q, t1, t2⟩ w3 ⟨i, xs, hi, hrest, hJ⟩ R hR
    dsimp only at hi hrest hJ ⊢
    subst hi; subst hrest
    obtain ⟨k3, hb1, hobj, hg, hqb, hfr, hil, hxi, hlist⟩ := id hJ
    have z3 := k3.size
    refine Br.mk (fun e => ?_) (fun e => ?_)
    rotate_left
    · have e := of_decide_eq_false e
      exact hj9 _ _ ⟨i, xs, hJ, .inl ⟨rfl, by omega⟩⟩
    have hlt : i < (bs tx).length := by have := of_decide_eq_true e; omega
    have ewb : w64 ((i : Int) - by_) = (i : Int) - by_ := w64_eq (by omega)
    have ht3 : TapeAt w3 bt s text l ts (n + (xs.length : Int)) := ⟨hobj, ht.toks.mono (V.keeps k3), ht.cap, ht.nil, fun c hc => by have := ht.old c hc; omega⟩
    refine Join.cut (fun (r : Int) w' => Keeps No w3 w' ∧ r = -1 ∧ ¬ CanRest ts from_ to_ with_.size by_ first i) ?_ ?_
    · rintro r w4 ⟨k4, rfl, hno⟩
      have k04 : Keeps (· = bt) w w4 := k3.trans k4.no
      have ht4 := ht3.keep k4
      refine Ld.ptr (cell_of ht4.obj rfl) ?_
      have hs4 : ScanV (V No w4) s cs N0 ms of_ := hs.mono ((V.keeps k04).trans (V.sub fun _ _ h => h.elim))
      refine scan_Next_spec hs4 (by omega) (fun h => by omega) (fun i' hi' hil' w5 k5 => ?_)
      have : i' = i := by omega
      subst this
      generalize hY : tokF ms (bs tx) i' = Y
      have hbd := tok_bounds (ms := ms) (s := bs tx) (i := i') hlt
      rw [hY] at hbd
      refine AlSt4 fun b13 w6 n6 => Ld4i n6.at_ ?_
      have e6 := n6.eq; have z4 := k4.size; have z5 := k5.size
      refine Al.mk fun b14 w7 n7 => ?_
      have e7 := n7.eq; have z6 := n6.size
      have k37 : Keeps No w3 w7 := ((k4.trans k5).trans n6.keeps).trans n7.keeps
      have hg7 : Grow w7 w.heap.size (fun b => b = bt ∨ w.heap.size ≤ b) T.scan_Token 4 q ((ts.take first ++ xs).map Tok.cells) := hg.keep k37 (fun _ h => h.elim) fun _ h => h.elim
      have hqlt := hg.lt (by omega)
      have hn14 : SlC (V No w7) ⟨some ⟨b14, 0, none⟩, 1, 1⟩ 4 [Y.cells] := by
        refine ⟨rfl, .inr ⟨b14, 0, _, _, _, rfl, ⟨id, n7.at_⟩, fun j c hc k u hu => ?_⟩⟩
        rcases j with _ | j
        · simp at hc; subst hc; simpa [Tok.cells] using hu
        · simp at hc
      refine append_grow (l2 := ⟨some ⟨b14, 0, none⟩, 1, 1⟩) (ys := [Y.cells]) elTok hg7 (by exact Tok.lens) (by simp [Tok.cells]) hn14 (by simp) (fun c hc u hu => Tok.ones (xs := [Y]) c (by simpa using hc) u hu) (by simp; omega) (by simp; omega) (by have := k37.size; omega) fun q' w8 kq ho8 hq8 => ?_
      have k78 : Keeps (fun b => q.blk b ∧ w.heap.size ≤ b) w7 w8 := kq _ fun b _ h1 h2 => ⟨h1, h2⟩
      have hbt7 : w8.heap[bt]? = _ := k78.blk (k37.blk0 hobj) fun h => by omega
      refine Ld.int (cell_of hbt7 rfl) ?_
      refine St.blk hbt7 (by simp) fun w9 u9 => ?_
      have ewn : w64 (n + (xs.length : Int) + 1) = n + ((xs ++ [Y]).length : Int) := by rw [w64_eq (by omega)]; simp; omega
      rw [ewn] at u9
      have hb13 : w9.heap[b13]? = some (tokObj Y) := u9.keeps.blk (k78.blk (n7.keeps.blk0 n6.at_) fun h => by have := hqlt _ h.1; omega) (by omega)
      refine Ld.int (cell_of hb13 rfl) ?_
      have hqn : ∀ c, q'.blk c → w.heap.size ≤ c := fun c hc => (ho8.ge hc).1
      refine hR _ _ ⟨Y.t.toNat, xs ++ [Y], by dsimp only; omega, rfl, ?_, u9.keeps.blk (k78.blk (k37.blk0 hb1) fun h => hqb _ h.1 rfl) (by omega), u9.at_, .inr ?_, fun c hc => ?_, fun x hx => ?_, by omega, by simp; omega, ?_⟩ (by dsimp only; omega)
      · exact ((k3.trans k37.no).then k78 fun b hb h => by have := h.2; omega).trans u9.keeps
      · have := ho8.keep u9.keeps fun b hb h => by have := hqn _ h; have : b = bt := hb; omega
        simpa [List.append_assoc] using this
      · rcases hq8 c hc with h | h
        · exact hqb c h.1
        · have := lt_of_some hb1; have := k37.size; omega
      · rcases List.mem_append.1 hx with hx | hx
        · exact hfr x hx
        · have hx : x = Y := by simpa using hx
          subst hx
          rw [hbd.1]; exact hno
      · rw [← hlist, toks_step gT' hlt, hY]
        simp [List.append_assoc]
    · intro j15 hj15
      refine Join.cut (fun (b : Bool) w' => w' = w3 ∧ (b = true → (to_ : Int) ≤ (i : Int) - by_ ∧ from_ + with_.size ≤ i) ∧ (b = false → ¬ ((to_ : Int) ≤ (i : Int) - by_ ∧ from_ + with_.size ≤ i))) ?_ ?_
      · rintro b w3' ⟨rfl, hb, hb'⟩
        refine Br.mk (fun e => ?_) (fun e => hj15 _ _ ⟨.refl, rfl, fun h => hb' e ⟨h.1, by have := h.2.1; omega⟩⟩)
        obtain ⟨hq1, hq2⟩ := hb e
        rw [ewb]
        have ht3' := ht3
        rw [← hts] at ht3'
        refine relex_begins_spec ht3' (by omega) (by rw [hts]; exact hf) (fun r x w4 k4 hrf hx hxf => ?_) (fun w4 k4 hnone => ?_)
        · rw [hts] at hx
          refine Br.mk (fun _ => hj9 _ _ ⟨i, xs, ⟨k3.trans k4.no, k4.blk0 hb1, k4.blk0 hobj, hg.keep k4 (fun _ h => h.elim) fun _ h => h.elim, hqb, hfr, hil, hxi, hlist⟩, .inr ⟨r, x, rfl, hx, hxf, hq1, hq2⟩⟩) (fun e => by have := of_decide_eq_false e; omega)
        · refine hj15 _ _ ⟨k4, rfl, fun h => ?_⟩
          obtain ⟨_, _, r, y, h3, h4, h5⟩ := h
          exact hnone r y h3 (by rw [hts]; exact h4) h5
      · intro j17 hj17
        rw [ewb]
        refine Br.mk (fun e => hj17 _ _ ⟨rfl, fun e2 => ?_, fun e2 h => ?_⟩) (fun e => hj17 _ _ ⟨rfl, fun e2 => (by cases e2), fun _ h => by have e := of_decide_eq_false e; exact e h.1⟩)
        · have e := of_decide_eq_true e
          have e2 := of_decide_eq_true e2
          rw [w64_eq (by omega)] at e2
          exact ⟨e, by omega⟩
        · have e2 := of_decide_eq_false e2
          rw [w64_eq (by omega)] at e2
          omega
  -- behind the loop
  rintro ⟨q, rest⟩ w3 ⟨i, xs, hJ, hrest⟩
  obtain ⟨k3, hb1, hobj, hg, hqb, hfr, hil, hxi, hlist⟩ := id hJ
  have z3 := k3.size
  dsimp only at hrest ⊢
  refine AlSt2 fun b6 w4 n6 => ?_
  have e6 := n6.eq; have z6 := n6.size
  have hqn : q.n = (ts.take first ++ xs).length := by
    rcases hg with ⟨h, _⟩ | h
    · simpa using h.1
    · have := h.len; rw [flatten_len Tok.lens] at this; simp at this; simp; omega
  have hqn' : q.n = first + xs.length := by rw [hqn]; simp; omega
  have hqlt := hg.lt (by omega)
  have hb1lt := lt_of_some hb1
  have tlt : (toks (tokF ms (bs tx)) (bs tx).length 0).length ≤ (bs tx).length := toks_len
  refine Join.cut (fun (q' : Sl) w' => Keeps (fun b => b = bt ∨ (q.blk b ∧ w.heap.size ≤ b)) w4 w' ∧ w'.heap[bt]? = some (tpObj s text l (n + (xs.length : Int))) ∧ SlTok (V (fun b => b = bt ∨ b = b1) w') q' (toks (tokF ms (bs tx)) (bs tx).length 0) ∧ q'.n ≤ q'.c ∧ (q'.a = none → q'.n = 0 ∧ q'.c = 0) ∧ (∀ c, q'.blk c → c < w'.heap.size) ∧ Spliced ts (toks (tokF ms (bs tx)) (bs tx).length 0) from_ to_ with_.size by_ first (first + xs.length)) ?_ ?_
  · rintro q' w5 ⟨k5, hobj5, hq', hcap, hnil, hold, hspl⟩
    refine St.blk hobj5 (by simp) fun w6 u6 => St.blk u6.at_ (by simp) fun w7 u7 => ?_
    have n61 : ∀ h : b6 = bt ∨ (q.blk b6 ∧ w.heap.size ≤ b6), False := fun h => h.elim (fun h => by omega) fun h => (by have := hqlt _ h.1; omega)
    have n11 : ∀ h : b1 = bt ∨ (q.blk b1 ∧ w.heap.size ≤ b1), False := fun h => h.elim (fun h => by omega) fun h => hqb _ h.1 rfl
    have hb6 : w7.heap[b6]? = some (.cells #[.int .i64 first, .int .i64 q.n] T.api_Span (0, 0)) := u7.keeps.blk (u6.keeps.blk (k5.blk n6.at_ n61) (by omega)) (by omega)
    have hb17 := u7.keeps.blk (u6.keeps.blk (k5.blk (n6.keeps.blk0 hb1) n11) (by omega)) (by omega)
    refine Ld2i hb6 (St.blk hb17 (by simp) fun w8 u8 => St.blk u8.at_ (by simp) fun w9 u9 => Ld2i (u8.trans u9).at_ ?_)
    rw [hqn']
    have k45 : Keeps (fun b => b = bt ∨ (q.blk b ∧ w.heap.size ≤ b)) w4 w7 := (k5.trans (u6.keeps.mono fun b _ h => .inl h)).trans (u7.keeps.mono fun b _ h => .inl h)
    have k79 := (u8.trans u9).keeps
    have kall : Keeps (· = bt) w w9 := (k3.trans n6.keeps.no).then ((k45.mono (N := fun b => b = bt ∨ (q.blk b ∧ w.heap.size ≤ b)) (M := fun b => b = bt ∨ w.heap.size ≤ b) fun b _ h => h.imp id fun h => h.2).trans (k79.mono fun b _ h => .inr (by have : b = b1 := h; omega))) fun b hb h => h.resolve_right (by omega)
    have hfin : w9.heap[bt]? = some (tpObj s tx q' (n + (xs.length : Int))) := k79.blk u7.at_ (by omega)
    have hq9 : SlTok (V (· = bt) w9) q' (toks (tokF ms (bs tx)) (bs tx).length 0) :=
      hq'.mono (V.move (N := fun b => b = bt ∨ b = b1) (((u6.keeps.trans u7.keeps).mono fun b _ h => .inl h).trans (k79.mono fun b _ h => .inr h)) (fun _ _ h => h) fun _ _ h => .inl h)
    have := hK q' first (first + xs.length) w9 kall ⟨by simpa using hfin, hq9, hcap, hnil, fun c hc => by have := hold c hc; have := u6.size; have := u7.size; have := (u8.trans u9).size; omega⟩ hspl
    exact this
  · intro j8 hj8
    have hqc : ∀ {u : World}, Keeps No w3 u → Grow u w.heap.size (fun b => b = bt ∨ w.heap.size ≤ b) T.scan_Token 4 q ((ts.take first ++ xs).map Tok.cells) := fun k => hg.keep k (fun _ h => h.elim) fun _ h => h.elim
    rcases hrest with ⟨rfl, hge⟩ | ⟨r, x, rfl, hx, hxf, hb1', hb2'⟩
    · refine Br.mk (fun e => by have e := of_decide_eq_true e; omega) (fun _ => ?_)
      rw [toks_end hge, List.append_nil] at hlist
      have hspl := Spliced.mk' (xs := xs) (tl := []) (by_ := by_) (wsz := with_.size) (to_ := to_) hf hlook hfr (fun j x h => by simp at h)
      rw [List.append_nil, hlist] at hspl
      refine hj8 q w4 ⟨.refl, n6.keeps.blk0 hobj, ?_, ?_, ?_, fun c hc => by have := hqlt c hc; omega, hspl⟩
      · rw [← hlist]
        rcases hqc n6.keeps with ⟨h, _⟩ | h
        · exact h.mono (V.sub fun b _ h => h.imp id fun h => by omega)
        · exact h.readsC (by omega) Tok.lens fun b hb h => h.elim (fun h => by have := (Own.ge (by assumption) hb).1; omega) fun h => hqb _ hb h
      · rcases hg with ⟨_, h, _⟩ | h
        · exact Nat.le_of_eq h
        · exact h.cap
      · rcases hg with ⟨_, h, h2, _⟩ | h
        · exact fun ha => ⟨h2 ha, by rw [← h]; exact h2 ha⟩
        · exact own_nil h
    · refine Br.mk (fun _ => ?_) (fun e => by have e := of_decide_eq_false e; omega)
      have hrl := (List.getElem?_eq_some_iff.1 hx).1
      have hxa := hat hx
      have hpr : (i : Int) = pos r + by_ := by rw [← hxa.2.1, hxf]; omega
      have k24 : Keeps (· = bt) w w4 := k3.trans n6.keeps.no
      refine App.subL (k := r) elTok (by omega) ?_
      have hlc := ht2.cap
      have hv4 : SlTok (V (fun b => b = bt ∨ w.heap.size ≤ b) w4) l ts := ht.toks.mono (V.move k24 (fun _ _ h => h) fun b hb h => h.resolve_right (by omega))
      have hsub : SlTok (V (fun b => b = bt ∨ w.heap.size ≤ b) w4) ⟨if l.c = r then l.a else l.a.map (·.add (r * 4)), l.n - r, l.c - r⟩ (ts.drop r) := by
        have := SlC.drop (c := l.c - r) hv4 (k := r) (by simp; omega) (by simp; omega)
        rw [← List.map_drop] at this
        exact this
      have hbound : ∀ y ∈ ts.drop r, (-10000000000 ≤ y.f ∧ y.f ≤ 10000000000) ∧ (-10000000000 ≤ y.t ∧ y.t ≤ 10000000000) ∧ (-10000000000 ≤ y.l ∧ y.l ≤ 10000000000) := fun y hy => by
        obtain ⟨k, hk⟩ := List.getElem?_of_mem (List.mem_of_mem_drop hy)
        have g := hat hk
        have hb := tok_bounds (ms := ms) g.2.2.2
        rw [← g.1] at hb
        omega
      refine relex_moved_spec hsub (by simp; omega) (by omega) hbound fun mv w5 k5 hmv => ?_
      have z5 := k5.size
      have k35 := n6.keeps.trans k5
      have hne : ((ts.drop r).map fun y => y.mv by_).map Tok.cells ≠ [] := by
        intro h
        have := congrArg List.length h
        simp at this; omega
      have hmvr : SlTok (V No w5) mv ((ts.drop r).map fun y => y.mv by_) := hmv.readsC (by omega) Tok.lens fun _ _ h => h
      refine append_grow elTok (hqc k35) Tok.lens Tok.lens hmvr hne Tok.ones (by simp; omega) (by simp; omega) (by omega) fun q' w6 kq ho6 hq6 => ?_
      have k56 : Keeps (fun b => q.blk b ∧ w.heap.size ≤ b) w5 w6 := kq _ fun b _ h1 h2 => ⟨h1, h2⟩
      have hto : toks (tokF ms (bs tx)) (bs tx).length i = (ts.drop r).map fun y => y.mv by_ := by
        rw [(hdrop r (by omega)).2]
        refine toks_moved gT gT' (d := by_) (by omega) (bs text).length (pos r) i (by omega) hpr fun b b' h3 h4 h5 => ?_
        have := tok_moved (ms := ms) (s := bs text) (s' := bs tx) (i := b) (i' := b') (by omega) (by omega) (htail b' b (by omega) (by omega) h5)
        rw [this, h5]
        congr 1
        omega
      rw [hto] at hlist
      have hspl := Spliced.mk' (xs := xs) (tl := (ts.drop r).map fun y => y.mv by_) (by_ := by_) (wsz := with_.size) (from_ := from_) (to_ := to_) hf hlook hfr (fun j y h => by
        rw [List.getElem?_map, List.getElem?_drop] at h
        obtain ⟨y0, hy0, rfl⟩ := Option.map_eq_some_iff.1 h
        have hj := (List.getElem?_eq_some_iff.1 hy0).1
        have g := hat hy0
        have := hle (i := r) (j := r + j) (by omega) (by omega)
        refine ⟨by simp; omega, y0, ?_, rfl, ?_⟩
        · simp only [List.length_map, List.length_drop]
          rw [show ts.length - (ts.length - r - j) = r + j by omega]; exact hy0
        · show ((from_ + with_.size : Nat) : Int) ≤ y0.f + by_
          omega)
      rw [hlist] at hspl
      have ho6' : Own w6 w.heap.size T.scan_Token 4 q' ((toks (tokF ms (bs tx)) (bs tx).length 0).map Tok.cells).flatten := by
        rw [← hlist]
        simpa [List.append_assoc] using ho6
      refine hj8 q' w6 ⟨(k5.no).trans (k56.mono fun b _ h => .inr h), k56.blk (k35.blk0 hobj) (fun h => by omega), ho6'.readsC (by omega) Tok.lens fun b hb h => ?_, ho6'.cap, own_nil ho6', fun c hc => (ho6'.ge hc).2, hspl⟩
      have hge := (ho6'.ge hb).1
      rcases h with h | h
      · omega
      · rcases hq6 b hb with h2 | h2
        · exact hqb _ h2.1 h
        · have := k35.size; omega
end
end Go.Fk
end

section
set_option linter.unusedVariables false
namespace Go.Fk
open Go Go.MapKept

theorem tok_eq {x y : Tok} : ((x.c == y.c) && ((x.f == y.f) && ((x.t == y.t) && (x.l == y.l)))) = true ↔ x = y := by
  simp only [Bool.and_eq_true, beq_iff_eq]
  constructor
  · rintro ⟨h1, h2, h3, h4⟩
    cases x; cases y
    simp only at h1 h2 h3 h4
    subst h1; subst h2; subst h3; subst h4; rfl
  · rintro rfl; exact ⟨rfl, rfl, rfl, rfl⟩

theorem same_spec {M M' : Nat → Prop} {w : World} {a b : Sl} {xs ys : List Tok} (ha : SlTok (V M w) a xs) (hb : SlTok (V M' w) b ys) (hlen : xs.length ≤ 1000000000) {K : Bool → World → Prop} (hK : ∀ r w', Keeps No w w' → (r = true ↔ xs = ys) → K r w') : frisketlaw10_same.C a b w K := by
  have han : a.n = xs.length := by simpa using ha.1
  have hbn : b.n = ys.length := by simpa using hb.1
  refine frisketlaw10_same.ok _ _ _ _ ?_
  simp only [frisketlaw10_same.M]
  refine Br.mk (fun e => hK _ w .refl ⟨fun h => (by cases h), fun h => ?_⟩) (fun e => ?_)
  · subst h
    rw [han, hbn] at e
    simp at e
  have hl : xs.length = ys.length := by
    have : (a.n : Int) = (b.n : Int) := by simpa using e
    omega
  refine Loop.mk (fun t w' => Keeps No w w' ∧ ∃ k : Nat, t = k ∧ k ≤ xs.length ∧ xs.take k = ys.take k) (fun t => xs.length - t.toNat) ⟨.refl, 0, rfl, by omega, by simp⟩ ?_
  rintro t w1 ⟨k1, k, rfl, hk, hp⟩ R hR
  refine Br.mk (fun e => ?_) (fun e => ?_)
  · have e : k < xs.length := by have := of_decide_eq_true e; omega
    refine Draw.kp fun w2 e2 k2 => ?_
    have k02 := k1.trans k2
    refine IdxS.tok (ha.mono (V.keeps0 k02)) (by omega) (by omega) fun x p hx hp1 => hp1.ldK ?_
    refine IdxS.tok (hb.mono (V.keeps0 k02)) (by omega) (by omega) fun y q hy hq1 => hq1.ldK ?_
    simp only [Int.toNat_natCast] at hx hy
    refine Br.mk (fun e3 => hK _ w2 k02 ⟨fun h => (by cases h), fun h => ?_⟩) (fun e3 => ?_)
    · subst h
      rw [hx] at hy; cases hy
      rw [tok_eq.2 rfl] at e3; cases e3
    · have e3 : ((x.c == y.c) && ((x.f == y.f) && ((x.t == y.t) && (x.l == y.l)))) = true := by simpa using e3
      have hxy := tok_eq.1 e3
      subst hxy
      rw [w64_eq (by omega)]
      refine hR _ _ ⟨k02, k + 1, by omega, by omega, ?_⟩ (by omega)
      rw [List.take_add_one, List.take_add_one, hp, hx, hy]
  · have e : k = xs.length := by have := of_decide_eq_false e; omega
    subst e
    rw [List.take_length, hl, List.take_length] at hp
    exact hK _ w1 k1 ⟨fun _ => hp, fun _ => rfl⟩

/-! ## The document's example -/

def exCs2 : List Cls := [cId, cWs]
theorem rules_ex2 : ∀ i, i < exCs2.length → RuleOK exCs2 i := by
  obtain ⟨f0, p0, h0⟩ := pId
  obtain ⟨f2, p2, h2⟩ := pWs
  intro i hi
  rcases i with _ | _ | i
  · exact rule_plus (c := cId) rfl (nameOK_of (by decide) (by decide) (by decide)) (fun j c' hj => by omega) p0 (b := 97) (h0 97 (by omega))
  · refine rule_plus (c := cWs) rfl (nameOK_of (by decide) (by decide) (by decide)) (fun j c' hj hc' => ?_) p2 (b := 32) (h2 32 (by omega))
    rcases j with _ | j
    · cases hc'; decide
    · omega
  · simp [exCs2] at hi; omega
theorem ys_ex2 : All2 (fun y g => ∃ f, y = plusR f ∧ ∀ c, c < 256 → f c = g c) (ysOf exCs2) [gId, gWs] := by
  obtain ⟨f0, p0, h0⟩ := pId
  obtain ⟨f2, p2, h2⟩ := pWs
  refine .cons ⟨f0, ?_, h0⟩ (.cons ⟨f2, ?_, h2⟩ .nil)
  · unfold reOf; rw [p0]
  · unfold reOf; rw [p2]
theorem small_ex2 : ∀ c ∈ exCs2, Small c.rx ∧ c.n.size ≤ maxLen := by
  intro c hc
  simp only [exCs2, List.mem_cons, List.not_mem_nil, or_false] at hc
  rcases hc with rfl | rfl <;> exact ⟨by unfold Small; decide, by decide⟩

/-- 'ab cd', 'axb cd'. -/
def exT1 : List UInt8 := [97, 98, 32, 99, 100]
def exT2 : List UInt8 := [97, 120, 98, 32, 99, 100]
theorem exTok1 {ms : List LSt} (h : Sound exCs2 ms) : (tokF ms exT1 0).t = 2 ∧ (tokF ms exT1 2).t = 3 ∧ (tokF ms exT1 3).t = 5 := by
  have hm : ∀ s t i, Means (ysOf exCs2) s t i ↔ plusAt [gId, gWs] s t i = true := fun s t i => means_plus ys_ex2
  exact ⟨(h.tok_is (i := 0) (by decide) (r := 0) (z := 2) (LawBest.of (t := 2) (i := 0) (hm _) (by decide) (by decide) (by decide))).2,
    (h.tok_is (i := 2) (by decide) (r := 1) (z := 1) (LawBest.of (t := 1) (i := 1) (hm _) (by decide) (by decide) (by decide))).2,
    (h.tok_is (i := 3) (by decide) (r := 0) (z := 2) (LawBest.of (t := 2) (i := 0) (hm _) (by decide) (by decide) (by decide))).2⟩
theorem exTok2 {ms : List LSt} (h : Sound exCs2 ms) : (tokF ms exT2 0).t = 3 ∧ (tokF ms exT2 3).t = 4 ∧ (tokF ms exT2 4).t = 6 := by
  have hm : ∀ s t i, Means (ysOf exCs2) s t i ↔ plusAt [gId, gWs] s t i = true := fun s t i => means_plus ys_ex2
  exact ⟨(h.tok_is (i := 0) (by decide) (r := 0) (z := 3) (LawBest.of (t := 3) (i := 0) (hm _) (by decide) (by decide) (by decide))).2,
    (h.tok_is (i := 3) (by decide) (r := 1) (z := 1) (LawBest.of (t := 1) (i := 1) (hm _) (by decide) (by decide) (by decide))).2,
    (h.tok_is (i := 4) (by decide) (r := 0) (z := 2) (LawBest.of (t := 2) (i := 0) (hm _) (by decide) (by decide) (by decide))).2⟩
theorem toks_ex1 {ms : List LSt} (h : Sound exCs2 ms) : toksOf ms exT1 = [tokF ms exT1 0, tokF ms exT1 2, tokF ms exT1 3] := by
  obtain ⟨h1, h2, h3⟩ := exTok1 h
  have g := goes_tok (ms := ms) (s := exT1)
  unfold toksOf
  rw [toks_step g (by decide), h1, show ((2 : Int)).toNat = 2 from rfl, toks_step g (by decide), h2, show ((3 : Int)).toNat = 3 from rfl, toks_step g (by decide), h3, toks_end (by decide)]
theorem toks_ex2 {ms : List LSt} (h : Sound exCs2 ms) : toksOf ms exT2 = [tokF ms exT2 0, tokF ms exT2 3, tokF ms exT2 4] := by
  obtain ⟨h1, h2, h3⟩ := exTok2 h
  have g := goes_tok (ms := ms) (s := exT2)
  unfold toksOf
  rw [toks_step g (by decide), h1, show ((3 : Int)).toNat = 3 from rfl, toks_step g (by decide), h2, show ((4 : Int)).toNat = 4 from rfl, toks_step g (by decide), h3, toks_end (by decide)]

theorem ScanV.away {w w' : World} {s : Option Addr} {cs : List Cls} {N : Nat} {ms : List LSt} {of_ : Nat → Int} {bt : Nat} (h : ScanV (V No w) s cs N ms of_) (k : Keeps No w w') (hb : w.heap.size ≤ bt) : ScanV (V (· = bt) w') s cs N ms of_ :=
  h.mono (V.move k (fun _ _ h => h.elim) fun b hb' h => by have : b = bt := h; omega)

theorem awake10_spec {w : World} {K : Bool → World → Prop} (hK : ∀ w', Keeps No w w' → K true w') : frisketlaw10_awake.C w K := by
  refine frisketlaw10_awake.ok _ _ ?_
  simp only [frisketlaw10_awake.M]
  refine Al.mk fun b1 w1 n1 => ?_
  have hcl : SlCls (V No w1) ⟨some ⟨b1, 0, none⟩, 2, 2⟩ exCs2 := cells_cls (cs := exCs2) rfl ⟨id, n1.at_⟩
  refine New_ok hcl (by decide) (by simp [exCs2]) small_ex2 rules_ex2 (by rw [cnt_plus ys_ex2]; decide) fun s ms w2 k2 ⟨N, of_, hs⟩ hS => ?_
  dsimp only
  refine relex_New_spec hs (by decide) fun bt l w3 k3 hbt ht => ?_
  dsimp only
  have hT1 : bs (⟨#[97, 98, 32, 99, 100]⟩ : ByteArray) = exT1 := rfl
  have hspl : splT ⟨#[97, 98, 32, 99, 100]⟩ ⟨#[120]⟩ 1 1 = (⟨#[97, 120, 98, 32, 99, 100]⟩ : ByteArray) := by decide +kernel
  have hT2 : bs (⟨#[97, 120, 98, 32, 99, 100]⟩ : ByteArray) = exT2 := rfl
  refine relex_Splice_spec (from_ := 1) (to_ := 1) (hs.away k3 hbt) ht (by omega) (by decide) (by decide) (by rw [hT1, toks_ex1 hS]; simp) fun l' first m w4 k4 ht4 hsp => ?_
  rw [hspl, hT1, hT2] at hsp
  rw [hspl, hT2] at ht4
  obtain ⟨a1, a2, a3⟩ := exTok1 hS
  obtain ⟨c1, c2, c3⟩ := exTok2 hS
  have e1 := toks_ex1 hS
  have e2 := toks_ex2 hS
  have g1 : ∀ i, i < 5 → (tokF ms exT1 i).f = i ∧ (tokF ms exT1 i).t ≤ (tokF ms exT1 i).l := fun i hi => by have := tok_bounds (ms := ms) (s := exT1) (i := i) hi; exact ⟨this.1, this.2.2.2.1⟩
  have g2 : ∀ i, i < 6 → (tokF ms exT2 i).f = i := fun i hi => (tok_bounds (ms := ms) (s := exT2) (i := i) hi).1
  rw [e1, e2] at hsp
  have hfirst : first = 0 := by
    refine Nat.eq_zero_of_not_pos fun h => ?_
    obtain ⟨h1, h2⟩ := hsp.head 0 (tokF ms exT2 0) h rfl
    have h1 : tokF ms exT1 0 = tokF ms exT2 0 := by simpa using h1
    rw [← h1] at h2
    have := (g1 0 (by omega)).2
    omega
  subst hfirst
  have hm : m = 1 := by
    have hle := hsp.le.2.1
    simp at hle
    rcases m with _ | _ | m
    · obtain ⟨_, y, _, _, h⟩ := hsp.tail 0 (tokF ms exT2 0) (by omega) rfl
      have := g2 0 (by omega)
      omega
    · rfl
    · refine absurd ?_ (hsp.fresh 1 (tokF ms exT2 3) (by omega) (by omega) rfl)
      have hy := g2 3 (by omega)
      have hy1 := (g1 2 (by omega)).1
      have hsz1 : (⟨#[120]⟩ : ByteArray).size = 1 := rfl
      refine ⟨?_, ?_, 1, tokF ms exT1 2, by omega, rfl, ?_⟩ <;> rw [hy] <;> rw [hsz1] <;> omega
  subst hm
  refine AlSt2 fun b2 w7 n7 => ?_
  have ht7 := ht4.keep n7.keeps
  simp only [beq_self_eq_true, Br_true]
  refine Ld2i n7.at_ ?_
  simp only [show (((0 : Nat) : Int) == 0) = true from rfl, show (((1 : Nat) : Int) == 1) = true from rfl, Bool.and_self, Br_true]
  refine relex_Text_spec ht7 ?_
  simp only [beq_self_eq_true, Br_true]
  refine relex_Tokens_spec ht7 (by rw [e2]; simp) fun l8 w8 k8 ho => ?_
  have hl8 := ho.len
  rw [e2] at hl8
  have hn8 : l8.n = 3 := by simp [Tok.cells] at hl8; omega
  rw [hn8]
  have k04 : Keeps No w w4 := ((n1.keeps.trans k2).trans k3).no.then k4 fun b hb h => by have : b = bt := h; have := (n1.keeps.trans k2).size; omega
  exact hK w8 ((k04.trans n7.keeps).trans k8)

theorem RelexNone_spec {w : World} {a b : Int} {with_ : ByteArray} {K : Bool → World → Prop} (hK : ∀ w', Keeps No w w' → K true w') : frisketlaw10_RelexNone.C a b with_ w K := by
  refine frisketlaw10_RelexNone.ok _ _ _ _ _ ?_
  simp only [frisketlaw10_RelexNone.M]
  refine Join.cut (fun b w1 => Keeps No w w1) ?_ ?_
  · rintro b w1 k1
    refine Br.mk (fun _ => awake10_spec fun w2 k2 => hK w2 (k1.trans k2)) (fun _ => ?_)
    refine relex_New_none (relex_Splice_none fun w2 k2 => AlSt2 fun b2 w3 n3 => relex_At_none fun w4 k4 => AlSt4 fun b3 w5 n5 => ?_)
    simp only [Option.isNone_none, beq_self_eq_true, Br_true]
    refine Ld2i (n5.keeps.blk0 (k4.blk0 n3.at_)) ?_
    simp only [beq_self_eq_true, Bool.and_self, Br_true, Bool.not_false]
    refine relex_Text_none ?_
    simp only [beq_self_eq_true, Br_true]
    refine relex_Tokens_none ?_
    simp only [show (((0 : Nat) : Int) == 0) = true from rfl, Br_true]
    refine relex_Scanned_none ?_
    exact hK w5 ((((k1.trans k2).trans n3.keeps).trans k4).trans n5.keeps)
  · intro j hj
    exact Br.mk (fun _ => hj _ _ .refl) (fun _ => awake10_spec fun w1 k1 => hj _ _ k1)

/-- Scanner and tape of small classes and a text. -/
theorem bad_ne {cs : List Cls} {i : Nat} {e : Int} (hb : BadAt cs i e) : (e != (0 : Int)) = true := by
  obtain ⟨c, _, h⟩ := hb
  rcases h with ⟨rfl, _⟩ | ⟨h1, rfl⟩ | ⟨rfl, _⟩
  · rfl
  · simp; omega
  · rfl

theorem RelexAt_spec {M : Nat → Prop} {w : World} {l : Sl} {cs : List Cls} {text : ByteArray} {place : Int} {K : Bool → World → Prop} (hl : SlCls (V M w) l cs) (hlen : cs.length ≤ 1048576) (hsz : ∀ c ∈ cs, c.rx.size ≤ 1048576 ∧ c.n.size ≤ 1048576)
    (hK : ∀ w', Keeps No w w' → K true w') : frisketlaw10_RelexAt.C l text place w K := by
  have hbs := size_bs text
  refine frisketlaw10_RelexAt.ok _ _ _ _ _ ?_
  simp only [frisketlaw10_RelexAt.M]
  refine Join.cut (fun b w1 => Keeps No w w1 ∧ (b = false → Few cs ∧ text.size ≤ 100)) ?_ ?_
  rotate_left
  · intro j hj
    refine Great09_spec hl hlen hsz fun n w1 k1 hn => ?_
    refine Br.mk (fun _ => hj _ _ ⟨k1, fun e => (by cases e)⟩) (fun hf => Br.mk (fun _ => hj _ _ ⟨k1, fun e => (by cases e)⟩) (fun hf2 => ?_))
    refine awake10_spec fun w2 k2 => hj _ _ ⟨k1.trans k2, fun _ => ⟨hn (of_decide_eq_false hf), ?_⟩⟩
    have := of_decide_eq_false hf2
    omega
  rintro b w1 ⟨k1, hb⟩
  refine Br.mk (fun _ => awake10_spec fun w2 k2 => hK w2 (k1.trans k2)) (fun hbf => ?_)
  obtain ⟨hfew, h24⟩ := hb hbf
  have hfl := hfew.1
  refine scan_New_spec (hl.mono (V.keeps0 k1)) (by omega) hfew.small (fun _ => hK w1 k1) (fun i e w4 k4 hi _ hb' => ?_) (fun w4 k4 _ _ _ => hK w4 (k1.trans k4)) (fun s ms w3 k3 ⟨N, of_, hs⟩ hS => ?_)
  · dsimp only
    rw [bad_ne hb', Br_true]
    exact hK w4 (k1.trans k4)
  dsimp only
  rw [bne_self_eq_false, Br_false]
  refine relex_New_spec hs (by omega) fun bt lt w4 k4 hbt ht => ?_
  have k04 := (k1.trans k3).trans k4
  have htl := toks_len (ms := ms) (s := bs text)
  obtain ⟨pos, hp⟩ := posOf ms (bs text)
  dsimp only
  -- what At answers
  have main : ∀ (x : Tok) (ok : Bool) w5, Keeps No w4 w5 → ((ok = false ∧ x = ⟨0, 0, 0, 0⟩ ∧ ¬ (0 ≤ place ∧ place < text.size)) ∨ (ok = true ∧ ∃ i, (toksOf ms (bs text))[i]? = some x ∧ x.f ≤ place ∧ place < x.t ∧ ∀ (j : Nat) (y : Tok), j < i → (toksOf ms (bs text))[j]? = some y → y.t ≤ place)) →
      Al (.cells #[.int .i64 0, .int .i64 0, .int .i64 0, .int .i64 0] T.scan_Token (0, 0)) w5 fun b2 w6 => St ⟨b2, 0, none⟩ (.int .i64 x.c) w6 fun w7 => St ⟨b2, 1, none⟩ (.int .i64 x.f) w7 fun w8 => St ⟨b2, 2, none⟩ (.int .i64 x.t) w8 fun w9 => St ⟨b2, 3, none⟩ (.int .i64 x.l) w9 fun w10 => relex_Tape_Tokens.C (some ⟨bt, 0, none⟩) w10 fun x52 w11 => Loop (fun (s3 : Int) w12 again4 => Br (decide (s3 < (x52.n : Int))) (Join (fun (s5 : Bool) w13 => Br s5 (Draw w13 fun S6 w14 => Br ok (LdS S6 (.int .i64) (⟨b2, 0, none⟩) fun x77_0 => LdS S6 (.int .i64) (⟨b2, 1, none⟩) fun x77_1 => LdS S6 (.int .i64) (⟨b2, 2, none⟩) fun x77_2 => LdS S6 (.int .i64) (⟨b2, 3, none⟩) fun x77_3 => IdxS x52 s3 4 fun p80 => LdS S6 (.int .i64) p80 fun x81_0 => LdS S6 (.int .i64) (p80.add 1) fun x81_1 => LdS S6 (.int .i64) (p80.add 2) fun x81_2 => LdS S6 (.int .i64) (p80.add 3) fun x81_3 => K ((x77_0 == x81_0) && ((x77_1 == x81_1) && ((x77_2 == x81_2) && (x77_3 == x81_3)))) w14) (K false w14)) (again4 (w64 (s3 + (1 : Int))) w13)) fun j7 => IdxS x52 s3 4 fun p61 => Ld (.int .i64) (p61.add 1) w12 fun x63 => Br (decide (x63 ≤ place)) (IdxS x52 s3 4 fun p69 => Ld (.int .i64) (p69.add 2) w12 fun x71 => j7 (decide (place < x71)) w12) (j7 false w12)) (Br (!ok) (Ld (.int .i64) (⟨b2, 0, none⟩) w12 fun x87_0 => Ld (.int .i64) (⟨b2, 1, none⟩) w12 fun x87_1 => Ld (.int .i64) (⟨b2, 2, none⟩) w12 fun x87_2 => Ld (.int .i64) (⟨b2, 3, none⟩) w12 fun x87_3 => Br ((x87_0 == (0 : Int)) && ((x87_1 == (0 : Int)) && ((x87_2 == (0 : Int)) && (x87_3 == (0 : Int))))) (Br (decide (place < (0 : Int))) (K true w12) (K (decide ((text.size : Int) ≤ place)) w12)) (K false w12)) (K false w12))) 0 w11 := by
    intro x ok w5 k5 hx
    refine AlSt4 fun b2 w10 n10 => ?_
    have k410 := k5.trans n10.keeps
    refine relex_Tokens_spec (ht.keep k410) (by omega) fun lt2 w11 k11 ho => ?_
    have hv : SlTok (V No w11) lt2 (toksOf ms (bs text)) := ho.readsC (by omega) Tok.lens fun _ _ h => h
    have hvn : lt2.n = (toksOf ms (bs text)).length := by simpa using hv.1
    have hb2 := k11.blk0 n10.at_
    have k011 := k04.trans (k410.trans k11)
    refine Loop.mk (fun t w' => Keeps No w11 w' ∧ ∃ k : Nat, t = k ∧ k ≤ (toksOf ms (bs text)).length ∧ ∀ (j : Nat) (y : Tok), j < k → (toksOf ms (bs text))[j]? = some y → ¬ (y.f ≤ place ∧ place < y.t)) (fun t => (toksOf ms (bs text)).length - t.toNat) ⟨.refl, 0, rfl, by omega, fun j y h => by omega⟩ ?_
    rintro t w12 ⟨k12, k, rfl, hk, hno⟩ R hR
    refine Br.mk (fun e => ?_) (fun e => ?_)
    · have e : k < (toksOf ms (bs text)).length := by have := of_decide_eq_true e; omega
      have hv12 := hv.mono (V.keeps0 k12)
      have hxk := List.getElem?_eq_getElem e
      generalize (toksOf ms (bs text))[k] = y at hxk
      have one : ∀ {y' : Tok}, (toksOf ms (bs text))[(k : Int).toNat]? = some y' → y' = y := fun {y'} h => by rw [Int.toNat_natCast, hxk] at h; cases h; rfl
      refine Join.cut (fun b w' => w' = w12 ∧ (b = true ↔ (y.f ≤ place ∧ place < y.t))) ?_ ?_
      · rintro b w13 ⟨rfl, hb⟩
        refine Br.mk (fun e2 => ?_) (fun e2 => ?_)
        · obtain ⟨g1, g2⟩ := hb.1 e2
          refine Draw.kp fun w14 e14 k14 => ?_
          have hyb := hp.at_ k y hxk
          rcases hx with ⟨rfl, _, hout⟩ | ⟨rfl, i, hi, h1, h2, h3⟩
          · exfalso
            have := (hp.drop (k + 1) (by omega)).1
            omega
          · have hik : i = k := by
              rcases Nat.lt_trichotomy i k with h | h | h
              · exact absurd ⟨h1, h2⟩ (hno i x h hi)
              · exact h
              · have := h3 k y h hxk; omega
            subst hik
            rw [hxk] at hi; cases hi
            rw [Br_true]
            have hb14 := (k12.trans k14).blk0 hb2
            refine LdK.int (cell_of hb14 rfl) (LdK.int (cell_of hb14 rfl) (LdK.int (cell_of hb14 rfl) (LdK.int (cell_of hb14 rfl) ?_)))
            refine IdxS.tok (hv12.mono (V.keeps0 k14)) (by omega) (by omega) fun y' p hy' hp' => hp'.ldK ?_
            rw [one hy', tok_eq.2 rfl]
            exact hK w14 (k011.trans (k12.trans k14))
        · rw [w64_eq (by omega)]
          refine hR _ _ ⟨k12, k + 1, by omega, by omega, fun j y' hj hy' => ?_⟩ (by omega)
          by_cases hjk : j = k
          · subst hjk
            rw [hxk] at hy'; cases hy'
            intro h
            rw [hb.2 h] at e2; cases e2
          · exact hno j y' (by omega) hy'
      · intro j hj
        refine IdxS.tok hv12 (by omega) (by omega) fun y' p hy' hp' => Ld.int hp'.f ?_
        rw [one hy']
        refine Br.mk (fun e2 => ?_) (fun e2 => hj _ _ ⟨rfl, ⟨fun h => (by cases h), fun h => absurd h.1 (of_decide_eq_false e2)⟩⟩)
        refine IdxS.tok hv12 (by omega) (by omega) fun y' p hy' hp' => Ld.int hp'.t (hj _ _ ⟨rfl, ?_⟩)
        rw [one hy', decide_eq_true_eq]
        exact ⟨fun h => ⟨of_decide_eq_true e2, h⟩, fun h => h.2⟩
    · have e : k = (toksOf ms (bs text)).length := by have := of_decide_eq_false e; omega
      subst e
      rcases hx with ⟨rfl, rfl, hout⟩ | ⟨rfl, i, hi, h1, h2, h3⟩
      · rw [Bool.not_false, Br_true]
        refine Ld4i (k12.blk0 hb2) ?_
        simp only [beq_self_eq_true, Bool.and_self, Br_true]
        refine Br.mk (fun e2 => hK w12 (k011.trans k12)) (fun e2 => ?_)
        have e2 := of_decide_eq_false e2
        have : decide ((text.size : Int) ≤ place) = true := by rw [decide_eq_true_eq]; omega
        rw [this]
        exact hK w12 (k011.trans k12)
      · exact absurd ⟨h1, h2⟩ (hno i x (List.getElem?_eq_some_iff.1 hi).1 hi)
  refine relex_At_spec ht (by omega) (fun hout w5 k5 => main ⟨0, 0, 0, 0⟩ false w5 k5 (.inl ⟨rfl, rfl, hout⟩)) (fun i x w5 k5 h0 h1 hi hlt hlo => main x true w5 k5 (.inr ⟨rfl, i, hi, ?_, hlt, hlo⟩))
  have hx := hp.at_ i x hi
  rw [hx.2.1]
  rcases i with _ | i
  · rw [hp.zero]; exact h0
  · have hy := List.getElem?_eq_getElem (l := toksOf ms (bs text)) (i := i) (by have := (List.getElem?_eq_some_iff.1 hi).1; omega)
    have h3 := hlo i _ (by omega) hy
    have h4 := (hp.at_ i _ hy).2.2.1
    omega

theorem RelexSame_spec {M : Nat → Prop} {w : World} {l : Sl} {cs : List Cls} {text : ByteArray} {p0 q0 : Nat} {K : Bool → World → Prop} (hl : SlCls (V M w) l cs) (ha : p0 < 256) (hq : q0 < 256) (hlen : cs.length ≤ 1048576) (hsz : ∀ c ∈ cs, c.rx.size ≤ 1048576 ∧ c.n.size ≤ 1048576)
    (hK : ∀ w', Keeps No w w' → K true w') : frisketlaw10_RelexSame.C l text p0 q0 w K := by
  have hbs := size_bs text
  refine frisketlaw10_RelexSame.ok _ _ _ _ _ _ ?_
  simp only [frisketlaw10_RelexSame.M]
  refine Join.cut (fun b w1 => Keeps No w w1 ∧ (b = false → Few cs ∧ text.size ≤ 100)) ?_ ?_
  rotate_left
  · intro j hj
    refine Great09_spec hl hlen hsz fun n w1 k1 hn => ?_
    refine Br.mk (fun _ => hj _ _ ⟨k1, fun e => (by cases e)⟩) (fun hf => Br.mk (fun _ => hj _ _ ⟨k1, fun e => (by cases e)⟩) (fun hf2 => ?_))
    refine awake10_spec fun w2 k2 => hj _ _ ⟨k1.trans k2, fun _ => ⟨hn (of_decide_eq_false hf), ?_⟩⟩
    have := of_decide_eq_false hf2
    omega
  rintro b w1 ⟨k1, hb⟩
  refine Br.mk (fun _ => awake10_spec fun w2 k2 => hK w2 (k1.trans k2)) (fun hbf => ?_)
  obtain ⟨hfew, h24⟩ := hb hbf
  have hfl := hfew.1
  refine scan_New_spec (hl.mono (V.keeps0 k1)) (by omega) hfew.small (fun _ => hK w1 k1) (fun i e w4 k4 hi _ hb' => ?_) (fun w4 k4 _ _ _ => hK w4 (k1.trans k4)) (fun s ms w3 k3 ⟨N, of_, hs⟩ hS => ?_)
  · dsimp only
    rw [bad_ne hb', Br_true]
    exact hK w4 (k1.trans k4)
  dsimp only
  rw [bne_self_eq_false, Br_false]
  refine relex_New_spec hs (by omega) fun bt lt w4 k4 hbt ht => ?_
  have k04 := (k1.trans k3).trans k4
  have htl := toks_len (ms := ms) (s := bs text)
  dsimp only
  have e1 : w64 ((text.size : Int) + 1) = ((text.size + 1 : Nat) : Int) := by rw [w64_eq (by omega)]; omega
  have e2 : w64 (p0 : Int) = (p0 : Int) := w64_eq (by omega)
  have e3 : w64 (q0 : Int) = (q0 : Int) := w64_eq (by omega)
  rw [e1, e2, e3]
  have e4 : Int.tmod (p0 : Int) ((text.size + 1 : Nat) : Int) = ((p0 % (text.size + 1) : Nat) : Int) := (Int.ofNat_tmod _ _).symm
  rw [e4]
  have hx : p0 % (text.size + 1) < text.size + 1 := Nat.mod_lt _ (by omega)
  generalize p0 % (text.size + 1) = x at *
  have e5 : w64 ((text.size : Int) - (x : Int)) = ((text.size - x : Nat) : Int) := by rw [w64_eq (by omega)]; omega
  rw [e5]
  have e6 : w64 (((text.size - x : Nat) : Int) + 1) = ((text.size - x + 1 : Nat) : Int) := by rw [w64_eq (by omega)]; omega
  rw [e6]
  have e7 : Int.tmod (q0 : Int) ((text.size - x + 1 : Nat) : Int) = ((q0 % (text.size - x + 1) : Nat) : Int) := (Int.ofNat_tmod _ _).symm
  rw [e7]
  have hy : q0 % (text.size - x + 1) < text.size - x + 1 := Nat.mod_lt _ (by omega)
  generalize q0 % (text.size - x + 1) = y at *
  have e8 : w64 ((x : Int) + (y : Int)) = ((x + y : Nat) : Int) := by rw [w64_eq (by omega)]; omega
  rw [e8]
  refine ⟨by omega, by omega, ?_⟩
  refine relex_Tokens_spec ht (by omega) fun was w5 k5 ho5 => ?_
  refine App.mid (by omega) (by omega) ?_
  have hsx : (text.extract x (x + y)).size = y := by
    have := size_bs (text.extract x (x + y))
    rw [bs_cut, List.length_take, List.length_drop] at this; omega
  have hspl : splT text (text.extract x (x + y)) x (x + y) = text := by
    apply bs_inj
    rw [splT_bs, bs_cut, Nat.add_sub_cancel_left, List.append_assoc]
    have : ((bs text).drop x).take y ++ (bs text).drop (x + y) = (bs text).drop x := by
      rw [← List.drop_drop, List.take_append_drop]
    rw [this, List.take_append_drop]
  have ht5 := ht.keep k5
  refine relex_Splice_spec (from_ := x) (to_ := x + y) (hs.away (k4.trans k5) (by omega)) ht5 (by omega) (by omega) (by omega) (by omega) fun l' first m w6 k6 ht6 _ => ?_
  rw [hspl] at ht6
  have k06 : Keeps No w w6 := (k04.trans k5).no.then k6 fun b hb h => by have : b = bt := h; have := (k1.trans k3).size; omega
  refine AlSt2 fun b2 w7 n7 => ?_
  rw [beq_self_eq_true, Br_true]
  have ht7 := ht6.keep n7.keeps
  refine relex_Text_spec ht7 ?_
  rw [strEq.2 rfl, Br_true]
  refine relex_Tokens_spec ht7 (by omega) fun now w8 k8 ho8 => ?_
  have hw : ∀ b, was.blk b → b < w5.heap.size ∧ w4.heap.size ≤ b := fun b hb => ⟨(ho5.ge hb).2, (ho5.ge hb).1⟩
  have hbtlt := lt_of_some ht.obj
  have ho58 : Own w8 w4.heap.size T.scan_Token 4 was ((toksOf ms (bs text)).map Tok.cells).flatten := ((ho5.keep k6 fun b hb h => by have := (hw b h).2; have : b = bt := hb; omega).keep0 n7.keeps).keep0 k8
  refine same_spec (M := No) (M' := No) (ho8.readsC (by omega) Tok.lens fun _ _ h => h) (ho58.readsC (by omega) Tok.lens fun _ _ h => h) (by omega) fun r w9 k9 hr => ?_
  rw [hr.2 rfl]
  exact hK w9 (((k06.trans n7.keeps).trans k8).trans k9)
end Go.Fk
end

section
set_option linter.unusedVariables false
namespace Go.Fk
open Go Go.MapKept

structure Ed where
  f : Int
  t : Int
  s : ByteArray
def Ed.cells (x : Ed) : List Value := [.int .i64 x.f, .int .i64 x.t, .string x.s]
abbrev SlEd (H : View) (l : Sl) (es : List Ed) : Prop := SlC H l 3 (es.map Ed.cells)
structure EdC (w : World) (p : Addr) (x : Ed) : Prop where
  f : w.cell? p = some (.int .i64 x.f)
  t : w.cell? (p.add 1) = some (.int .i64 x.t)
  s : w.cell? (p.add 2) = some (.string x.s)
theorem IdxS.ed {M : Nat → Prop} {w : World} {l : Sl} {xs : List Ed} {i : Int} {K : Addr → Prop} (h : SlEd (V M w) l xs) (h0 : 0 ≤ i) (h1 : i < xs.length)
    (hk : ∀ x p, xs[i.toNat]? = some x → EdC w p x → K p) : IdxS l i 3 K := by
  refine IdxS.recd (M := M) h h0 (by simpa using h1) fun g off c hc hcell => ?_
  rw [List.getElem?_map] at hc
  obtain ⟨x, hx, rfl⟩ := Option.map_eq_some_iff.1 hc
  refine hk x _ hx ⟨?_, ?_, ?_⟩
  · exact hcell 0 _ rfl
  · rw [add_eq]; exact hcell 1 _ rfl
  · rw [add_eq]; exact hcell 2 _ rfl

theorem great10_spec {M : Nat → Prop} {w : World} {text : ByteArray} {l : Sl} {es : List Ed} {K : Bool → World → Prop} (hl : SlEd (V M w) l es) (hlen : es.length ≤ 1048576)
    (hK : ∀ r, (r = false → es.length ≤ 20 ∧ text.size ≤ 100 ∧ ∀ e ∈ es, e.s.size ≤ 30) → K r w) : frisketlaw10_great.C text l w K := by
  have hn : l.n = es.length := by simpa using hl.1
  refine frisketlaw10_great.ok _ _ _ _ ?_
  simp only [frisketlaw10_great.M]
  refine Loop.mk (fun t w' => w' = w ∧ ∃ k : Nat, t = k ∧ k ≤ es.length ∧ ∀ e ∈ es.take k, e.s.size ≤ 30) (fun t => es.length - t.toNat) ⟨rfl, 0, rfl, by omega, by simp⟩ ?_
  rintro t w' ⟨rfl, k, rfl, hk, hp⟩ R hR
  refine Br.mk (fun e => ?_) (fun e => ?_)
  · have e : k < es.length := by have := of_decide_eq_true e; omega
    refine IdxS.ed hl (by omega) (by omega) fun x p hx hxp => Ld.str hxp.s (Br.mk (fun _ => hK true fun h => (by cases h)) (fun e2 => ?_))
    have e2 := of_decide_eq_false e2
    rw [Int.toNat_natCast] at hx
    rw [w64_eq (by omega)]
    refine hR _ _ ⟨rfl, k + 1, by omega, by omega, fun e he => ?_⟩ (by omega)
    rw [List.take_add_one, hx] at he
    rcases List.mem_append.1 he with he | he
    · exact hp e he
    · simp at he; subst he; omega
  · have e : k = es.length := by have := of_decide_eq_false e; omega
    subst e
    rw [List.take_length] at hp
    refine Br.mk (fun _ => hK true fun h => (by cases h)) (fun e2 => hK _ fun h => ?_)
    have e2 := of_decide_eq_false e2
    have h := of_decide_eq_false h
    exact ⟨by omega, by omega, hp⟩

set_option maxHeartbeats 1000000 in
theorem RelexEdits_spec {M M' : Nat → Prop} {w : World} {l l2 : Sl} {cs : List Cls} {text : ByteArray} {es : List Ed} {K : Bool → World → Prop} (hl : SlCls (V M w) l cs) (hle : SlEd (V M' w) l2 es) (hlen : cs.length ≤ 1048576) (hsz : ∀ c ∈ cs, c.rx.size ≤ 1048576 ∧ c.n.size ≤ 1048576) (hel : es.length ≤ 1048576)
    (hK : ∀ w', Keeps No w w' → K true w') : frisketlaw10_RelexEdits.C l text l2 w K := by
  have hen : l2.n = es.length := by simpa using hle.1
  refine frisketlaw10_RelexEdits.ok _ _ _ _ _ ?_
  simp only [frisketlaw10_RelexEdits.M]
  refine Join.cut (fun b w1 => Keeps No w w1 ∧ (b = false → Few cs ∧ es.length ≤ 20 ∧ text.size ≤ 100 ∧ ∀ e ∈ es, e.s.size ≤ 30)) ?_ ?_
  rotate_left
  · intro j hj
    refine Great09_spec hl hlen hsz fun n w1 k1 hn => ?_
    refine Br.mk (fun _ => hj _ _ ⟨k1, fun e => (by cases e)⟩) (fun hf => great10_spec (hle.mono (V.keeps0 k1)) hel fun r hr => Br.mk (fun _ => hj _ _ ⟨k1, fun e => (by cases e)⟩) (fun hf2 => ?_))
    exact awake10_spec fun w2 k2 => hj _ _ ⟨k1.trans k2, fun _ => ⟨hn (of_decide_eq_false hf), hr hf2⟩⟩
  rintro b w1 ⟨k1, hb⟩
  refine Br.mk (fun _ => awake10_spec fun w2 k2 => hK w2 (k1.trans k2)) (fun hbf => ?_)
  obtain ⟨hfew, he20, h100, h30⟩ := hb hbf
  have hfl := hfew.1
  refine scan_New_spec (hl.mono (V.keeps0 k1)) (by omega) hfew.small (fun _ => hK w1 k1) (fun i e w4 k4 hi _ hb' => ?_) (fun w4 k4 _ _ _ => hK w4 (k1.trans k4)) (fun s ms w3 k3 ⟨N, of_, hs⟩ hS => ?_)
  · dsimp only
    rw [bad_ne hb', Br_true]
    exact hK w4 (k1.trans k4)
  dsimp only
  rw [bne_self_eq_false, Br_false]
  refine relex_New_spec hs (by omega) fun bt lt0 w4 k4 hbt ht0 => ?_
  dsimp only
  rw [bne_self_eq_false, Br_false]
  have k04 := (k1.trans k3).trans k4
  have hbtw : w.heap.size ≤ bt := by have := (k1.trans k3).size; omega
  have hs4 := hs.away k4 hbt
  have tlen : ∀ t : List UInt8, (toksOf ms t).length ≤ t.length := fun t => toks_len
  have htl0 := tlen (bs text)
  have hbs0 := size_bs text
  refine relex_Tokens_spec ht0 (by omega) fun l57 w5 k5 ho57 => ?_
  have hn57 : l57.n = (toksOf ms (bs text)).length := by have := ho57.len; rw [flatten_len Tok.lens] at this; simp at this; omega
  rw [hn57]
  refine Loop.mk (fun (t : ByteArray × Int × Int) w' => Keeps No w w' ∧ ∃ (i : Nat) (lt : Sl), t.2.2 = (i : Int) ∧ i ≤ es.length ∧ t.1.size ≤ 100 + 30 * i ∧ 0 ≤ t.2.1 ∧ t.2.1 ≤ 100 + 1000 * i ∧ TapeAt w' bt s t.1 lt (toksOf ms (bs t.1)) t.2.1 ∧ ScanV (V (· = bt) w') s cs N ms of_) (fun t => es.length - t.2.2.toNat)
    ⟨k04.trans k5, 0, lt0, rfl, by omega, by dsimp only; omega, by dsimp only; omega, by dsimp only; omega, ht0.keep k5, hs4.mono (V.keeps0 k5)⟩ ?_
  rintro ⟨txt, sc, ti⟩ w6 ⟨k6, i, lt, hti, hi, htx, hsc0, hsc1, ht, hsv⟩ R hR
  dsimp only at hti htx hsc0 hsc1 ht ⊢
  subst hti
  have hbst := size_bs txt
  have htlt := tlen (bs txt)
  refine Br.mk (fun e => ?_) (fun e => hK w6 k6)
  have hlt : i < es.length := by have := of_decide_eq_true e; omega
  have ewi : w64 ((i : Int) + 1) = ((i + 1 : Nat) : Int) := by rw [w64_eq (by omega)]; omega
  refine IdxS.ed (hle.mono (V.keeps0 k6)) (by omega) (by omega) fun x p hx hxp => Ld.int hxp.f (Ld.int hxp.t (Ld.str hxp.s ?_))
  rw [Int.toNat_natCast] at hx
  have hxs := h30 x (List.mem_of_getElem? hx)
  refine AlSt3 fun b4 w10 n10 => ?_
  have e10 := n10.eq; have z10 := n10.size
  refine relex_Tokens_spec (ht.keep n10.keeps) (by omega) fun was w11 k11 hwas => ?_
  have k611 := n10.keeps.trans k11
  have ht11 := ht.keep k611
  have hb4 := k11.blk0 n10.at_
  have z11 := k11.size
  refine Ld.int (cell_of hb4 rfl) (Ld.int (cell_of hb4 rfl) (Ld.str (cell_of hb4 rfl) ?_))
  have hbtlt := lt_of_some ht.obj
  have hwasn : was.n = (toksOf ms (bs txt)).length := by have := hwas.len; rw [flatten_len Tok.lens] at this; simp at this; omega
  by_cases hin : 0 ≤ x.f ∧ x.f ≤ x.t ∧ x.t ≤ txt.size
  rotate_left
  · -- out of range: nothing is changed
    refine relex_Splice_out ht11 hin fun w12 k12 => AlSt2 fun b5 w15 n15 => ?_
    have k615 := (k611.trans k12).trans n15.keeps
    have hb4' := (k12.trans n15.keeps).blk0 hb4
    refine Join.cut (fun b w' => w' = w15 ∧ b = true) ?_ ?_
    · rintro b w16 ⟨rfl, rfl⟩
      rw [Br_true]
      refine Join.cut (fun b w' => Keeps No w16 w' ∧ b = false) ?_ ?_
      · rintro b w17 ⟨k17, rfl⟩
        rw [Br_false, ewi]
        have k67 := k615.trans k17
        exact hR _ _ ⟨k6.trans k67, i + 1, lt, rfl, by omega, by dsimp only; omega, hsc0, by dsimp only; omega, ht.keep k67, hsv.mono (V.keeps0 k67)⟩ (by dsimp only; omega)
      · intro j8 hj8
        refine Ld2i n15.at_ ?_
        simp only [beq_self_eq_true, Bool.and_self, Bool.not_true, Br_false, bne_self_eq_false]
        refine relex_Text_spec (ht.keep k615) ?_
        rw [strEq.2 rfl, Bool.not_true, Br_false]
        refine relex_Tokens_spec (ht.keep k615) (by omega) fun now w19 k19 hnow => ?_
        refine same_spec (M := No) (M' := No) (hnow.readsC (by omega) Tok.lens fun _ _ h => h) ((hwas.keep0 ((k12.trans n15.keeps).trans k19)).readsC (by omega) Tok.lens fun _ _ h => h) (by omega) fun r w20 k20 hr => ?_
        exact hj8 _ _ ⟨k19.trans k20, by rw [hr.2 rfl]; rfl⟩
    · intro j25 hj25
      refine Ld.int (cell_of hb4' rfl) (Br.mk (fun _ => hj25 _ _ ⟨rfl, rfl⟩) (fun e1 => ?_))
      have e1 : ¬ x.f < 0 := of_decide_eq_false e1
      refine Ld.int (cell_of hb4' rfl) (Ld.int (cell_of hb4' rfl) (Br.mk (fun _ => hj25 _ _ ⟨rfl, rfl⟩) (fun e2 => ?_)))
      have e2 : ¬ x.t < x.f := of_decide_eq_false e2
      refine Ld.int (cell_of hb4' rfl) (hj25 _ _ ⟨rfl, ?_⟩)
      show decide ((txt.size : Int) < x.t) = true
      rw [decide_eq_true_eq]; omega
  · obtain ⟨a, ha⟩ : ∃ a : Nat, x.f = a := ⟨x.f.toNat, by omega⟩
    obtain ⟨c, hc⟩ : ∃ c : Nat, x.t = c := ⟨x.t.toNat, by omega⟩
    have hac : a ≤ c := by omega
    have hcs : c ≤ txt.size := by omega
    rw [ha, hc]
    refine relex_Splice_spec (from_ := a) (to_ := c) (hsv.mono (V.keeps0 k611)) ht11 hac hcs (by omega) (by omega) fun l' first m w12 k12 ht12 hsp => ?_
    -- the new text
    have hT' := splT_bs (text := txt) (with_ := x.s) (a := a) (b := c)
    have hbsx := size_bs x.s
    have hN' : (splT txt x.s a c).size = a + x.s.size + (txt.size - c) := by
      rw [size_bs, hT']
      simp only [List.length_append, List.length_take, List.length_drop]
      omega
    have hX : splT txt x.s a c = (txt.extract 0 a ++ x.s) ++ txt.extract c txt.size := rfl
    generalize splT txt x.s a c = txt' at *
    have hbst' := size_bs txt'
    have htlt' := tlen (bs txt')
    generalize hts : toksOf ms (bs txt) = ts at *
    generalize hts' : toksOf ms (bs txt') = ts' at *
    have hspl := hsp.le
    have k1112 : Keeps (· = bt) w11 w12 := k12
    have hwas12 : Own w12 w10.heap.size T.scan_Token 4 was (ts.map Tok.cells).flatten := hwas.keep k12 fun b hb h => by have := (hwas.ge h).1; have : b = bt := hb; omega
    have hb412 : w12.heap[b4]? = _ := k12.blk hb4 (by omega)
    refine AlSt2 fun b5 w15 n15 => ?_
    have e15 := n15.eq; have z15 := n15.size; have z12 := k12.size
    have hb415 := n15.keeps.blk0 hb412
    rw [ha, hc] at hb415
    have ht15 := ht12.keep n15.keeps
    have hwas15 := hwas12.keep0 n15.keeps
    have hsv15 : ScanV (V (· = bt) w15) s cs N ms of_ := hsv.mono ((V.keeps0 k611).trans ((V.keeps k12).trans (V.keeps0 n15.keeps)))
    have k015 : Keeps No w w15 := ((k6.trans k611).no.then k12 fun b hb h => by have : b = bt := h; omega).trans n15.keeps
    refine Join.cut (fun b w' => w' = w15 ∧ b = false) ?_ ?_
    rotate_left
    · intro j25 hj25
      refine Ld.int (cell_of hb415 rfl) (Br.mk (fun e1 => by have e1 : (a : Int) < 0 := of_decide_eq_true e1; omega) (fun e1 => ?_))
      refine Ld.int (cell_of hb415 rfl) (Ld.int (cell_of hb415 rfl) (Br.mk (fun e1 => by have e1 : (c : Int) < (a : Int) := of_decide_eq_true e1; omega) (fun e2 => ?_)))
      refine Ld.int (cell_of hb415 rfl) (hj25 _ _ ⟨rfl, ?_⟩)
      rw [decide_eq_false_iff_not]; omega
    rintro b w16 ⟨rfl, rfl⟩
    rw [Br_false]
    have hx1 : (txt.extract 0 a).size = a := by
      have := size_bs (txt.extract 0 a)
      rw [bs_take, List.length_take] at this; omega
    have hx2 : (txt.extract c txt.size).size = txt.size - c := by
      have := size_bs (txt.extract c txt.size)
      rw [bs_from, List.length_drop] at this; omega
    have hx3 : (txt.extract 0 a ++ x.s).size = a + x.s.size := by rw [size_bs, bs_append, List.length_append, ← size_bs, ← size_bs, hx1]
    have hmax : IntKind.i64.max = 9223372036854775807 := rfl
    refine Join.cut (fun (tx : ByteArray) w' => Keeps No w16 w' ∧ tx = txt') ?_ ?_
    rotate_left
    · intro j23 hj23
      refine Draw.kp fun w39 e39 k39 => ?_
      have hb439 := k39.blk0 hb415
      refine LdK.int (cell_of hb439 rfl) (LdK.str (cell_of hb439 rfl) (LdK.int (cell_of hb439 rfl) ⟨?_, ?_⟩))
      · exact App.prefix (by omega) ⟨.refl, by rw [hx1]; omega, App.suffix (by omega) ⟨.refl, by rw [hx3, hx2]; omega, hj23 _ _ ⟨k39, hX.symm⟩⟩⟩
      · exact App.suffix (by omega) ⟨.refl, App.prefix (by omega) ⟨.refl, by rw [hx1]; omega, by rw [hx3, hx2]; omega, hj23 _ _ ⟨k39, hX.symm⟩⟩⟩
    rintro tx w21 ⟨k21, rfl⟩
    refine relex_Tokens_spec (ht15.keep k21) (by omega) fun now w22 k22 hnow => ?_
    have hnown : now.n = ts'.length := by have := hnow.len; rw [flatten_len Tok.lens] at this; simp at this; omega
    have k1622 := k21.trans k22
    refine scan_Scan_spec (hsv15.mono ((V.keeps0 k1622).trans (V.sub fun _ _ h => h.elim))) (by omega) fun want w23 k23 hwant => ?_
    rw [hts'] at hwant
    have k1623 := k1622.trans k23
    refine Join.cut (fun b w' => Keeps No w23 w' ∧ b = false) ?_ ?_
    rotate_left
    · intro j22 hj22
      rw [bne_self_eq_false, Br_false]
      refine relex_Text_spec (ht15.keep k1623) ?_
      rw [strEq.2 rfl, Bool.not_true, Br_false]
      refine same_spec (M := No) (M' := No) ((hnow.keep0 k23).readsC (by omega) Tok.lens fun _ _ h => h) (hwant.readsC (by omega) Tok.lens fun _ _ h => h) (by omega) fun r w38 k38 hr => ?_
      rw [hr.2 rfl, Bool.not_true, Br_false]
      have hb538 := (k1623.trans k38).blk0 n15.at_
      refine Ld.int (cell_of hb538 rfl) (Br.mk (fun e1 => by have e1 : (first : Int) < 0 := of_decide_eq_true e1; omega) (fun _ => ?_))
      refine Ld.int (cell_of hb538 rfl) (Ld.int (cell_of hb538 rfl) (Br.mk (fun e1 => by have e1 : (m : Int) < (first : Int) := of_decide_eq_true e1; omega) (fun _ => ?_)))
      refine Ld.int (cell_of hb538 rfl) (hj22 _ _ ⟨k38, ?_⟩)
      show decide ((now.n : Int) < (m : Int)) = false
      rw [decide_eq_false_iff_not]; omega
    rintro b w24 ⟨k24, rfl⟩
    rw [Br_false]
    have k1624 := k1623.trans k24
    have hb524 := k1624.blk0 n15.at_
    have hb424 := k1624.blk0 hb415
    refine Ld.int (cell_of hb524 rfl) (Ld.int (cell_of hb524 rfl) (relex_Scanned_spec (ht15.keep k1624) ?_))
    have ew1 : w64 (w64 (sc + (m : Int)) - (first : Int)) = sc + ((m - first : Nat) : Int) := by rw [w64_eq (x := sc + m) (by omega), w64_eq (by omega)]; omega
    rw [ew1, bne_self_eq_false, Br_false]
    refine Ld.str (cell_of hb424 rfl) (Ld.int (cell_of hb424 rfl) (Ld.int (cell_of hb424 rfl) ?_))
    have hnow24 : SlTok (V No w24) now ts' := ((hnow.keep0 k23).keep0 k24).readsC (by omega) Tok.lens fun _ _ h => h
    have hwas24 : SlTok (V No w24) was ts := (hwas15.keep0 k1624).readsC (by omega) Tok.lens fun _ _ h => h
    have fin : ∀ w', Keeps No w24 w' → R (tx, sc + ((m - first : Nat) : Int), w64 ((i : Int) + 1)) w' := fun w' kw => by
      rw [ewi]
      have kk := k1624.trans kw
      exact hR _ _ ⟨k015.trans kk, i + 1, l', rfl, by omega, by dsimp only; omega, by dsimp only; omega, by dsimp only; omega, by dsimp only; rw [hts']; exact ht15.keep kk, hsv15.mono (V.keeps0 kk)⟩ (by dsimp only; omega)
    -- those ahead
    refine Loop.mk (fun (t : Int) w' => Keeps No w24 w' ∧ ∃ k : Nat, t = k ∧ k ≤ first) (fun t => first - t.toNat) ⟨.refl, 0, rfl, by omega⟩ ?_
    rintro t w26 ⟨k26, k, rfl, hk⟩ R1 hR1
    refine Ld.int (cell_of (k26.blk0 hb524) rfl) (Br.mk (fun e1 => ?_) (fun e1 => ?_))
    · have e1 : k < first := by have e1 : (k : Int) < (first : Int) := of_decide_eq_true e1; omega
      refine Join.cut (fun b w' => Keeps No w26 w' ∧ b = false) ?_ ?_
      · rintro b w27 ⟨k27, rfl⟩
        rw [Br_false, w64_eq (by omega)]
        exact hR1 _ _ ⟨k26.trans k27, k + 1, by omega, by omega⟩ (by omega)
      · intro j14 hj14
        refine Draw.kp fun w28 e28 k28 => ?_
        have k2428 := k26.trans k28
        have hy := List.getElem?_eq_getElem (l := ts') (i := k) (by omega)
        generalize ts'[k] = y at hy
        obtain ⟨g1, g2⟩ := hsp.head k y e1 hy
        refine IdxS.tok (hnow24.mono (V.keeps0 k2428)) (by omega) (by omega) fun y1 p1 hy1 hp1 => hp1.ldK ?_
        rw [Int.toNat_natCast, hy] at hy1; cases hy1
        refine IdxS.tok (hwas24.mono (V.keeps0 k2428)) (by omega) (by omega) fun y2 p2 hy2 hp2 => hp2.ldK ?_
        rw [Int.toNat_natCast, g1] at hy2; cases hy2
        rw [tok_eq.2 rfl, Bool.not_true, Br_false]
        refine IdxS.tok (hnow24.mono (V.keeps0 k2428)) (by omega) (by omega) fun y1 p1 hy1 hp1 => LdK.int hp1.l (LdK.int (cell_of (k2428.blk0 hb424) rfl) (hj14 _ _ ⟨k28, ?_⟩))
        rw [Int.toNat_natCast, hy] at hy1; cases hy1
        show decide ((a : Int) < y.l) = false
        rw [decide_eq_false_iff_not]; omega
    · -- those behind
      refine Ld.int (cell_of (k26.blk0 hb524) rfl) ?_
      refine Loop.mk (fun (t : Int) w' => Keeps No w24 w' ∧ ∃ k : Nat, t = k ∧ m ≤ k ∧ k ≤ ts'.length) (fun t => ts'.length - t.toNat) ⟨k26, m, rfl, by omega, by omega⟩ ?_
      rintro t w29 ⟨k29, k, rfl, hk1, hk2⟩ R2 hR2
      refine Br.mk (fun e2 => ?_) (fun e2 => ?_)
      · have e2 : k < ts'.length := by have := of_decide_eq_true e2; omega
        have hy := List.getElem?_eq_getElem (l := ts') (i := k) (by omega)
        generalize ts'[k] = y at hy
        obtain ⟨g1, z, g2, g3, g4⟩ := hsp.tail k y hk1 hy
        have ew2 : w64 ((was.n : Int) - w64 ((now.n : Int) - (k : Int))) = ((ts.length - (ts'.length - k) : Nat) : Int) := by
          rw [w64_eq (x := (now.n : Int) - (k : Int)) (by omega), w64_eq (by omega)]; omega
        rw [ew2]
        refine IdxS.tok (hwas24.mono (V.keeps0 k29)) (by omega) (by omega) fun z1 p1 hz1 hp1 => hp1.ld ?_
        rw [Int.toNat_natCast, g2] at hz1; cases hz1
        refine AlSt4 fun b18 w34 n34 => ?_
        refine Join.cut (fun b w' => Keeps No w34 w' ∧ b = false) ?_ ?_
        · rintro b w35 ⟨k35, rfl⟩
          rw [Br_false, w64_eq (by omega)]
          exact hR2 _ _ ⟨(k29.trans n34.keeps).trans k35, k + 1, by omega, by omega, by omega⟩ (by omega)
        · intro j20 hj20
          refine Draw.kp fun w36 e36 k36 => ?_
          have k2436 := (k29.trans n34.keeps).trans k36
          have hn36 := hnow24.mono (V.keeps0 k2436)
          have hb18 := k36.blk0 n34.at_
          refine IdxS.tok hn36 (by omega) (by omega) fun y1 p1 hy1 hp1 => LdK.int hp1.c (LdK.int (cell_of hb18 rfl) ?_)
          rw [Int.toNat_natCast, hy] at hy1; cases hy1
          have hyc : y.c = z.c := by rw [g3]; rfl
          have hyf : y.f = z.f + ((x.s.size : Int) - ((c : Int) - a)) := by rw [g3]; rfl
          rw [hyc, bne_self_eq_false, Br_false]
          refine IdxS.tok hn36 (by omega) (by omega) fun y1 p1 hy1 hp1 => LdK.int hp1.f (LdK.int (cell_of hb18 rfl) ?_)
          rw [Int.toNat_natCast, hy] at hy1; cases hy1
          have hzb : 0 ≤ z.f ∧ z.f ≤ 10000 := by
            obtain ⟨b', hb', hz'⟩ := toks_get (ms := ms) (s := bs txt) (i := ts.length - (ts'.length - k)) (x := z) (by rw [hts]; exact g2)
            have := tok_bounds (ms := ms) hb'
            rw [← hz'] at this
            omega
          have ew3 : w64 (z.f + w64 ((x.s.size : Int) - w64 ((c : Int) - (a : Int)))) = y.f := by
            rw [w64_eq (x := (c : Int) - (a : Int)) (by omega), w64_eq (x := (x.s.size : Int) - ((c : Int) - (a : Int))) (by omega), w64_eq (by omega), hyf]
          rw [ew3, bne_self_eq_false, Br_false]
          refine IdxS.tok hn36 (by omega) (by omega) fun y1 p1 hy1 hp1 => LdK.int hp1.f (LdK.int (cell_of (k2436.blk0 hb424) rfl) (LdK.str (cell_of (k2436.blk0 hb424) rfl) (hj20 _ _ ⟨k36, ?_⟩)))
          rw [Int.toNat_natCast, hy] at hy1; cases hy1
          show decide (y.f < w64 ((a : Int) + (x.s.size : Int))) = false
          rw [w64_eq (by omega), decide_eq_false_iff_not]; omega
      · exact fin w29 k29
end Go.Fk
end

section
set_option linter.unusedVariables false
namespace Go.Fk
open Go Go.ChangeShapes Go.WideShapes Go.ChangeAt Go.RowKit

def Ed.dat {H : Type} (c : Ed) : DataW H := .agg [.lit (.int .i64 c.f), .lit (.int .i64 c.t), .lit (.string c.s.data.toList)]

/-- A law's argument of type []frisketlaw10.Edit. -/
theorem open_edits {H : Type} {enc : TypeId × Value → H} {P : Program} {w : World} {held : Bool} {t e : TypeId} {b0 : Nat} {v : Value} {d : DataW H} {ps : List MemPlace} {f0 f1 f2 : Field}
    (ht : P.underlying t = some (.slice e)) (he : P.underlying e = some (.struct #[f0, f1, f2])) (hc : P.cellsOf e = 3) (o0 : f0.offset = 0) (o1 : f1.offset = 1) (o2 : f2.offset = 2)
    (t0 : P.underlying f0.type = some (.int .i64)) (t1 : P.underlying f1.type = some (.int .i64)) (t2 : P.underlying f2.type = some .string) (c0 : P.cellsOf f0.type = 1) (c1 : P.cellsOf f1.type = 1) (c2 : P.cellsOf f2.type = 1)
    (hval : Value.okWide P w .any b0 t v) (h : DataW.Trod enc P w 0 (fun _ => true) held t v d ps) :
    ∃ (l : Sl) (es : List Ed), v = .slice l.a l.n l.c ∧ SlEd (V No w) l es ∧ (∀ c ∈ es, c.s.size ≤ maxLen) ∧ l.n ≤ maxLen ∧ ((d = .nil ∧ es = []) ∨ ∃ sp, d = .slice (es.map Ed.dat) sp) := by
  refine open_recs Ed.cells Ed.dat (fun c => c.s.size ≤ maxLen) ht hc (by omega) (fun cs' d ps n hlen hx => ?_) hval h
  obtain ⟨xs, k, _, hxy, _, hxl, hf⟩ := DataW.trod_struct he hx
  match xs, hxl, cs', hlen with
  | [y0, y1, y2], _, [v0, v1, v2], _ =>
    have g0 := hf 0 f0 rfl
    have g1 := hf 1 f1 rfl
    have g2 := hf 2 f2 rfl
    simp [o0, o1, o2, c0, c1, c2] at g0 g1 g2
    obtain ⟨n0, h1, rfl, _⟩ := DataW.trod_int t0 g0
    obtain ⟨n1, h2, rfl, _⟩ := DataW.trod_int t1 g1
    obtain ⟨s, h3, rfl, z⟩ := DataW.trod_string t2 g2
    cases h1; cases h2; cases h3
    exact ⟨⟨n0, n1, s⟩, rfl, by simpa [Ed.dat] using congrArg Prod.fst hxy, z⟩
end Go.Fk
end
