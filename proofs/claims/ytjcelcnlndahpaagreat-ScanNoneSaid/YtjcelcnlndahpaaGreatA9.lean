/-
  A part of the proof: what the functions of the program come to, read off the model: no premise of its own, no axiom. By an AI agent.
-/
import Derived.Test.YtjcelcnlndahpaaGreatA8
import Derived.Test.YtjcelcnlndahpaaGreatA6
set_option linter.all false
section
set_option linter.unusedVariables false
namespace Go.Fk
open Go Go.MapKept

theorem strEq_bs {a b : ByteArray} : (a.toList == b.toList) = true ↔ bs a = bs b := by rw [beq_iff_eq, ByteArray.toList_eq, ByteArray.toList_eq]
theorem bs_inj {a b : ByteArray} (h : bs a = bs b) : a = b := by
  obtain ⟨⟨a⟩⟩ := a
  obtain ⟨⟨b⟩⟩ := b
  simp [bs] at h
  rw [h]
theorem strEq {a b : ByteArray} : (a.toList == b.toList) = true ↔ a = b := ⟨fun h => bs_inj (strEq_bs.1 h), fun h => strEq_bs.2 (by rw [h])⟩

/-! ## Does an expression mean the empty text? -/

theorem regex_Nullable_spec (x : Re) : ∀ {M : Nat → Prop} {w : World} {p : Option Addr} {K : Bool → World → Prop} (h : Nd (V M w) p x) (hk : ∀ w', Keeps No w w' → K x.emp w'), regex_Nullable.C p w K := by
  induction x with
  | set f =>
    intro M w p K h hk
    refine regex_Nullable.ok _ _ _ ?_
    simp only [regex_Nullable.M]
    refine regex_Kind_spec h ?_
    exact hk w .refl
  | empty =>
    intro M w p K h hk
    refine regex_Nullable.ok _ _ _ ?_
    simp only [regex_Nullable.M]
    refine regex_Kind_spec h ?_
    exact hk w .refl
  | star a ih =>
    intro M w p K h hk
    refine regex_Nullable.ok _ _ _ ?_
    simp only [regex_Nullable.M]
    refine regex_Kind_spec h ?_
    exact hk w .refl
  | cat a b iha ihb =>
    intro M w p K h hk
    refine regex_Nullable.ok _ _ _ ?_
    simp only [regex_Nullable.M]
    refine regex_Kind_spec h ?_
    obtain ⟨b0, n0, n1, n2, n3, l, ps, rfl, hb, hl, ha⟩ := h.out
    cases ha; rename_i p ps1 ha ha1
    cases ha1; rename_i q ps2 hb' ha2
    cases ha2
    simp only [Re.kind, Join, show ((2 : Int) == 1) = false from rfl, show ((2 : Int) == 4) = false from rfl, show ((2 : Int) == 2) = true from rfl, show ((3 : Int) == 2) = false from rfl, show ((3 : Int) == 3) = true from rfl, Br_true, Br_false, NilC_some, add_eq]
    refine Ld.slv (l := l) (cell_of hb.2 rfl) (IdxS.get hl (by omega) (by simp) fun y hy => ?_)
    have hy : p = y := by simpa using hy
    subst hy
    refine iha ha fun w1 k1 => Br.mk (fun e => ?_) (fun e => ?_)
    · refine Ld.slv (l := l) (cell_of (k1.blk0 hb.2) rfl) (IdxS.get (hl.mono (V.keeps0 k1)) (by omega) (by simp) fun y hy => ?_)
      have hy : q = y := by simpa using hy
      subst hy
      refine ihb (hb'.mono (V.keeps0 k1)) fun w2 k2 => ?_
      have := hk w2 (k1.trans k2)
      simp only [Re.emp, e, Bool.true_and] at this
      exact this
    · have := hk w1 k1
      simp only [Re.emp, e, Bool.false_and] at this
      exact this
  | or a b iha ihb =>
    intro M w p K h hk
    refine regex_Nullable.ok _ _ _ ?_
    simp only [regex_Nullable.M]
    refine regex_Kind_spec h ?_
    obtain ⟨b0, n0, n1, n2, n3, l, ps, rfl, hb, hl, ha⟩ := h.out
    cases ha; rename_i p ps1 ha ha1
    cases ha1; rename_i q ps2 hb' ha2
    cases ha2
    simp only [Re.kind, Join, show ((3 : Int) == 1) = false from rfl, show ((3 : Int) == 4) = false from rfl, show ((2 : Int) == 2) = true from rfl, show ((3 : Int) == 2) = false from rfl, show ((3 : Int) == 3) = true from rfl, Br_true, Br_false, NilC_some, add_eq]
    refine Ld.slv (l := l) (cell_of hb.2 rfl) (IdxS.get hl (by omega) (by simp) fun y hy => ?_)
    have hy : p = y := by simpa using hy
    subst hy
    refine iha ha fun w1 k1 => Br.mk (fun e => ?_) (fun e => ?_)
    · have := hk w1 k1
      simp only [Re.emp, e, Bool.true_or] at this
      exact this
    · refine Ld.slv (l := l) (cell_of (k1.blk0 hb.2) rfl) (IdxS.get (hl.mono (V.keeps0 k1)) (by omega) (by simp) fun y hy => ?_)
      have hy : q = y := by simpa using hy
      subst hy
      refine ihb (hb'.mono (V.keeps0 k1)) fun w2 k2 => ?_
      have := hk w2 (k1.trans k2)
      simp only [Re.emp, e, Bool.false_or] at this
      exact this

/-! ## Names -/

def ChOK (i : Nat) (c : UInt8) : Prop := (97 ≤ c.toNat ∧ c.toNat ≤ 122) ∨ (0 < i ∧ 48 ≤ c.toNat ∧ c.toNat ≤ 57)
def NameOK (s : List UInt8) : Prop := 1 ≤ s.length ∧ s.length ≤ 20 ∧ ∀ i c, s[i]? = some c → ChOK i c

theorem scan_named_spec {w : World} {s : ByteArray} (hs : s.size ≤ maxLen) {K : Bool → World → Prop} (hK : ∀ b, (b = true ↔ NameOK (bs s)) → K b w) : scan_named.C s w K := by
  have hsz := size_bs s
  have hmx : maxLen = 9223372036854775807 := rfl
  refine scan_named.ok _ _ _ ?_
  simp only [scan_named.M]
  refine Loop.mk (fun t w' => w' = w ∧ ∃ k : Nat, t = k ∧ k ≤ s.size ∧ ∀ i c, i < k → (bs s)[i]? = some c → ChOK i c) (fun t => s.size - t.toNat) ⟨rfl, 0, rfl, by omega, fun i c h => by omega⟩ ?_
  rintro t w' ⟨rfl, k, rfl, hk, hp⟩ R hR
  refine Br.mk (fun e => ?_) (fun e => ?_)
  · have e : k < s.size := by have := of_decide_eq_true e; omega
    refine IdxStr.get (by omega) (by omega) fun c hc => ?_
    simp only [Int.toNat_natCast] at hc
    refine Join.cut (fun b w2 => w2 = w' ∧ (b = true ↔ ¬ ChOK k c)) ?_ ?_
    · rintro b w2 ⟨rfl, hb⟩
      refine Br.mk (fun e2 => hK _ ⟨fun h => (by cases h), fun h => absurd (h.2.2 k c hc) (hb.1 e2)⟩) (fun e2 => ?_)
      have hch : ChOK k c := Classical.byContradiction fun hn => by rw [hb.2 hn] at e2; cases e2
      rw [w64_eq (by omega)]
      refine hR _ _ ⟨rfl, k + 1, by omega, by omega, fun i c' hi hc' => ?_⟩ (by omega)
      by_cases hik : i = k
      · subst hik; rw [hc] at hc'; cases hc'; exact hch
      · exact hp i c' (by omega) hc'
    · intro j hj
      refine Br.mk (fun e1 => Br.mk (fun e2 => ?_) (fun e2 => Br.mk (fun e3 => Br.mk (fun e4 => ?_) (fun e4 => ?_)) (fun e3 => ?_))) (fun e1 => Br.mk (fun e3 => Br.mk (fun e4 => ?_) (fun e4 => ?_)) (fun e3 => ?_))
      all_goals
        refine hj _ _ ⟨rfl, ?_⟩
        unfold ChOK
        simp only [decide_eq_true_eq, decide_eq_false_iff_not, Bool.not_eq_true', Bool.false_eq_true, false_iff, true_iff, Classical.not_not] at *
        omega
  · have e : k = s.size := by have := of_decide_eq_false e; omega
    subst e
    have hall : ∀ i c, (bs s)[i]? = some c → ChOK i c := fun i c h => hp i c (by have := (List.getElem?_eq_some_iff.1 h).1; omega) h
    have hne : (s.toList == (⟨#[]⟩ : ByteArray).toList) = true ↔ (bs s).length = 0 := by
      rw [strEq_bs]
      exact ⟨fun h => by rw [h]; rfl, fun h => List.eq_nil_of_length_eq_zero h⟩
    refine Br.mk (fun e2 => hK _ ?_) (fun e2 => hK _ ?_)
    · have : ¬ (bs s).length = 0 := fun h => by rw [hne.2 h] at e2; cases e2
      simp only [decide_eq_true_eq]
      exact ⟨fun h => ⟨by omega, by omega, hall⟩, fun h => by have := h.2.1; omega⟩
    · have : (bs s).length = 0 := hne.1 (by simpa using e2)
      exact ⟨fun h => (by cases h), fun h => by have := h.1; omega⟩

theorem ref09_Named_spec {w : World} {s : ByteArray} (hs : s.size ≤ maxLen) {K : Bool → World → Prop} (hK : ∀ b, (b = true ↔ NameOK (bs s)) → K b w) : frisketref09_Named.C s w K := by
  have hsz := size_bs s
  have hmx : maxLen = 9223372036854775807 := rfl
  refine frisketref09_Named.ok _ _ _ ?_
  simp only [frisketref09_Named.M]
  refine Loop.mk (fun t w' => w' = w ∧ ∃ k : Nat, t = k ∧ k ≤ s.size ∧ ∀ i c, i < k → (bs s)[i]? = some c → ChOK i c) (fun t => s.size - t.toNat) ⟨rfl, 0, rfl, by omega, fun i c h => by omega⟩ ?_
  rintro t w' ⟨rfl, k, rfl, hk, hp⟩ R hR
  refine Br.mk (fun e => ?_) (fun e => ?_)
  · have e : k < s.size := by have := of_decide_eq_true e; omega
    obtain ⟨c, hc⟩ : ∃ c, (bs s)[k]? = some c := ⟨_, List.getElem?_eq_getElem (by omega)⟩
    have get : ∀ {Q : UInt8 → Prop}, Q c → IdxStr s (k : Int) Q := fun {Q} h => IdxStr.get (by omega) (by omega) fun c' hc' => by
      simp only [Int.toNat_natCast] at hc'
      rw [hc] at hc'; cases hc'; exact h
    refine Join.cut (fun b w2 => w2 = w' ∧ (b = true ↔ (97 ≤ c.toNat ∧ c.toNat ≤ 122))) ?_ ?_
    · rintro b1 w2 ⟨rfl, hb1⟩
      refine Join.cut (fun b w3 => w3 = w2 ∧ (b = true ↔ (48 ≤ c.toNat ∧ c.toNat ≤ 57))) ?_ ?_
      · rintro b2 w3 ⟨rfl, hb2⟩
        refine Join.cut (fun b w4 => w4 = w3 ∧ (b = true ↔ ¬ ChOK k c)) ?_ ?_
        · rintro b w4 ⟨rfl, hb⟩
          refine Br.mk (fun e2 => hK _ ⟨fun h => (by cases h), fun h => absurd (h.2.2 k c hc) (hb.1 e2)⟩) (fun e2 => ?_)
          have hch : ChOK k c := Classical.byContradiction fun hn => by rw [hb.2 hn] at e2; cases e2
          rw [w64_eq (by omega)]
          refine hR _ _ ⟨rfl, k + 1, by omega, by omega, fun i c' hi hc' => ?_⟩ (by omega)
          by_cases hik : i = k
          · subst hik; rw [hc] at hc'; cases hc'; exact hch
          · exact hp i c' (by omega) hc'
        · intro j hj
          cases b1 <;> cases b2 <;> simp only [Bool.not_true, Bool.not_false, Br_true, Br_false] <;> refine hj _ _ ⟨rfl, ?_⟩ <;> unfold ChOK <;> simp only [Bool.false_eq_true, false_iff, true_iff, Classical.not_not, beq_iff_eq] at * <;> omega
      · intro j hj
        refine get (Br.mk (fun e1 => get (hj _ _ ⟨rfl, ?_⟩)) (fun e1 => hj _ _ ⟨rfl, ?_⟩))
        · simp only [decide_eq_true_eq] at *; omega
        · simp only [decide_eq_false_iff_not, Bool.false_eq_true, false_iff] at *; omega
    · intro j hj
      refine get (Br.mk (fun e1 => get (hj _ _ ⟨rfl, ?_⟩)) (fun e1 => hj _ _ ⟨rfl, ?_⟩))
      · simp only [decide_eq_true_eq] at *; omega
      · simp only [decide_eq_false_iff_not, Bool.false_eq_true, false_iff] at *; omega
  · have e : k = s.size := by have := of_decide_eq_false e; omega
    subst e
    have hall : ∀ i c, (bs s)[i]? = some c → ChOK i c := fun i c h => hp i c (by have := (List.getElem?_eq_some_iff.1 h).1; omega) h
    refine Br.mk (fun e2 => hK _ ?_) (fun e2 => hK _ ?_)
    · have e2 := of_decide_eq_true e2
      simp only [decide_eq_true_eq]
      exact ⟨fun h => ⟨by omega, by omega, hall⟩, fun h => by have := h.2.1; omega⟩
    · have e2 := of_decide_eq_false e2
      exact ⟨fun h => (by cases h), fun h => by have := h.1; omega⟩

/-! ## Does an expression mean something that isn't empty, and not the empty text? -/

/-- Its automaton would be too large. -/
def Over (ys : List Re) : Prop := 2000 < mCnt ys ∨ TooMany (mFs 0 ys) (mFol 0 ys) (mKs 0 ys)
def MeansP (y : Re) : Prop := y.emp = false ∧ (y.sub ∨ Over [y])

theorem scan_means_spec {w : World} {p : Option Addr} {y : Re} (hN : Nd (V No w) p y) (hsz : y.size < 1000000) {K : Bool → World → Prop} (hK : ∀ b w', Keeps No w w' → (b = true ↔ MeansP y) → K b w') : scan_means.C p w K := by
  refine scan_means.ok _ _ _ ?_
  simp only [scan_means.M]
  refine regex_Nullable_spec y hN fun w1 k1 => Br.mk (fun e => hK _ w1 k1 ⟨fun h => (by cases h), fun h => by rw [h.1] at e; cases e⟩) (fun he => ?_)
  refine Al.mk fun b1 w2 n2 => ?_
  have k02 := k1.trans n2.keeps
  refine nfa_New_spec (M := No) (fun _ h => h.elim) (row1 ⟨id, n2.at_⟩) (.cons (hN.mono (V.keeps0 k02)) .nil) (by simp) (by simp) (fun x hx => by simp at hx; subst hx; omega) fun m e w3 k3 g1 g2 => ?_
  have k03 := k02.trans k3
  by_cases hc : mCnt [y] ≤ 2000
  · obtain ⟨rfl, hm⟩ := g1 hc
    have hmn : m ≠ none := by
      obtain ⟨bm, _, _, _, _, rfl, _⟩ := hm.ex
      simp
    show Br ((0 : Int) != 0) _ _
    rw [bne_self_eq_false, Br_false]
    refine dfa_New_spec (.inr hm) hmn (by rw [mKs_len]; simp) (fun d svs cl nc w4 k4 hd hok => ?_) (fun w4 k4 hg => ?_)
    · show Br ((0 : Int) != 0) _ _
      rw [bne_self_eq_false, Br_false]
      have hdo : DfaO (V No w4) d svs cl nc := .inr hd
      have k04 := k03.trans k4
      have hfew := hok.few
      refine dfa_States_spec hdo ?_
      refine Loop.mk (fun t w' => w' = w4 ∧ ∃ k : Nat, t = k ∧ k ≤ svs.length ∧ ∀ v : Nat, v < k → accOf svs v = -1) (fun t => svs.length - t.toNat) ⟨rfl, 0, rfl, by omega, fun v h => by omega⟩ ?_
      rintro t w' ⟨rfl, k, rfl, hk, hp⟩ R hR
      refine Br.mk (fun e => ?_) (fun e => ?_)
      · have e : k < svs.length := by have := of_decide_eq_true e; omega
        refine dfa_Accept_spec hdo (Br.mk (fun e2 => ?_) (fun e2 => ?_))
        · have e2 : accOf svs k ≠ -1 := by simpa using e2
          exact hK _ w' k04 ⟨fun _ => ⟨he, .inl ((accepts_iff hok).1 ⟨k, e, e2⟩)⟩, fun _ => rfl⟩
        · have e2 : accOf svs k = -1 := by simpa using e2
          rw [w64_eq (by omega)]
          refine hR _ _ ⟨rfl, k + 1, by omega, by omega, fun v hv => ?_⟩ (by omega)
          by_cases hvk : v = k
          · subst hvk; exact e2
          · exact hp v (by omega)
      · have e : k = svs.length := by have := of_decide_eq_false e; omega
        subst e
        refine hK _ w' k04 ⟨fun h => (by cases h), fun h => ?_⟩
        rcases h.2 with h | h | h
        · obtain ⟨v, hv, ha⟩ := (accepts_iff hok).2 h
          exact absurd (hp v hv) ha
        · omega
        · exact (TooMany.up (i := 0) (ys := [y]) rfl hok h).elim
    · show Br ((3 : Int) != 0) _ _
      exact hK _ w4 (k03.trans k4) ⟨fun _ => ⟨he, .inr (.inr hg)⟩, fun _ => rfl⟩
  · obtain ⟨rfl, rfl⟩ := g2 (by omega)
    show Br ((3 : Int) != 0) _ _
    exact hK _ w3 k03 ⟨fun _ => ⟨he, .inr (.inl (by omega))⟩, fun _ => rfl⟩
end Go.Fk
end

section
set_option linter.unusedVariables false
namespace Go.Fk
open Go Go.MapKept

theorem Draw.kpm {w : World} (M : Nat → Prop) {F : (World → Prop) → World → Prop} (h : ∀ w', w'.heap = w.heap → Keeps No w w' → F (fun x => Keeps M w' x) w') : Draw w F :=
  ⟨fun x => Keeps M w.drew x, Keeps.refl, h _ rfl Keeps.drew⟩

/-! ## Which classes can be there -/

def reOf (c : Cls) : Re := (parseF (bs c.rx)).1
def ysOf (cs : List Cls) : List Re := cs.map reOf
def ClsOK (cs : List Cls) (i : Nat) : Prop := ∃ c, cs[i]? = some c ∧ NameOK (bs c.n) ∧ (∀ (j : Nat) c', j < i → cs[j]? = some c' → c'.n ≠ c.n) ∧ (parseF (bs c.rx)).2.2 = 0 ∧ MeansP (reOf c)
def BadAt (cs : List Cls) (i : Nat) (e : Int) : Prop := ∃ c, cs[i]? = some c ∧ ((e = 9 ∧ (¬ NameOK (bs c.n) ∨ ∃ (j : Nat) (c' : Cls), j < i ∧ cs[j]? = some c' ∧ c'.n = c.n)) ∨ ((parseF (bs c.rx)).2.2 ≠ 0 ∧ e = (parseF (bs c.rx)).2.2) ∨ (e = 11 ∧ (parseF (bs c.rx)).2.2 = 0 ∧ ¬ MeansP (reOf c)))
structure Sound (cs : List Cls) (ms : List LSt) : Prop where
  ne : cs ≠ []
  cls : ∀ i, i < cs.length → ClsOK cs i
  auto : ∃ svs cl nc lv kd fs of_, DfaOK (mFs 0 (ysOf cs)) (mFol 0 (ysOf cs)) (mKs 0 (ysOf cs)) svs cl nc ∧ Aut svs ∧ LeastOK svs lv kd fs ms of_
def ScanW (H : View) (s : Option Addr) (cs : List Cls) (ms : List LSt) : Prop := ∃ N of_, ScanV H s cs N ms of_
theorem ScanW.keep {w w' : World} {s : Option Addr} {cs : List Cls} {ms : List LSt} (h : ScanW (V No w) s cs ms) (k : Keeps No w w') : ScanW (V No w') s cs ms := by
  obtain ⟨N, of_, h⟩ := h
  exact ⟨N, of_, h.keep k⟩

theorem scan_class_spec {w : World} {M : Nat → Prop} {b mm : Nat} {lp : Option Addr} {l : Sl} {R : ByteArray → Int → Prop} (hb : w.heap[b]? = some (scObj lp l mm)) (hm : MapAt P T.string .str (.int .i64) (V M w) mm R) {i : Int} (hi : i < 40) {c : Cls} (hc : c.n.size ≤ maxLen) (hrx : Small c.rx) {K : (Option Addr × Int) → World → Prop}
    (k9 : ∀ w', Keeps No w w' → (¬ NameOK (bs c.n) ∨ ∃ v, R c.n v) → K (none, 9) w')
    (kp : ∀ w', Keeps No w w' → NameOK (bs c.n) → (∀ v, ¬ R c.n v) → (parseF (bs c.rx)).2.2 ≠ 0 → K (none, ((parseF (bs c.rx)).2.2 : Int)) w')
    (k11 : ∀ w', Keeps No w w' → NameOK (bs c.n) → (∀ v, ¬ R c.n v) → (parseF (bs c.rx)).2.2 = 0 → ¬ MeansP (reOf c) → K (none, 11) w')
    (k0 : ∀ p w', Keeps No w w' → NameOK (bs c.n) → (∀ v, ¬ R c.n v) → (parseF (bs c.rx)).2.2 = 0 → MeansP (reOf c) → Nd (V (Lt w.heap.size) w') p (reOf c) → K (p, 0) w') : scan_Scanner_class.C (some ⟨b, 0, none⟩) i (c.n, c.rx, c.lay) w K := by
  refine scan_Scanner_class.ok _ _ _ _ _ ?_
  simp only [scan_Scanner_class.M]
  refine Al.mk fun b1 w1 n1 => Draw.kp fun w2 e2 k2 => ?_
  have k02 : Keeps No w w2 := n1.keeps.trans k2
  have z1 := n1.size; have z2 := k2.size
  simp only [NilC_some, add_eq]
  refine LdK.map (cell_of (k02.blk0 hb) rfl) (LdK.str (cell_of (k2.blk0 n1.at_) rfl) ?_)
  have hm2 : MapO P T.string .str (.int .i64) (V M w2) (some mm) R := MapAt.mono hm (V.keeps0 k02)
  have fin : ∀ (bt : Bool), (bt = true ↔ ∃ v, R c.n v) → ∀ z : Int, (Keeps No w2 w2 ∧ Br (decide ((40 : Int) ≤ i)) (K (none, 3) w2) (Join (fun (s3 : Bool) w4 => Br s3 (K (none, 9) w4) (Ld .str (⟨b1, 1, none⟩) w4 fun x36 => regex_Parse.C x36 w4 fun x37 w5 => Br (x37.2.2 != (0 : Int)) (K (none, x37.2.2) w5) (scan_means.C x37.1 w5 fun x45 w6 => Br (!x45) (K (none, 11) w6) (K (x37.1, 0) w6)))) fun j4 => Ld .str (⟨b1, 0, none⟩) w2 fun x28 => scan_named.C x28 w2 fun x29 w7 => Br (!x29) (j4 true w7) (j4 (z, bt).2 w7))) := by
    intro bt hbt z
    refine ⟨.refl, Br.mk (fun e => by have := of_decide_eq_true e; omega) fun _ => ?_⟩
    refine Join.cut (fun s3 w4 => w4 = w2 ∧ (s3 = true ↔ (¬ NameOK (bs c.n) ∨ ∃ v, R c.n v))) ?_ ?_
    · rintro s3 w4 ⟨rfl, hs3⟩
      refine Br.mk (fun e => k9 _ k02 (hs3.1 e)) (fun e => ?_)
      have hno : ¬ (¬ NameOK (bs c.n) ∨ ∃ v, R c.n v) := fun h => by rw [hs3.2 h] at e; cases e
      have hnm : NameOK (bs c.n) := Classical.byContradiction fun h => hno (.inl h)
      have hnr : ∀ v, ¬ R c.n v := fun v h => hno (.inr ⟨v, h⟩)
      refine Ld.str (cell_of (k2.blk0 n1.at_) rfl) (regex_Parse_spec hrx fun p w5 k5 hN hnil => ?_)
      have k05 := k02.trans k5
      by_cases h0 : (parseF (bs c.rx)).2.2 = 0
      · have hN := hN h0
        rw [h0]
        show Br ((0 : Int) != 0) _ _
        rw [bne_self_eq_false, Br_false]
        refine scan_means_spec (hN.mono (V.sub fun _ _ h => h.elim)) (by have := parse_small h0; unfold reOf at *; omega) fun x w6 k6 hx => ?_
        refine Br.mk (fun e => ?_) (fun e => ?_)
        · exact k11 w6 (k05.trans k6) hnm hnr h0 fun h => by have h : x = true := hx.2 h; subst h; cases e
        · have hxt : x = true := by simpa using e
          exact k0 p w6 (k05.trans k6) hnm hnr h0 (hx.1 hxt) (hN.mono ((V.keeps0 k6).trans (V.sub fun b _ h => by have : b < w.heap.size := h; show b < _; omega)))
      · have : ((((parseF (bs c.rx)).2.2 : Nat) : Int) != 0) = true := by simp; omega
        rw [this, Br_true]
        have hp := hnil h0
        exact kp w5 k05 hnm hnr h0
    · intro j hj
      refine Ld.str (cell_of (k2.blk0 n1.at_) rfl) (scan_named_spec hc fun bn hbn => ?_)
      refine Br.mk (fun e => hj _ _ ⟨rfl, ?_⟩) (fun e => hj _ _ ⟨rfl, ?_⟩)
      · have e : bn = false := by simpa using e
        exact ⟨fun _ => .inl fun h => (by rw [hbn.2 h] at e; cases e), fun _ => rfl⟩
      · have e : bn = true := by simpa using e
        have hnm := hbn.1 e
        dsimp only
        rw [hbt]
        exact ⟨.inr, fun h => h.resolve_left fun h => h hnm⟩
  refine App.look2 (kt := .str) (vt := .int .i64) (x := c.n) (z := (0 : Int)) strIntTy (run_zeroInt w2) hm2 (strKey hc) (fun v hv => fin true ⟨fun _ => ⟨v, hv⟩, fun _ => rfl⟩ v) (fun hno => fin false ⟨fun h => (by cases h), fun ⟨v, hv⟩ => absurd hv (hno v)⟩ 0)

theorem LeastV.away {w : World} {b2 mm : Nat} {lp : Option Addr} {l : Sl} {p : Option Addr} {N : Nat} {ms : List LSt} {of_ : Nat → Int} (hb : w.heap[b2]? = some (scObj lp l mm)) (h : LeastV (V No w) p N ms of_) : LeastV (V (· = b2) w) p N ms of_ := by
  obtain ⟨b, l1, o, h1, h2, h3, h4⟩ := h
  refine ⟨b, l1, o, h1, ⟨?_, h2.2⟩, ?_, ?_⟩
  · rintro rfl
    have := h2.2
    rw [hb] at this
    simp at this
  · refine ⟨h3.1, ?_⟩
    rcases h3.2 with h | ⟨c, off, cs, E, fr, g1, g2, g3⟩
    · exact .inl h
    · by_cases hm : ms.map LSt.cells = []
      · exact .inl hm
      · refine .inr ⟨c, off, cs, E, fr, g1, ⟨?_, g2.2⟩, g3⟩
        rintro rfl
        have := g2.2
        rw [hb] at this
        simp only [Option.some.injEq, Obj.cells.injEq] at this
        obtain ⟨rfl, _, _⟩ := this
        cases ms with
        | nil => exact hm rfl
        | cons m ms =>
          have hl : m.cells.length = 257 := LSt.lens (ms := m :: ms) _ (by simp)
          have := g3 0 m.cells rfl 5 _ (List.getElem?_eq_getElem (by omega))
          simp at this
  · refine ⟨h4.1, ?_⟩
    rcases h4.2 with h | ⟨c, off, cs, E, fr, g1, g2, g3⟩
    · exact .inl h
    · by_cases hm : rowG N of_ = []
      · exact .inl hm
      · refine .inr ⟨c, off, cs, E, fr, g1, ⟨?_, g2.2⟩, g3⟩
        rintro rfl
        have := g2.2
        rw [hb] at this
        simp only [Option.some.injEq, Obj.cells.injEq] at this
        obtain ⟨rfl, _, _⟩ := this
        cases hr : rowG N of_ with
        | nil => exact hm hr
        | cons x xs =>
          have := g3 0 x (by rw [hr]; rfl)
          rcases off with _ | _ | _ | off <;> simp [Ty.enc] at this

theorem NameR.snoc {cs : List Cls} {i : Nat} {c : Cls} (hc : cs[i]? = some c) (hno : ∀ v, ¬ NameR (cs.take i) c.n v) (a : ByteArray) (v : Int) : ((a = c.n ∧ v = (i : Int)) ∨ (a ≠ c.n ∧ NameR (cs.take i) a v)) ↔ NameR (cs.take (i + 1)) a v := by
  have hl : i < cs.length := (List.getElem?_eq_some_iff.1 hc).1
  have htk : cs.take (i + 1) = cs.take i ++ [c] := by rw [List.take_add_one, hc]; rfl
  have hlt : (cs.take i).length = i := by simp; omega
  constructor
  · rintro (⟨rfl, rfl⟩ | ⟨_, j, c', h1, h2, h3⟩)
    · exact ⟨i, c, by rw [htk, List.getElem?_append_right (by omega)]; simp [hlt], rfl, rfl⟩
    · exact ⟨j, c', by rw [htk, List.getElem?_append_left (List.getElem?_eq_some_iff.1 h1).1]; exact h1, h2, h3⟩
  · rintro ⟨j, c', h1, h2, h3⟩
    rw [htk] at h1
    by_cases hj : j < i
    · rw [List.getElem?_append_left (by omega)] at h1
      refine .inr ⟨fun e => ?_, j, c', h1, h2, h3⟩
      subst e
      exact hno v ⟨j, c', h1, h2, h3⟩
    · rw [List.getElem?_append_right (by omega)] at h1
      have : j - (cs.take i).length = 0 := by
        have := (List.getElem?_eq_some_iff.1 h1).1
        simp at this ⊢; omega
      rw [this] at h1
      simp at h1
      subst h1
      exact .inl ⟨h2.symm, by omega⟩

theorem NameR.look {cs : List Cls} {i : Nat} {n : ByteArray} : (∃ v, NameR (cs.take i) n v) ↔ ∃ (j : Nat) (c' : Cls), j < i ∧ cs[j]? = some c' ∧ c'.n = n := by
  constructor
  · rintro ⟨v, j, c', h1, h2, h3⟩
    rw [List.getElem?_take] at h1
    split at h1
    · exact ⟨j, c', by assumption, h1, h2⟩
    · cases h1
  · rintro ⟨j, c', h1, h2, h3⟩
    exact ⟨j, j, c', by rw [List.getElem?_take, if_pos h1]; exact h2, h3, rfl⟩

theorem scan_New_spec {M : Nat → Prop} {w : World} {l : Sl} {cs : List Cls} (hl : SlCls (V M w) l cs) (hlen : cs.length ≤ 40) (hsm : ∀ c ∈ cs, Small c.rx ∧ c.n.size ≤ maxLen) {K : (Option Addr × Int × Int) → World → Prop}
    (hnil : cs = [] → K (none, 0, 12) w)
    (hbad : ∀ (i : Nat) e w', Keeps No w w' → i < cs.length → (∀ j, j < i → ClsOK cs j) → BadAt cs i e → K (none, i, e) w')
    (hbig : ∀ w', Keeps No w w' → cs ≠ [] → (∀ j, j < cs.length → ClsOK cs j) → Over (ysOf cs) → K (none, 0, 3) w')
    (hok : ∀ s ms w', Keeps No w w' → ScanW (V No w') s cs ms → Sound cs ms → K (s, cs.length, 0) w') : scan_New.C l w K := by
  have hn := hl.1
  simp only [List.length_map] at hn
  refine scan_New.ok _ _ _ ?_
  simp only [scan_New.M]
  refine Br.mk (fun e => hnil (List.eq_nil_of_length_eq_zero (by have h0 : (l.n : Int) = 0 := (by simpa using e); omega))) (fun e => ?_)
  have hne : cs ≠ [] := by
    rintro rfl
    rw [hn] at e; cases e
  refine Clone_cls hl (by omega) fun l1 w1 k1 ho1 => ?_
  refine Al.mk fun m1 w2 n2 => Al.mk fun b2 w3 n3 => ?_
  have e2 := n2.eq; have z2 := n2.size; have e3 := n3.eq; have z3 := n3.size; have z1 := k1.size
  have k03 : Keeps No w w3 := (k1.trans n2.keeps).trans n3.keeps
  have hl1 : ∀ c, l1.blk c → w.heap.size ≤ c ∧ c ≠ m1 ∧ c ≠ b2 := fun c hc => by have := ho1.ge hc; omega
  refine Loop.mk (fun t w' => Keeps No w w' ∧ ∃ (i : Nat) (ps : List (Option Addr)), t.2 = (i : Int) ∧ i ≤ cs.length ∧ ps.length = i ∧ w'.heap[b2]? = some (scObj none l1 m1) ∧ Own w' w.heap.size T.scan_Class 3 l1 (cs.map Cls.cells).flatten ∧
      MapAt P T.string .str (.int .i64) (V No w') m1 (NameR (cs.take i)) ∧ Own w' w.heap.size T.p_regex_Node 1 t.1 (ps.map (Ty.enc .ptr)) ∧ (¬ t.1.blk b2 ∧ ¬ t.1.blk m1 ∧ ∀ c, t.1.blk c → ¬ l1.blk c) ∧
      All2 (Nd (V (fun c => t.1.blk c ∨ c = b2 ∨ c = m1) w')) ps (ysOf (cs.take i)) ∧ ∀ j, j < i → ClsOK cs j)
    (fun t => cs.length - t.2.toNat) ⟨k03, 0, [], rfl, by omega, rfl, n3.at_, (ho1.keep0 n2.keeps).keep0 n3.keeps, ?_, by simpa using Own.nil _ _ _ _, ⟨fun ⟨a, h, _⟩ => (by cases h), fun ⟨a, h, _⟩ => (by cases h), fun c ⟨a, h, _⟩ => (by cases h)⟩, .nil, fun j hj => by omega⟩ ?_
  · exact (MapAt.empty (kt := .str) (vt := .int .i64) ⟨id, n3.keeps.blk0 n2.at_⟩).congr fun k v => ⟨fun h => h.elim, fun ⟨i, c, h, _⟩ => by simp at h⟩
  rintro ⟨a, ti⟩ w4 ⟨k4, i, ps, hti, hi, hpl, hb2, ho4, hmap, ha, ⟨f1, f2, f3⟩, hN, hcl⟩ R hR
  dsimp only at hti ha f1 f2 f3 hN ⊢
  subst hti
  have han : a.n = ps.length := by have := ha.len; simp at this; omega
  have hb2lt := lt_of_some hb2
  have hm1lt := hmap.lt
  refine Br.mk (fun e => ?_) (fun e => ?_)
  · have hlt : i < cs.length := by have := of_decide_eq_true e; omega
    have hci : cs[i]? = some cs[i] := List.getElem?_eq_getElem hlt
    generalize cs[i] = c at hci
    have hcm := hsm c (List.mem_of_getElem? hci)
    refine IdxS.cls (hl.mono (V.keeps0 k4)) (by omega) (by omega) fun c' q hc' hq => ?_
    simp only [Int.toNat_natCast] at hc'
    rw [hci] at hc'; cases hc'
    refine Ld.str hq.n (Ld.str hq.rx (Ld.bool hq.lay ?_))
    refine AlSt3 fun b5 w5 n5 => ?_
    have e5 := n5.eq; have z5 := n5.size
    refine Ld.str (cell_of n5.at_ rfl) (Ld.str (cell_of n5.at_ rfl) (Ld.bool (cell_of n5.at_ rfl) ?_))
    refine scan_class_spec (M := No) (n5.keeps.blk0 hb2) (hmap.mono (V.keeps0 n5.keeps)) (by omega) hcm.2 hcm.1 ?_ ?_ ?_ ?_
    · intro w6 k6 h6
      show Br ((9 : Int) != 0) _ _
      exact hbad i 9 w6 ((k4.trans n5.keeps).trans k6) hlt hcl ⟨c, hci, .inl ⟨rfl, h6.imp id NameR.look.1⟩⟩
    · intro w6 k6 h6 h7 h8
      have : ((((parseF (bs c.rx)).2.2 : Nat) : Int) != 0) = true := by simp; omega
      dsimp only
      rw [this, Br_true]
      exact hbad i _ w6 ((k4.trans n5.keeps).trans k6) hlt hcl ⟨c, hci, .inr (.inl ⟨h8, rfl⟩)⟩
    · intro w6 k6 h6 h7 h8 h9
      show Br ((11 : Int) != 0) _ _
      exact hbad i 11 w6 ((k4.trans n5.keeps).trans k6) hlt hcl ⟨c, hci, .inr (.inr ⟨rfl, h8, h9⟩)⟩
    · intro p w6 k6 h6 h7 h8 h9 hNp
      dsimp only
      rw [bne_self_eq_false, Br_false]
      have hcok : ClsOK cs i := ⟨c, hci, h6, fun j c' hj hc' he => h7 _ (NameR.look.2 ⟨j, c', hj, hc', he⟩).choose_spec, h8, h9⟩
      refine Draw.kpm (· = m1) fun w7 e7 k7 => ?_
      have k47 : Keeps No w4 w7 := (n5.keeps.trans k6).trans k7
      have k07 := k4.trans k47
      have z7 := k47.size; have z6 := k6.size
      refine LdS.of (t := .map) (v := some m1) (fun w' hw' => cell_of (hw'.blk (k47.blk0 hb2) (by omega)) rfl) (LdS.of (t := .str) (v := c.n) (fun w' hw' => cell_of (hw'.blk ((k6.trans k7).blk0 n5.at_) (by omega)) rfl) ?_)
      refine App0.put (M := No) (kt := .str) (vt := .int .i64) (x := c.n) (y := (i : Int)) strIntTy (hmap.mono (V.keeps0 k47)) (strKey hcm.2) fun w8 k8 z8 hm8 => ⟨k8, ?_⟩
      have ha8 : Own w8 w.heap.size T.p_regex_Node 1 a (ps.map (Ty.enc .ptr)) := (ha.keep0 k47).keep k8 fun b hb => by subst hb; exact f2
      refine append1 (t := .ptr) (x := p) E_pNode ha8 rfl (by omega) (by omega) (by have := k07.size; omega) fun a' w9 o9 m9 k9 g9 => ?_
      obtain ⟨ga, hga, hga2⟩ := g9
      have s9 := k9.size
      have hA : ∀ c, a'.blk c → a.blk c ∨ w8.heap.size ≤ c := fun c hc => by rw [blk_one hga hc]; exact hga2
      have k48 : Keeps (· = m1) w4 w8 := (k47.no).trans k8
      have v9 : Vle (V (fun c => a.blk c ∨ c = b2 ∨ c = m1) w8) (V (fun c => a'.blk c ∨ c = b2 ∨ c = m1) w9) := V.move k9 (fun c _ hc => .inl hc) fun c hlt hc => by
        rcases hc with h1 | h1
        · exact .inl ((hA c h1).resolve_right (by omega))
        · exact .inr h1
      have hNp8 : Nd (V (fun c => a.blk c ∨ c = b2 ∨ c = m1) w8) p (reOf c) := hNp.mono ((V.move (k7.no.then k8 (M := fun c => a.blk c ∨ c = b2 ∨ c = m1) fun _ _ h => .inr (.inr h)) (fun b hb h => ?_) fun b hb h => ?_))
      rotate_left
      · rcases h with h | h | h
        · have := (ha.ge h).2; show b < _; omega
        · show b < _; omega
        · show b < _; omega
      · rcases h with h | h | h
        · have := (ha.ge h).2; show b < _; omega
        · show b < _; omega
        · show b < _; omega
      have hN8 : All2 (Nd (V (fun c => a.blk c ∨ c = b2 ∨ c = m1) w8)) ps (ysOf (cs.take i)) := hN.mono fun _ _ x => x.mono (V.move k48 (fun _ _ h => .inr (.inr h)) fun _ _ h => h)
      have ew : w64 ((i : Int) + 1) = ((i + 1 : Nat) : Int) := by rw [w64_eq (by omega)]; omega
      have htk : cs.take (i + 1) = cs.take i ++ [c] := by rw [List.take_add_one, hci]; rfl
      rw [ew]
      have k89 : Keeps (fun c => a.blk c ∨ c = m1) w7 w9 := (k8.mono fun _ _ h => .inr h).trans (k9.mono fun _ _ h => .inl h)
      refine hR _ _ ⟨(k07.no (M := No)).then k89 fun c hc h => ?_, i + 1, ps ++ [p], rfl, by omega, by simp [hpl], ?_, ?_, ?_, o9, ⟨?_, ?_, ?_⟩, ?_, ?_⟩ (by dsimp only; omega)
      · rcases h with h | h
        · have := (ha.ge h).1; omega
        · have := k1.size; omega
      · exact k9.blk (k8.blk (k47.blk0 hb2) (by omega)) f1
      · exact ((ho4.keep0 k47).keep k8 fun b hb h => (hl1 b h).2.1 hb).keep k9 fun b hb h => f3 b hb h
      · refine (hm8.congr fun x v => NameR.snoc hci h7 x v).keep k9 f2 id
      · exact fun h => (hA _ h).elim f1 fun h => by omega
      · exact fun h => (hA _ h).elim f2 fun h => by omega
      · exact fun b h => (hA _ h).elim (f3 b) fun h hb => by have := (ho4.ge hb).2; omega
      · rw [htk]
        unfold ysOf
        rw [List.map_append]
        exact (hN8.append (.cons hNp8 .nil)).mono fun _ _ x => x.mono v9
      · intro j hj
        by_cases hji : j = i
        · subst hji; exact hcok
        · exact hcl j (by omega)
  · have e : i = cs.length := by have := of_decide_eq_false e; omega
    subst e
    rw [List.take_length] at hN
    rw [List.take_length] at hmap
    have hyl : (ysOf cs).length = cs.length := by simp [ysOf]
    refine nfa_New_spec (M := No) (fun _ h => h.elim) (ha.reads fun _ _ h => h) (hN.mono fun _ _ x => x.mono (V.sub fun _ _ h => h.elim)) (fun h => hne (List.eq_nil_of_length_eq_zero (by rw [← hpl, h]; rfl))) (by omega) (fun x hx => ?_) fun m e w5 k5 g1 g2 => ?_
    · obtain ⟨c, hc, rfl⟩ := List.mem_map.1 hx
      obtain ⟨j, hj⟩ := List.getElem?_of_mem hc
      obtain ⟨c', hc', _, _, h0, _⟩ := hcl j (List.getElem?_eq_some_iff.1 hj).1
      rw [hj] at hc'; cases hc'
      have := parse_small h0
      unfold reOf; omega
    have k05 := k4.trans k5
    by_cases hc : mCnt (ysOf cs) ≤ 2000
    · obtain ⟨rfl, hm⟩ := g1 hc
      have hmn : m ≠ none := by
        obtain ⟨bm, _, _, _, _, rfl, _⟩ := hm.ex
        simp
      dsimp only
      rw [bne_self_eq_false, Br_false]
      refine dfa_New_spec (.inr hm) hmn (by rw [mKs_len]; omega) (fun d svs cl nc w6 k6 hd hok6 => ?_) (fun w6 k6 hg => ?_)
      · dsimp only
        rw [bne_self_eq_false, Br_false]
        have hsome : d.isNone = false := by obtain ⟨bd, p, l, rfl, _⟩ := hd; rfl
        have A := Aut.of hok6 (by omega)
        refine least_New_spec (.inr hd) hsome A fun p lv kd fs ms of_ w7 k7 hlv L => ?_
        have k47 := (k5.trans k6).trans k7
        have k07 := k4.trans k47
        have hb7 := k47.blk0 hb2
        have hlv2 := hlv.away hb7
        dsimp only
        refine St.blk hb7 (by simp) fun w8 u8 => ?_
        have hl1b : ∀ b, l1.blk b → ¬ b = b2 := fun b hb => (hl1 b hb).2.2
        have hn' : (l.n : Int) = (cs.length : Int) := by omega
        rw [hn']
        refine hok _ ms w8 ((k07.no (M := No)).then u8.keeps fun b hb h => by have : b = b2 := h; omega) ⟨svs.length, of_, b2, p, l1, m1, rfl, ⟨id, u8.at_⟩, hlv2.mono (V.move u8.keeps (fun _ _ h => h) fun _ _ h => h.elim), ?_, ?_⟩ ⟨hne, hcl, svs, cl, nc, lv, kd, fs, of_, hok6, A, L⟩
        · exact (((ho4.keep0 k47).keep u8.keeps fun b hb h => hl1b b h hb).readsC (by omega) Cls.lens fun _ _ h => h)
        · exact (hmap.keep k47 id id (M' := No)).keep u8.keeps (by omega) id
      · dsimp only
        exact hbig w6 (k05.trans k6) hne hcl (.inr hg)
    · obtain ⟨rfl, rfl⟩ := g2 (by omega)
      dsimp only
      exact hbig w5 k05 hne hcl (.inl (by omega))
end Go.Fk
end

section
set_option linter.unusedVariables false
namespace Go.Fk
open Go Go.MapKept

/-! ## What a scanner's tokens are -/

theorem Re.emp_norm (x : Re) : x.norm.emp = x.emp := by
  rw [Bool.eq_iff_iff, ← Re.m_self (s := []) (i := 0), ← Re.m_self (s := []) (i := 0), Re.m_norm]

def RuleOK (cs : List Cls) (i : Nat) : Prop := ∃ c, cs[i]? = some c ∧ NameOK (bs c.n) ∧ (∀ (j : Nat) c', j < i → cs[j]? = some c' → c'.n ≠ c.n) ∧ (parseF (bs c.rx)).2.2 = 0 ∧ (reOf c).emp = false ∧ (reOf c).sub

section
variable {cs : List Cls} {ms : List LSt}
theorem Sound.rule (h : Sound cs ms) : ∀ i, i < cs.length → RuleOK cs i := by
  intro i hi
  obtain ⟨c, h1, h2, h3, h4, h5, h6⟩ := h.cls i hi
  refine ⟨c, h1, h2, h3, h4, h5, ?_⟩
  rcases h6 with h6 | h6 | h6
  · exact h6
  · have := parse_small h4
    have := Re.cnt_size (reOf c)
    simp [mCnt] at h6
    unfold reOf at *
    omega
  · obtain ⟨svs, cl, nc, lv, kd, fs, of_, hok, _, _⟩ := h.auto
    exact (TooMany.up (ys := ysOf cs) (i := i) (by simp [ysOf, h1]) hok h6).elim

theorem Sound.best (h : Sound cs ms) (s : List UInt8) {i : Nat} (hi : i ≤ s.length) : ∃ (F : Nat) (r z : Int), TokAt ms (s.drop i) F r z ∧ tokF ms s i = ⟨r, i, i + (if r = -1 then 1 else z), i + F + 1⟩ ∧ LawBest (Means (ysOf cs) (s.drop i)) cs.length (s.drop i).length r z := by
  obtain ⟨F, r, z, h1, h2, _⟩ := tok_law (ms := ms) hi
  obtain ⟨svs, cl, nc, lv, kd, fs, of_, hok, A, L⟩ := h.auto
  have := L.best A hok h1.le h1.all h1.no h1.best
  have e : (ysOf cs).length = cs.length := by simp [ysOf]
  rw [e] at this
  exact ⟨F, r, z, h1, h2, this⟩
end

/-! ## The document's answer -/

set_option maxRecDepth 20000 in
theorem some_spec (x : Re) : ∀ {w : World} {v : NV} {K : Bool → World → Prop} (h : RNd (V No w) v x) (hK : ∀ w', Keeps No w w' → K x.sm w'), frisketlaw09_some.C v.cells.toArray w K := by
  induction x with
  | set f =>
    intro w v K h hK
    cases h with | set
    refine frisketlaw09_some.ok _ _ _ ?_
    simp only [frisketlaw09_some.M]
    refine Al.mk fun b1 w1 n1 => Ld.int (cell_of n1.at_ (by rw [List.getElem?_toArray]; exact NV.get0 _)) ?_
    dsimp only
    rw [beq_self_eq_true, Br_true]
    refine Loop.mk (fun t w' => w' = w1 ∧ ∃ k : Nat, t = k ∧ k ≤ 256 ∧ ∀ i, i < k → f i = false) (fun t => 256 - t.toNat) ⟨rfl, 0, rfl, by omega, fun i hi => by omega⟩ ?_
    rintro t w' ⟨rfl, k, rfl, hk, hp⟩ R hR
    refine Br.mk (fun e => ?_) (fun e => ?_)
    · have e : k < 256 := by have := of_decide_eq_true e; omega
      have hkb : (UInt8.ofNat k).toNat = k := by simp [UInt8.toNat_ofNat']; omega
      have := IdxA.bit (w := w') (b := b1) (v := ⟨0, f, nil3⟩) (c := UInt8.ofNat k) (k := fun x => Br x (K true w') (R (w64 ((k : Int) + 1)) w')) n1.at_ (by
        rw [hkb]
        refine Br.mk (fun e2 => ?_) (fun e2 => ?_)
        · have := hK w' n1.keeps
          have hs : (Re.set f).sm = true := by simp only [Re.sm, List.any_eq_true, List.mem_range]; exact ⟨k, e, e2⟩
          rw [hs] at this; exact this
        · rw [w64_eq (by omega)]
          refine hR _ _ ⟨rfl, k + 1, by omega, by omega, fun i hi => ?_⟩ (by omega)
          by_cases hik : i = k
          · subst hik; exact e2
          · exact hp i (by omega))
      rw [hkb] at this
      exact this
    · have e : k = 256 := by have := of_decide_eq_false e; omega
      subst e
      have := hK w' n1.keeps
      have hs : (Re.set f).sm = false := by
        simp only [Re.sm, List.any_eq_false, List.mem_range]
        intro i hi
        rw [hp i hi]; simp
      rw [hs] at this; exact this
  | empty =>
    intro w v K h hK
    cases h with | empty
    refine frisketlaw09_some.ok _ _ _ ?_
    simp only [frisketlaw09_some.M]
    refine Al.mk fun b1 w1 n1 => Ld.int (cell_of n1.at_ (by rw [List.getElem?_toArray]; exact NV.get0 _)) ?_
    exact hK w1 n1.keeps
  | star a ih =>
    intro w v K h hK
    cases h with | star h' hv
    refine frisketlaw09_some.ok _ _ _ ?_
    simp only [frisketlaw09_some.M]
    refine Al.mk fun b1 w1 n1 => Ld.int (cell_of n1.at_ (by rw [List.getElem?_toArray]; exact NV.get0 _)) ?_
    exact hK w1 n1.keeps
  | cat a b iha ihb =>
    intro w v K h hK
    obtain ⟨hvk, vs, hl, ha⟩ := h.out
    cases ha; rename_i u1 vs1 ha ha1
    cases ha1; rename_i u2 vs2 hb' ha2
    cases ha2
    refine frisketlaw09_some.ok _ _ _ ?_
    simp only [frisketlaw09_some.M]
    refine Al.mk fun b1 w1 n1 => Ld.int (cell_of n1.at_ (by rw [List.getElem?_toArray]; exact v.get0)) ?_
    rw [hvk]
    simp only [Re.kind, show ((2 : Int) == 0) = false from rfl, show ((2 : Int) == 2) = true from rfl, Br_true, Br_false]
    have hl1 := hl.mono (V.keeps0 n1.keeps)
    refine Ld.slv (l := v.l) (cell_of n1.at_ (by rw [List.getElem?_toArray]; exact v.getL)) (IdxS.node hl1 (by omega) (by simp) fun u hu => ?_)
    have hu : u1 = u := by simpa using hu
    subst hu
    refine iha (ha.mono (V.keeps0 n1.keeps)) fun w2 k2 => Br.mk (fun e => ?_) (fun e => ?_)
    · refine Ld.slv (l := v.l) (cell_of (k2.blk0 n1.at_) (by rw [List.getElem?_toArray]; exact v.getL)) (IdxS.node (hl1.mono (V.keeps0 k2)) (by omega) (by simp) fun u hu => ?_)
      have hu : u2 = u := by simpa using hu
      subst hu
      refine ihb (hb'.mono (V.keeps0 (n1.keeps.trans k2))) fun w3 k3 => ?_
      have := hK w3 ((n1.keeps.trans k2).trans k3)
      simp only [Re.sm, e, Bool.true_and] at this
      exact this
    · have := hK w2 (n1.keeps.trans k2)
      simp only [Re.sm, e, Bool.false_and] at this
      exact this
  | or a b iha ihb =>
    intro w v K h hK
    obtain ⟨hvk, vs, hl, ha⟩ := h.out
    cases ha; rename_i u1 vs1 ha ha1
    cases ha1; rename_i u2 vs2 hb' ha2
    cases ha2
    refine frisketlaw09_some.ok _ _ _ ?_
    simp only [frisketlaw09_some.M]
    refine Al.mk fun b1 w1 n1 => Ld.int (cell_of n1.at_ (by rw [List.getElem?_toArray]; exact v.get0)) ?_
    rw [hvk]
    simp only [Re.kind, show ((3 : Int) == 0) = false from rfl, show ((3 : Int) == 2) = false from rfl, show ((3 : Int) == 3) = true from rfl, Br_true, Br_false]
    have hl1 := hl.mono (V.keeps0 n1.keeps)
    refine Ld.slv (l := v.l) (cell_of n1.at_ (by rw [List.getElem?_toArray]; exact v.getL)) (IdxS.node hl1 (by omega) (by simp) fun u hu => ?_)
    have hu : u1 = u := by simpa using hu
    subst hu
    refine iha (ha.mono (V.keeps0 n1.keeps)) fun w2 k2 => Br.mk (fun e => ?_) (fun e => ?_)
    · have := hK w2 (n1.keeps.trans k2)
      simp only [Re.sm, e, Bool.true_or] at this
      exact this
    · refine Ld.slv (l := v.l) (cell_of (k2.blk0 n1.at_) (by rw [List.getElem?_toArray]; exact v.getL)) (IdxS.node (hl1.mono (V.keeps0 k2)) (by omega) (by simp) fun u hu => ?_)
      have hu : u2 = u := by simpa using hu
      subst hu
      refine ihb (hb'.mono (V.keeps0 (n1.keeps.trans k2))) fun w3 k3 => ?_
      have := hK w3 ((n1.keeps.trans k2).trans k3)
      simp only [Re.sm, e, Bool.false_or] at this
      exact this

theorem Rules09_spec {M : Nat → Prop} {w : World} {l : Sl} {cs : List Cls} (hl : SlCls (V M w) l cs) (hlen : cs.length ≤ 40) (hsm : ∀ c ∈ cs, Small c.rx ∧ c.n.size ≤ maxLen) {K : (Sl × Int × Int) → World → Prop}
    (hbad : ∀ a n no w', Keeps No w w' → no ≠ 0 → (cs = [] ∨ ∃ i, i < cs.length ∧ ¬ RuleOK cs i) → K (a, n, no) w')
    (hok : ∀ a vs xs w', Keeps No w w' → SlC (V No w') a 258 (vs.map NV.cells) → All2 (RNd (V No w')) vs xs → xs.map Re.norm = (ysOf cs).map Re.norm → (∀ i, i < cs.length → RuleOK cs i) → cs ≠ [] → K (a, cs.length, 0) w') : frisketlaw09_Rules.C l w K := by
  have hn := hl.1
  simp only [List.length_map] at hn
  refine frisketlaw09_Rules.ok _ _ _ ?_
  simp only [frisketlaw09_Rules.M, zero_cells]
  refine Loop.mk (fun t w' => Keeps No w w' ∧ ∃ (i : Nat) (vs : List NV) (xs : List Re), t.2 = (i : Int) ∧ i ≤ cs.length ∧ vs.length = i ∧ Own w' w.heap.size T.frisketref05_Node 258 t.1 (vs.map NV.cells).flatten ∧ All2 (RNd (V (fun c => t.1.blk c) w')) vs xs ∧ xs.map Re.norm = (ysOf (cs.take i)).map Re.norm ∧ ∀ j, j < i → RuleOK cs j)
    (fun t => cs.length - t.2.toNat) ⟨.refl, 0, [], [], rfl, by omega, rfl, by simpa using Own.nil _ _ _ _, .nil, rfl, fun j hj => by omega⟩ ?_
  rintro ⟨a, ti⟩ w1 ⟨k1, i, vs, xs, hti, hi, hvl, ha, hN, hnorm, hcl⟩ R hR
  dsimp only at hti ha hN ⊢
  subst hti
  refine Br.mk (fun e => ?_) (fun e => ?_)
  · have hlt : i < cs.length := by have := of_decide_eq_true e; omega
    have hci : cs[i]? = some cs[i] := List.getElem?_eq_getElem hlt
    generalize cs[i] = c at hci
    have hcm := hsm c (List.mem_of_getElem? hci)
    have hone : ∀ {c' : Cls}, cs[(i : Int).toNat]? = some c' → c' = c := fun {c'} h => by rw [Int.toNat_natCast, hci] at h; cases h; rfl
    refine IdxS.cls (hl.mono (V.keeps0 k1)) (by omega) (by omega) fun c' q hc' hq => ?_
    rw [hone hc'] at hq
    refine Ld.str hq.n (ref09_Named_spec hcm.2 fun bn hbn => ?_)
    refine Br.mk (fun e2 => ?_) (fun e2 => ?_)
    · refine hbad _ _ _ w1 k1 (by omega) (.inr ⟨i, hlt, fun ⟨c', h1, h2, _⟩ => ?_⟩)
      rw [hci] at h1; cases h1
      rw [hbn.2 h2] at e2; cases e2
    have hname : NameOK (bs c.n) := hbn.1 (by simpa using e2)
    refine Loop.mk (fun t w' => Keeps No w1 w' ∧ ∃ k : Nat, t = k ∧ k ≤ i ∧ ∀ (j : Nat) c', j < k → cs[j]? = some c' → c'.n ≠ c.n) (fun t => i - t.toNat) ⟨.refl, 0, rfl, by omega, fun j c' h => by omega⟩ ?_
    rintro t w2 ⟨k2, k, rfl, hk, hdist⟩ R2 hR2
    refine Br.mk (fun e3 => ?_) (fun e3 => ?_)
    · have hki : k < i := by have := of_decide_eq_true e3; omega
      refine Draw.kp fun w3 e4 k3 => ?_
      have k13 := k2.trans k3
      refine IdxS.cls (hl.mono (V.keeps0 (k1.trans k13))) (by omega) (by omega) fun ck q1 hck hq1 => LdK.str hq1.n ?_
      simp only [Int.toNat_natCast] at hck
      refine IdxS.cls (hl.mono (V.keeps0 (k1.trans k13))) (by omega) (by omega) fun c' q2 hc' hq2 => ?_
      rw [hone hc'] at hq2
      refine LdK.str hq2.n (Br.mk (fun e5 => ?_) (fun e5 => ?_))
      · refine hbad _ _ _ w3 (k1.trans k13) (by omega) (.inr ⟨i, hlt, fun ⟨c', h1, _, h3, _⟩ => ?_⟩)
        rw [hci] at h1; cases h1
        exact h3 k ck hki hck (strEq.1 e5)
      · rw [w64_eq (by omega)]
        refine hR2 _ _ ⟨k13, k + 1, by omega, by omega, fun j c' hj hc' he => ?_⟩ (by omega)
        by_cases hjk : j = k
        · subst hjk
          rw [hck] at hc'; cases hc'
          rw [strEq.2 he] at e5; cases e5
        · exact hdist j c' (by omega) hc' he
    have hki : k = i := by have := of_decide_eq_false e3; omega
    subst hki
    refine IdxS.cls (hl.mono (V.keeps0 (k1.trans k2))) (by omega) (by omega) fun c' q hc' hq => ?_
    rw [hone hc'] at hq
    refine Ld.str hq.rx (ref05_Parse_spec hcm.1 fun v x at_ great w4 k4 hR4 hp1 hp2 => ?_)
    refine Al.mk fun b6 w5 n5 => StA.node n5.at_ fun w6 u6 => ?_
    have e5 := n5.eq; have z5 := n5.size; have z4 := k4.size; have z2 := k2.size
    have k46 : Keeps No w4 w6 := u6.keeps0 n5.keeps (by omega)
    have k16 : Keeps No w1 w6 := (k2.trans k4).trans k46
    have k06 := k1.trans k16
    have notOK : (parseF (bs c.rx)).2.2 ≠ 0 ∨ (reOf c).emp = true ∨ (reOf c).sm = false → ¬ RuleOK cs k := by
      rintro h ⟨c', h1, _, _, h4, h5, h6⟩
      rw [hci] at h1; cases h1
      rcases h with h | h | h
      · exact h h4
      · rw [h5] at h; cases h
      · rw [(Re.sub_iff h5).1 h6] at h; cases h
    dsimp only
    refine Br.mk (fun e6 => ?_) (fun e6 => ?_)
    · exact hbad _ _ _ w6 k06 (by omega) (.inr ⟨k, hlt, notOK (.inl fun h => by have := (hp2 h).2; rw [e6] at this; cases this)⟩)
    refine Br.mk (fun e7 => ?_) (fun e7 => ?_)
    · have e7 := of_decide_eq_true e7
      exact hbad _ _ _ w6 k06 (by omega) (.inr ⟨k, hlt, notOK (.inl fun h => by have := (hp2 h).1; omega)⟩)
    have e7 := of_decide_eq_false e7
    obtain ⟨hp0, hpn⟩ := hp1 (by omega) e6
    have hemp : x.emp = (reOf c).emp := by rw [← Re.emp_norm, ← hpn, Re.emp_norm]; rfl
    have hsmx : x.sm = (reOf c).sm := by rw [← Re.sm_norm, ← hpn, Re.sm_norm]; rfl
    have hb6 := u6.at_
    have hRx : RNd (V (LtV w2.heap.size) w4) v x := hR4
    have hRx6 : RNd (V No w6) v x := hRx.mono (V.move k46 (fun _ _ h => h.elim) fun _ _ h => h.elim)
    refine Join.cut (fun bb w' => Keeps No w6 w' ∧ (bb = true ↔ ((reOf c).emp = true ∨ (reOf c).sm = false))) ?_ ?_
    · rintro bb w7 ⟨k7, hbb⟩
      refine Br.mk (fun e8 => hbad _ _ _ w7 (k06.trans k7) (by omega) (.inr ⟨k, hlt, notOK (.inr (hbb.1 e8))⟩)) (fun e8 => ?_)
      have hno : ¬ ((reOf c).emp = true ∨ (reOf c).sm = false) := fun h => by rw [hbb.2 h] at e8; cases e8
      have hemp0 : (reOf c).emp = false := by cases h : (reOf c).emp with | true => exact absurd (.inl h) hno | false => rfl
      have hsm0 : (reOf c).sm = true := by cases h : (reOf c).sm with | true => rfl | false => exact absurd (.inr h) hno
      have hrk : RuleOK cs k := ⟨c, hci, hname, hdist, hp0, hemp0, (Re.sub_iff hemp0).2 hsm0⟩
      refine LdA.node (k7.blk0 hb6) (App.slice1 fun b9 w8 n8 => ?_)
      have e8 := n8.eq; have z8 := n8.size; have z7 := k7.size; have z6 := k46.size
      have k18 : Keeps No w1 w8 := (k16.trans k7).trans n8.keeps
      have han : a.n = vs.length := by have := ha.len; rw [flatten_len cellsN_len] at this; simp at this; omega
      refine appendC (c := v.cells) elNode (ha.keep0 k18) v.len n8.at_ v.one (by omega) (by omega) (by have := (k1.trans k18).size; omega) fun a' w9 o9 m9 k9 g9 => ?_
      obtain ⟨ga, hga, hga2⟩ := g9
      have hA : ∀ c, a'.blk c → a.blk c ∨ w8.heap.size ≤ c := fun c hc => by rw [blk_one hga hc]; exact hga2
      have v9 : Vle (V (fun c => a.blk c) w8) (V (fun c => a'.blk c) w9) := V.move k9 (fun _ _ h => h) fun c hlt hc => (hA c hc).resolve_right (by omega)
      have hRx8 : RNd (V (fun c => a.blk c) w8) v x := hRx.mono (V.move ((k46.trans k7).trans n8.keeps) (fun _ _ h => h.elim) fun b hb h => by have := (ha.ge h).2; show b < _; omega)
      have ew : w64 ((k : Int) + 1) = ((k + 1 : Nat) : Int) := by rw [w64_eq (by omega)]; omega
      have htk : cs.take (k + 1) = cs.take k ++ [c] := by rw [List.take_add_one, hci]; rfl
      rw [ew]
      refine hR _ _ ⟨((k1.trans k18).no (M := No)).then k9 fun c _ h => by have := (ha.ge h).1; omega, k + 1, vs ++ [v], xs ++ [x], rfl, by omega, by simp [hvl], by simpa using o9, ?_, ?_, ?_⟩ (by dsimp only; omega)
      · exact ((hN.mono fun _ _ x => x.mono (V.keeps0 k18)).append (.cons hRx8 .nil)).mono fun _ _ x => x.mono v9
      · rw [htk, List.map_append, hnorm]
        simp [ysOf, ← hpn, reOf]
      · intro j hj
        by_cases hjk : j = k
        · subst hjk; exact hrk
        · exact hcl j (by omega)
    · intro j hj
      refine LdA.node hb6 (Matches_spec (by decide) hRx6 fun r w7 k7 hr => ?_)
      have hr' : r = true ↔ (reOf c).emp = true := by
        rw [hr, ← hemp]
        exact x.m_self
      refine Br.mk (fun e8 => hj _ _ ⟨k7, ⟨fun _ => .inl (hr'.1 e8), fun _ => rfl⟩⟩) (fun e8 => ?_)
      refine LdA.node (k7.blk0 hb6) (some_spec x (hRx6.mono (V.keeps0 k7)) fun w8 k8 => hj _ _ ⟨k7.trans k8, ?_⟩)
      rw [hsmx]
      have he : (reOf c).emp = false := by cases h : (reOf c).emp with | true => rw [hr'.2 h] at e8; cases e8 | false => rfl
      rw [he]
      cases (reOf c).sm <;> simp
  · have e : i = cs.length := by have := of_decide_eq_false e; omega
    subst e
    have hn' : (l.n : Int) = (cs.length : Int) := by omega
    rw [hn']
    refine Br.mk (fun e2 => ?_) (fun e2 => ?_)
    · have h0 : cs.length = 0 := by have : (cs.length : Int) = 0 := (by simpa using e2); omega
      exact hbad _ _ _ w1 k1 (by omega) (.inl (List.eq_nil_of_length_eq_zero h0))
    · have hne : cs ≠ [] := by rintro rfl; cases e2
      rw [List.take_length] at hnorm
      exact hok a vs xs w1 k1 (ha.readsC (by omega) cellsN_len fun _ _ h => h) (hN.mono fun _ _ x => x.mono (V.sub fun _ _ h => h.elim)) hnorm hcl hne

theorem Means.congr {xs ys : List Re} (h : xs.map Re.norm = ys.map Re.norm) {s : List UInt8} {t i : Nat} : Means ys s t i ↔ Means xs s t i := by
  have hg := congrArg (fun l => l[i]?) h
  simp only [List.getElem?_map] at hg
  constructor
  · rintro ⟨y, hy, hmy⟩
    rw [hy] at hg
    cases hx : xs[i]? with
    | none => rw [hx] at hg; cases hg
    | some x => rw [hx] at hg; exact ⟨x, hx, (m_of_norm (Option.some.inj hg.symm)).1 hmy⟩
  · rintro ⟨x, hx, hmx⟩
    rw [hx] at hg
    cases hy : ys[i]? with
    | none => rw [hy] at hg; cases hg
    | some y => rw [hy] at hg; exact ⟨y, hy, (m_of_norm (Option.some.inj hg.symm)).2 hmx⟩

theorem refNext_spec {w : World} {l : Sl} {vs : List NV} {xs : List Re} {text : ByteArray} {i : Nat} (hl : SlC (V No w) l 258 (vs.map NV.cells)) (hN : All2 (RNd (V No w)) vs xs) (hlen : vs.length ≤ 1000) (hi : i ≤ text.size) (hs : text.size ≤ 1000000) {r z : Int} (hb : LawBest (Means xs ((bs text).drop i)) xs.length ((bs text).drop i).length r z) {K : (Int × Int × Int) → World → Prop}
    (hK : ∀ w', Keeps No w w' → K (r, i, i + (if r = -1 then 1 else z)) w') : frisketref09_Next.C l text i w K := by
  have hn := hl.1
  simp only [List.length_map] at hn
  have hsz := size_bs text
  have hvx := hN.length
  have hdl : ((bs text).drop i).length = text.size - i := by simp
  refine frisketref09_Next.ok _ _ _ _ _ ?_
  simp only [frisketref09_Next.M]
  refine Al.mk fun b1 w1 n1 => AlSt3 fun b2 w2 n2 => ?_
  have e1 := n1.eq; have z1 := n1.size; have e2 := n2.eq; have z2 := n2.size
  have k02 : Keeps No w w2 := n1.keeps.trans n2.keeps
  rw [w64_eq (by omega)] at n2
  refine Loop.mk (fun t w' => Keeps (· = b2) w2 w' ∧ ∃ (k : Nat) (r' : Int), t.2 = (k : Int) ∧ k ≤ vs.length ∧ LawBest (Means xs ((bs text).drop i)) k ((bs text).drop i).length r' t.1 ∧ w'.heap[b2]? = some (.cells #[.int .i64 r', .int .i64 i, .int .i64 (i + (if r' = -1 then 1 else t.1))] T.frisketref09_Token (0, 0)))
    (fun t => vs.length - t.2.toNat) ⟨.refl, 0, -1, rfl, by omega, .inl ⟨rfl, rfl, fun j t hj => by omega⟩, by simpa using n2.at_⟩ ?_
  rintro ⟨best, tk⟩ w3 ⟨k3, k, r', hti, hk, hlb, hb2⟩ R hR
  dsimp only at hti hlb hb2 ⊢
  subst hti
  have k03 : Keeps No w w3 := (k02.no (M := No)).then k3 fun b hb h => by have : b = b2 := h; omega
  refine Br.mk (fun e => ?_) (fun e => ?_)
  · have hlt : k < vs.length := by have := of_decide_eq_true e; omega
    refine Draw.kp fun w4 e4 k4 => ?_
    have k04 := k03.trans k4
    refine IdxS.nodeS (M := No) (hl.mono (V.keeps0 k04)) (fun w' h => V.keeps0 h) (by omega) (by omega) fun v hv => ?_
    simp only [Int.toNat_natCast] at hv
    obtain ⟨x, hx, hRx⟩ := hN.get _ _ hv
    refine App.suffix hi ⟨.refl, ?_⟩
    have hsx : (text.extract i text.size).size ≤ 1000000 := by
      have := size_bs (text.extract i text.size)
      rw [bs_from] at this; omega
    refine refLongest_spec hsx (hRx.mono (V.keeps0 k04)) fun v1 w5 k5 hv1 => ⟨k5, ?_⟩
    rw [bs_from] at hv1
    have hmk : ∀ j, Means xs ((bs text).drop i) j k ↔ x.m ((bs text).drop i) 0 j := fun j => ⟨fun ⟨x', hx', h⟩ => by rw [hx] at hx'; cases hx'; exact h, fun h => ⟨x, hx, h⟩⟩
    have hst := hlb.step (v := v1) (by
      rcases hv1 with ⟨g1, g2⟩ | ⟨j, g1, g2, g3, g4⟩
      · exact .inl ⟨g1, fun j hj h => g2 j hj ((hmk j).1 h)⟩
      · exact .inr ⟨j, g1, g2, (hmk j).2 g3, fun j' hj' h => g4 j' hj' ((hmk j').1 h)⟩)
    have ew : w64 ((k : Int) + 1) = ((k + 1 : Nat) : Int) := by rw [w64_eq (by omega)]; omega
    rw [ew]
    have k35 : Keeps No w3 w5 := k4.trans k5
    have hv1r : -1 ≤ v1 ∧ v1 ≤ 1000000 := by
      rcases hv1 with ⟨g1, g2⟩ | ⟨j, g1, g2, g3, g4⟩ <;> omega
    refine Br.mk (fun hlt2 => ?_) (fun hlt2 => ?_)
    · have hlt2 := of_decide_eq_true hlt2
      refine St3 (k35.blk0 hb2) fun w6 u6 => ?_
      rw [w64_eq (by omega)] at u6
      refine hR _ _ ⟨(k3.trans k35.no).trans u6.keeps, k + 1, k, rfl, by omega, hst.1 hlt2, ?_⟩ (by dsimp only; omega)
      have hk1 : ¬ (k : Int) = -1 := by omega
      rw [u6.at_, if_neg hk1]
    · exact hR _ _ ⟨k3.trans k35.no, k + 1, r', rfl, by omega, hst.2 (of_decide_eq_false hlt2), k35.blk0 hb2⟩ (by dsimp only; omega)
  · have hf : k = vs.length := by have := of_decide_eq_false e; omega
    subst hf
    rw [hvx] at hlb
    obtain ⟨rfl, rfl⟩ := hlb.one hb
    refine Ld3i hb2 (St3 (k3.blk (n2.keeps.blk0 n1.at_) (by omega)) fun w6 u6 => Ld3i u6.at_ ?_)
    exact hK w6 (u6.keeps0 k03 (by omega))

def Tok.rc (x : Tok) : List Value := [.int .i64 x.c, .int .i64 x.f, .int .i64 x.t]
theorem Tok.rlens {xs : List Tok} : ∀ c ∈ xs.map Tok.rc, c.length = 3 := fun c hc => by obtain ⟨m, _, rfl⟩ := List.mem_map.1 hc; rfl
theorem elRTok : Elem P T.sl_frisketref09_Token T.frisketref09_Token (.agg #[.int .i64 0, .int .i64 0, .int .i64 0]) 3 24 := ⟨by kernel_rfl, by kernel_rfl, rfl, by decide⟩

theorem refScan_spec {w : World} {l : Sl} {vs : List NV} {xs : List Re} {text : ByteArray} {cs : List Cls} {ms : List LSt} (hl : SlC (V No w) l 258 (vs.map NV.cells)) (hN : All2 (RNd (V No w)) vs xs) (hlen : vs.length ≤ 1000) (hs : text.size ≤ 1000000) (hS : Sound cs ms) (hnorm : xs.map Re.norm = (ysOf cs).map Re.norm) {K : Sl → World → Prop}
    (hK : ∀ l' w', Keeps No w w' → SlC (V No w') l' 3 ((toksOf ms (bs text)).map Tok.rc) → K l' w') : frisketref09_Scan.C l text w K := by
  have hsz := size_bs text
  have hxl : xs.length = cs.length := by have := congrArg List.length hnorm; simpa [ysOf] using this
  refine frisketref09_Scan.ok _ _ _ _ ?_
  simp only [frisketref09_Scan.M]
  refine Loop.mk (fun t w' => Keeps No w w' ∧ ∃ (i : Nat) (ts : List Tok), t.2 = i ∧ i ≤ text.size ∧ ts.length ≤ i ∧ Own w' w.heap.size T.frisketref09_Token 3 t.1 (ts.map Tok.rc).flatten ∧ ts ++ toks (tokF ms (bs text)) (bs text).length i = toksOf ms (bs text))
    (fun t => text.size - t.2.toNat) ⟨.refl, 0, [], rfl, by omega, by simp, Own.nil _ _ _ _, rfl⟩ ?_
  rintro ⟨a, t⟩ w1 ⟨k1, i, ts, hti, hi, htl, ho, hx⟩ R hR
  dsimp only at hti ho ⊢
  subst hti
  have han : a.n = ts.length := by have := ho.len; rw [flatten_len Tok.rlens] at this; simp at this; omega
  refine Br.mk (fun e => ?_) (fun e => ?_)
  · have hlt : i < text.size := by have := of_decide_eq_true e; omega
    obtain ⟨F, r, z, h1, h2, h3⟩ := hS.best (bs text) (i := i) (by omega)
    have hbd := tok_bounds (ms := ms) (s := bs text) (i := i) (by omega)
    rw [← hxl] at h3
    refine refNext_spec (hl.mono (V.keeps0 k1)) (hN.mono fun _ _ x => x.mono (V.keeps0 k1)) hlen hi hs (h3.congr fun t j => Means.congr hnorm) fun w2 k2 => ?_
    generalize hX : tokF ms (bs text) i = X
    rw [hX] at hbd h2
    have hc1 : r = X.c := by rw [h2]
    have hc2 : (i : Int) = X.f := by rw [h2]
    have hc3 : (i : Int) + (if r = -1 then 1 else z) = X.t := by rw [h2]
    dsimp only
    rw [hc3, hc1]
    refine AlSt3 fun b3 w3 n3 => Ld3i n3.at_ (Al.mk fun b4 w4 n4 => ?_)
    have e3 := n3.eq; have z3 := n3.size; have e4 := n4.eq; have z4 := n4.size
    have k24 := n3.keeps.trans n4.keeps
    have k14 := k2.trans k24
    have k04 := k1.trans k14
    refine appendC (c := X.rc) elRTok (ho.keep0 k14) rfl (by rw [n4.at_, hc2]; rfl) (fun u hu => ?_) (by omega) (by omega) (by have := k04.size; omega) fun l' w5 ho' m5 k5 g5 => ?_
    · simp only [Tok.rc, List.mem_cons, List.not_mem_nil, or_false] at hu
      rcases hu with rfl | rfl | rfl <;> rfl
    · have hge : ∀ c, a.blk c → w.heap.size ≤ c ∧ c ≠ b3 := fun c hc => by have := (ho.keep0 k2).ge hc; omega
      refine Ld.int (cell_of (k5.blk (n4.keeps.blk0 n3.at_) fun hb => (hge _ hb).2 rfl) rfl) ?_
      refine hR _ _ ⟨(k04.no (M := No)).then k5 fun c hc hb => by have := (hge c hb).1; omega, X.t.toNat, ts ++ [X], by dsimp only; omega, by omega, by simp; omega, by simpa using ho', ?_⟩ (by dsimp only; omega)
      rw [← hx, toks_step (goes_tok (ms := ms) (s := bs text)) (by omega : i < (bs text).length), hX]
      simp
  · have hge : i = text.size := by have := of_decide_eq_false e; omega
    rw [toks_end (by omega), List.append_nil] at hx
    rw [hx] at ho
    exact hK a w1 k1 (ho.readsC (by omega) Tok.rlens fun _ _ h => h)
end Go.Fk
end

section
set_option linter.unusedVariables false
namespace Go.Fk
open Go Go.MapKept

theorem App.maxI {P : Program} {ts : Array TypeId} {t : TypeId} {k k' : IntKind} {x y : Int} {w : World} {K : Int → World → Prop} (hK : K (if y > x then y else x) w) : App P (Builtin.max_ ts t #[.int k x, .int k' y]) (.one (.int k)) w K :=
  ⟨_, w, run_max_int2 w ts t k k' x y, hK⟩

/-- What is asked of classes that aren't too great. -/
def Few (cs : List Cls) : Prop := cs.length ≤ 6 ∧ ∀ c ∈ cs, c.rx.size ≤ 40 ∧ c.n.size ≤ 40
theorem Few.small {cs : List Cls} (h : Few cs) : ∀ c ∈ cs, Small c.rx ∧ c.n.size ≤ maxLen := fun c hc => by
  have := h.2 c hc
  have hmx : maxLen = 9223372036854775807 := rfl
  exact ⟨by unfold Small; omega, by omega⟩

theorem Great09_spec {M : Nat → Prop} {w : World} {l : Sl} {cs : List Cls} {K : Int → World → Prop} (hl : SlCls (V M w) l cs) (hlen : cs.length ≤ 1048576) (hsz : ∀ c ∈ cs, c.rx.size ≤ 1048576 ∧ c.n.size ≤ 1048576)
    (hK : ∀ n w', Keeps No w w' → (¬ 0 < n → Few cs) → K n w') : frisketlaw09_Great.C l w K := by
  have hn := hl.1
  simp only [List.length_map] at hn
  refine frisketlaw09_Great.ok _ _ _ ?_
  simp only [frisketlaw09_Great.M]
  refine App.maxI ?_
  refine Loop.mk (fun t w' => Keeps No w w' ∧ ∃ k : Nat, k ≤ cs.length ∧ t.2 = (k : Int) ∧ 0 ≤ t.1 ∧ t.1 ≤ 1048576 + k * 2097152 ∧ (¬ 0 < t.1 → cs.length ≤ 6 ∧ ∀ c ∈ cs.take k, c.rx.size ≤ 40 ∧ c.n.size ≤ 40)) (fun t => cs.length - t.2.toNat) ⟨.refl, 0, by omega, rfl, ?_, ?_, ?_⟩ ?_
  · dsimp only; rw [w64_eq (by omega)]; split <;> omega
  · dsimp only; rw [w64_eq (by omega)]; split <;> omega
  · intro h
    have h : ¬ 0 < (if (0 : Int) > w64 ((l.n : Int) - 6) then (0 : Int) else w64 ((l.n : Int) - 6)) := h
    rw [w64_eq (by omega)] at h
    refine ⟨?_, by simp⟩
    split at h <;> omega
  rintro ⟨n, kk⟩ w1 ⟨k1, k, hk, hkk, h0, h1, h2⟩ R hR
  dsimp only at hkk h0 h1 h2 ⊢
  subst hkk
  refine Br.mk (fun ht => ?_) (fun hf => ?_)
  · have ht : k < cs.length := by have := of_decide_eq_true ht; omega
    refine Draw.kp fun w2 e2 k2 => ?_
    have k02 := k1.trans k2
    refine IdxS.cls (hl.mono (V.keeps0 k02)) (by omega) (by omega) fun c q hc hq => LdK.str hq.rx ?_
    refine IdxS.cls (hl.mono (V.keeps0 k02)) (by omega) (by omega) fun c' q' hc' hq' => ?_
    rw [hc] at hc'; cases hc'
    refine LdK.str hq'.n ?_
    simp only [Int.toNat_natCast] at hc
    have hcs := hsz c (List.mem_of_getElem? hc)
    have hmx : ∀ (x : Nat), x ≤ 1048576 → 0 ≤ (if (0 : Int) > w64 ((x : Int) - 40) then (0 : Int) else w64 ((x : Int) - 40)) ∧ (if (0 : Int) > w64 ((x : Int) - 40) then (0 : Int) else w64 ((x : Int) - 40)) ≤ 1048576 ∧ (¬ 0 < (if (0 : Int) > w64 ((x : Int) - 40) then (0 : Int) else w64 ((x : Int) - 40)) → x ≤ 40) := by
      intro x hx
      rw [w64_eq (by omega)]
      split <;> refine ⟨by omega, by omega, fun h => by omega⟩
    obtain ⟨a0, a1, a2⟩ := hmx c.rx.size hcs.1
    obtain ⟨b0, b1, b2⟩ := hmx c.n.size hcs.2
    have fin : ∀ w', Keeps No w2 w' → R (w64 (w64 (n + (if (0 : Int) > w64 ((c.rx.size : Int) - 40) then (0 : Int) else w64 ((c.rx.size : Int) - 40))) + (if (0 : Int) > w64 ((c.n.size : Int) - 40) then (0 : Int) else w64 ((c.n.size : Int) - 40))), w64 ((k : Int) + 1)) w' := by
      intro w' kw
      generalize (if (0 : Int) > w64 ((c.rx.size : Int) - 40) then (0 : Int) else w64 ((c.rx.size : Int) - 40)) = a at *
      generalize (if (0 : Int) > w64 ((c.n.size : Int) - 40) then (0 : Int) else w64 ((c.n.size : Int) - 40)) = b at *
      rw [w64_eq (x := n + a) (by omega), w64_eq (x := n + a + b) (by omega), w64_eq (x := (k : Int) + 1) (by omega)]
      refine hR _ _ ⟨k02.trans kw, k + 1, by omega, by simp, by dsimp only; omega, by dsimp only; omega, fun h => ?_⟩ (by dsimp only; omega)
      have h : ¬ 0 < n + a + b := h
      obtain ⟨g1, g2⟩ := h2 (by omega)
      refine ⟨g1, fun c' hc' => ?_⟩
      rw [List.take_add_one, hc] at hc'
      rcases List.mem_append.1 hc' with hc' | hc'
      · exact g2 c' hc'
      · simp at hc'; subst hc'; exact ⟨a2 (by omega), b2 (by omega)⟩
    exact ⟨App.maxI ⟨.refl, App.maxI ⟨.refl, fin w2 .refl⟩⟩, App.maxI ⟨.refl, App.maxI ⟨.refl, fin w2 .refl⟩⟩⟩
  · have hf : k = cs.length := by have := of_decide_eq_false hf; omega
    subst hf
    rw [List.take_length] at h2
    exact hK n w1 k1 h2

/-! ## Expressions of the form x+ -/

def plusR (f : Nat → Bool) : Re := .cat (.set f) (.star (.set f))
theorem star_m {f : Nat → Bool} {s : List UInt8} {i j : Nat} : (Re.star (.set f)).m s i j ↔ i ≤ j ∧ ∀ k, i ≤ k → k < j → ∃ c, s[k]? = some c ∧ f c.toNat = true := by
  constructor
  · intro h
    change Clo ((Re.set f).m s) i j at h
    induction h with
    | refl => exact ⟨Nat.le_refl _, fun k h1 h2 => by omega⟩
    | snoc _ r ih =>
      obtain ⟨rfl, c, hc, hf⟩ := r
      refine ⟨by omega, fun k h1 h2 => ?_⟩
      rename_i j' _
      by_cases hk : k = j'
      · subst hk; exact ⟨c, hc, hf⟩
      · exact ih.2 k h1 (by omega)
  · rintro ⟨h1, h2⟩
    obtain ⟨n, rfl⟩ : ∃ n, j = i + n := ⟨j - i, by omega⟩
    clear h1
    show Clo ((Re.set f).m s) i (i + n)
    induction n with
    | zero => exact .refl
    | succ n ih =>
      obtain ⟨c, hc, hf⟩ := h2 (i + n) (by omega) (by omega)
      exact .snoc (ih fun k h1 h3 => h2 k h1 (by omega)) ⟨rfl, c, hc, hf⟩
theorem plus_m {f : Nat → Bool} {s : List UInt8} {t : Nat} : (plusR f).m s 0 t ↔ 1 ≤ t ∧ ∀ k, k < t → ∃ c, s[k]? = some c ∧ f c.toNat = true := by
  constructor
  · rintro ⟨k, ⟨rfl, c, hc, hf⟩, h⟩
    obtain ⟨h1, h2⟩ := star_m.1 h
    refine ⟨h1, fun k hk => ?_⟩
    by_cases h0 : k = 0
    · subst h0; exact ⟨c, hc, hf⟩
    · exact h2 k (by omega) hk
  · rintro ⟨h1, h2⟩
    obtain ⟨c, hc, hf⟩ := h2 0 (by omega)
    exact ⟨1, ⟨rfl, c, hc, hf⟩, star_m.2 ⟨h1, fun k _ hk => h2 k hk⟩⟩

/-- Whether the first t letters are meant, reckoned. -/
def plusB (g : Nat → Bool) (s : List UInt8) (t : Nat) : Bool := decide (1 ≤ t) && (List.range t).all fun k => match s[k]? with | some c => g c.toNat | none => false
theorem plus_B {f g : Nat → Bool} (h : ∀ c, c < 256 → f c = g c) {s : List UInt8} {t : Nat} : (plusR f).m s 0 t ↔ plusB g s t = true := by
  rw [plus_m]
  unfold plusB
  simp only [Bool.and_eq_true, decide_eq_true_eq, List.all_eq_true, List.mem_range]
  refine and_congr_right fun _ => forall_congr' fun k => imp_congr_right fun _ => ?_
  cases s[k]? with
  | none => simp
  | some c => simp [h c.toNat c.toNat_lt]
def plusAt (gs : List (Nat → Bool)) (s : List UInt8) (t i : Nat) : Bool := match gs[i]? with
  | some g => plusB g s t
  | none => false
theorem means_plus {ys : List Re} {gs : List (Nat → Bool)} (h : All2 (fun y g => ∃ f, y = plusR f ∧ ∀ c, c < 256 → f c = g c) ys gs) {s : List UInt8} {t i : Nat} : Means ys s t i ↔ plusAt gs s t i = true := by
  unfold plusAt
  constructor
  · rintro ⟨y, hy, hm⟩
    obtain ⟨g, hg, f, rfl, hf⟩ := h.get _ _ hy
    rw [hg]
    exact (plus_B hf).1 hm
  · intro hp
    cases hg : gs[i]? with
    | none => rw [hg] at hp; cases hp
    | some g =>
      rw [hg] at hp
      obtain ⟨y, hy, f, rfl, hf⟩ := h.get2 _ _ hg
      exact ⟨_, hy, (plus_B hf).2 hp⟩

theorem LawBest.of {M : Nat → Nat → Prop} {B : Nat → Nat → Bool} (h : ∀ t i, M t i ↔ B t i = true) {n N t i : Nat} (h0 : 0 < t ∧ t ≤ N ∧ i < n ∧ B t i = true) (h1 : ∀ j, j < i → B t j = false) (h2 : ∀ j, j < n → ∀ t', t' < N + 1 → t < t' → B t' j = false) : LawBest M n N i t :=
  .inr ⟨t, i, h0.1, h0.2.1, h0.2.2.1, rfl, rfl, (h t i).2 h0.2.2.2, fun j hj hm => (by have := h1 j hj; rw [(h t j).1 hm] at this; cases this), fun j t' hj ht ht' hm => by have := h2 j hj t' (by omega) ht; rw [(h t' j).1 hm] at this; cases this⟩

theorem Sound.tok_is {cs : List Cls} {ms : List LSt} (h : Sound cs ms) {s : List UInt8} {i : Nat} (hi : i ≤ s.length) {r z : Int} (hb : LawBest (Means (ysOf cs) (s.drop i)) cs.length (s.drop i).length r z) : (tokF ms s i).c = r ∧ (tokF ms s i).t = i + (if r = -1 then 1 else z) := by
  obtain ⟨F, r', z', h1, h2, h3⟩ := h.best s hi
  obtain ⟨rfl, rfl⟩ := h3.one hb
  rw [h2]
  exact ⟨rfl, rfl⟩

theorem RuleOK.ok {cs : List Cls} {i : Nat} (h : RuleOK cs i) : ClsOK cs i := by
  obtain ⟨c, h1, h2, h3, h4, h5, h6⟩ := h
  exact ⟨c, h1, h2, h3, h4, h5, .inl h6⟩
theorem ClsOK.notBad {cs : List Cls} {i : Nat} {e : Int} (h : ClsOK cs i) (hb : BadAt cs i e) : False := by
  obtain ⟨c, h1, h2, h3, h4, h5⟩ := h
  obtain ⟨c', g1, g⟩ := hb
  rw [h1] at g1; cases g1
  rcases g with ⟨_, g | ⟨j, c', g2, g3, g4⟩⟩ | ⟨g, _⟩ | ⟨_, _, g⟩
  · exact g h2
  · exact h3 j c' g2 g3 g4
  · exact g h4
  · exact g h5
theorem rule_plus {cs : List Cls} {i : Nat} {c : Cls} (hc : cs[i]? = some c) (hname : NameOK (bs c.n)) (hd : ∀ (j : Nat) c', j < i → cs[j]? = some c' → c'.n ≠ c.n) {f : Nat → Bool} (hp : parseF (bs c.rx) = (plusR f, 0, 0)) {b : UInt8} (hf : f b.toNat = true) : RuleOK cs i := by
  refine ⟨c, hc, hname, hd, by rw [hp], by unfold reOf; rw [hp]; rfl, ?_⟩
  unfold reOf; rw [hp]
  refine ⟨[b], by simp, plus_m.2 ⟨by simp, fun k hk => ?_⟩⟩
  have : k = 0 := by simpa using hk
  subst this
  exact ⟨b, rfl, hf⟩
theorem over_plus {ys : List Re} (h : mCnt ys ≤ 10) : ¬ Over ys := by
  rintro (h1 | h1)
  · omega
  · obtain ⟨svs, h2, h3⟩ := h1.sts
    have hf := h2.few
    have hl : (mFs 0 ys).length = mCnt ys := by have := mFs_len' ys 0; omega
    rw [hl] at hf
    have : 2 ^ mCnt ys ≤ 2 ^ 10 := Nat.pow_le_pow_right (by omega) h
    omega
theorem nameOK_of {s : List UInt8} (h1 : 1 ≤ s.length) (h2 : s.length ≤ 20) (h3 : ∀ c ∈ s, 97 ≤ c.toNat ∧ c.toNat ≤ 122) : NameOK s := ⟨h1, h2, fun i c hc => .inl (h3 c (List.mem_of_getElem? hc))⟩

/-! ## The document's example -/

def cId : Cls := ⟨⟨#[105, 100]⟩, ⟨#[91, 97, 45, 122, 93, 43]⟩, false⟩
def cNum : Cls := ⟨⟨#[110, 117, 109]⟩, ⟨#[91, 48, 45, 57, 93, 43]⟩, false⟩
def cWs : Cls := ⟨⟨#[119, 115]⟩, ⟨#[92, 115, 43]⟩, true⟩
def exCs : List Cls := [cId, cNum, cWs]
def gId (c : Nat) : Bool := decide (97 ≤ c) && decide (c ≤ 122)
def gNum (c : Nat) : Bool := decide (48 ≤ c) && decide (c ≤ 57)
def gWs (c : Nat) : Bool := decide (c = 32)
theorem pId : ∃ f, parseF (bs cId.rx) = (plusR f, 0, 0) ∧ ∀ c, c < 256 → f c = gId c := ⟨_, rfl, by decide +kernel⟩
theorem pNum : ∃ f, parseF (bs cNum.rx) = (plusR f, 0, 0) ∧ ∀ c, c < 256 → f c = gNum c := ⟨_, rfl, by decide +kernel⟩
theorem pWs : ∃ f, parseF (bs cWs.rx) = (plusR f, 0, 0) ∧ ∀ c, c < 256 → f c = gWs c := ⟨_, rfl, by decide +kernel⟩
end Go.Fk
end

section
set_option linter.unusedVariables false
namespace Go.Fk
open Go Go.MapKept

theorem cells_cls {H : View} {b : Nat} {cs : List Cls} {n : Nat} (hn : n = cs.length) (h : H b (.cells (cs.map Cls.cells).flatten.toArray T.scan_Class (0, 0))) : SlCls H ⟨some ⟨b, 0, none⟩, n, n⟩ cs := by
  refine ⟨by simp [hn], .inr ⟨b, 0, _, _, _, rfl, h, fun i c hc j u hu => ?_⟩⟩
  rw [Nat.zero_add, List.getElem?_toArray]
  exact flatten_get Cls.lens hc hu

theorem rules_ex : ∀ i, i < exCs.length → RuleOK exCs i := by
  obtain ⟨f0, p0, h0⟩ := pId
  obtain ⟨f1, p1, h1⟩ := pNum
  obtain ⟨f2, p2, h2⟩ := pWs
  intro i hi
  rcases i with _ | _ | _ | i
  · exact rule_plus (c := cId) rfl (nameOK_of (by decide) (by decide) (by decide)) (fun j c' hj => by omega) p0 (b := 97) (h0 97 (by omega))
  · refine rule_plus (c := cNum) rfl (nameOK_of (by decide) (by decide) (by decide)) (fun j c' hj hc' => ?_) p1 (b := 48) (h1 48 (by omega))
    rcases j with _ | j
    · cases hc'; decide
    · omega
  · refine rule_plus (c := cWs) rfl (nameOK_of (by decide) (by decide) (by decide)) (fun j c' hj hc' => ?_) p2 (b := 32) (h2 32 (by omega))
    rcases j with _ | _ | j
    · cases hc'; decide
    · cases hc'; decide
    · omega
  · simp [exCs] at hi; omega

theorem ys_ex : All2 (fun y g => ∃ f, y = plusR f ∧ ∀ c, c < 256 → f c = g c) (ysOf exCs) [gId, gNum, gWs] := by
  obtain ⟨f0, p0, h0⟩ := pId
  obtain ⟨f1, p1, h1⟩ := pNum
  obtain ⟨f2, p2, h2⟩ := pWs
  refine .cons ⟨f0, ?_, h0⟩ (.cons ⟨f1, ?_, h1⟩ (.cons ⟨f2, ?_, h2⟩ .nil))
  · unfold reOf; rw [p0]
  · unfold reOf; rw [p1]
  · unfold reOf; rw [p2]

theorem cnt_plus {ys : List Re} {gs : List (Nat → Bool)} (h : All2 (fun y g => ∃ f, y = plusR f ∧ ∀ c, c < 256 → f c = g c) ys gs) : mCnt ys = 2 * gs.length := by
  induction h with
  | nil => rfl
  | cons h _ ih =>
    obtain ⟨f, rfl, _⟩ := h
    simp only [mCnt, List.map_cons, List.sum_cons, List.length_cons] at ih ⊢
    rw [ih]
    simp [plusR, Re.cnt]; omega

/-- Of classes that all can be there, whose automaton isn't large, there is a scanner. -/
theorem New_ok {M : Nat → Prop} {w : World} {l : Sl} {cs : List Cls} (hl : SlCls (V M w) l cs) (hlen : cs.length ≤ 5) (hne : cs ≠ []) (hsm : ∀ c ∈ cs, Small c.rx ∧ c.n.size ≤ maxLen) (hr : ∀ i, i < cs.length → RuleOK cs i) (hc : mCnt (ysOf cs) ≤ 10) {K : (Option Addr × Int × Int) → World → Prop}
    (hok : ∀ s ms w', Keeps No w w' → ScanW (V No w') s cs ms → Sound cs ms → K (s, cs.length, 0) w') : scan_New.C l w K :=
  scan_New_spec hl (by omega) hsm (fun h => absurd h hne) (fun i e w' k hi _ hb => ((hr i hi).ok.notBad hb).elim) (fun w' _ _ _ ho => absurd ho (over_plus hc)) hok

theorem small_ex : ∀ c ∈ exCs, Small c.rx ∧ c.n.size ≤ maxLen := by
  intro c hc
  simp only [exCs, List.mem_cons, List.not_mem_nil, or_false] at hc
  rcases hc with rfl | rfl | rfl <;> exact ⟨by unfold Small; decide, by decide⟩

theorem New_ex {w : World} {b : Nat} (hb : w.heap[b]? = some (.cells (exCs.map Cls.cells).flatten.toArray T.scan_Class (0, 0))) {K : (Option Addr × Int × Int) → World → Prop}
    (hok : ∀ s ms w', Keeps No w w' → ScanW (V No w') s exCs ms → Sound exCs ms → K (s, 3, 0) w') : scan_New.C ⟨some ⟨b, 0, none⟩, 3, 3⟩ w K :=
  New_ok (M := No) (cells_cls rfl ⟨id, hb⟩) (by decide) (by simp [exCs]) small_ex rules_ex (by rw [cnt_plus ys_ex]; decide) hok

/-- 'ab 1'. -/
def exT : List UInt8 := [97, 98, 32, 49]
theorem exTok {ms : List LSt} (h : Sound exCs ms) : ((tokF ms exT 0).c = 0 ∧ (tokF ms exT 0).t = 2) ∧ ((tokF ms exT 2).c = 2 ∧ (tokF ms exT 2).t = 3) ∧ ((tokF ms exT 3).c = 1 ∧ (tokF ms exT 3).t = 4) := by
  have hm : ∀ s t i, Means (ysOf exCs) s t i ↔ plusAt [gId, gNum, gWs] s t i = true := fun s t i => means_plus ys_ex
  refine ⟨h.tok_is (i := 0) (by decide) (r := 0) (z := 2) (LawBest.of (t := 2) (i := 0) (hm _) (by decide) (by decide) (by decide)),
    h.tok_is (i := 2) (by decide) (r := 2) (z := 1) (LawBest.of (t := 1) (i := 2) (hm _) (by decide) (by decide) (by decide)),
    h.tok_is (i := 3) (by decide) (r := 1) (z := 1) (LawBest.of (t := 1) (i := 1) (hm _) (by decide) (by decide) (by decide))⟩

theorem toks_ex {ms : List LSt} (h : Sound exCs ms) : toksOf ms exT = [tokF ms exT 0, tokF ms exT 2, tokF ms exT 3] := by
  obtain ⟨⟨_, h1⟩, ⟨_, h2⟩, _, h3⟩ := exTok h
  have g := goes_tok (ms := ms) (s := exT)
  unfold toksOf
  rw [toks_step g (by decide), h1, show ((2 : Int)).toNat = 2 from rfl, toks_step g (by decide), h2, show ((3 : Int)).toNat = 3 from rfl, toks_step g (by decide), h3, toks_end (by decide)]

end Go.Fk
end

section
set_option linter.unusedVariables false
namespace Go.Fk
open Go

/-! ## Parts of a text -/

variable {w : World} {s : Option Addr} {cs : List Cls} {N : Nat} {ms : List LSt} {of_ : Nat → Int}

theorem scan_Next_none {text : ByteArray} {i : Int} {K : ((Int × Int × Int × Int) × Int) → World → Prop} (hK : ∀ w', Keeps No w w' → K ((0, 0, 0, 0), 1) w') : scan_Scanner_Next.C none text i w K := by
  refine scan_Scanner_Next.ok _ _ _ _ _ ?_
  simp only [scan_Scanner_Next.M]
  refine Al.mk fun b1 w1 n1 => ?_
  rw [Option.isNone_none, Br_true]
  exact St4 n1.at_ fun w4 u => Ld4i u.at_ (hK w4 (u.keeps0 n1.keeps (by have := n1.eq; omega)))
theorem scan_Next_spec (h : ScanV (V No w) s cs N ms of_) {text : ByteArray} {i : Int} (hs : text.size ≤ 1000000) {K : ((Int × Int × Int × Int) × Int) → World → Prop}
    (h0 : ¬ (0 ≤ i ∧ i < text.size) → ∀ w', Keeps No w w' → K ((0, 0, 0, 0), 2) w')
    (h1 : ∀ n : Nat, i = n → n < text.size → ∀ w', Keeps No w w' → K (((tokF ms (bs text) n).c, (tokF ms (bs text) n).f, (tokF ms (bs text) n).t, (tokF ms (bs text) n).l), 0) w') : scan_Scanner_Next.C s text i w K := by
  refine scan_Scanner_Next.ok _ _ _ _ _ ?_
  simp only [scan_Scanner_Next.M]
  refine Al.mk fun b1 w1 n1 => ?_
  rw [h.some_, Br_false]
  refine Join.cut (fun b w' => w' = w1 ∧ (b = true ↔ ¬ (0 ≤ i ∧ i < text.size))) ?_ ?_
  · rintro b w' ⟨rfl, hb⟩
    refine Br.mk (fun e => ?_) (fun e => ?_)
    · exact St4 n1.at_ fun w4 u => Ld4i u.at_ (h0 (hb.1 e) w4 (u.keeps0 n1.keeps (by have := n1.eq; omega)))
    · have hin : 0 ≤ i ∧ i < text.size := Classical.byContradiction fun hn => by rw [hb.2 hn] at e; cases e
      obtain ⟨n, rfl⟩ : ∃ n : Nat, i = n := ⟨i.toNat, by omega⟩
      refine scan_next_spec (h.keep n1.keeps) (by omega) hs fun w2 k2 => ?_
      have k02 := n1.keeps.trans k2
      exact St4 (k2.blk0 n1.at_) fun w4 u => Ld4i u.at_ (h1 n rfl (by omega) w4 (u.keeps0 k02 (by have := n1.eq; omega)))
  · intro j hj
    refine Br.mk (fun e => hj _ _ ⟨rfl, ?_⟩) (fun e => hj _ _ ⟨rfl, ?_⟩)
    · have := of_decide_eq_true e; simp; omega
    · have := of_decide_eq_false e; simp; omega

theorem scan_Find_none {name : ByteArray} {K : (Int × Bool) → World → Prop} (hK : K (0, false) w) : scan_Scanner_Find.C none name w K := by
  refine scan_Scanner_Find.ok _ _ _ _ ?_
  simp only [scan_Scanner_Find.M]
  exact hK
end Go.Fk
end

section
set_option linter.unusedVariables false
namespace Go.Fk
open Go Go.MapKept

theorem example_spec {w : World} {K : Sl → World → Prop} (hK : ∀ b w', New b (.cells (exCs.map Cls.cells).flatten.toArray T.scan_Class (0, 0)) w w' → K ⟨some ⟨b, 0, none⟩, 3, 3⟩ w') : frisketlaw09_example.C w K := by
  refine frisketlaw09_example.ok _ _ ?_
  simp only [frisketlaw09_example.M]
  exact Al.mk fun b w1 n1 => hK b w1 n1

theorem awake09_spec {w : World} {K : Bool → World → Prop} (hK : ∀ w', Keeps No w w' → K true w') : frisketlaw09_awake.C w K := by
  refine frisketlaw09_awake.ok _ _ ?_
  simp only [frisketlaw09_awake.M]
  refine example_spec fun b1 w1 n1 => New_ex n1.at_ fun s ms w2 k2 ⟨N, of_, hs⟩ hS => ?_
  have hbs : bs (⟨#[97, 98, 32, 49]⟩ : ByteArray) = exT := rfl
  refine scan_Scan_spec hs (by decide) fun l w3 k3 ho => ?_
  rw [hbs, toks_ex hS] at ho
  obtain ⟨⟨c1, _⟩, ⟨c2, _⟩, c3, _⟩ := exTok hS
  have hsl : SlTok (V No w3) l [tokF ms exT 0, tokF ms exT 2, tokF ms exT 3] := ho.readsC (by omega) Tok.lens fun _ _ h => h
  have hn : l.n = 3 := hsl.1
  dsimp only
  rw [hn]
  simp only [beq_self_eq_true, Br_true, show (((3 : Nat) : Int) == 3) = true from rfl]
  refine IdxS.tok hsl (by omega) (by simp) fun x p hx hp => ?_
  have hx : tokF ms exT 2 = x := by simpa using hx
  subst hx
  refine Ld.int hp.c ?_
  rw [c2]
  simp only [beq_self_eq_true, Br_true]
  refine IdxS.tok hsl (by omega) (by simp) fun x p hx hp => ?_
  have hx : tokF ms exT 3 = x := by simpa using hx
  subst hx
  refine Ld.int hp.c ?_
  rw [c3]
  simp only [beq_self_eq_true, Br_true]
  refine scan_Solid_spec (hs.keep k3) hsl (by simp) fun l2 w4 k4 ho4 => ?_
  have e0 : layF exCs (tokF ms exT 0) = false := by unfold layF; rw [c1]; rfl
  have e1 : layF exCs (tokF ms exT 2) = true := by unfold layF; rw [c2]; rfl
  have e2 : layF exCs (tokF ms exT 3) = false := by unfold layF; rw [c3]; rfl
  have hl2 := ho4.len
  simp only [List.filter_cons, e0, e1, e2, Bool.not_false, Bool.not_true, if_true, Bool.false_eq_true, if_false, List.filter_nil, List.map_cons, List.map_nil, List.flatten_cons, List.flatten_nil] at hl2
  have hn2 : l2.n = 2 := by simp [Tok.cells] at hl2; omega
  rw [hn2]
  exact hK w4 (((n1.keeps.trans k2).trans k3).trans k4)

def cA1 : Cls := ⟨⟨#[97]⟩, ⟨#[97]⟩, false⟩
def cA2 : Cls := ⟨⟨#[97]⟩, ⟨#[98]⟩, false⟩
theorem ruleA : ClsOK [cA1, cA2] 0 := by
  refine ⟨cA1, rfl, nameOK_of (by decide) (by decide) (by decide), fun j c' hj => by omega, rfl, rfl, .inl ⟨[97], by simp, ?_⟩⟩
  exact ⟨rfl, 97, rfl, rfl⟩

theorem ScanNone_spec {w : World} {text : ByteArray} {n : Int} {K : Bool → World → Prop} (hK : ∀ w', Keeps No w w' → K true w') : frisketlaw09_ScanNone.C text n w K := by
  refine frisketlaw09_ScanNone.ok _ _ _ _ ?_
  simp only [frisketlaw09_ScanNone.M]
  refine Join.cut (fun b w1 => Keeps No w w1) ?_ ?_
  · rintro b w1 k1
    refine Br.mk (fun _ => awake09_spec fun w2 k2 => hK w2 (k1.trans k2)) (fun _ => ?_)
    refine scan_Scan_none (scan_Next_none fun w2 k2 => ?_)
    refine AlSt4 fun b2 w3 n3 => scan_Find_none (example_spec fun b4 w4 n4 => New_ex n4.at_ fun s ms w5 k5 ⟨N, of_, hs⟩ hS => ?_)
    dsimp only
    have k15 : Keeps No w w5 := (((k1.trans k2).trans n3.keeps).trans n4.keeps).trans k5
    refine App.make1 (n := 1048577) (t := .int .u8) (z := (0 : Int)) elU8 rfl (by omega) (by omega) fun b6 w6 n6 => ?_
    have hz : strOfNums (List.replicate 1048577 (0 : Int)) = strOfNums (List.replicate 1048577 (0 : Int)) := rfl
    refine ⟨strOfNums (List.replicate 1048577 (0 : Int)), w6, ?_, ?_⟩
    · refine run_convert_bytes_arg (P := P) w6 T.sl_uint8 T.uint8 elU8.sl u8Ty b6 0 1048577 1048577 (List.replicate 1048577 (0 : Int)) (by rw [List.length_replicate]) (fun i hi => ?_) T.string strTy
      have hg : (List.replicate 1048577 (0 : Int))[i]? = some 0 := by rw [List.getElem?_replicate, if_pos hi]
      rw [List.getD_eq_getElem?_getD, hg]
      refine cell_of n6.at_ ?_
      rw [List.getElem?_toArray, List.getElem?_map, Nat.zero_add, List.getElem?_replicate, if_pos hi]
      rfl
    refine scan_Scan_long hs.some_ (by rw [strOfNums_size, List.length_replicate]; omega) ?_
    refine scan_New_spec (M := No) (cs := []) SlC.nil (by simp) (by simp) (fun _ => ?_) (fun i e w' _ hi => by simp at hi) (fun w' _ h => absurd rfl h) (fun s ms w' _ _ h => absurd rfl h.ne)
    refine Al.mk fun b7 w7 n7 => ?_
    have k17 : Keeps No w w7 := (k15.trans n6.keeps).trans n7.keeps
    have fin : ∀ (s' : Option Addr) w8, Keeps No w7 w8 → ∀ a : Option Addr, Br (((⟨none, 0, 0⟩ : Sl).n : Int) == (0 : Int)) (Br ((1 : Int) == (1 : Int)) (Br ((1 : Int) == (1 : Int)) (Br (!false) (scan_Scanner_Classes.C none w8 fun x93 w19 => Br ((x93.n : Int) == (0 : Int)) (scan_Scanner_Solid.C none (⟨none, 0, 0⟩) w19 fun x99 w20 => Br ((x99.n : Int) == (0 : Int)) (Br ((3 : Int) == (3 : Int)) (Br ((0 : Int) == (0 : Int)) (Br ((12 : Int) == (12 : Int)) (Br ((1 : Int) == (1 : Int)) (K ((9 : Int) == (9 : Int)) w20) (K false w20)) (K false w20)) (K false w20)) (K false w20)) (K false w20)) (K false w19)) (K false w8)) (K false w8)) (K false w8)) (K false w8) := by
      intro s' w8 k8 a
      refine scan_Classes_none (scan_Solid_none ?_)
      exact hK w8 (k17.trans k8)
    refine scan_New_spec (M := No) (cs := [cA1, cA2]) (cells_cls rfl ⟨id, n7.at_⟩) (by simp) (fun c hc => ?_) (fun h => by cases h) (fun i e w8 k8 hi hb hbad => ?_) (fun w8 k8 _ hall => ?_) (fun s' ms' w8 k8 _ hS' => ?_)
    · simp only [List.mem_cons, List.not_mem_nil, or_false] at hc
      rcases hc with rfl | rfl <;> exact ⟨by unfold Small; decide, by decide⟩
    · have hi1 : i = 1 := by
        rcases i with _ | _ | i
        · exact (ruleA.notBad hbad).elim
        · rfl
        · simp at hi; omega
      subst hi1
      have he : e = 9 := by
        obtain ⟨c, hc, h⟩ := hbad
        cases hc
        rcases h with ⟨h, _⟩ | ⟨h, _⟩ | ⟨_, _, h⟩
        · exact h
        · exact absurd rfl h
        · refine absurd ?_ h
          exact ⟨rfl, .inl ⟨[98], by simp, rfl, 98, rfl, rfl⟩⟩
      subst he
      exact fin none w8 k8 none
    · obtain ⟨c, hc, _, h, _⟩ := hall 1 (by simp)
      cases hc
      exact absurd rfl (h 0 cA1 (by omega) rfl)
    · obtain ⟨c, hc, _, h, _⟩ := hS'.cls 1 (by simp)
      cases hc
      exact absurd rfl (h 0 cA1 (by omega) rfl)
  · intro j hj
    exact Br.mk (fun _ => hj _ _ .refl) (fun _ => awake09_spec fun w1 k1 => hj _ _ k1)
end Go.Fk
end
