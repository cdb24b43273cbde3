/-
  A part of the proof: what the functions of the program come to, read off the model: no premise of its own, no axiom. By an AI agent.
-/
import Derived.Test.YtjcelcnlndahpaaGreatDoorA8
import Derived.Test.YtjcelcnlndahpaaGreatDoorA6
import Derived.Test.YtjcelcnlndahpaaGreatDoorA2
import Derived.Test.YtjcelcnlndahpaaGreatDoorShelf
set_option linter.all false
section
set_option linter.unusedVariables false
namespace Go.Fk
open Go Go.MapKept

theorem strEq_bs {a b : ByteArray} : (a.toList == b.toList) = true ↔ bs a = bs b := by rw [beq_iff_eq, ByteArray.toList_eq, ByteArray.toList_eq]
theorem bs_inj {a b : ByteArray} (h : bs a = bs b) : a = b := by
  obtain ⟨⟨a⟩⟩ := a
  obtain ⟨⟨b⟩⟩ := b
  simp [bs] at h
  rw [h]
theorem strEq {a b : ByteArray} : (a.toList == b.toList) = true ↔ a = b := ⟨fun h => bs_inj (strEq_bs.1 h), fun h => strEq_bs.2 (by rw [h])⟩

/-! ## Does an expression mean the empty text? -/

theorem regex_Nullable_spec (x : Re) : ∀ {M : Nat → Prop} {w : World} {p : Option Addr} {K : Bool → World → Prop} (h : Nd (V M w) p x) (hk : ∀ w', Keeps No w w' → K x.emp w'), regex_Nullable.C p w K := by
  induction x with
  | set f =>
    intro M w p K h hk
    refine regex_Nullable.ok _ _ _ ?_
    simp only [regex_Nullable.M]
    refine regex_Kind_spec h ?_
    exact hk w .refl
  | empty =>
    intro M w p K h hk
    refine regex_Nullable.ok _ _ _ ?_
    simp only [regex_Nullable.M]
    refine regex_Kind_spec h ?_
    exact hk w .refl
  | star a ih =>
    intro M w p K h hk
    refine regex_Nullable.ok _ _ _ ?_
    simp only [regex_Nullable.M]
    refine regex_Kind_spec h ?_
    exact hk w .refl
  | cat a b iha ihb =>
    intro M w p K h hk
    refine regex_Nullable.ok _ _ _ ?_
    simp only [regex_Nullable.M]
    refine regex_Kind_spec h ?_
    obtain ⟨b0, n0, n1, n2, n3, l, ps, rfl, hb, hl, ha⟩ := h.out
    cases ha; rename_i p ps1 ha ha1
    cases ha1; rename_i q ps2 hb' ha2
    cases ha2
    simp only [Re.kind, Join, show ((2 : Int) == 1) = false from rfl, show ((2 : Int) == 4) = false from rfl, show ((2 : Int) == 2) = true from rfl, show ((3 : Int) == 2) = false from rfl, show ((3 : Int) == 3) = true from rfl, Br_true, Br_false, NilC_some, add_eq]
    refine Ld.slv (l := l) (cell_of hb.2 rfl) (IdxS.get hl (by omega) (by simp) fun y hy => ?_)
    have hy : p = y := by simpa using hy
    subst hy
    refine iha ha fun w1 k1 => Br.mk (fun e => ?_) (fun e => ?_)
    · refine Ld.slv (l := l) (cell_of (k1.blk0 hb.2) rfl) (IdxS.get (hl.mono (V.keeps0 k1)) (by omega) (by simp) fun y hy => ?_)
      have hy : q = y := by simpa using hy
      subst hy
      refine ihb (hb'.mono (V.keeps0 k1)) fun w2 k2 => ?_
      have := hk w2 (k1.trans k2)
      simp only [Re.emp, e, Bool.true_and] at this
      exact this
    · have := hk w1 k1
      simp only [Re.emp, e, Bool.false_and] at this
      exact this
  | or a b iha ihb =>
    intro M w p K h hk
    refine regex_Nullable.ok _ _ _ ?_
    simp only [regex_Nullable.M]
    refine regex_Kind_spec h ?_
    obtain ⟨b0, n0, n1, n2, n3, l, ps, rfl, hb, hl, ha⟩ := h.out
    cases ha; rename_i p ps1 ha ha1
    cases ha1; rename_i q ps2 hb' ha2
    cases ha2
    simp only [Re.kind, Join, show ((3 : Int) == 1) = false from rfl, show ((3 : Int) == 4) = false from rfl, show ((2 : Int) == 2) = true from rfl, show ((3 : Int) == 2) = false from rfl, show ((3 : Int) == 3) = true from rfl, Br_true, Br_false, NilC_some, add_eq]
    refine Ld.slv (l := l) (cell_of hb.2 rfl) (IdxS.get hl (by omega) (by simp) fun y hy => ?_)
    have hy : p = y := by simpa using hy
    subst hy
    refine iha ha fun w1 k1 => Br.mk (fun e => ?_) (fun e => ?_)
    · have := hk w1 k1
      simp only [Re.emp, e, Bool.true_or] at this
      exact this
    · refine Ld.slv (l := l) (cell_of (k1.blk0 hb.2) rfl) (IdxS.get (hl.mono (V.keeps0 k1)) (by omega) (by simp) fun y hy => ?_)
      have hy : q = y := by simpa using hy
      subst hy
      refine ihb (hb'.mono (V.keeps0 k1)) fun w2 k2 => ?_
      have := hk w2 (k1.trans k2)
      simp only [Re.emp, e, Bool.false_or] at this
      exact this

/-! ## Names -/

def ChOK (i : Nat) (c : UInt8) : Prop := (97 ≤ c.toNat ∧ c.toNat ≤ 122) ∨ (0 < i ∧ 48 ≤ c.toNat ∧ c.toNat ≤ 57)
def NameOK (s : List UInt8) : Prop := 1 ≤ s.length ∧ s.length ≤ 20 ∧ ∀ i c, s[i]? = some c → ChOK i c

theorem scan_named_spec {w : World} {s : ByteArray} (hs : s.size ≤ maxLen) {K : Bool → World → Prop} (hK : ∀ b, (b = true ↔ NameOK (bs s)) → K b w) : scan_named.C s w K := by
  have hsz := size_bs s
  have hmx : maxLen = 9223372036854775807 := rfl
  refine scan_named.ok _ _ _ ?_
  simp only [scan_named.M]
  refine Loop.mk (fun t w' => w' = w ∧ ∃ k : Nat, t = k ∧ k ≤ s.size ∧ ∀ i c, i < k → (bs s)[i]? = some c → ChOK i c) (fun t => s.size - t.toNat) ⟨rfl, 0, rfl, by omega, fun i c h => by omega⟩ ?_
  rintro t w' ⟨rfl, k, rfl, hk, hp⟩ R hR
  refine Br.mk (fun e => ?_) (fun e => ?_)
  · have e : k < s.size := by have := of_decide_eq_true e; omega
    refine IdxStr.get (by omega) (by omega) fun c hc => ?_
    simp only [Int.toNat_natCast] at hc
    refine Join.cut (fun b w2 => w2 = w' ∧ (b = true ↔ ¬ ChOK k c)) ?_ ?_
    · rintro b w2 ⟨rfl, hb⟩
      refine Br.mk (fun e2 => hK _ ⟨fun h => (by cases h), fun h => absurd (h.2.2 k c hc) (hb.1 e2)⟩) (fun e2 => ?_)
      have hch : ChOK k c := Classical.byContradiction fun hn => by rw [hb.2 hn] at e2; cases e2
      rw [w64_eq (by omega)]
      refine hR _ _ ⟨rfl, k + 1, by omega, by omega, fun i c' hi hc' => ?_⟩ (by omega)
      by_cases hik : i = k
      · subst hik; rw [hc] at hc'; cases hc'; exact hch
      · exact hp i c' (by omega) hc'
    · intro j hj
      refine Br.mk (fun e1 => Br.mk (fun e2 => ?_) (fun e2 => Br.mk (fun e3 => Br.mk (fun e4 => ?_) (fun e4 => ?_)) (fun e3 => ?_))) (fun e1 => Br.mk (fun e3 => Br.mk (fun e4 => ?_) (fun e4 => ?_)) (fun e3 => ?_))
      all_goals
        refine hj _ _ ⟨rfl, ?_⟩
        unfold ChOK
        simp only [decide_eq_true_eq, decide_eq_false_iff_not, Bool.not_eq_true', Bool.false_eq_true, false_iff, true_iff, Classical.not_not] at *
        omega
  · have e : k = s.size := by have := of_decide_eq_false e; omega
    subst e
    have hall : ∀ i c, (bs s)[i]? = some c → ChOK i c := fun i c h => hp i c (by have := (List.getElem?_eq_some_iff.1 h).1; omega) h
    have hne : (s.toList == (⟨#[]⟩ : ByteArray).toList) = true ↔ (bs s).length = 0 := by
      rw [strEq_bs]
      exact ⟨fun h => by rw [h]; rfl, fun h => List.eq_nil_of_length_eq_zero h⟩
    refine Br.mk (fun e2 => hK _ ?_) (fun e2 => hK _ ?_)
    · have : ¬ (bs s).length = 0 := fun h => by rw [hne.2 h] at e2; cases e2
      simp only [decide_eq_true_eq]
      exact ⟨fun h => ⟨by omega, by omega, hall⟩, fun h => by have := h.2.1; omega⟩
    · have : (bs s).length = 0 := hne.1 (by simpa using e2)
      exact ⟨fun h => (by cases h), fun h => by have := h.1; omega⟩

theorem ref09_Named_spec {w : World} {s : ByteArray} (hs : s.size ≤ maxLen) {K : Bool → World → Prop} (hK : ∀ b, (b = true ↔ NameOK (bs s)) → K b w) : frisketref09_Named.C s w K := by
  have hsz := size_bs s
  have hmx : maxLen = 9223372036854775807 := rfl
  refine frisketref09_Named.ok _ _ _ ?_
  simp only [frisketref09_Named.M]
  refine Loop.mk (fun t w' => w' = w ∧ ∃ k : Nat, t = k ∧ k ≤ s.size ∧ ∀ i c, i < k → (bs s)[i]? = some c → ChOK i c) (fun t => s.size - t.toNat) ⟨rfl, 0, rfl, by omega, fun i c h => by omega⟩ ?_
  rintro t w' ⟨rfl, k, rfl, hk, hp⟩ R hR
  refine Br.mk (fun e => ?_) (fun e => ?_)
  · have e : k < s.size := by have := of_decide_eq_true e; omega
    obtain ⟨c, hc⟩ : ∃ c, (bs s)[k]? = some c := ⟨_, List.getElem?_eq_getElem (by omega)⟩
    have get : ∀ {Q : UInt8 → Prop}, Q c → IdxStr s (k : Int) Q := fun {Q} h => IdxStr.get (by omega) (by omega) fun c' hc' => by
      simp only [Int.toNat_natCast] at hc'
      rw [hc] at hc'; cases hc'; exact h
    refine Join.cut (fun b w2 => w2 = w' ∧ (b = true ↔ (97 ≤ c.toNat ∧ c.toNat ≤ 122))) ?_ ?_
    · rintro b1 w2 ⟨rfl, hb1⟩
      refine Join.cut (fun b w3 => w3 = w2 ∧ (b = true ↔ (48 ≤ c.toNat ∧ c.toNat ≤ 57))) ?_ ?_
      · rintro b2 w3 ⟨rfl, hb2⟩
        refine Join.cut (fun b w4 => w4 = w3 ∧ (b = true ↔ ¬ ChOK k c)) ?_ ?_
        · rintro b w4 ⟨rfl, hb⟩
          refine Br.mk (fun e2 => hK _ ⟨fun h => (by cases h), fun h => absurd (h.2.2 k c hc) (hb.1 e2)⟩) (fun e2 => ?_)
          have hch : ChOK k c := Classical.byContradiction fun hn => by rw [hb.2 hn] at e2; cases e2
          rw [w64_eq (by omega)]
          refine hR _ _ ⟨rfl, k + 1, by omega, by omega, fun i c' hi hc' => ?_⟩ (by omega)
          by_cases hik : i = k
          · subst hik; rw [hc] at hc'; cases hc'; exact hch
          · exact hp i c' (by omega) hc'
        · intro j hj
          cases b1 <;> cases b2 <;> simp only [Bool.not_true, Bool.not_false, Br_true, Br_false] <;> refine hj _ _ ⟨rfl, ?_⟩ <;> unfold ChOK <;> simp only [Bool.false_eq_true, false_iff, true_iff, Classical.not_not, beq_iff_eq] at * <;> omega
      · intro j hj
        refine get (Br.mk (fun e1 => get (hj _ _ ⟨rfl, ?_⟩)) (fun e1 => hj _ _ ⟨rfl, ?_⟩))
        · simp only [decide_eq_true_eq] at *; omega
        · simp only [decide_eq_false_iff_not, Bool.false_eq_true, false_iff] at *; omega
    · intro j hj
      refine get (Br.mk (fun e1 => get (hj _ _ ⟨rfl, ?_⟩)) (fun e1 => hj _ _ ⟨rfl, ?_⟩))
      · simp only [decide_eq_true_eq] at *; omega
      · simp only [decide_eq_false_iff_not, Bool.false_eq_true, false_iff] at *; omega
  · have e : k = s.size := by have := of_decide_eq_false e; omega
    subst e
    have hall : ∀ i c, (bs s)[i]? = some c → ChOK i c := fun i c h => hp i c (by have := (List.getElem?_eq_some_iff.1 h).1; omega) h
    refine Br.mk (fun e2 => hK _ ?_) (fun e2 => hK _ ?_)
    · have e2 := of_decide_eq_true e2
      simp only [decide_eq_true_eq]
      exact ⟨fun h => ⟨by omega, by omega, hall⟩, fun h => by have := h.2.1; omega⟩
    · have e2 := of_decide_eq_false e2
      exact ⟨fun h => (by cases h), fun h => by have := h.1; omega⟩

/-! ## Does an expression mean something that isn't empty, and not the empty text? -/

/-- Its automaton would be too large. -/
def Over (ys : List Re) : Prop := 2000 < mCnt ys ∨ TooMany (mFs 0 ys) (mFol 0 ys) (mKs 0 ys)
def MeansP (y : Re) : Prop := y.emp = false ∧ (y.sub ∨ Over [y])

theorem scan_means_spec {w : World} {p : Option Addr} {y : Re} (hN : Nd (V No w) p y) (hsz : y.size < 1000000) {K : Bool → World → Prop} (hK : ∀ b w', Keeps No w w' → (b = true ↔ MeansP y) → K b w') : scan_means.C p w K := by
  refine scan_means.ok _ _ _ ?_
  simp only [scan_means.M]
  refine regex_Nullable_spec y hN fun w1 k1 => Br.mk (fun e => hK _ w1 k1 ⟨fun h => (by cases h), fun h => by rw [h.1] at e; cases e⟩) (fun he => ?_)
  refine Al.mk fun b1 w2 n2 => ?_
  have k02 := k1.trans n2.keeps
  refine nfa_New_spec (M := No) (fun _ h => h.elim) (row1 ⟨id, n2.at_⟩) (.cons (hN.mono (V.keeps0 k02)) .nil) (by simp) (by simp) (fun x hx => by simp at hx; subst hx; omega) fun m e w3 k3 g1 g2 => ?_
  have k03 := k02.trans k3
  by_cases hc : mCnt [y] ≤ 2000
  · obtain ⟨rfl, hm⟩ := g1 hc
    have hmn : m ≠ none := by
      obtain ⟨bm, _, _, _, _, rfl, _⟩ := hm.ex
      simp
    show Br ((0 : Int) != 0) _ _
    rw [bne_self_eq_false, Br_false]
    refine dfa_New_spec (.inr hm) hmn (by rw [mKs_len]; simp) (fun d svs cl nc w4 k4 hd hok => ?_) (fun w4 k4 hg => ?_)
    · show Br ((0 : Int) != 0) _ _
      rw [bne_self_eq_false, Br_false]
      have hdo : DfaO (V No w4) d svs cl nc := .inr hd
      have k04 := k03.trans k4
      have hfew := hok.few
      refine dfa_States_spec hdo ?_
      refine Loop.mk (fun t w' => w' = w4 ∧ ∃ k : Nat, t = k ∧ k ≤ svs.length ∧ ∀ v : Nat, v < k → accOf svs v = -1) (fun t => svs.length - t.toNat) ⟨rfl, 0, rfl, by omega, fun v h => by omega⟩ ?_
      rintro t w' ⟨rfl, k, rfl, hk, hp⟩ R hR
      refine Br.mk (fun e => ?_) (fun e => ?_)
      · have e : k < svs.length := by have := of_decide_eq_true e; omega
        refine dfa_Accept_spec hdo (Br.mk (fun e2 => ?_) (fun e2 => ?_))
        · have e2 : accOf svs k ≠ -1 := by simpa using e2
          exact hK _ w' k04 ⟨fun _ => ⟨he, .inl ((accepts_iff hok).1 ⟨k, e, e2⟩)⟩, fun _ => rfl⟩
        · have e2 : accOf svs k = -1 := by simpa using e2
          rw [w64_eq (by omega)]
          refine hR _ _ ⟨rfl, k + 1, by omega, by omega, fun v hv => ?_⟩ (by omega)
          by_cases hvk : v = k
          · subst hvk; exact e2
          · exact hp v (by omega)
      · have e : k = svs.length := by have := of_decide_eq_false e; omega
        subst e
        refine hK _ w' k04 ⟨fun h => (by cases h), fun h => ?_⟩
        rcases h.2 with h | h | h
        · obtain ⟨v, hv, ha⟩ := (accepts_iff hok).2 h
          exact absurd (hp v hv) ha
        · omega
        · exact (TooMany.up (i := 0) (ys := [y]) rfl hok h).elim
    · show Br ((3 : Int) != 0) _ _
      exact hK _ w4 (k03.trans k4) ⟨fun _ => ⟨he, .inr (.inr hg)⟩, fun _ => rfl⟩
  · obtain ⟨rfl, rfl⟩ := g2 (by omega)
    show Br ((3 : Int) != 0) _ _
    exact hK _ w3 k03 ⟨fun _ => ⟨he, .inr (.inl (by omega))⟩, fun _ => rfl⟩
end Go.Fk
end

section
set_option linter.unusedVariables false
namespace Go.Fk
open Go Go.MapKept

theorem Draw.kpm {w : World} (M : Nat → Prop) {F : (World → Prop) → World → Prop} (h : ∀ w', w'.heap = w.heap → Keeps No w w' → F (fun x => Keeps M w' x) w') : Draw w F :=
  ⟨fun x => Keeps M w.drew x, Keeps.refl, h _ rfl Keeps.drew⟩

/-! ## Which classes can be there -/

def reOf (c : Cls) : Re := (parseF (bs c.rx)).1
def ysOf (cs : List Cls) : List Re := cs.map reOf
def ClsOK (cs : List Cls) (i : Nat) : Prop := ∃ c, cs[i]? = some c ∧ NameOK (bs c.n) ∧ (∀ (j : Nat) c', j < i → cs[j]? = some c' → c'.n ≠ c.n) ∧ (parseF (bs c.rx)).2.2 = 0 ∧ MeansP (reOf c)
def BadAt (cs : List Cls) (i : Nat) (e : Int) : Prop := ∃ c, cs[i]? = some c ∧ ((e = 9 ∧ (¬ NameOK (bs c.n) ∨ ∃ (j : Nat) (c' : Cls), j < i ∧ cs[j]? = some c' ∧ c'.n = c.n)) ∨ ((parseF (bs c.rx)).2.2 ≠ 0 ∧ e = (parseF (bs c.rx)).2.2) ∨ (e = 11 ∧ (parseF (bs c.rx)).2.2 = 0 ∧ ¬ MeansP (reOf c)))
structure Sound (cs : List Cls) (ms : List LSt) : Prop where
  ne : cs ≠ []
  cls : ∀ i, i < cs.length → ClsOK cs i
  auto : ∃ svs cl nc lv kd fs of_, DfaOK (mFs 0 (ysOf cs)) (mFol 0 (ysOf cs)) (mKs 0 (ysOf cs)) svs cl nc ∧ Aut svs ∧ LeastOK svs lv kd fs ms of_
def ScanW (H : View) (s : Option Addr) (cs : List Cls) (ms : List LSt) : Prop := ∃ N of_, ScanV H s cs N ms of_
theorem ScanW.keep {w w' : World} {s : Option Addr} {cs : List Cls} {ms : List LSt} (h : ScanW (V No w) s cs ms) (k : Keeps No w w') : ScanW (V No w') s cs ms := by
  obtain ⟨N, of_, h⟩ := h
  exact ⟨N, of_, h.keep k⟩

theorem scan_class_spec {w : World} {M : Nat → Prop} {b mm : Nat} {lp : Option Addr} {l : Sl} {R : ByteArray → Int → Prop} (hb : w.heap[b]? = some (scObj lp l mm)) (hm : MapAt P T.string .str (.int .i64) (V M w) mm R) {i : Int} (hi : i < 40) {c : Cls} (hc : c.n.size ≤ maxLen) (hrx : Small c.rx) {K : (Option Addr × Int) → World → Prop}
    (k9 : ∀ w', Keeps No w w' → (¬ NameOK (bs c.n) ∨ ∃ v, R c.n v) → K (none, 9) w')
    (kp : ∀ w', Keeps No w w' → NameOK (bs c.n) → (∀ v, ¬ R c.n v) → (parseF (bs c.rx)).2.2 ≠ 0 → K (none, ((parseF (bs c.rx)).2.2 : Int)) w')
    (k11 : ∀ w', Keeps No w w' → NameOK (bs c.n) → (∀ v, ¬ R c.n v) → (parseF (bs c.rx)).2.2 = 0 → ¬ MeansP (reOf c) → K (none, 11) w')
    (k0 : ∀ p w', Keeps No w w' → NameOK (bs c.n) → (∀ v, ¬ R c.n v) → (parseF (bs c.rx)).2.2 = 0 → MeansP (reOf c) → Nd (V (Lt w.heap.size) w') p (reOf c) → K (p, 0) w') : scan_Scanner_class.C (some ⟨b, 0, none⟩) i (c.n, c.rx, c.lay) w K := by
  refine scan_Scanner_class.ok _ _ _ _ _ ?_
  simp only [scan_Scanner_class.M]
  refine Al.mk fun b1 w1 n1 => Draw.kp fun w2 e2 k2 => ?_
  have k02 : Keeps No w w2 := n1.keeps.trans k2
  have z1 := n1.size; have z2 := k2.size
  simp only [NilC_some, add_eq]
  refine LdK.map (cell_of (k02.blk0 hb) rfl) (LdK.str (cell_of (k2.blk0 n1.at_) rfl) ?_)
  have hm2 : MapO P T.string .str (.int .i64) (V M w2) (some mm) R := MapAt.mono hm (V.keeps0 k02)
  have fin : ∀ (bt : Bool), (bt = true ↔ ∃ v, R c.n v) → ∀ z : Int, (Keeps No w2 w2 ∧ Br (decide ((40 : Int) ≤ i)) (K (none, 3) w2) (Join (fun (s3 : Bool) w4 => Br s3 (K (none, 9) w4) (Ld .str (⟨b1, 1, none⟩) w4 fun x36 => regex_Parse.C x36 w4 fun x37 w5 => Br (x37.2.2 != (0 : Int)) (K (none, x37.2.2) w5) (scan_means.C x37.1 w5 fun x45 w6 => Br (!x45) (K (none, 11) w6) (K (x37.1, 0) w6)))) fun j4 => Ld .str (⟨b1, 0, none⟩) w2 fun x28 => scan_named.C x28 w2 fun x29 w7 => Br (!x29) (j4 true w7) (j4 (z, bt).2 w7))) := by
    intro bt hbt z
    refine ⟨.refl, Br.mk (fun e => by have := of_decide_eq_true e; omega) fun _ => ?_⟩
    refine Join.cut (fun s3 w4 => w4 = w2 ∧ (s3 = true ↔ (¬ NameOK (bs c.n) ∨ ∃ v, R c.n v))) ?_ ?_
    · rintro s3 w4 ⟨rfl, hs3⟩
      refine Br.mk (fun e => k9 _ k02 (hs3.1 e)) (fun e => ?_)
      have hno : ¬ (¬ NameOK (bs c.n) ∨ ∃ v, R c.n v) := fun h => by rw [hs3.2 h] at e; cases e
      have hnm : NameOK (bs c.n) := Classical.byContradiction fun h => hno (.inl h)
      have hnr : ∀ v, ¬ R c.n v := fun v h => hno (.inr ⟨v, h⟩)
      refine Ld.str (cell_of (k2.blk0 n1.at_) rfl) (regex_Parse_spec hrx fun p w5 k5 hN hnil => ?_)
      have k05 := k02.trans k5
      by_cases h0 : (parseF (bs c.rx)).2.2 = 0
      · have hN := hN h0
        rw [h0]
        show Br ((0 : Int) != 0) _ _
        rw [bne_self_eq_false, Br_false]
        refine scan_means_spec (hN.mono (V.sub fun _ _ h => h.elim)) (by have := parse_small h0; unfold reOf at *; omega) fun x w6 k6 hx => ?_
        refine Br.mk (fun e => ?_) (fun e => ?_)
        · exact k11 w6 (k05.trans k6) hnm hnr h0 fun h => by have h : x = true := hx.2 h; subst h; cases e
        · have hxt : x = true := by simpa using e
          exact k0 p w6 (k05.trans k6) hnm hnr h0 (hx.1 hxt) (hN.mono ((V.keeps0 k6).trans (V.sub fun b _ h => by have : b < w.heap.size := h; show b < _; omega)))
      · have : ((((parseF (bs c.rx)).2.2 : Nat) : Int) != 0) = true := by simp; omega
        rw [this, Br_true]
        have hp := hnil h0
        exact kp w5 k05 hnm hnr h0
    · intro j hj
      refine Ld.str (cell_of (k2.blk0 n1.at_) rfl) (scan_named_spec hc fun bn hbn => ?_)
      refine Br.mk (fun e => hj _ _ ⟨rfl, ?_⟩) (fun e => hj _ _ ⟨rfl, ?_⟩)
      · have e : bn = false := by simpa using e
        exact ⟨fun _ => .inl fun h => (by rw [hbn.2 h] at e; cases e), fun _ => rfl⟩
      · have e : bn = true := by simpa using e
        have hnm := hbn.1 e
        dsimp only
        rw [hbt]
        exact ⟨.inr, fun h => h.resolve_left fun h => h hnm⟩
  refine App.look2 (kt := .str) (vt := .int .i64) (x := c.n) (z := (0 : Int)) strIntTy (run_zeroInt w2) hm2 (strKey hc) (fun v hv => fin true ⟨fun _ => ⟨v, hv⟩, fun _ => rfl⟩ v) (fun hno => fin false ⟨fun h => (by cases h), fun ⟨v, hv⟩ => absurd hv (hno v)⟩ 0)

theorem LeastV.away {w : World} {b2 mm : Nat} {lp : Option Addr} {l : Sl} {p : Option Addr} {N : Nat} {ms : List LSt} {of_ : Nat → Int} (hb : w.heap[b2]? = some (scObj lp l mm)) (h : LeastV (V No w) p N ms of_) : LeastV (V (· = b2) w) p N ms of_ := by
  obtain ⟨b, l1, o, h1, h2, h3, h4⟩ := h
  refine ⟨b, l1, o, h1, ⟨?_, h2.2⟩, ?_, ?_⟩
  · rintro rfl
    have := h2.2
    rw [hb] at this
    simp at this
  · refine ⟨h3.1, ?_⟩
    rcases h3.2 with h | ⟨c, off, cs, E, fr, g1, g2, g3⟩
    · exact .inl h
    · by_cases hm : ms.map LSt.cells = []
      · exact .inl hm
      · refine .inr ⟨c, off, cs, E, fr, g1, ⟨?_, g2.2⟩, g3⟩
        rintro rfl
        have := g2.2
        rw [hb] at this
        simp only [Option.some.injEq, Obj.cells.injEq] at this
        obtain ⟨rfl, _, _⟩ := this
        cases ms with
        | nil => exact hm rfl
        | cons m ms =>
          have hl : m.cells.length = 257 := LSt.lens (ms := m :: ms) _ (by simp)
          have := g3 0 m.cells rfl 5 _ (List.getElem?_eq_getElem (by omega))
          simp at this
  · refine ⟨h4.1, ?_⟩
    rcases h4.2 with h | ⟨c, off, cs, E, fr, g1, g2, g3⟩
    · exact .inl h
    · by_cases hm : rowG N of_ = []
      · exact .inl hm
      · refine .inr ⟨c, off, cs, E, fr, g1, ⟨?_, g2.2⟩, g3⟩
        rintro rfl
        have := g2.2
        rw [hb] at this
        simp only [Option.some.injEq, Obj.cells.injEq] at this
        obtain ⟨rfl, _, _⟩ := this
        cases hr : rowG N of_ with
        | nil => exact hm hr
        | cons x xs =>
          have := g3 0 x (by rw [hr]; rfl)
          rcases off with _ | _ | _ | off <;> simp [Ty.enc] at this

theorem NameR.snoc {cs : List Cls} {i : Nat} {c : Cls} (hc : cs[i]? = some c) (hno : ∀ v, ¬ NameR (cs.take i) c.n v) (a : ByteArray) (v : Int) : ((a = c.n ∧ v = (i : Int)) ∨ (a ≠ c.n ∧ NameR (cs.take i) a v)) ↔ NameR (cs.take (i + 1)) a v := by
  have hl : i < cs.length := (List.getElem?_eq_some_iff.1 hc).1
  have htk : cs.take (i + 1) = cs.take i ++ [c] := by rw [List.take_add_one, hc]; rfl
  have hlt : (cs.take i).length = i := by simp; omega
  constructor
  · rintro (⟨rfl, rfl⟩ | ⟨_, j, c', h1, h2, h3⟩)
    · exact ⟨i, c, by rw [htk, List.getElem?_append_right (by omega)]; simp [hlt], rfl, rfl⟩
    · exact ⟨j, c', by rw [htk, List.getElem?_append_left (List.getElem?_eq_some_iff.1 h1).1]; exact h1, h2, h3⟩
  · rintro ⟨j, c', h1, h2, h3⟩
    rw [htk] at h1
    by_cases hj : j < i
    · rw [List.getElem?_append_left (by omega)] at h1
      refine .inr ⟨fun e => ?_, j, c', h1, h2, h3⟩
      subst e
      exact hno v ⟨j, c', h1, h2, h3⟩
    · rw [List.getElem?_append_right (by omega)] at h1
      have : j - (cs.take i).length = 0 := by
        have := (List.getElem?_eq_some_iff.1 h1).1
        simp at this ⊢; omega
      rw [this] at h1
      simp at h1
      subst h1
      exact .inl ⟨h2.symm, by omega⟩

theorem NameR.look {cs : List Cls} {i : Nat} {n : ByteArray} : (∃ v, NameR (cs.take i) n v) ↔ ∃ (j : Nat) (c' : Cls), j < i ∧ cs[j]? = some c' ∧ c'.n = n := by
  constructor
  · rintro ⟨v, j, c', h1, h2, h3⟩
    rw [List.getElem?_take] at h1
    split at h1
    · exact ⟨j, c', by assumption, h1, h2⟩
    · cases h1
  · rintro ⟨j, c', h1, h2, h3⟩
    exact ⟨j, j, c', by rw [List.getElem?_take, if_pos h1]; exact h2, h3, rfl⟩

theorem scan_New_spec {M : Nat → Prop} {w : World} {l : Sl} {cs : List Cls} (hl : SlCls (V M w) l cs) (hlen : cs.length ≤ 40) (hsm : ∀ c ∈ cs, Small c.rx ∧ c.n.size ≤ maxLen) {K : (Option Addr × Int × Int) → World → Prop}
    (hnil : cs = [] → K (none, 0, 12) w)
    (hbad : ∀ (i : Nat) e w', Keeps No w w' → i < cs.length → (∀ j, j < i → ClsOK cs j) → BadAt cs i e → K (none, i, e) w')
    (hbig : ∀ w', Keeps No w w' → cs ≠ [] → (∀ j, j < cs.length → ClsOK cs j) → Over (ysOf cs) → K (none, 0, 3) w')
    (hok : ∀ s ms w', Keeps No w w' → ScanW (V No w') s cs ms → Sound cs ms → K (s, cs.length, 0) w') : scan_New.C l w K := by
  have hn := hl.1
  simp only [List.length_map] at hn
  refine scan_New.ok _ _ _ ?_
  simp only [scan_New.M]
  refine Br.mk (fun e => hnil (List.eq_nil_of_length_eq_zero (by have h0 : (l.n : Int) = 0 := (by simpa using e); omega))) (fun e => ?_)
  have hne : cs ≠ [] := by
    rintro rfl
    rw [hn] at e; cases e
  refine Clone_cls hl (by omega) fun l1 w1 k1 ho1 => ?_
  refine Al.mk fun m1 w2 n2 => Al.mk fun b2 w3 n3 => ?_
  have e2 := n2.eq; have z2 := n2.size; have e3 := n3.eq; have z3 := n3.size; have z1 := k1.size
  have k03 : Keeps No w w3 := (k1.trans n2.keeps).trans n3.keeps
  have hl1 : ∀ c, l1.blk c → w.heap.size ≤ c ∧ c ≠ m1 ∧ c ≠ b2 := fun c hc => by have := ho1.ge hc; omega
  refine Loop.mk (fun t w' => Keeps No w w' ∧ ∃ (i : Nat) (ps : List (Option Addr)), t.2 = (i : Int) ∧ i ≤ cs.length ∧ ps.length = i ∧ w'.heap[b2]? = some (scObj none l1 m1) ∧ Own w' w.heap.size T.scan_Class 3 l1 (cs.map Cls.cells).flatten ∧
      MapAt P T.string .str (.int .i64) (V No w') m1 (NameR (cs.take i)) ∧ Own w' w.heap.size T.p_regex_Node 1 t.1 (ps.map (Ty.enc .ptr)) ∧ (¬ t.1.blk b2 ∧ ¬ t.1.blk m1 ∧ ∀ c, t.1.blk c → ¬ l1.blk c) ∧
      All2 (Nd (V (fun c => t.1.blk c ∨ c = b2 ∨ c = m1) w')) ps (ysOf (cs.take i)) ∧ ∀ j, j < i → ClsOK cs j)
    (fun t => cs.length - t.2.toNat) ⟨k03, 0, [], rfl, by omega, rfl, n3.at_, (ho1.keep0 n2.keeps).keep0 n3.keeps, ?_, by simpa using Own.nil _ _ _ _, ⟨fun ⟨a, h, _⟩ => (by cases h), fun ⟨a, h, _⟩ => (by cases h), fun c ⟨a, h, _⟩ => (by cases h)⟩, .nil, fun j hj => by omega⟩ ?_
  · exact (MapAt.empty (kt := .str) (vt := .int .i64) ⟨id, n3.keeps.blk0 n2.at_⟩).congr fun k v => ⟨fun h => h.elim, fun ⟨i, c, h, _⟩ => by simp at h⟩
  rintro ⟨a, ti⟩ w4 ⟨k4, i, ps, hti, hi, hpl, hb2, ho4, hmap, ha, ⟨f1, f2, f3⟩, hN, hcl⟩ R hR
  dsimp only at hti ha f1 f2 f3 hN ⊢
  subst hti
  have han : a.n = ps.length := by have := ha.len; simp at this; omega
  have hb2lt := lt_of_some hb2
  have hm1lt := hmap.lt
  refine Br.mk (fun e => ?_) (fun e => ?_)
  · have hlt : i < cs.length := by have := of_decide_eq_true e; omega
    have hci : cs[i]? = some cs[i] := List.getElem?_eq_getElem hlt
    generalize cs[i] = c at hci
    have hcm := hsm c (List.mem_of_getElem? hci)
    refine IdxS.cls (hl.mono (V.keeps0 k4)) (by omega) (by omega) fun c' q hc' hq => ?_
    simp only [Int.toNat_natCast] at hc'
    rw [hci] at hc'; cases hc'
    refine Ld.str hq.n (Ld.str hq.rx (Ld.bool hq.lay ?_))
    refine AlSt3 fun b5 w5 n5 => ?_
    have e5 := n5.eq; have z5 := n5.size
    refine Ld.str (cell_of n5.at_ rfl) (Ld.str (cell_of n5.at_ rfl) (Ld.bool (cell_of n5.at_ rfl) ?_))
    refine scan_class_spec (M := No) (n5.keeps.blk0 hb2) (hmap.mono (V.keeps0 n5.keeps)) (by omega) hcm.2 hcm.1 ?_ ?_ ?_ ?_
    · intro w6 k6 h6
      show Br ((9 : Int) != 0) _ _
      exact hbad i 9 w6 ((k4.trans n5.keeps).trans k6) hlt hcl ⟨c, hci, .inl ⟨rfl, h6.imp id NameR.look.1⟩⟩
    · intro w6 k6 h6 h7 h8
      have : ((((parseF (bs c.rx)).2.2 : Nat) : Int) != 0) = true := by simp; omega
      dsimp only
      rw [this, Br_true]
      exact hbad i _ w6 ((k4.trans n5.keeps).trans k6) hlt hcl ⟨c, hci, .inr (.inl ⟨h8, rfl⟩)⟩
    · intro w6 k6 h6 h7 h8 h9
      show Br ((11 : Int) != 0) _ _
      exact hbad i 11 w6 ((k4.trans n5.keeps).trans k6) hlt hcl ⟨c, hci, .inr (.inr ⟨rfl, h8, h9⟩)⟩
    · intro p w6 k6 h6 h7 h8 h9 hNp
      dsimp only
      rw [bne_self_eq_false, Br_false]
      have hcok : ClsOK cs i := ⟨c, hci, h6, fun j c' hj hc' he => h7 _ (NameR.look.2 ⟨j, c', hj, hc', he⟩).choose_spec, h8, h9⟩
      refine Draw.kpm (· = m1) fun w7 e7 k7 => ?_
      have k47 : Keeps No w4 w7 := (n5.keeps.trans k6).trans k7
      have k07 := k4.trans k47
      have z7 := k47.size; have z6 := k6.size
      refine LdS.of (t := .map) (v := some m1) (fun w' hw' => cell_of (hw'.blk (k47.blk0 hb2) (by omega)) rfl) (LdS.of (t := .str) (v := c.n) (fun w' hw' => cell_of (hw'.blk ((k6.trans k7).blk0 n5.at_) (by omega)) rfl) ?_)
      refine App0.put (M := No) (kt := .str) (vt := .int .i64) (x := c.n) (y := (i : Int)) strIntTy (hmap.mono (V.keeps0 k47)) (strKey hcm.2) fun w8 k8 z8 hm8 => ⟨k8, ?_⟩
      have ha8 : Own w8 w.heap.size T.p_regex_Node 1 a (ps.map (Ty.enc .ptr)) := (ha.keep0 k47).keep k8 fun b hb => by subst hb; exact f2
      refine append1 (t := .ptr) (x := p) E_pNode ha8 rfl (by omega) (by omega) (by have := k07.size; omega) fun a' w9 o9 m9 k9 g9 => ?_
      obtain ⟨ga, hga, hga2⟩ := g9
      have s9 := k9.size
      have hA : ∀ c, a'.blk c → a.blk c ∨ w8.heap.size ≤ c := fun c hc => by rw [blk_one hga hc]; exact hga2
      have k48 : Keeps (· = m1) w4 w8 := (k47.no).trans k8
      have v9 : Vle (V (fun c => a.blk c ∨ c = b2 ∨ c = m1) w8) (V (fun c => a'.blk c ∨ c = b2 ∨ c = m1) w9) := V.move k9 (fun c _ hc => .inl hc) fun c hlt hc => by
        rcases hc with h1 | h1
        · exact .inl ((hA c h1).resolve_right (by omega))
        · exact .inr h1
      have hNp8 : Nd (V (fun c => a.blk c ∨ c = b2 ∨ c = m1) w8) p (reOf c) := hNp.mono ((V.move (k7.no.then k8 (M := fun c => a.blk c ∨ c = b2 ∨ c = m1) fun _ _ h => .inr (.inr h)) (fun b hb h => ?_) fun b hb h => ?_))
      rotate_left
      · rcases h with h | h | h
        · have := (ha.ge h).2; show b < _; omega
        · show b < _; omega
        · show b < _; omega
      · rcases h with h | h | h
        · have := (ha.ge h).2; show b < _; omega
        · show b < _; omega
        · show b < _; omega
      have hN8 : All2 (Nd (V (fun c => a.blk c ∨ c = b2 ∨ c = m1) w8)) ps (ysOf (cs.take i)) := hN.mono fun _ _ x => x.mono (V.move k48 (fun _ _ h => .inr (.inr h)) fun _ _ h => h)
      have ew : w64 ((i : Int) + 1) = ((i + 1 : Nat) : Int) := by rw [w64_eq (by omega)]; omega
      have htk : cs.take (i + 1) = cs.take i ++ [c] := by rw [List.take_add_one, hci]; rfl
      rw [ew]
      have k89 : Keeps (fun c => a.blk c ∨ c = m1) w7 w9 := (k8.mono fun _ _ h => .inr h).trans (k9.mono fun _ _ h => .inl h)
      refine hR _ _ ⟨(k07.no (M := No)).then k89 fun c hc h => ?_, i + 1, ps ++ [p], rfl, by omega, by simp [hpl], ?_, ?_, ?_, o9, ⟨?_, ?_, ?_⟩, ?_, ?_⟩ (by dsimp only; omega)
      · rcases h with h | h
        · have := (ha.ge h).1; omega
        · have := k1.size; omega
      · exact k9.blk (k8.blk (k47.blk0 hb2) (by omega)) f1
      · exact ((ho4.keep0 k47).keep k8 fun b hb h => (hl1 b h).2.1 hb).keep k9 fun b hb h => f3 b hb h
      · refine (hm8.congr fun x v => NameR.snoc hci h7 x v).keep k9 f2 id
      · exact fun h => (hA _ h).elim f1 fun h => by omega
      · exact fun h => (hA _ h).elim f2 fun h => by omega
      · exact fun b h => (hA _ h).elim (f3 b) fun h hb => by have := (ho4.ge hb).2; omega
      · rw [htk]
        unfold ysOf
        rw [List.map_append]
        exact (hN8.append (.cons hNp8 .nil)).mono fun _ _ x => x.mono v9
      · intro j hj
        by_cases hji : j = i
        · subst hji; exact hcok
        · exact hcl j (by omega)
  · have e : i = cs.length := by have := of_decide_eq_false e; omega
    subst e
    rw [List.take_length] at hN
    rw [List.take_length] at hmap
    have hyl : (ysOf cs).length = cs.length := by simp [ysOf]
    refine nfa_New_spec (M := No) (fun _ h => h.elim) (ha.reads fun _ _ h => h) (hN.mono fun _ _ x => x.mono (V.sub fun _ _ h => h.elim)) (fun h => hne (List.eq_nil_of_length_eq_zero (by rw [← hpl, h]; rfl))) (by omega) (fun x hx => ?_) fun m e w5 k5 g1 g2 => ?_
    · obtain ⟨c, hc, rfl⟩ := List.mem_map.1 hx
      obtain ⟨j, hj⟩ := List.getElem?_of_mem hc
      obtain ⟨c', hc', _, _, h0, _⟩ := hcl j (List.getElem?_eq_some_iff.1 hj).1
      rw [hj] at hc'; cases hc'
      have := parse_small h0
      unfold reOf; omega
    have k05 := k4.trans k5
    by_cases hc : mCnt (ysOf cs) ≤ 2000
    · obtain ⟨rfl, hm⟩ := g1 hc
      have hmn : m ≠ none := by
        obtain ⟨bm, _, _, _, _, rfl, _⟩ := hm.ex
        simp
      dsimp only
      rw [bne_self_eq_false, Br_false]
      refine dfa_New_spec (.inr hm) hmn (by rw [mKs_len]; omega) (fun d svs cl nc w6 k6 hd hok6 => ?_) (fun w6 k6 hg => ?_)
      · dsimp only
        rw [bne_self_eq_false, Br_false]
        have hsome : d.isNone = false := by obtain ⟨bd, p, l, rfl, _⟩ := hd; rfl
        have A := Aut.of hok6 (by omega)
        refine least_New_spec (.inr hd) hsome A fun p lv kd fs ms of_ w7 k7 hlv L => ?_
        have k47 := (k5.trans k6).trans k7
        have k07 := k4.trans k47
        have hb7 := k47.blk0 hb2
        have hlv2 := hlv.away hb7
        dsimp only
        refine St.blk hb7 (by simp) fun w8 u8 => ?_
        have hl1b : ∀ b, l1.blk b → ¬ b = b2 := fun b hb => (hl1 b hb).2.2
        have hn' : (l.n : Int) = (cs.length : Int) := by omega
        rw [hn']
        refine hok _ ms w8 ((k07.no (M := No)).then u8.keeps fun b hb h => by have : b = b2 := h; omega) ⟨svs.length, of_, b2, p, l1, m1, rfl, ⟨id, u8.at_⟩, hlv2.mono (V.move u8.keeps (fun _ _ h => h) fun _ _ h => h.elim), ?_, ?_⟩ ⟨hne, hcl, svs, cl, nc, lv, kd, fs, of_, hok6, A, L⟩
        · exact (((ho4.keep0 k47).keep u8.keeps fun b hb h => hl1b b h hb).readsC (by omega) Cls.lens fun _ _ h => h)
        · exact (hmap.keep k47 id id (M' := No)).keep u8.keeps (by omega) id
      · dsimp only
        exact hbig w6 (k05.trans k6) hne hcl (.inr hg)
    · obtain ⟨rfl, rfl⟩ := g2 (by omega)
      dsimp only
      exact hbig w5 k05 hne hcl (.inl (by omega))
end Go.Fk
end

section
set_option linter.unusedVariables false
namespace Go.Fk
open Go Go.MapKept

/-! ## What a scanner's tokens are -/

theorem Re.emp_norm (x : Re) : x.norm.emp = x.emp := by
  rw [Bool.eq_iff_iff, ← Re.m_self (s := []) (i := 0), ← Re.m_self (s := []) (i := 0), Re.m_norm]

def RuleOK (cs : List Cls) (i : Nat) : Prop := ∃ c, cs[i]? = some c ∧ NameOK (bs c.n) ∧ (∀ (j : Nat) c', j < i → cs[j]? = some c' → c'.n ≠ c.n) ∧ (parseF (bs c.rx)).2.2 = 0 ∧ (reOf c).emp = false ∧ (reOf c).sub

section
variable {cs : List Cls} {ms : List LSt}
theorem Sound.rule (h : Sound cs ms) : ∀ i, i < cs.length → RuleOK cs i := by
  intro i hi
  obtain ⟨c, h1, h2, h3, h4, h5, h6⟩ := h.cls i hi
  refine ⟨c, h1, h2, h3, h4, h5, ?_⟩
  rcases h6 with h6 | h6 | h6
  · exact h6
  · have := parse_small h4
    have := Re.cnt_size (reOf c)
    simp [mCnt] at h6
    unfold reOf at *
    omega
  · obtain ⟨svs, cl, nc, lv, kd, fs, of_, hok, _, _⟩ := h.auto
    exact (TooMany.up (ys := ysOf cs) (i := i) (by simp [ysOf, h1]) hok h6).elim

theorem Sound.best (h : Sound cs ms) (s : List UInt8) {i : Nat} (hi : i ≤ s.length) : ∃ (F : Nat) (r z : Int), TokAt ms (s.drop i) F r z ∧ tokF ms s i = ⟨r, i, i + (if r = -1 then 1 else z), i + F + 1⟩ ∧ LawBest (Means (ysOf cs) (s.drop i)) cs.length (s.drop i).length r z := by
  obtain ⟨F, r, z, h1, h2, _⟩ := tok_law (ms := ms) hi
  obtain ⟨svs, cl, nc, lv, kd, fs, of_, hok, A, L⟩ := h.auto
  have := L.best A hok h1.le h1.all h1.no h1.best
  have e : (ysOf cs).length = cs.length := by simp [ysOf]
  rw [e] at this
  exact ⟨F, r, z, h1, h2, this⟩
end

/-! ## The document's answer -/

set_option maxRecDepth 20000 in
theorem some_spec (x : Re) : ∀ {w : World} {v : NV} {K : Bool → World → Prop} (h : RNd (V No w) v x) (hK : ∀ w', Keeps No w w' → K x.sm w'), frisketlaw09_some.C v.cells.toArray w K := by
  induction x with
  | set f =>
    intro w v K h hK
    cases h with | set
    refine frisketlaw09_some.ok _ _ _ ?_
    simp only [frisketlaw09_some.M]
    refine Al.mk fun b1 w1 n1 => Ld.int (cell_of n1.at_ (by rw [List.getElem?_toArray]; exact NV.get0 _)) ?_
    dsimp only
    rw [beq_self_eq_true, Br_true]
    refine Loop.mk (fun t w' => w' = w1 ∧ ∃ k : Nat, t = k ∧ k ≤ 256 ∧ ∀ i, i < k → f i = false) (fun t => 256 - t.toNat) ⟨rfl, 0, rfl, by omega, fun i hi => by omega⟩ ?_
    rintro t w' ⟨rfl, k, rfl, hk, hp⟩ R hR
    refine Br.mk (fun e => ?_) (fun e => ?_)
    · have e : k < 256 := by have := of_decide_eq_true e; omega
      have hkb : (UInt8.ofNat k).toNat = k := by simp [UInt8.toNat_ofNat']; omega
      have := IdxA.bit (w := w') (b := b1) (v := ⟨0, f, nil3⟩) (c := UInt8.ofNat k) (k := fun x => Br x (K true w') (R (w64 ((k : Int) + 1)) w')) n1.at_ (by
        rw [hkb]
        refine Br.mk (fun e2 => ?_) (fun e2 => ?_)
        · have := hK w' n1.keeps
          have hs : (Re.set f).sm = true := by simp only [Re.sm, List.any_eq_true, List.mem_range]; exact ⟨k, e, e2⟩
          rw [hs] at this; exact this
        · rw [w64_eq (by omega)]
          refine hR _ _ ⟨rfl, k + 1, by omega, by omega, fun i hi => ?_⟩ (by omega)
          by_cases hik : i = k
          · subst hik; exact e2
          · exact hp i (by omega))
      rw [hkb] at this
      exact this
    · have e : k = 256 := by have := of_decide_eq_false e; omega
      subst e
      have := hK w' n1.keeps
      have hs : (Re.set f).sm = false := by
        simp only [Re.sm, List.any_eq_false, List.mem_range]
        intro i hi
        rw [hp i hi]; simp
      rw [hs] at this; exact this
  | empty =>
    intro w v K h hK
    cases h with | empty
    refine frisketlaw09_some.ok _ _ _ ?_
    simp only [frisketlaw09_some.M]
    refine Al.mk fun b1 w1 n1 => Ld.int (cell_of n1.at_ (by rw [List.getElem?_toArray]; exact NV.get0 _)) ?_
    exact hK w1 n1.keeps
  | star a ih =>
    intro w v K h hK
    cases h with | star h' hv
    refine frisketlaw09_some.ok _ _ _ ?_
    simp only [frisketlaw09_some.M]
    refine Al.mk fun b1 w1 n1 => Ld.int (cell_of n1.at_ (by rw [List.getElem?_toArray]; exact NV.get0 _)) ?_
    exact hK w1 n1.keeps
  | cat a b iha ihb =>
    intro w v K h hK
    obtain ⟨hvk, vs, hl, ha⟩ := h.out
    cases ha; rename_i u1 vs1 ha ha1
    cases ha1; rename_i u2 vs2 hb' ha2
    cases ha2
    refine frisketlaw09_some.ok _ _ _ ?_
    simp only [frisketlaw09_some.M]
    refine Al.mk fun b1 w1 n1 => Ld.int (cell_of n1.at_ (by rw [List.getElem?_toArray]; exact v.get0)) ?_
    rw [hvk]
    simp only [Re.kind, show ((2 : Int) == 0) = false from rfl, show ((2 : Int) == 2) = true from rfl, Br_true, Br_false]
    have hl1 := hl.mono (V.keeps0 n1.keeps)
    refine Ld.slv (l := v.l) (cell_of n1.at_ (by rw [List.getElem?_toArray]; exact v.getL)) (IdxS.node hl1 (by omega) (by simp) fun u hu => ?_)
    have hu : u1 = u := by simpa using hu
    subst hu
    refine iha (ha.mono (V.keeps0 n1.keeps)) fun w2 k2 => Br.mk (fun e => ?_) (fun e => ?_)
    · refine Ld.slv (l := v.l) (cell_of (k2.blk0 n1.at_) (by rw [List.getElem?_toArray]; exact v.getL)) (IdxS.node (hl1.mono (V.keeps0 k2)) (by omega) (by simp) fun u hu => ?_)
      have hu : u2 = u := by simpa using hu
      subst hu
      refine ihb (hb'.mono (V.keeps0 (n1.keeps.trans k2))) fun w3 k3 => ?_
      have := hK w3 ((n1.keeps.trans k2).trans k3)
      simp only [Re.sm, e, Bool.true_and] at this
      exact this
    · have := hK w2 (n1.keeps.trans k2)
      simp only [Re.sm, e, Bool.false_and] at this
      exact this
  | or a b iha ihb =>
    intro w v K h hK
    obtain ⟨hvk, vs, hl, ha⟩ := h.out
    cases ha; rename_i u1 vs1 ha ha1
    cases ha1; rename_i u2 vs2 hb' ha2
    cases ha2
    refine frisketlaw09_some.ok _ _ _ ?_
    simp only [frisketlaw09_some.M]
    refine Al.mk fun b1 w1 n1 => Ld.int (cell_of n1.at_ (by rw [List.getElem?_toArray]; exact v.get0)) ?_
    rw [hvk]
    simp only [Re.kind, show ((3 : Int) == 0) = false from rfl, show ((3 : Int) == 2) = false from rfl, show ((3 : Int) == 3) = true from rfl, Br_true, Br_false]
    have hl1 := hl.mono (V.keeps0 n1.keeps)
    refine Ld.slv (l := v.l) (cell_of n1.at_ (by rw [List.getElem?_toArray]; exact v.getL)) (IdxS.node hl1 (by omega) (by simp) fun u hu => ?_)
    have hu : u1 = u := by simpa using hu
    subst hu
    refine iha (ha.mono (V.keeps0 n1.keeps)) fun w2 k2 => Br.mk (fun e => ?_) (fun e => ?_)
    · have := hK w2 (n1.keeps.trans k2)
      simp only [Re.sm, e, Bool.true_or] at this
      exact this
    · refine Ld.slv (l := v.l) (cell_of (k2.blk0 n1.at_) (by rw [List.getElem?_toArray]; exact v.getL)) (IdxS.node (hl1.mono (V.keeps0 k2)) (by omega) (by simp) fun u hu => ?_)
      have hu : u2 = u := by simpa using hu
      subst hu
      refine ihb (hb'.mono (V.keeps0 (n1.keeps.trans k2))) fun w3 k3 => ?_
      have := hK w3 ((n1.keeps.trans k2).trans k3)
      simp only [Re.sm, e, Bool.false_or] at this
      exact this

theorem Rules09_spec {M : Nat → Prop} {w : World} {l : Sl} {cs : List Cls} (hl : SlCls (V M w) l cs) (hlen : cs.length ≤ 40) (hsm : ∀ c ∈ cs, Small c.rx ∧ c.n.size ≤ maxLen) {K : (Sl × Int × Int) → World → Prop}
    (hbad : ∀ a n no w', Keeps No w w' → no ≠ 0 → (cs = [] ∨ ∃ i, i < cs.length ∧ ¬ RuleOK cs i) → K (a, n, no) w')
    (hok : ∀ a vs xs w', Keeps No w w' → SlC (V No w') a 258 (vs.map NV.cells) → All2 (RNd (V No w')) vs xs → xs.map Re.norm = (ysOf cs).map Re.norm → (∀ i, i < cs.length → RuleOK cs i) → cs ≠ [] → K (a, cs.length, 0) w') : frisketlaw09_Rules.C l w K := by
  have hn := hl.1
  simp only [List.length_map] at hn
  refine frisketlaw09_Rules.ok _ _ _ ?_
  simp only [frisketlaw09_Rules.M, zero_cells]
  refine Loop.mk (fun t w' => Keeps No w w' ∧ ∃ (i : Nat) (vs : List NV) (xs : List Re), t.2 = (i : Int) ∧ i ≤ cs.length ∧ vs.length = i ∧ Own w' w.heap.size T.frisketref05_Node 258 t.1 (vs.map NV.cells).flatten ∧ All2 (RNd (V (fun c => t.1.blk c) w')) vs xs ∧ xs.map Re.norm = (ysOf (cs.take i)).map Re.norm ∧ ∀ j, j < i → RuleOK cs j)
    (fun t => cs.length - t.2.toNat) ⟨.refl, 0, [], [], rfl, by omega, rfl, by simpa using Own.nil _ _ _ _, .nil, rfl, fun j hj => by omega⟩ ?_
  rintro ⟨a, ti⟩ w1 ⟨k1, i, vs, xs, hti, hi, hvl, ha, hN, hnorm, hcl⟩ R hR
  dsimp only at hti ha hN ⊢
  subst hti
  refine Br.mk (fun e => ?_) (fun e => ?_)
  · have hlt : i < cs.length := by have := of_decide_eq_true e; omega
    have hci : cs[i]? = some cs[i] := List.getElem?_eq_getElem hlt
    generalize cs[i] = c at hci
    have hcm := hsm c (List.mem_of_getElem? hci)
    have hone : ∀ {c' : Cls}, cs[(i : Int).toNat]? = some c' → c' = c := fun {c'} h => by rw [Int.toNat_natCast, hci] at h; cases h; rfl
    refine IdxS.cls (hl.mono (V.keeps0 k1)) (by omega) (by omega) fun c' q hc' hq => ?_
    rw [hone hc'] at hq
    refine Ld.str hq.n (ref09_Named_spec hcm.2 fun bn hbn => ?_)
    refine Br.mk (fun e2 => ?_) (fun e2 => ?_)
    · refine hbad _ _ _ w1 k1 (by omega) (.inr ⟨i, hlt, fun ⟨c', h1, h2, _⟩ => ?_⟩)
      rw [hci] at h1; cases h1
      rw [hbn.2 h2] at e2; cases e2
    have hname : NameOK (bs c.n) := hbn.1 (by simpa using e2)
    refine Loop.mk (fun t w' => Keeps No w1 w' ∧ ∃ k : Nat, t = k ∧ k ≤ i ∧ ∀ (j : Nat) c', j < k → cs[j]? = some c' → c'.n ≠ c.n) (fun t => i - t.toNat) ⟨.refl, 0, rfl, by omega, fun j c' h => by omega⟩ ?_
    rintro t w2 ⟨k2, k, rfl, hk, hdist⟩ R2 hR2
    refine Br.mk (fun e3 => ?_) (fun e3 => ?_)
    · have hki : k < i := by have := of_decide_eq_true e3; omega
      refine Draw.kp fun w3 e4 k3 => ?_
      have k13 := k2.trans k3
      refine IdxS.cls (hl.mono (V.keeps0 (k1.trans k13))) (by omega) (by omega) fun ck q1 hck hq1 => LdK.str hq1.n ?_
      simp only [Int.toNat_natCast] at hck
      refine IdxS.cls (hl.mono (V.keeps0 (k1.trans k13))) (by omega) (by omega) fun c' q2 hc' hq2 => ?_
      rw [hone hc'] at hq2
      refine LdK.str hq2.n (Br.mk (fun e5 => ?_) (fun e5 => ?_))
      · refine hbad _ _ _ w3 (k1.trans k13) (by omega) (.inr ⟨i, hlt, fun ⟨c', h1, _, h3, _⟩ => ?_⟩)
        rw [hci] at h1; cases h1
        exact h3 k ck hki hck (strEq.1 e5)
      · rw [w64_eq (by omega)]
        refine hR2 _ _ ⟨k13, k + 1, by omega, by omega, fun j c' hj hc' he => ?_⟩ (by omega)
        by_cases hjk : j = k
        · subst hjk
          rw [hck] at hc'; cases hc'
          rw [strEq.2 he] at e5; cases e5
        · exact hdist j c' (by omega) hc' he
    have hki : k = i := by have := of_decide_eq_false e3; omega
    subst hki
    refine IdxS.cls (hl.mono (V.keeps0 (k1.trans k2))) (by omega) (by omega) fun c' q hc' hq => ?_
    rw [hone hc'] at hq
    refine Ld.str hq.rx (ref05_Parse_spec hcm.1 fun v x at_ great w4 k4 hR4 hp1 hp2 => ?_)
    refine Al.mk fun b6 w5 n5 => StA.node n5.at_ fun w6 u6 => ?_
    have e5 := n5.eq; have z5 := n5.size; have z4 := k4.size; have z2 := k2.size
    have k46 : Keeps No w4 w6 := u6.keeps0 n5.keeps (by omega)
    have k16 : Keeps No w1 w6 := (k2.trans k4).trans k46
    have k06 := k1.trans k16
    have notOK : (parseF (bs c.rx)).2.2 ≠ 0 ∨ (reOf c).emp = true ∨ (reOf c).sm = false → ¬ RuleOK cs k := by
      rintro h ⟨c', h1, _, _, h4, h5, h6⟩
      rw [hci] at h1; cases h1
      rcases h with h | h | h
      · exact h h4
      · rw [h5] at h; cases h
      · rw [(Re.sub_iff h5).1 h6] at h; cases h
    dsimp only
    refine Br.mk (fun e6 => ?_) (fun e6 => ?_)
    · exact hbad _ _ _ w6 k06 (by omega) (.inr ⟨k, hlt, notOK (.inl fun h => by have := (hp2 h).2; rw [e6] at this; cases this)⟩)
    refine Br.mk (fun e7 => ?_) (fun e7 => ?_)
    · have e7 := of_decide_eq_true e7
      exact hbad _ _ _ w6 k06 (by omega) (.inr ⟨k, hlt, notOK (.inl fun h => by have := (hp2 h).1; omega)⟩)
    have e7 := of_decide_eq_false e7
    obtain ⟨hp0, hpn⟩ := hp1 (by omega) e6
    have hemp : x.emp = (reOf c).emp := by rw [← Re.emp_norm, ← hpn, Re.emp_norm]; rfl
    have hsmx : x.sm = (reOf c).sm := by rw [← Re.sm_norm, ← hpn, Re.sm_norm]; rfl
    have hb6 := u6.at_
    have hRx : RNd (V (LtV w2.heap.size) w4) v x := hR4
    have hRx6 : RNd (V No w6) v x := hRx.mono (V.move k46 (fun _ _ h => h.elim) fun _ _ h => h.elim)
    refine Join.cut (fun bb w' => Keeps No w6 w' ∧ (bb = true ↔ ((reOf c).emp = true ∨ (reOf c).sm = false))) ?_ ?_
    · rintro bb w7 ⟨k7, hbb⟩
      refine Br.mk (fun e8 => hbad _ _ _ w7 (k06.trans k7) (by omega) (.inr ⟨k, hlt, notOK (.inr (hbb.1 e8))⟩)) (fun e8 => ?_)
      have hno : ¬ ((reOf c).emp = true ∨ (reOf c).sm = false) := fun h => by rw [hbb.2 h] at e8; cases e8
      have hemp0 : (reOf c).emp = false := by cases h : (reOf c).emp with | true => exact absurd (.inl h) hno | false => rfl
      have hsm0 : (reOf c).sm = true := by cases h : (reOf c).sm with | true => rfl | false => exact absurd (.inr h) hno
      have hrk : RuleOK cs k := ⟨c, hci, hname, hdist, hp0, hemp0, (Re.sub_iff hemp0).2 hsm0⟩
      refine LdA.node (k7.blk0 hb6) (App.slice1 fun b9 w8 n8 => ?_)
      have e8 := n8.eq; have z8 := n8.size; have z7 := k7.size; have z6 := k46.size
      have k18 : Keeps No w1 w8 := (k16.trans k7).trans n8.keeps
      have han : a.n = vs.length := by have := ha.len; rw [flatten_len cellsN_len] at this; simp at this; omega
      refine appendC (c := v.cells) elNode (ha.keep0 k18) v.len n8.at_ v.one (by omega) (by omega) (by have := (k1.trans k18).size; omega) fun a' w9 o9 m9 k9 g9 => ?_
      obtain ⟨ga, hga, hga2⟩ := g9
      have hA : ∀ c, a'.blk c → a.blk c ∨ w8.heap.size ≤ c := fun c hc => by rw [blk_one hga hc]; exact hga2
      have v9 : Vle (V (fun c => a.blk c) w8) (V (fun c => a'.blk c) w9) := V.move k9 (fun _ _ h => h) fun c hlt hc => (hA c hc).resolve_right (by omega)
      have hRx8 : RNd (V (fun c => a.blk c) w8) v x := hRx.mono (V.move ((k46.trans k7).trans n8.keeps) (fun _ _ h => h.elim) fun b hb h => by have := (ha.ge h).2; show b < _; omega)
      have ew : w64 ((k : Int) + 1) = ((k + 1 : Nat) : Int) := by rw [w64_eq (by omega)]; omega
      have htk : cs.take (k + 1) = cs.take k ++ [c] := by rw [List.take_add_one, hci]; rfl
      rw [ew]
      refine hR _ _ ⟨((k1.trans k18).no (M := No)).then k9 fun c _ h => by have := (ha.ge h).1; omega, k + 1, vs ++ [v], xs ++ [x], rfl, by omega, by simp [hvl], by simpa using o9, ?_, ?_, ?_⟩ (by dsimp only; omega)
      · exact ((hN.mono fun _ _ x => x.mono (V.keeps0 k18)).append (.cons hRx8 .nil)).mono fun _ _ x => x.mono v9
      · rw [htk, List.map_append, hnorm]
        simp [ysOf, ← hpn, reOf]
      · intro j hj
        by_cases hjk : j = k
        · subst hjk; exact hrk
        · exact hcl j (by omega)
    · intro j hj
      refine LdA.node hb6 (Matches_spec (by decide) hRx6 fun r w7 k7 hr => ?_)
      have hr' : r = true ↔ (reOf c).emp = true := by
        rw [hr, ← hemp]
        exact x.m_self
      refine Br.mk (fun e8 => hj _ _ ⟨k7, ⟨fun _ => .inl (hr'.1 e8), fun _ => rfl⟩⟩) (fun e8 => ?_)
      refine LdA.node (k7.blk0 hb6) (some_spec x (hRx6.mono (V.keeps0 k7)) fun w8 k8 => hj _ _ ⟨k7.trans k8, ?_⟩)
      rw [hsmx]
      have he : (reOf c).emp = false := by cases h : (reOf c).emp with | true => rw [hr'.2 h] at e8; cases e8 | false => rfl
      rw [he]
      cases (reOf c).sm <;> simp
  · have e : i = cs.length := by have := of_decide_eq_false e; omega
    subst e
    have hn' : (l.n : Int) = (cs.length : Int) := by omega
    rw [hn']
    refine Br.mk (fun e2 => ?_) (fun e2 => ?_)
    · have h0 : cs.length = 0 := by have : (cs.length : Int) = 0 := (by simpa using e2); omega
      exact hbad _ _ _ w1 k1 (by omega) (.inl (List.eq_nil_of_length_eq_zero h0))
    · have hne : cs ≠ [] := by rintro rfl; cases e2
      rw [List.take_length] at hnorm
      exact hok a vs xs w1 k1 (ha.readsC (by omega) cellsN_len fun _ _ h => h) (hN.mono fun _ _ x => x.mono (V.sub fun _ _ h => h.elim)) hnorm hcl hne

theorem Means.congr {xs ys : List Re} (h : xs.map Re.norm = ys.map Re.norm) {s : List UInt8} {t i : Nat} : Means ys s t i ↔ Means xs s t i := by
  have hg := congrArg (fun l => l[i]?) h
  simp only [List.getElem?_map] at hg
  constructor
  · rintro ⟨y, hy, hmy⟩
    rw [hy] at hg
    cases hx : xs[i]? with
    | none => rw [hx] at hg; cases hg
    | some x => rw [hx] at hg; exact ⟨x, hx, (m_of_norm (Option.some.inj hg.symm)).1 hmy⟩
  · rintro ⟨x, hx, hmx⟩
    rw [hx] at hg
    cases hy : ys[i]? with
    | none => rw [hy] at hg; cases hg
    | some y => rw [hy] at hg; exact ⟨y, hy, (m_of_norm (Option.some.inj hg.symm)).2 hmx⟩

theorem refNext_spec {w : World} {l : Sl} {vs : List NV} {xs : List Re} {text : ByteArray} {i : Nat} (hl : SlC (V No w) l 258 (vs.map NV.cells)) (hN : All2 (RNd (V No w)) vs xs) (hlen : vs.length ≤ 1000) (hi : i ≤ text.size) (hs : text.size ≤ 1000000) {r z : Int} (hb : LawBest (Means xs ((bs text).drop i)) xs.length ((bs text).drop i).length r z) {K : (Int × Int × Int) → World → Prop}
    (hK : ∀ w', Keeps No w w' → K (r, i, i + (if r = -1 then 1 else z)) w') : frisketref09_Next.C l text i w K := by
  have hn := hl.1
  simp only [List.length_map] at hn
  have hsz := size_bs text
  have hvx := hN.length
  have hdl : ((bs text).drop i).length = text.size - i := by simp
  refine frisketref09_Next.ok _ _ _ _ _ ?_
  simp only [frisketref09_Next.M]
  refine Al.mk fun b1 w1 n1 => AlSt3 fun b2 w2 n2 => ?_
  have e1 := n1.eq; have z1 := n1.size; have e2 := n2.eq; have z2 := n2.size
  have k02 : Keeps No w w2 := n1.keeps.trans n2.keeps
  rw [w64_eq (by omega)] at n2
  refine Loop.mk (fun t w' => Keeps (· = b2) w2 w' ∧ ∃ (k : Nat) (r' : Int), t.2 = (k : Int) ∧ k ≤ vs.length ∧ LawBest (Means xs ((bs text).drop i)) k ((bs text).drop i).length r' t.1 ∧ w'.heap[b2]? = some (.cells #[.int .i64 r', .int .i64 i, .int .i64 (i + (if r' = -1 then 1 else t.1))] T.frisketref09_Token (0, 0)))
    (fun t => vs.length - t.2.toNat) ⟨.refl, 0, -1, rfl, by omega, .inl ⟨rfl, rfl, fun j t hj => by omega⟩, by simpa using n2.at_⟩ ?_
  rintro ⟨best, tk⟩ w3 ⟨k3, k, r', hti, hk, hlb, hb2⟩ R hR
  dsimp only at hti hlb hb2 ⊢
  subst hti
  have k03 : Keeps No w w3 := (k02.no (M := No)).then k3 fun b hb h => by have : b = b2 := h; omega
  refine Br.mk (fun e => ?_) (fun e => ?_)
  · have hlt : k < vs.length := by have := of_decide_eq_true e; omega
    refine Draw.kp fun w4 e4 k4 => ?_
    have k04 := k03.trans k4
    refine IdxS.nodeS (M := No) (hl.mono (V.keeps0 k04)) (fun w' h => V.keeps0 h) (by omega) (by omega) fun v hv => ?_
    simp only [Int.toNat_natCast] at hv
    obtain ⟨x, hx, hRx⟩ := hN.get _ _ hv
    refine App.suffix hi ⟨.refl, ?_⟩
    have hsx : (text.extract i text.size).size ≤ 1000000 := by
      have := size_bs (text.extract i text.size)
      rw [bs_from] at this; omega
    refine refLongest_spec hsx (hRx.mono (V.keeps0 k04)) fun v1 w5 k5 hv1 => ⟨k5, ?_⟩
    rw [bs_from] at hv1
    have hmk : ∀ j, Means xs ((bs text).drop i) j k ↔ x.m ((bs text).drop i) 0 j := fun j => ⟨fun ⟨x', hx', h⟩ => by rw [hx] at hx'; cases hx'; exact h, fun h => ⟨x, hx, h⟩⟩
    have hst := hlb.step (v := v1) (by
      rcases hv1 with ⟨g1, g2⟩ | ⟨j, g1, g2, g3, g4⟩
      · exact .inl ⟨g1, fun j hj h => g2 j hj ((hmk j).1 h)⟩
      · exact .inr ⟨j, g1, g2, (hmk j).2 g3, fun j' hj' h => g4 j' hj' ((hmk j').1 h)⟩)
    have ew : w64 ((k : Int) + 1) = ((k + 1 : Nat) : Int) := by rw [w64_eq (by omega)]; omega
    rw [ew]
    have k35 : Keeps No w3 w5 := k4.trans k5
    have hv1r : -1 ≤ v1 ∧ v1 ≤ 1000000 := by
      rcases hv1 with ⟨g1, g2⟩ | ⟨j, g1, g2, g3, g4⟩ <;> omega
    refine Br.mk (fun hlt2 => ?_) (fun hlt2 => ?_)
    · have hlt2 := of_decide_eq_true hlt2
      refine St3 (k35.blk0 hb2) fun w6 u6 => ?_
      rw [w64_eq (by omega)] at u6
      refine hR _ _ ⟨(k3.trans k35.no).trans u6.keeps, k + 1, k, rfl, by omega, hst.1 hlt2, ?_⟩ (by dsimp only; omega)
      have hk1 : ¬ (k : Int) = -1 := by omega
      rw [u6.at_, if_neg hk1]
    · exact hR _ _ ⟨k3.trans k35.no, k + 1, r', rfl, by omega, hst.2 (of_decide_eq_false hlt2), k35.blk0 hb2⟩ (by dsimp only; omega)
  · have hf : k = vs.length := by have := of_decide_eq_false e; omega
    subst hf
    rw [hvx] at hlb
    obtain ⟨rfl, rfl⟩ := hlb.one hb
    refine Ld3i hb2 (St3 (k3.blk (n2.keeps.blk0 n1.at_) (by omega)) fun w6 u6 => Ld3i u6.at_ ?_)
    exact hK w6 (u6.keeps0 k03 (by omega))

def Tok.rc (x : Tok) : List Value := [.int .i64 x.c, .int .i64 x.f, .int .i64 x.t]
theorem Tok.rlens {xs : List Tok} : ∀ c ∈ xs.map Tok.rc, c.length = 3 := fun c hc => by obtain ⟨m, _, rfl⟩ := List.mem_map.1 hc; rfl
theorem elRTok : Elem P T.sl_frisketref09_Token T.frisketref09_Token (.agg #[.int .i64 0, .int .i64 0, .int .i64 0]) 3 24 := ⟨by kernel_rfl, by kernel_rfl, rfl, by decide⟩

theorem refScan_spec {w : World} {l : Sl} {vs : List NV} {xs : List Re} {text : ByteArray} {cs : List Cls} {ms : List LSt} (hl : SlC (V No w) l 258 (vs.map NV.cells)) (hN : All2 (RNd (V No w)) vs xs) (hlen : vs.length ≤ 1000) (hs : text.size ≤ 1000000) (hS : Sound cs ms) (hnorm : xs.map Re.norm = (ysOf cs).map Re.norm) {K : Sl → World → Prop}
    (hK : ∀ l' w', Keeps No w w' → SlC (V No w') l' 3 ((toksOf ms (bs text)).map Tok.rc) → K l' w') : frisketref09_Scan.C l text w K := by
  have hsz := size_bs text
  have hxl : xs.length = cs.length := by have := congrArg List.length hnorm; simpa [ysOf] using this
  refine frisketref09_Scan.ok _ _ _ _ ?_
  simp only [frisketref09_Scan.M]
  refine Loop.mk (fun t w' => Keeps No w w' ∧ ∃ (i : Nat) (ts : List Tok), t.2 = i ∧ i ≤ text.size ∧ ts.length ≤ i ∧ Own w' w.heap.size T.frisketref09_Token 3 t.1 (ts.map Tok.rc).flatten ∧ ts ++ toks (tokF ms (bs text)) (bs text).length i = toksOf ms (bs text))
    (fun t => text.size - t.2.toNat) ⟨.refl, 0, [], rfl, by omega, by simp, Own.nil _ _ _ _, rfl⟩ ?_
  rintro ⟨a, t⟩ w1 ⟨k1, i, ts, hti, hi, htl, ho, hx⟩ R hR
  dsimp only at hti ho ⊢
  subst hti
  have han : a.n = ts.length := by have := ho.len; rw [flatten_len Tok.rlens] at this; simp at this; omega
  refine Br.mk (fun e => ?_) (fun e => ?_)
  · have hlt : i < text.size := by have := of_decide_eq_true e; omega
    obtain ⟨F, r, z, h1, h2, h3⟩ := hS.best (bs text) (i := i) (by omega)
    have hbd := tok_bounds (ms := ms) (s := bs text) (i := i) (by omega)
    rw [← hxl] at h3
    refine refNext_spec (hl.mono (V.keeps0 k1)) (hN.mono fun _ _ x => x.mono (V.keeps0 k1)) hlen hi hs (h3.congr fun t j => Means.congr hnorm) fun w2 k2 => ?_
    generalize hX : tokF ms (bs text) i = X
    rw [hX] at hbd h2
    have hc1 : r = X.c := by rw [h2]
    have hc2 : (i : Int) = X.f := by rw [h2]
    have hc3 : (i : Int) + (if r = -1 then 1 else z) = X.t := by rw [h2]
    dsimp only
    rw [hc3, hc1]
    refine AlSt3 fun b3 w3 n3 => Ld3i n3.at_ (Al.mk fun b4 w4 n4 => ?_)
    have e3 := n3.eq; have z3 := n3.size; have e4 := n4.eq; have z4 := n4.size
    have k24 := n3.keeps.trans n4.keeps
    have k14 := k2.trans k24
    have k04 := k1.trans k14
    refine appendC (c := X.rc) elRTok (ho.keep0 k14) rfl (by rw [n4.at_, hc2]; rfl) (fun u hu => ?_) (by omega) (by omega) (by have := k04.size; omega) fun l' w5 ho' m5 k5 g5 => ?_
    · simp only [Tok.rc, List.mem_cons, List.not_mem_nil, or_false] at hu
      rcases hu with rfl | rfl | rfl <;> rfl
    · have hge : ∀ c, a.blk c → w.heap.size ≤ c ∧ c ≠ b3 := fun c hc => by have := (ho.keep0 k2).ge hc; omega
      refine Ld.int (cell_of (k5.blk (n4.keeps.blk0 n3.at_) fun hb => (hge _ hb).2 rfl) rfl) ?_
      refine hR _ _ ⟨(k04.no (M := No)).then k5 fun c hc hb => by have := (hge c hb).1; omega, X.t.toNat, ts ++ [X], by dsimp only; omega, by omega, by simp; omega, by simpa using ho', ?_⟩ (by dsimp only; omega)
      rw [← hx, toks_step (goes_tok (ms := ms) (s := bs text)) (by omega : i < (bs text).length), hX]
      simp
  · have hge : i = text.size := by have := of_decide_eq_false e; omega
    rw [toks_end (by omega), List.append_nil] at hx
    rw [hx] at ho
    exact hK a w1 k1 (ho.readsC (by omega) Tok.rlens fun _ _ h => h)
end Go.Fk
end

section
set_option linter.unusedVariables false
namespace Go.Fk
open Go Go.MapKept

theorem App.maxI {P : Program} {ts : Array TypeId} {t : TypeId} {k k' : IntKind} {x y : Int} {w : World} {K : Int → World → Prop} (hK : K (if y > x then y else x) w) : App P (Builtin.max_ ts t #[.int k x, .int k' y]) (.one (.int k)) w K :=
  ⟨_, w, run_max_int2 w ts t k k' x y, hK⟩

/-- What is asked of classes that aren't too great. -/
def Few (cs : List Cls) : Prop := cs.length ≤ 6 ∧ ∀ c ∈ cs, c.rx.size ≤ 40 ∧ c.n.size ≤ 40
theorem Few.small {cs : List Cls} (h : Few cs) : ∀ c ∈ cs, Small c.rx ∧ c.n.size ≤ maxLen := fun c hc => by
  have := h.2 c hc
  have hmx : maxLen = 9223372036854775807 := rfl
  exact ⟨by unfold Small; omega, by omega⟩

theorem Great09_spec {M : Nat → Prop} {w : World} {l : Sl} {cs : List Cls} {K : Int → World → Prop} (hl : SlCls (V M w) l cs) (hlen : cs.length ≤ 1048576) (hsz : ∀ c ∈ cs, c.rx.size ≤ 1048576 ∧ c.n.size ≤ 1048576)
    (hK : ∀ n w', Keeps No w w' → (¬ 0 < n → Few cs) → K n w') : frisketlaw09_Great.C l w K := by
  have hn := hl.1
  simp only [List.length_map] at hn
  refine frisketlaw09_Great.ok _ _ _ ?_
  simp only [frisketlaw09_Great.M]
  refine App.maxI ?_
  refine Loop.mk (fun t w' => Keeps No w w' ∧ ∃ k : Nat, k ≤ cs.length ∧ t.2 = (k : Int) ∧ 0 ≤ t.1 ∧ t.1 ≤ 1048576 + k * 2097152 ∧ (¬ 0 < t.1 → cs.length ≤ 6 ∧ ∀ c ∈ cs.take k, c.rx.size ≤ 40 ∧ c.n.size ≤ 40)) (fun t => cs.length - t.2.toNat) ⟨.refl, 0, by omega, rfl, ?_, ?_, ?_⟩ ?_
  · dsimp only; rw [w64_eq (by omega)]; split <;> omega
  · dsimp only; rw [w64_eq (by omega)]; split <;> omega
  · intro h
    have h : ¬ 0 < (if (0 : Int) > w64 ((l.n : Int) - 6) then (0 : Int) else w64 ((l.n : Int) - 6)) := h
    rw [w64_eq (by omega)] at h
    refine ⟨?_, by simp⟩
    split at h <;> omega
  rintro ⟨n, kk⟩ w1 ⟨k1, k, hk, hkk, h0, h1, h2⟩ R hR
  dsimp only at hkk h0 h1 h2 ⊢
  subst hkk
  refine Br.mk (fun ht => ?_) (fun hf => ?_)
  · have ht : k < cs.length := by have := of_decide_eq_true ht; omega
    refine Draw.kp fun w2 e2 k2 => ?_
    have k02 := k1.trans k2
    refine IdxS.cls (hl.mono (V.keeps0 k02)) (by omega) (by omega) fun c q hc hq => LdK.str hq.rx ?_
    refine IdxS.cls (hl.mono (V.keeps0 k02)) (by omega) (by omega) fun c' q' hc' hq' => ?_
    rw [hc] at hc'; cases hc'
    refine LdK.str hq'.n ?_
    simp only [Int.toNat_natCast] at hc
    have hcs := hsz c (List.mem_of_getElem? hc)
    have hmx : ∀ (x : Nat), x ≤ 1048576 → 0 ≤ (if (0 : Int) > w64 ((x : Int) - 40) then (0 : Int) else w64 ((x : Int) - 40)) ∧ (if (0 : Int) > w64 ((x : Int) - 40) then (0 : Int) else w64 ((x : Int) - 40)) ≤ 1048576 ∧ (¬ 0 < (if (0 : Int) > w64 ((x : Int) - 40) then (0 : Int) else w64 ((x : Int) - 40)) → x ≤ 40) := by
      intro x hx
      rw [w64_eq (by omega)]
      split <;> refine ⟨by omega, by omega, fun h => by omega⟩
    obtain ⟨a0, a1, a2⟩ := hmx c.rx.size hcs.1
    obtain ⟨b0, b1, b2⟩ := hmx c.n.size hcs.2
    have fin : ∀ w', Keeps No w2 w' → R (w64 (w64 (n + (if (0 : Int) > w64 ((c.rx.size : Int) - 40) then (0 : Int) else w64 ((c.rx.size : Int) - 40))) + (if (0 : Int) > w64 ((c.n.size : Int) - 40) then (0 : Int) else w64 ((c.n.size : Int) - 40))), w64 ((k : Int) + 1)) w' := by
      intro w' kw
      generalize (if (0 : Int) > w64 ((c.rx.size : Int) - 40) then (0 : Int) else w64 ((c.rx.size : Int) - 40)) = a at *
      generalize (if (0 : Int) > w64 ((c.n.size : Int) - 40) then (0 : Int) else w64 ((c.n.size : Int) - 40)) = b at *
      rw [w64_eq (x := n + a) (by omega), w64_eq (x := n + a + b) (by omega), w64_eq (x := (k : Int) + 1) (by omega)]
      refine hR _ _ ⟨k02.trans kw, k + 1, by omega, by simp, by dsimp only; omega, by dsimp only; omega, fun h => ?_⟩ (by dsimp only; omega)
      have h : ¬ 0 < n + a + b := h
      obtain ⟨g1, g2⟩ := h2 (by omega)
      refine ⟨g1, fun c' hc' => ?_⟩
      rw [List.take_add_one, hc] at hc'
      rcases List.mem_append.1 hc' with hc' | hc'
      · exact g2 c' hc'
      · simp at hc'; subst hc'; exact ⟨a2 (by omega), b2 (by omega)⟩
    exact ⟨App.maxI ⟨.refl, App.maxI ⟨.refl, fin w2 .refl⟩⟩, App.maxI ⟨.refl, App.maxI ⟨.refl, fin w2 .refl⟩⟩⟩
  · have hf : k = cs.length := by have := of_decide_eq_false hf; omega
    subst hf
    rw [List.take_length] at h2
    exact hK n w1 k1 h2

/-! ## Expressions of the form x+ -/

def plusR (f : Nat → Bool) : Re := .cat (.set f) (.star (.set f))
theorem star_m {f : Nat → Bool} {s : List UInt8} {i j : Nat} : (Re.star (.set f)).m s i j ↔ i ≤ j ∧ ∀ k, i ≤ k → k < j → ∃ c, s[k]? = some c ∧ f c.toNat = true := by
  constructor
  · intro h
    change Clo ((Re.set f).m s) i j at h
    induction h with
    | refl => exact ⟨Nat.le_refl _, fun k h1 h2 => by omega⟩
    | snoc _ r ih =>
      obtain ⟨rfl, c, hc, hf⟩ := r
      refine ⟨by omega, fun k h1 h2 => ?_⟩
      rename_i j' _
      by_cases hk : k = j'
      · subst hk; exact ⟨c, hc, hf⟩
      · exact ih.2 k h1 (by omega)
  · rintro ⟨h1, h2⟩
    obtain ⟨n, rfl⟩ : ∃ n, j = i + n := ⟨j - i, by omega⟩
    clear h1
    show Clo ((Re.set f).m s) i (i + n)
    induction n with
    | zero => exact .refl
    | succ n ih =>
      obtain ⟨c, hc, hf⟩ := h2 (i + n) (by omega) (by omega)
      exact .snoc (ih fun k h1 h3 => h2 k h1 (by omega)) ⟨rfl, c, hc, hf⟩
theorem plus_m {f : Nat → Bool} {s : List UInt8} {t : Nat} : (plusR f).m s 0 t ↔ 1 ≤ t ∧ ∀ k, k < t → ∃ c, s[k]? = some c ∧ f c.toNat = true := by
  constructor
  · rintro ⟨k, ⟨rfl, c, hc, hf⟩, h⟩
    obtain ⟨h1, h2⟩ := star_m.1 h
    refine ⟨h1, fun k hk => ?_⟩
    by_cases h0 : k = 0
    · subst h0; exact ⟨c, hc, hf⟩
    · exact h2 k (by omega) hk
  · rintro ⟨h1, h2⟩
    obtain ⟨c, hc, hf⟩ := h2 0 (by omega)
    exact ⟨1, ⟨rfl, c, hc, hf⟩, star_m.2 ⟨h1, fun k _ hk => h2 k hk⟩⟩

/-- Whether the first t letters are meant, reckoned. -/
def plusB (g : Nat → Bool) (s : List UInt8) (t : Nat) : Bool := decide (1 ≤ t) && (List.range t).all fun k => match s[k]? with | some c => g c.toNat | none => false
theorem plus_B {f g : Nat → Bool} (h : ∀ c, c < 256 → f c = g c) {s : List UInt8} {t : Nat} : (plusR f).m s 0 t ↔ plusB g s t = true := by
  rw [plus_m]
  unfold plusB
  simp only [Bool.and_eq_true, decide_eq_true_eq, List.all_eq_true, List.mem_range]
  refine and_congr_right fun _ => forall_congr' fun k => imp_congr_right fun _ => ?_
  cases s[k]? with
  | none => simp
  | some c => simp [h c.toNat c.toNat_lt]
def plusAt (gs : List (Nat → Bool)) (s : List UInt8) (t i : Nat) : Bool := match gs[i]? with
  | some g => plusB g s t
  | none => false
theorem means_plus {ys : List Re} {gs : List (Nat → Bool)} (h : All2 (fun y g => ∃ f, y = plusR f ∧ ∀ c, c < 256 → f c = g c) ys gs) {s : List UInt8} {t i : Nat} : Means ys s t i ↔ plusAt gs s t i = true := by
  unfold plusAt
  constructor
  · rintro ⟨y, hy, hm⟩
    obtain ⟨g, hg, f, rfl, hf⟩ := h.get _ _ hy
    rw [hg]
    exact (plus_B hf).1 hm
  · intro hp
    cases hg : gs[i]? with
    | none => rw [hg] at hp; cases hp
    | some g =>
      rw [hg] at hp
      obtain ⟨y, hy, f, rfl, hf⟩ := h.get2 _ _ hg
      exact ⟨_, hy, (plus_B hf).2 hp⟩

theorem LawBest.of {M : Nat → Nat → Prop} {B : Nat → Nat → Bool} (h : ∀ t i, M t i ↔ B t i = true) {n N t i : Nat} (h0 : 0 < t ∧ t ≤ N ∧ i < n ∧ B t i = true) (h1 : ∀ j, j < i → B t j = false) (h2 : ∀ j, j < n → ∀ t', t' < N + 1 → t < t' → B t' j = false) : LawBest M n N i t :=
  .inr ⟨t, i, h0.1, h0.2.1, h0.2.2.1, rfl, rfl, (h t i).2 h0.2.2.2, fun j hj hm => (by have := h1 j hj; rw [(h t j).1 hm] at this; cases this), fun j t' hj ht ht' hm => by have := h2 j hj t' (by omega) ht; rw [(h t' j).1 hm] at this; cases this⟩

theorem Sound.tok_is {cs : List Cls} {ms : List LSt} (h : Sound cs ms) {s : List UInt8} {i : Nat} (hi : i ≤ s.length) {r z : Int} (hb : LawBest (Means (ysOf cs) (s.drop i)) cs.length (s.drop i).length r z) : (tokF ms s i).c = r ∧ (tokF ms s i).t = i + (if r = -1 then 1 else z) := by
  obtain ⟨F, r', z', h1, h2, h3⟩ := h.best s hi
  obtain ⟨rfl, rfl⟩ := h3.one hb
  rw [h2]
  exact ⟨rfl, rfl⟩

theorem RuleOK.ok {cs : List Cls} {i : Nat} (h : RuleOK cs i) : ClsOK cs i := by
  obtain ⟨c, h1, h2, h3, h4, h5, h6⟩ := h
  exact ⟨c, h1, h2, h3, h4, h5, .inl h6⟩
theorem ClsOK.notBad {cs : List Cls} {i : Nat} {e : Int} (h : ClsOK cs i) (hb : BadAt cs i e) : False := by
  obtain ⟨c, h1, h2, h3, h4, h5⟩ := h
  obtain ⟨c', g1, g⟩ := hb
  rw [h1] at g1; cases g1
  rcases g with ⟨_, g | ⟨j, c', g2, g3, g4⟩⟩ | ⟨g, _⟩ | ⟨_, _, g⟩
  · exact g h2
  · exact h3 j c' g2 g3 g4
  · exact g h4
  · exact g h5
theorem rule_plus {cs : List Cls} {i : Nat} {c : Cls} (hc : cs[i]? = some c) (hname : NameOK (bs c.n)) (hd : ∀ (j : Nat) c', j < i → cs[j]? = some c' → c'.n ≠ c.n) {f : Nat → Bool} (hp : parseF (bs c.rx) = (plusR f, 0, 0)) {b : UInt8} (hf : f b.toNat = true) : RuleOK cs i := by
  refine ⟨c, hc, hname, hd, by rw [hp], by unfold reOf; rw [hp]; rfl, ?_⟩
  unfold reOf; rw [hp]
  refine ⟨[b], by simp, plus_m.2 ⟨by simp, fun k hk => ?_⟩⟩
  have : k = 0 := by simpa using hk
  subst this
  exact ⟨b, rfl, hf⟩
theorem over_plus {ys : List Re} (h : mCnt ys ≤ 10) : ¬ Over ys := by
  rintro (h1 | h1)
  · omega
  · obtain ⟨svs, h2, h3⟩ := h1.sts
    have hf := h2.few
    have hl : (mFs 0 ys).length = mCnt ys := by have := mFs_len' ys 0; omega
    rw [hl] at hf
    have : 2 ^ mCnt ys ≤ 2 ^ 10 := Nat.pow_le_pow_right (by omega) h
    omega
theorem nameOK_of {s : List UInt8} (h1 : 1 ≤ s.length) (h2 : s.length ≤ 20) (h3 : ∀ c ∈ s, 97 ≤ c.toNat ∧ c.toNat ≤ 122) : NameOK s := ⟨h1, h2, fun i c hc => .inl (h3 c (List.mem_of_getElem? hc))⟩

/-! ## The document's example -/

def cId : Cls := ⟨⟨#[105, 100]⟩, ⟨#[91, 97, 45, 122, 93, 43]⟩, false⟩
def cNum : Cls := ⟨⟨#[110, 117, 109]⟩, ⟨#[91, 48, 45, 57, 93, 43]⟩, false⟩
def cWs : Cls := ⟨⟨#[119, 115]⟩, ⟨#[92, 115, 43]⟩, true⟩
def exCs : List Cls := [cId, cNum, cWs]
def gId (c : Nat) : Bool := decide (97 ≤ c) && decide (c ≤ 122)
def gNum (c : Nat) : Bool := decide (48 ≤ c) && decide (c ≤ 57)
def gWs (c : Nat) : Bool := decide (c = 32)
theorem pId : ∃ f, parseF (bs cId.rx) = (plusR f, 0, 0) ∧ ∀ c, c < 256 → f c = gId c := ⟨_, rfl, by decide +kernel⟩
theorem pNum : ∃ f, parseF (bs cNum.rx) = (plusR f, 0, 0) ∧ ∀ c, c < 256 → f c = gNum c := ⟨_, rfl, by decide +kernel⟩
theorem pWs : ∃ f, parseF (bs cWs.rx) = (plusR f, 0, 0) ∧ ∀ c, c < 256 → f c = gWs c := ⟨_, rfl, by decide +kernel⟩
end Go.Fk
end

section
set_option linter.unusedVariables false
namespace Go.Fk
open Go Go.MapKept

theorem cells_cls {H : View} {b : Nat} {cs : List Cls} {n : Nat} (hn : n = cs.length) (h : H b (.cells (cs.map Cls.cells).flatten.toArray T.scan_Class (0, 0))) : SlCls H ⟨some ⟨b, 0, none⟩, n, n⟩ cs := by
  refine ⟨by simp [hn], .inr ⟨b, 0, _, _, _, rfl, h, fun i c hc j u hu => ?_⟩⟩
  rw [Nat.zero_add, List.getElem?_toArray]
  exact flatten_get Cls.lens hc hu

theorem rules_ex : ∀ i, i < exCs.length → RuleOK exCs i := by
  obtain ⟨f0, p0, h0⟩ := pId
  obtain ⟨f1, p1, h1⟩ := pNum
  obtain ⟨f2, p2, h2⟩ := pWs
  intro i hi
  rcases i with _ | _ | _ | i
  · exact rule_plus (c := cId) rfl (nameOK_of (by decide) (by decide) (by decide)) (fun j c' hj => by omega) p0 (b := 97) (h0 97 (by omega))
  · refine rule_plus (c := cNum) rfl (nameOK_of (by decide) (by decide) (by decide)) (fun j c' hj hc' => ?_) p1 (b := 48) (h1 48 (by omega))
    rcases j with _ | j
    · cases hc'; decide
    · omega
  · refine rule_plus (c := cWs) rfl (nameOK_of (by decide) (by decide) (by decide)) (fun j c' hj hc' => ?_) p2 (b := 32) (h2 32 (by omega))
    rcases j with _ | _ | j
    · cases hc'; decide
    · cases hc'; decide
    · omega
  · simp [exCs] at hi; omega

theorem ys_ex : All2 (fun y g => ∃ f, y = plusR f ∧ ∀ c, c < 256 → f c = g c) (ysOf exCs) [gId, gNum, gWs] := by
  obtain ⟨f0, p0, h0⟩ := pId
  obtain ⟨f1, p1, h1⟩ := pNum
  obtain ⟨f2, p2, h2⟩ := pWs
  refine .cons ⟨f0, ?_, h0⟩ (.cons ⟨f1, ?_, h1⟩ (.cons ⟨f2, ?_, h2⟩ .nil))
  · unfold reOf; rw [p0]
  · unfold reOf; rw [p1]
  · unfold reOf; rw [p2]

theorem cnt_plus {ys : List Re} {gs : List (Nat → Bool)} (h : All2 (fun y g => ∃ f, y = plusR f ∧ ∀ c, c < 256 → f c = g c) ys gs) : mCnt ys = 2 * gs.length := by
  induction h with
  | nil => rfl
  | cons h _ ih =>
    obtain ⟨f, rfl, _⟩ := h
    simp only [mCnt, List.map_cons, List.sum_cons, List.length_cons] at ih ⊢
    rw [ih]
    simp [plusR, Re.cnt]; omega

/-- Of classes that all can be there, whose automaton isn't large, there is a scanner. -/
theorem New_ok {M : Nat → Prop} {w : World} {l : Sl} {cs : List Cls} (hl : SlCls (V M w) l cs) (hlen : cs.length ≤ 5) (hne : cs ≠ []) (hsm : ∀ c ∈ cs, Small c.rx ∧ c.n.size ≤ maxLen) (hr : ∀ i, i < cs.length → RuleOK cs i) (hc : mCnt (ysOf cs) ≤ 10) {K : (Option Addr × Int × Int) → World → Prop}
    (hok : ∀ s ms w', Keeps No w w' → ScanW (V No w') s cs ms → Sound cs ms → K (s, cs.length, 0) w') : scan_New.C l w K :=
  scan_New_spec hl (by omega) hsm (fun h => absurd h hne) (fun i e w' k hi _ hb => ((hr i hi).ok.notBad hb).elim) (fun w' _ _ _ ho => absurd ho (over_plus hc)) hok

theorem small_ex : ∀ c ∈ exCs, Small c.rx ∧ c.n.size ≤ maxLen := by
  intro c hc
  simp only [exCs, List.mem_cons, List.not_mem_nil, or_false] at hc
  rcases hc with rfl | rfl | rfl <;> exact ⟨by unfold Small; decide, by decide⟩

theorem New_ex {w : World} {b : Nat} (hb : w.heap[b]? = some (.cells (exCs.map Cls.cells).flatten.toArray T.scan_Class (0, 0))) {K : (Option Addr × Int × Int) → World → Prop}
    (hok : ∀ s ms w', Keeps No w w' → ScanW (V No w') s exCs ms → Sound exCs ms → K (s, 3, 0) w') : scan_New.C ⟨some ⟨b, 0, none⟩, 3, 3⟩ w K :=
  New_ok (M := No) (cells_cls rfl ⟨id, hb⟩) (by decide) (by simp [exCs]) small_ex rules_ex (by rw [cnt_plus ys_ex]; decide) hok

/-- 'ab 1'. -/
def exT : List UInt8 := [97, 98, 32, 49]
theorem exTok {ms : List LSt} (h : Sound exCs ms) : ((tokF ms exT 0).c = 0 ∧ (tokF ms exT 0).t = 2) ∧ ((tokF ms exT 2).c = 2 ∧ (tokF ms exT 2).t = 3) ∧ ((tokF ms exT 3).c = 1 ∧ (tokF ms exT 3).t = 4) := by
  have hm : ∀ s t i, Means (ysOf exCs) s t i ↔ plusAt [gId, gNum, gWs] s t i = true := fun s t i => means_plus ys_ex
  refine ⟨h.tok_is (i := 0) (by decide) (r := 0) (z := 2) (LawBest.of (t := 2) (i := 0) (hm _) (by decide) (by decide) (by decide)),
    h.tok_is (i := 2) (by decide) (r := 2) (z := 1) (LawBest.of (t := 1) (i := 2) (hm _) (by decide) (by decide) (by decide)),
    h.tok_is (i := 3) (by decide) (r := 1) (z := 1) (LawBest.of (t := 1) (i := 1) (hm _) (by decide) (by decide) (by decide))⟩

theorem toks_ex {ms : List LSt} (h : Sound exCs ms) : toksOf ms exT = [tokF ms exT 0, tokF ms exT 2, tokF ms exT 3] := by
  obtain ⟨⟨_, h1⟩, ⟨_, h2⟩, _, h3⟩ := exTok h
  have g := goes_tok (ms := ms) (s := exT)
  unfold toksOf
  rw [toks_step g (by decide), h1, show ((2 : Int)).toNat = 2 from rfl, toks_step g (by decide), h2, show ((3 : Int)).toNat = 3 from rfl, toks_step g (by decide), h3, toks_end (by decide)]

end Go.Fk
end

section
set_option linter.unusedVariables false
namespace Go.Fk
open Go Go.MapKept

theorem IdxS.rtok {M : Nat → Prop} {w : World} {l : Sl} {xs : List Tok} {i : Int} {K : Addr → Prop} (h : SlC (V M w) l 3 (xs.map Tok.rc)) (h0 : 0 ≤ i) (h1 : i < xs.length)
    (hk : ∀ x p, xs[i.toNat]? = some x → (w.cell? p = some (.int .i64 x.c) ∧ w.cell? (p.add 1) = some (.int .i64 x.f) ∧ w.cell? (p.add 2) = some (.int .i64 x.t)) → K p) : IdxS l i 3 K := by
  refine IdxS.recd (M := M) h h0 (by simpa using h1) fun g off c hc hcell => ?_
  rw [List.getElem?_map] at hc
  obtain ⟨x, hx, rfl⟩ := Option.map_eq_some_iff.1 hc
  refine hk x _ hx ⟨?_, ?_, ?_⟩
  · exact hcell 0 _ rfl
  · rw [add_eq]; exact hcell 1 _ rfl
  · rw [add_eq]; exact hcell 2 _ rfl

theorem Sound.cls_in {cs : List Cls} {ms : List LSt} (h : Sound cs ms) {s : List UInt8} {i : Nat} (hi : i ≤ s.length) : (tokF ms s i).c = -1 ∨ (0 ≤ (tokF ms s i).c ∧ (tokF ms s i).c < cs.length) := by
  obtain ⟨F, r, z, h1, h2, h3⟩ := h.best s hi
  rw [h2]
  rcases h3 with ⟨h, _⟩ | ⟨t, j, _, _, h4, _, h5, _⟩
  · exact .inl h
  · right; show 0 ≤ r ∧ r < _; omega

theorem toks_get {ms : List LSt} {s : List UInt8} {i : Nat} {x : Tok} (h : (toksOf ms s)[i]? = some x) : ∃ b, b < s.length ∧ x = tokF ms s b := by
  obtain ⟨b, _, h2, h3⟩ := toks_mem (goes_tok (ms := ms) (s := s)) s.length 0 (by omega) x (List.mem_of_getElem? h)
  exact ⟨b, h2, h3⟩

theorem filter_at {α : Type} {l : List α} {p : α → Bool} {i : Nat} {x : α} (h : l[i]? = some x) : (p x = true → (l.filter p)[((l.take i).filter p).length]? = some x ∧ ((l.take (i + 1)).filter p).length = ((l.take i).filter p).length + 1) ∧ (p x = false → ((l.take (i + 1)).filter p).length = ((l.take i).filter p).length) := by
  have ht : l.take (i + 1) = l.take i ++ [x] := by rw [List.take_add_one, h]; rfl
  refine ⟨fun hp => ⟨?_, ?_⟩, fun hp => ?_⟩
  · have : l.filter p = (l.take (i + 1)).filter p ++ (l.drop (i + 1)).filter p := by rw [← List.filter_append, List.take_append_drop]
    rw [this, ht, List.filter_append, List.append_assoc, List.getElem?_append_right (Nat.le_refl _)]
    simp [hp]
  · rw [ht, List.filter_append]; simp [hp]
  · rw [ht, List.filter_append]; simp [hp]

theorem toks_len {ms : List LSt} {s : List UInt8} : (toksOf ms s).length ≤ s.length := by
  have : ∀ n a, s.length - a ≤ n → a ≤ s.length → (toks (tokF ms s) s.length a).length + a ≤ s.length := by
    intro n
    induction n with
    | zero => intro a h1 h2; rw [toks_end (by omega)]; simp; omega
    | succ n ih =>
      intro a h1 h2
      by_cases hlt : a < s.length
      · have g := goes_tok (ms := ms) (s := s) a hlt
        rw [toks_step goes_tok hlt]
        have := ih (tokF ms s a).t.toNat (by omega) (by omega)
        simp only [List.length_cons]
        omega
      · rw [toks_end (by omega)]; simp; omega
  have := this s.length 0 (by omega) (by omega)
  simpa using this

end Go.Fk
end

section
set_option linter.unusedVariables false
namespace Go.Fk
open Go

/-! ## Gaps of a text's tokens, by a rule -/

structure Cm where
  s : ByteArray
  tr : Bool
  a : Int
structure Gp where
  f : Int
  t : Int
  cm : List Cm
  ln : Nat

def bl (c : UInt8) : Bool := c.toNat == 32 || c.toNat == 9 || c.toNat == 10 || c.toNat == 13
def blank (s : ByteArray) : Bool := (bs s).all bl
def nls (s : ByteArray) : Nat := (bs s).count 10
def cutT (s : ByteArray) (x : Tok) : ByteArray := s.extract x.f.toNat x.t.toNat
def stepL (s : ByteArray) (b : Bool) (st : List Cm × Nat) (x : Tok) : List Cm × Nat :=
  if blank (cutT s x) then (st.1, st.2 + nls (cutT s x)) else (st.1 ++ [⟨cutT s x, b && (st.2 == 0), x.f⟩], st.2)
def foldL (s : ByteArray) (b : Bool) (ls : List Tok) : List Cm × Nat := ls.foldl (stepL s b) ([], 0)
theorem foldL_snoc {s : ByteArray} {b : Bool} {ls : List Tok} {x : Tok} : foldL s b (ls ++ [x]) = stepL s b (foldL s b ls) x := by simp [foldL]

structure Rg where
  f : Int
  t : Int
  b : Bool
  ls : List Tok
def Rg.gap (s : ByteArray) (g : Rg) : Gp := ⟨g.f, g.t, (foldL s g.b g.ls).1, (foldL s g.b g.ls).2⟩

def rgs (lay : Tok → Bool) (len : Int) : Int → Bool → List Tok → List Tok → List Rg
  | st, b, cur, [] => [⟨st, len, b, cur⟩]
  | st, b, cur, x :: ts => if lay x then rgs lay len st b (cur ++ [x]) ts else ⟨st, x.f, b, cur⟩ :: rgs lay len x.t true [] ts

/-- Tokens that stand one behind the other, from a place on. -/
def Srt (len : Int) : Int → List Tok → Prop
  | st, [] => st ≤ len
  | st, x :: ts => st ≤ x.f ∧ x.f < x.t ∧ Srt len x.t ts

theorem Srt.le {len : Int} : ∀ {ts : List Tok} {st : Int}, Srt len st ts → st ≤ len ∧ ∀ x ∈ ts, st ≤ x.f ∧ x.f < x.t ∧ x.t ≤ len
  | [], st, h => ⟨h, fun x hx => by cases hx⟩
  | y :: ts, st, h => by
    obtain ⟨h1, h2, h3⟩ := h
    obtain ⟨h4, h5⟩ := Srt.le h3
    refine ⟨by omega, fun x hx => ?_⟩
    rcases List.mem_cons.1 hx with rfl | hx
    · exact ⟨h1, h2, h4⟩
    · have := h5 x hx; exact ⟨by omega, this.2.1, this.2.2⟩

def fromK (ss : List Tok) (st : Int) (k : Nat) : Int := if k = 0 then st else ((ss[k - 1]?).map Tok.t).getD 0
def toK (ss : List Tok) (len : Int) (k : Nat) : Int := ((ss[k]?).map Tok.f).getD len
def inGap (lay : Tok → Bool) (f t : Int) (x : Tok) : Bool := decide (f ≤ x.f) && decide (x.t ≤ t) && lay x

theorem rgs_law (lay : Tok → Bool) (len : Int) : ∀ (ts : List Tok) (st : Int) (b : Bool) (cur : List Tok), Srt len st ts →
    (rgs lay len st b cur ts).length = (ts.filter fun x => !lay x).length + 1 ∧
    ∀ k, k ≤ (ts.filter fun x => !lay x).length → (rgs lay len st b cur ts)[k]? = some ⟨fromK (ts.filter fun x => !lay x) st k, toK (ts.filter fun x => !lay x) len k, (if k = 0 then b else true), (if k = 0 then cur else []) ++ ts.filter (inGap lay (fromK (ts.filter fun x => !lay x) st k) (toK (ts.filter fun x => !lay x) len k))⟩
  | [], st, b, cur, h => by
    refine ⟨rfl, fun k hk => ?_⟩
    have : k = 0 := by simpa using hk
    subst this
    simp [rgs, fromK, toK]
  | x :: ts, st, b, cur, h => by
    obtain ⟨h1, h2, h3⟩ := h
    have hin := (Srt.le h3).2
    cases hx : lay x with
    | true =>
      have hf : (x :: ts).filter (fun x => !lay x) = ts.filter fun x => !lay x := by simp [hx]
      have h4 : Srt len st ts := by
        cases ts with
        | nil => exact (by have : x.t ≤ len := h3; show st ≤ len; omega)
        | cons y ts => exact ⟨by have := h3.1; omega, h3.2⟩
      obtain ⟨i1, i2⟩ := rgs_law lay len ts st b (cur ++ [x]) h4
      rw [hf]
      refine ⟨by simp only [rgs, hx, if_true]; exact i1, fun k hk => ?_⟩
      simp only [rgs, hx, if_true]
      rw [i2 k hk]
      generalize hss : (ts.filter fun x => !lay x) = ss at hk ⊢
      have hmem : ∀ y ∈ ss, x.t ≤ y.f ∧ y.f < y.t ∧ y.t ≤ len := fun y hy => hin y (by rw [← hss] at hy; exact (List.mem_filter.1 hy).1)
      congr 2
      by_cases hk0 : k = 0
      · subst hk0
        have hto : x.t ≤ toK ss len 0 := by
          unfold toK
          cases hc : ss[0]? with
          | none => exact (Srt.le h3).1
          | some y => exact (hmem y (List.mem_of_getElem? hc)).1
        have hi : inGap lay (fromK ss st 0) (toK ss len 0) x = true := by
          simp [inGap, hx, fromK, h1, hto]
        simp [hi]
      · have hi : inGap lay (fromK ss st k) (toK ss len k) x = false := by
          have : x.f < fromK ss st k := by
            unfold fromK
            rw [if_neg hk0]
            have hc : ss[k - 1]? = some ss[k - 1] := List.getElem?_eq_getElem (by omega)
            have := hmem _ (List.mem_of_getElem? hc)
            rw [hc]
            show x.f < (ss[k - 1]).t
            omega
          unfold inGap
          rw [decide_eq_false (by omega)]; rfl
        simp [hi, hk0]
    | false =>
      have hf : (x :: ts).filter (fun x => !lay x) = x :: ts.filter fun x => !lay x := by simp [hx]
      obtain ⟨i1, i2⟩ := rgs_law lay len ts x.t true [] h3
      rw [hf]
      have hr : rgs lay len st b cur (x :: ts) = ⟨st, x.f, b, cur⟩ :: rgs lay len x.t true [] ts := by simp [rgs, hx]
      rw [hr]
      refine ⟨by simp only [List.length_cons, i1], fun k hk => ?_⟩
      have hix : ∀ f t, inGap lay f t x = false := fun f t => by simp [inGap, hx]
      cases k with
      | zero =>
        have he : (x :: ts).filter (inGap lay st x.f) = [] := by
          rw [List.filter_eq_nil_iff]
          intro y hy
          rcases List.mem_cons.1 hy with rfl | hy
          · rw [hix]; simp
          · have := hin y hy
            unfold inGap
            rw [decide_eq_false (p := y.t ≤ x.f) (by omega)]; simp
        simp only [List.getElem?_cons_zero, fromK, toK, if_true]
        show some _ = some (Rg.mk st x.f b (cur ++ (x :: ts).filter (inGap lay st x.f)))
        rw [he, List.append_nil]
      | succ k =>
        have hk' : k ≤ (ts.filter fun x => !lay x).length := by simpa using hk
        rw [List.getElem?_cons_succ, i2 k hk']
        have e1 : fromK (x :: ts.filter fun x => !lay x) st (k + 1) = fromK (ts.filter fun x => !lay x) x.t k := by
          unfold fromK
          rw [if_neg (by omega)]
          cases k with
          | zero => rfl
          | succ k => rw [if_neg (by omega)]; rfl
        have e2 : toK (x :: ts.filter fun x => !lay x) len (k + 1) = toK (ts.filter fun x => !lay x) len k := rfl
        rw [e1, e2]
        have e3 : (x :: ts).filter (inGap lay (fromK (ts.filter fun x => !lay x) x.t k) (toK (ts.filter fun x => !lay x) len k)) = ts.filter (inGap lay (fromK (ts.filter fun x => !lay x) x.t k) (toK (ts.filter fun x => !lay x) len k)) := by
          rw [List.filter_cons, hix]; simp
        rw [e3]
        simp

/-- The gaps of a text of tokens. -/
def gapsOf (lay : Tok → Bool) (s : ByteArray) (ts : List Tok) : List Gp := (rgs lay s.size 0 false [] ts).map (Rg.gap s)

theorem srt_toks {ms : List LSt} {s : List UInt8} : ∀ (n a : Nat), s.length - a ≤ n → a ≤ s.length → Srt s.length a (toks (tokF ms s) s.length a) := by
  intro n
  induction n with
  | zero => intro a h1 h2; rw [toks_end (by omega)]; show (a : Int) ≤ s.length; omega
  | succ n ih =>
    intro a h1 h2
    by_cases hlt : a < s.length
    · have g := goes_tok (ms := ms) (s := s) a hlt
      rw [toks_step goes_tok hlt]
      refine ⟨by omega, by omega, ?_⟩
      have := ih (tokF ms s a).t.toNat (by omega) (by omega)
      rwa [show ((tokF ms s a).t.toNat : Int) = (tokF ms s a).t from by omega] at this
    · rw [toks_end (by omega)]; show (a : Int) ≤ s.length; omega
theorem srt_all {ms : List LSt} {s : List UInt8} : Srt s.length 0 (toksOf ms s) := srt_toks s.length 0 (by omega) (by omega)

theorem nls_le (s : ByteArray) (x : Tok) : nls (cutT s x) ≤ x.t.toNat - x.f.toNat := by
  unfold nls cutT
  refine Nat.le_trans List.count_le_length ?_
  rw [bs_cut, List.length_take]; omega
end Go.Fk
end

section
set_option maxRecDepth 100000
set_option linter.unusedVariables false
namespace Go.Fk
open Go

/-- frisket/frisketlaw28.TriviaFinds -/
def frisketlaw28_TriviaFinds.M (c_0 : Sl) (text_1 : ByteArray) (K : Bool → World → Prop) (w : World) : Prop :=
  Join (fun (s1 : Bool) w1 => Br s1 (frisketlaw28_awake.C  w1 fun x30 w2 => K x30 w2) (frisketlaw09_Rules.C c_0 w1 fun x33 w3 => scan_New.C c_0 w3 fun x39 w4 => trivia_Find.C x39.1 text_1 w4 fun x46 w5 => Join (fun (s2 : Bool) w6 => Br s2 (Br (x39.1.isNone) (Br ((x46.1.n : Int) == (0 : Int)) (K (x46.2 == (1 : Int)) w6) (K false w6)) (K false w6)) (Loop (fun (s3 : Sl × Int) w7 again4 => Br (decide (s3.2 < (c_0.n : Int))) (IdxS c_0 s3.2 3 fun p75 => Ld .bool (p75.add 2) w7 fun x77 => Al (.cells #[.bool x77] T.bool (0, 0)) w7 fun b5 w8 => App P (Builtin.append_ #[T.sl_bool, T.sl_bool] T.sl_bool #[.slice s3.1.a s3.1.n s3.1.c, .slice (some ⟨b5, 0, none⟩) 1 1]) (.one .sl) w8 fun x79 w9 => again4 (x79, (w64 (s3.2 + (1 : Int)))) w9) (frisketref09_Scan.C x33.1 text_1 w7 fun x82 w10 => frisketref28_Find.C x82 s3.1 text_1 w10 fun x85 w11 => Loop (fun (s6 : Int × Int) w12 again7 => Br (decide (s6.2 < (x85.n : Int))) (IdxS x85 s6.2 4 fun p95 => Ld .sl (p95.add 2) w12 fun x97 => again7 ((w64 (s6.1 + (x97.n : Int))), (w64 (s6.2 + (1 : Int)))) w12) (Br (x46.2 == (0 : Int)) (frisketlaw28_same.C x46.1 x85 w12 fun x105 w13 => Br (x105 == (0 : Int)) (trivia_Count.C x46.1 w13 fun x110 w14 => Br (x110 == s6.1) (trivia_Bare.C x46.1 w14 fun x116 w15 => K (x116 == (s6.1 == (0 : Int))) w15) (K false w14)) (K false w13)) (K false w12))) (0, 0) w11)) (⟨none, 0, 0⟩, 0) w6)) fun j8 => Br (x33.2.2 != (0 : Int)) (j8 true w5) (j8 (x39.2.2 != (0 : Int)) w5))) fun j9 => frisketlaw09_Great.C c_0 w fun x19 w16 => Br (decide ((0 : Int) < x19)) (j9 true w16) (Br (decide ((24 : Int) < (text_1.size : Int))) (j9 true w16) (frisketlaw28_awake.C  w16 fun x27 w17 => j9 (!x27) w17))
theorem frisketlaw28_TriviaFinds.ok (c_0 : Sl) (text_1 : ByteArray) (K : Bool → World → Prop) (w : World) (h : frisketlaw28_TriviaFinds.M c_0 text_1 K w) : frisketlaw28_TriviaFinds.C c_0 text_1 w K :=
  calls_of_sem (P := P) (H := [(19, .one (.int .i64)), (27, .one .bool), (30, .one .bool), (33, .tup [.one .sl, .one (.int .i64), .one (.int .i64)]), (39, .tup [.one .ptr, .one (.int .i64), .one (.int .i64)]), (46, .tup [.one .sl, .one (.int .i64)]), (77, .one .bool), (82, .one .sl), (85, .one .sl), (97, .one .sl), (105, .one (.int .i64)), (110, .one (.int .i64)), (116, .one .bool)]) (ann := (.n .z (.n (.j [(29, .one .bool)] [0, 1] .z .z) (.n .z (.n .z (.n .z (.n (.j [(54, .one .bool)] [0, 1, 5, 8, 11, 12] .z .z) (.n .z (.n (.n .z (.l [(13, .one .sl), (14, .one (.int .i64))] [0, 1, 5, 11, 12] .z)) (.n .z (.n .z (.n (.n .z (.l [(16, .one (.int .i64)), (17, .one (.int .i64))] [11, 12, 15] .z)) .z)))))))))))) (args := [.slice c_0.a c_0.n c_0.c, .string text_1]) (rt := .one .bool) P_mixed rfl rfl (by kernel_rfl) (by kernel_rfl)
    ((show _ = frisketlaw28_TriviaFinds.M c_0 text_1 K w by kernel_rfl).mpr h)

/-- frisket/frisketlaw28.TriviaNone -/
def frisketlaw28_TriviaNone.M (text_0 : ByteArray) (K : Bool → World → Prop) (w : World) : Prop :=
  Join (fun (s1 : Bool) w1 => Br s1 (frisketlaw28_awake.C  w1 fun x17 w2 => K x17 w2) (trivia_Find.C none text_0 w1 fun x20 w3 => frisketlaw28_classes.C  w3 fun x24 w4 => scan_New.C x24 w4 fun x25 w5 => App P (Instr.makeSlice T.sl_uint8 (.int .i64 1048577) (.int .i64 1048577)) (.one .sl) w5 fun x31 w6 => App P (convert T.sl_uint8 T.string (.slice x31.a x31.n x31.c)) (.one .str) w6 fun x32 w7 => trivia_Find.C x25.1 x32 w7 fun x33 w8 => Br ((x20.1.n : Int) == (0 : Int)) (Br (x20.2 == (1 : Int)) (Br ((x33.1.n : Int) == (0 : Int)) (Br (x33.2 == (3 : Int)) (trivia_Count.C (⟨none, 0, 0⟩) w8 fun x53 w9 => Br (x53 == (0 : Int)) (trivia_Bare.C (⟨none, 0, 0⟩) w9 fun x57 w10 => K x57 w10) (K false w9)) (K false w8)) (K false w8)) (K false w8)) (K false w8))) fun j2 => Br (decide ((60 : Int) < (text_0.size : Int))) (j2 true w) (frisketlaw28_awake.C  w fun x14 w11 => j2 (!x14) w11)
theorem frisketlaw28_TriviaNone.ok (text_0 : ByteArray) (K : Bool → World → Prop) (w : World) (h : frisketlaw28_TriviaNone.M text_0 K w) : frisketlaw28_TriviaNone.C text_0 w K :=
  calls_of_sem (P := P) (H := [(14, .one .bool), (17, .one .bool), (20, .tup [.one .sl, .one (.int .i64)]), (24, .one .sl), (25, .tup [.one .ptr, .one (.int .i64), .one (.int .i64)]), (31, .one .sl), (32, .one .str), (33, .tup [.one .sl, .one (.int .i64)]), (53, .one (.int .i64)), (57, .one .bool)]) (ann := (.n .z (.n (.j [(16, .one .bool)] [0] .z .z) .z))) (args := [.string text_0]) (rt := .one .bool) P_mixed rfl rfl (by kernel_rfl) (by kernel_rfl)
    ((show _ = frisketlaw28_TriviaNone.M text_0 K w by kernel_rfl).mpr h)

/-- frisket/frisketlaw28.TriviaSame -/
def frisketlaw28_TriviaSame.M (a_0 : Sl) (b_1 : Sl) (K : Bool → World → Prop) (w : World) : Prop :=
  Join (fun (s1 : Bool) w1 => Br s1 (frisketlaw28_awake.C  w1 fun x16 w2 => K x16 w2) (Loop (fun (s2 : Bool × Int) w3 again3 => Join (fun (s4 : Bool) w4 => Br s4 (Draw w4 fun S5 w5 => IdxS a_0 s2.2 4 fun p33 => LdS S5 .sl (p33.add 2) fun x35 => IdxS b_1 s2.2 4 fun p39 => LdS S5 .sl (p39.add 2) fun x41 => Loop (fun (s6 : Bool × Int) w6 again7 => Join (fun (s8 : Bool) w7 => Br s8 (Draw w7 fun S9 w8 => IdxS a_0 s2.2 4 fun p59 => LdS S9 .sl (p59.add 2) fun x61 => IdxS x61 s6.2 3 fun p63 => LdS S9 .str p63 fun x65 => IdxS b_1 s2.2 4 fun p68 => LdS S9 .sl (p68.add 2) fun x70 => IdxS x70 s6.2 3 fun p72 => LdS S9 .str p72 fun x74 => Br (x65.toList == x74.toList) (IdxS a_0 s2.2 4 fun p79 => LdS S9 .sl (p79.add 2) fun x81 => IdxS x81 s6.2 3 fun p83 => LdS S9 .bool (p83.add 1) fun x85 => IdxS b_1 s2.2 4 fun p88 => LdS S9 .sl (p88.add 2) fun x90 => IdxS x90 s6.2 3 fun p92 => LdS S9 .bool (p92.add 1) fun x94 => again7 ((x85 == x94), (w64 (s6.2 + (1 : Int)))) w8) (again7 (false, (w64 (s6.2 + (1 : Int)))) w8)) (again3 (s6.1, (w64 (s2.2 + (1 : Int)))) w7)) fun j10 => IdxS a_0 s2.2 4 fun p47 => Ld .sl (p47.add 2) w6 fun x49 => Br (decide (s6.2 < (x49.n : Int))) (j10 s6.1 w6) (j10 false w6)) (((x35.n : Int) == (x41.n : Int)), 0) w5) (trivia_Same.C a_0 b_1 w4 fun x99 w9 => Br (x99 == s2.1) (trivia_Same.C a_0 a_0 w9 fun x105 w10 => Br x105 (frisketlaw28_awake.C  w10 fun x108 w11 => K x108 w11) (K false w10)) (K false w9))) fun j11 => Br (decide (s2.2 < (a_0.n : Int))) (j11 s2.1 w3) (j11 false w3)) (((a_0.n : Int) == (b_1.n : Int)), 0) w1)) fun j12 => Br (decide ((30 : Int) < (a_0.n : Int))) (j12 true w) (j12 (decide ((30 : Int) < (b_1.n : Int))) w)
theorem frisketlaw28_TriviaSame.ok (a_0 : Sl) (b_1 : Sl) (K : Bool → World → Prop) (w : World) (h : frisketlaw28_TriviaSame.M a_0 b_1 K w) : frisketlaw28_TriviaSame.C a_0 b_1 w K :=
  calls_of_sem (P := P) (H := [(16, .one .bool), (35, .one .sl), (41, .one .sl), (49, .one .sl), (61, .one .sl), (65, .one .str), (70, .one .sl), (74, .one .str), (81, .one .sl), (85, .one .bool), (90, .one .sl), (94, .one .bool), (99, .one .bool), (105, .one .bool), (108, .one .bool)]) (ann := (.n .z (.n (.j [(15, .one .bool)] [0, 1] .z .z) (.n .z (.n (.n .z (.l [(5, .one .bool), (6, .one (.int .i64))] [0, 1] (.n (.j [(28, .one .bool)] [0, 1, 5, 6] .z .z) (.n (.n .z (.n .z (.l [(5, .one .bool), (7, .one (.int .i64))] [0, 1, 6] (.n (.j [(54, .one .bool)] [0, 1, 5, 6, 7] .z .z) .z)))) .z)))) .z))))) (args := [.slice a_0.a a_0.n a_0.c, .slice b_1.a b_1.n b_1.c]) (rt := .one .bool) P_mixed rfl rfl (by kernel_rfl) (by kernel_rfl)
    ((show _ = frisketlaw28_TriviaSame.M a_0 b_1 K w by kernel_rfl).mpr h)

/-- frisket/frisketlaw28.TriviaCovers -/
def frisketlaw28_TriviaCovers.M (c_0 : Sl) (text_1 : ByteArray) (K : Bool → World → Prop) (w : World) : Prop :=
  Join (fun (s1 : Bool) w1 => Br s1 (frisketlaw28_awake.C  w1 fun x26 w2 => K x26 w2) (scan_New.C c_0 w1 fun x29 w3 => Br (x29.2.2 != (0 : Int)) (K (x29.1.isNone) w3) (trivia_Find.C x29.1 text_1 w3 fun x40 w4 => scan_Scanner_Scan.C x29.1 text_1 w4 fun x46 w5 => scan_Scanner_Solid.C x29.1 x46.1 w5 fun x51 w6 => Join (fun (s2 : Bool) w7 => Br s2 (K false w7) (Loop (fun (s3 : Int) w8 again4 => Br (decide (s3 < (x51.n : Int))) (Join (fun (s5 : Bool) w9 => Br s5 (K false w9) (again4 (w64 (s3 + (1 : Int))) w9)) fun j6 => Draw w8 fun S7 w10 => IdxS x40.1 s3 4 fun p86 => LdS S7 (.int .i64) (p86.add 1) fun x89 => IdxS x51 s3 4 fun p92 => LdS S7 (.int .i64) (p92.add 1) fun x94 => Br (x89 != x94) (j6 true w10) (IdxS x40.1 (w64 (s3 + (1 : Int))) 4 fun p100 => LdS S7 (.int .i64) p100 fun x103 => IdxS x51 s3 4 fun p106 => LdS S7 (.int .i64) (p106.add 2) fun x108 => j6 (x103 != x108) w10)) (K true w8)) 0 w7)) fun j8 => Br ((x40.1.n : Int) != (w64 ((x51.n : Int) + (1 : Int)))) (j8 true w6) (IdxS x40.1 0 4 fun p60 => Ld (.int .i64) p60 w6 fun x63 => Br (x63 != (0 : Int)) (j8 true w6) (IdxS x40.1 (x51.n : Int) 4 fun p70 => Ld (.int .i64) (p70.add 1) w6 fun x73 => j8 (x73 != (text_1.size : Int)) w6))))) fun j9 => frisketlaw09_Great.C c_0 w fun x15 w11 => Br (decide ((0 : Int) < x15)) (j9 true w11) (Br (decide ((100 : Int) < (text_1.size : Int))) (j9 true w11) (frisketlaw28_awake.C  w11 fun x23 w12 => j9 (!x23) w12))
theorem frisketlaw28_TriviaCovers.ok (c_0 : Sl) (text_1 : ByteArray) (K : Bool → World → Prop) (w : World) (h : frisketlaw28_TriviaCovers.M c_0 text_1 K w) : frisketlaw28_TriviaCovers.C c_0 text_1 w K :=
  calls_of_sem (P := P) (H := [(15, .one (.int .i64)), (23, .one .bool), (26, .one .bool), (29, .tup [.one .ptr, .one (.int .i64), .one (.int .i64)]), (40, .tup [.one .sl, .one (.int .i64)]), (46, .tup [.one .sl, .one (.int .i64)]), (51, .one .sl), (63, .one (.int .i64)), (73, .one (.int .i64)), (89, .one (.int .i64)), (94, .one (.int .i64)), (103, .one (.int .i64)), (108, .one (.int .i64))]) (ann := (.n .z (.n (.j [(25, .one .bool)] [0, 1] .z .z) (.n .z (.n .z (.n .z (.n .z (.n .z (.n (.j [(77, .one .bool)] [8, 12] .z .z) (.n (.n .z (.l [(13, .one (.int .i64))] [8, 12] (.n .z (.n (.j [(110, .one .bool)] [8, 12, 13] .z .z) .z)))) .z)))))))))) (args := [.slice c_0.a c_0.n c_0.c, .string text_1]) (rt := .one .bool) P_mixed rfl rfl (by kernel_rfl) (by kernel_rfl)
    ((show _ = frisketlaw28_TriviaCovers.M c_0 text_1 K w by kernel_rfl).mpr h)

/-- frisket/frisketlaw28.awake -/
def frisketlaw28_awake.M  (K : Bool → World → Prop) (w : World) : Prop :=
  frisketlaw28_classes.C  w fun x7 w1 => scan_New.C x7 w1 fun x8 w2 => trivia_Find.C x8.1 (⟨#[97, 32, 35, 120, 10, 98]⟩) w2 fun x14 w3 => Br (x14.2 == (0 : Int)) (Br ((x14.1.n : Int) == (3 : Int)) (trivia_Count.C x14.1 w3 fun x26 w4 => Br (x26 == (1 : Int)) (IdxS x14.1 1 4 fun p31 => Ld .sl (p31.add 2) w4 fun x33 => Br ((x33.n : Int) == (1 : Int)) (IdxS x14.1 1 4 fun p39 => Ld .sl (p39.add 2) w4 fun x41 => IdxS x41 0 3 fun p42 => Ld .bool (p42.add 1) w4 fun x44 => Br x44 (IdxS x14.1 1 4 fun p48 => Ld .sl (p48.add 2) w4 fun x50 => IdxS x50 0 3 fun p51 => Ld .str p51 w4 fun x53 => K (x53.toList == ((⟨#[35, 120]⟩) : ByteArray).toList) w4) (K false w4)) (K false w4)) (K false w4)) (K false w3)) (K false w3)
theorem frisketlaw28_awake.ok  (K : Bool → World → Prop) (w : World) (h : frisketlaw28_awake.M  K w) : frisketlaw28_awake.C  w K :=
  calls_of_sem (P := P) (H := [(7, .one .sl), (8, .tup [.one .ptr, .one (.int .i64), .one (.int .i64)]), (14, .tup [.one .sl, .one (.int .i64)]), (26, .one (.int .i64)), (33, .one .sl), (41, .one .sl), (44, .one .bool), (50, .one .sl), (53, .one .str)]) (ann := .z) (args := []) (rt := .one .bool) P_mixed rfl rfl (by kernel_rfl) (by kernel_rfl)
    ((show _ = frisketlaw28_awake.M  K w by kernel_rfl).mpr h)

/-- frisket/trivia.Find -/
def trivia_Find.M (s_0 : Option Addr) (text_1 : ByteArray) (K : (Sl × Int) → World → Prop) (w : World) : Prop :=
  scan_Scanner_Scan.C s_0 text_1 w fun x14 w1 => Br (x14.2 != (0 : Int)) (K (⟨none, 0, 0⟩, x14.2) w1) (scan_Scanner_Classes.C s_0 w1 fun x23 w2 => Al (.cells #[.pointer s_0, .string text_1, .slice x23.a x23.n x23.c, .slice none 0 0, .int .i64 0, .int .i64 0, .slice none 0 0, .int .i64 0, .bool true] T.trivia_finder (0, 0)) w2 fun b1 w3 => Loop (fun (s2 : Int) w4 again3 => Br (decide (s2 < (x14.1.n : Int))) (IdxS x14.1 s2 4 fun p30 => Ld (.int .i64) p30 w4 fun x31_0 => Ld (.int .i64) (p30.add 1) w4 fun x31_1 => Ld (.int .i64) (p30.add 2) w4 fun x31_2 => Ld (.int .i64) (p30.add 3) w4 fun x31_3 => Al (.cells #[.int .i64 0, .int .i64 0, .int .i64 0, .int .i64 0] T.scan_Token (0, 0)) w4 fun b4 w5 => St (⟨b4, 0, none⟩) (.int .i64 x31_0) w5 fun w6 => St (⟨b4, 1, none⟩) (.int .i64 x31_1) w6 fun w7 => St (⟨b4, 2, none⟩) (.int .i64 x31_2) w7 fun w8 => St (⟨b4, 3, none⟩) (.int .i64 x31_3) w8 fun w9 => Join (fun (s5 : Bool) w10 => Br s5 (Ld (.int .i64) (⟨b4, 0, none⟩) w10 fun x47_0 => Ld (.int .i64) (⟨b4, 1, none⟩) w10 fun x47_1 => Ld (.int .i64) (⟨b4, 2, none⟩) w10 fun x47_2 => Ld (.int .i64) (⟨b4, 3, none⟩) w10 fun x47_3 => trivia_finder_layout.C (some (⟨b1, 0, none⟩)) (x47_0, x47_1, x47_2, x47_3) w10 fun x48 w11 => again3 (w64 (s2 + (1 : Int))) w11) (Ld (.int .i64) (⟨b4, 1, none⟩) w10 fun x51 => Ld (.int .i64) (⟨b4, 2, none⟩) w10 fun x53 => trivia_finder_close.C (some (⟨b1, 0, none⟩)) x51 x53 w10 fun x54 w12 => again3 (w64 (s2 + (1 : Int))) w12)) fun j6 => Draw w9 fun S7 w13 => LdS S7 (.int .i64) (⟨b4, 0, none⟩) fun x33 => Br (decide ((0 : Int) ≤ x33)) (LdS S7 .sl (⟨b1, 2, none⟩) fun x39 => LdS S7 (.int .i64) (⟨b4, 0, none⟩) fun x41 => IdxS x39 x41 3 fun p42 => LdS S7 .bool (p42.add 2) fun x44 => j6 x44 w13) (j6 false w13)) (trivia_finder_close.C (some (⟨b1, 0, none⟩)) (text_1.size : Int) (text_1.size : Int) w4 fun x61 w14 => Ld .sl (⟨b1, 3, none⟩) w14 fun x65 => K (x65, 0) w14)) 0 w3)
theorem trivia_Find.ok (s_0 : Option Addr) (text_1 : ByteArray) (K : (Sl × Int) → World → Prop) (w : World) (h : trivia_Find.M s_0 text_1 K w) : trivia_Find.C s_0 text_1 w K :=
  calls_of_sem (P := P) (H := [(14, .tup [.one .sl, .one (.int .i64)]), (23, .one .sl), (31, .agg [(.int .i64), (.int .i64), (.int .i64), (.int .i64)]), (33, .one (.int .i64)), (39, .one .sl), (41, .one (.int .i64)), (44, .one .bool), (47, .agg [(.int .i64), (.int .i64), (.int .i64), (.int .i64)]), (48, .tup []), (51, .one (.int .i64)), (53, .one (.int .i64)), (54, .tup []), (61, .tup []), (65, .one .sl)]) (ann := (.n .z (.n .z (.n .z (.n .z (.n (.n .z (.l [(28, .one (.int .i64))] [1, 8, 26, 27] (.n .z (.n .z (.n (.n .z (.j [(45, .one .bool)] [1, 8, 10, 26, 27, 28] .z .z)) .z))))) .z)))))) (args := [.pointer s_0, .string text_1]) (rt := .tup [.one .sl, .one (.int .i64)]) P_mixed rfl rfl (by kernel_rfl) (by kernel_rfl)
    ((show _ = trivia_Find.M s_0 text_1 K w by kernel_rfl).mpr h)

/-- frisket/frisketref28.Find -/
def frisketref28_Find.M (l_0 : Sl) (layout_1 : Sl) (text_2 : ByteArray) (K : Sl → World → Prop) (w : World) : Prop :=
  Loop (fun (s1 : Sl × Int) w1 again2 => Br (decide (s1.2 < (l_0.n : Int))) (Join (fun (s3 : Bool) w2 => Br s3 (IdxS l_0 s1.2 3 fun p40 => Ld (.int .i64) p40 w2 fun x41_0 => Ld (.int .i64) (p40.add 1) w2 fun x41_1 => Ld (.int .i64) (p40.add 2) w2 fun x41_2 => Al (.cells #[.int .i64 x41_0, .int .i64 x41_1, .int .i64 x41_2] T.frisketref09_Token (0, 0)) w2 fun b4 w3 => App P (Builtin.append_ #[T.sl_frisketref09_Token, T.sl_frisketref09_Token] T.sl_frisketref09_Token #[.slice s1.1.a s1.1.n s1.1.c, .slice (some ⟨b4, 0, none⟩) 1 1]) (.one .sl) w3 fun x43 w4 => again2 (x43, (w64 (s1.2 + (1 : Int)))) w4) (again2 (s1.1, (w64 (s1.2 + (1 : Int)))) w2)) fun j5 => IdxS l_0 s1.2 3 fun p22 => Ld (.int .i64) p22 w1 fun x24 => Br (decide (x24 < (0 : Int))) (j5 true w1) (IdxS l_0 s1.2 3 fun p30 => Ld (.int .i64) p30 w1 fun x32 => IdxS layout_1 x32 1 fun p33 => Ld .bool p33 w1 fun x34 => j5 (!x34) w1)) (Loop (fun (s6 : Sl × Int) w5 again7 => Br (decide (s6.2 ≤ (s1.1.n : Int))) (Al (.cells #[.int .i64 0, .int .i64 0, .slice none 0 0, .int .i64 0] T.frisketref28_Gap (0, 0)) w5 fun b8 w6 => St (⟨b8, 0, none⟩) (.int .i64 0) w6 fun w7 => St (⟨b8, 1, none⟩) (.int .i64 (text_2.size : Int)) w7 fun w8 => St (⟨b8, 2, none⟩) (.slice none 0 0) w8 fun w9 => St (⟨b8, 3, none⟩) (.int .i64 0) w9 fun w10 => Join (fun (s9 : Unit) w11 => Join (fun (s10 : Unit) w12 => Loop (fun (s11 : Int) w13 again12 => Br (decide (s11 < (l_0.n : Int))) (Join (fun (s13 : Bool) w14 => Br s13 (again12 (w64 (s11 + (1 : Int))) w14) (Draw w14 fun S14 w15 => IdxS l_0 s11 3 fun p118 => LdS S14 (.int .i64) (p118.add 1) fun x120 => IdxS l_0 s11 3 fun p123 => LdS S14 (.int .i64) (p123.add 2) fun x125 => App P (Instr.sliceAt T.string (.string text_2) (some (.int .i64 x120)) (some (.int .i64 x125)) none) (.one .str) w15 fun x126 w16 => (S14 w16 ∧ frisketref28_Blank.C x126 w16 fun x128 w17 => Br x128 (DrawN w17 fun S15 w18 => (Ld (.int .i64) (⟨b8, 3, none⟩) w18 fun x130 => (S15 w18 ∧ frisketref28_count.C x126 w18 fun x132 w19 => (S15 w19 ∧ St (⟨b8, 3, none⟩) (.int .i64 (w64 (x130 + x132))) w19 fun w20 => (S15 w20 ∧ again12 (w64 (s11 + (1 : Int))) w20)))) ∧ (frisketref28_count.C x126 w18 fun x132 w21 => (S15 w21 ∧ Ld (.int .i64) (⟨b8, 3, none⟩) w21 fun x130 => (S15 w21 ∧ St (⟨b8, 3, none⟩) (.int .i64 (w64 (x130 + x132))) w21 fun w22 => (S15 w22 ∧ again12 (w64 (s11 + (1 : Int))) w22))))) (DrawN w17 fun S16 w23 => Br (decide ((0 : Int) < s6.2)) (IdxS l_0 s11 3 fun p147 => (Ld .sl (⟨b8, 2, none⟩) w23 fun x136 => (S16 w23 ∧ (Ld (.int .i64) (⟨b8, 3, none⟩) w23 fun x142 => (S16 w23 ∧ Ld (.int .i64) (p147.add 1) w23 fun x149 => (S16 w23 ∧ Al (.cells #[.string x126, .bool (x142 == (0 : Int)), .int .i64 x149] T.frisketref28_Comment (0, 0)) w23 fun b17 w24 => (S16 w24 ∧ App P (Builtin.append_ #[T.sl_frisketref28_Comment, T.sl_frisketref28_Comment] T.sl_frisketref28_Comment #[.slice x136.a x136.n x136.c, .slice (some ⟨b17, 0, none⟩) 1 1]) (.one .sl) w24 fun x152 w25 => (S16 w25 ∧ St (⟨b8, 2, none⟩) (.slice x152.a x152.n x152.c) w25 fun w26 => (S16 w26 ∧ again12 (w64 (s11 + (1 : Int))) w26)))))) ∧ (Ld (.int .i64) (p147.add 1) w23 fun x149 => (S16 w23 ∧ Ld (.int .i64) (⟨b8, 3, none⟩) w23 fun x142 => (S16 w23 ∧ Al (.cells #[.string x126, .bool (x142 == (0 : Int)), .int .i64 x149] T.frisketref28_Comment (0, 0)) w23 fun b18 w27 => (S16 w27 ∧ App P (Builtin.append_ #[T.sl_frisketref28_Comment, T.sl_frisketref28_Comment] T.sl_frisketref28_Comment #[.slice x136.a x136.n x136.c, .slice (some ⟨b18, 0, none⟩) 1 1]) (.one .sl) w27 fun x152 w28 => (S16 w28 ∧ St (⟨b8, 2, none⟩) (.slice x152.a x152.n x152.c) w28 fun w29 => (S16 w29 ∧ again12 (w64 (s11 + (1 : Int))) w29)))))))) ∧ (Ld (.int .i64) (⟨b8, 3, none⟩) w23 fun x142 => (S16 w23 ∧ (Ld .sl (⟨b8, 2, none⟩) w23 fun x136 => (S16 w23 ∧ Ld (.int .i64) (p147.add 1) w23 fun x149 => (S16 w23 ∧ Al (.cells #[.string x126, .bool (x142 == (0 : Int)), .int .i64 x149] T.frisketref28_Comment (0, 0)) w23 fun b19 w30 => (S16 w30 ∧ App P (Builtin.append_ #[T.sl_frisketref28_Comment, T.sl_frisketref28_Comment] T.sl_frisketref28_Comment #[.slice x136.a x136.n x136.c, .slice (some ⟨b19, 0, none⟩) 1 1]) (.one .sl) w30 fun x152 w31 => (S16 w31 ∧ St (⟨b8, 2, none⟩) (.slice x152.a x152.n x152.c) w31 fun w32 => (S16 w32 ∧ again12 (w64 (s11 + (1 : Int))) w32)))))) ∧ (Ld (.int .i64) (p147.add 1) w23 fun x149 => (S16 w23 ∧ (Ld .sl (⟨b8, 2, none⟩) w23 fun x136 => (S16 w23 ∧ Al (.cells #[.string x126, .bool (x142 == (0 : Int)), .int .i64 x149] T.frisketref28_Comment (0, 0)) w23 fun b20 w33 => (S16 w33 ∧ App P (Builtin.append_ #[T.sl_frisketref28_Comment, T.sl_frisketref28_Comment] T.sl_frisketref28_Comment #[.slice x136.a x136.n x136.c, .slice (some ⟨b20, 0, none⟩) 1 1]) (.one .sl) w33 fun x152 w34 => (S16 w34 ∧ St (⟨b8, 2, none⟩) (.slice x152.a x152.n x152.c) w34 fun w35 => (S16 w35 ∧ again12 (w64 (s11 + (1 : Int))) w35))))) ∧ (Al (.cells #[.string x126, .bool (x142 == (0 : Int)), .int .i64 x149] T.frisketref28_Comment (0, 0)) w23 fun b21 w36 => (S16 w36 ∧ Ld .sl (⟨b8, 2, none⟩) w36 fun x136 => (S16 w36 ∧ App P (Builtin.append_ #[T.sl_frisketref28_Comment, T.sl_frisketref28_Comment] T.sl_frisketref28_Comment #[.slice x136.a x136.n x136.c, .slice (some ⟨b21, 0, none⟩) 1 1]) (.one .sl) w36 fun x152 w37 => (S16 w37 ∧ St (⟨b8, 2, none⟩) (.slice x152.a x152.n x152.c) w37 fun w38 => (S16 w38 ∧ again12 (w64 (s11 + (1 : Int))) w38))))))))) ∧ (Ld (.int .i64) (p147.add 1) w23 fun x149 => (S16 w23 ∧ (Ld .sl (⟨b8, 2, none⟩) w23 fun x136 => (S16 w23 ∧ Ld (.int .i64) (⟨b8, 3, none⟩) w23 fun x142 => (S16 w23 ∧ Al (.cells #[.string x126, .bool (x142 == (0 : Int)), .int .i64 x149] T.frisketref28_Comment (0, 0)) w23 fun b22 w39 => (S16 w39 ∧ App P (Builtin.append_ #[T.sl_frisketref28_Comment, T.sl_frisketref28_Comment] T.sl_frisketref28_Comment #[.slice x136.a x136.n x136.c, .slice (some ⟨b22, 0, none⟩) 1 1]) (.one .sl) w39 fun x152 w40 => (S16 w40 ∧ St (⟨b8, 2, none⟩) (.slice x152.a x152.n x152.c) w40 fun w41 => (S16 w41 ∧ again12 (w64 (s11 + (1 : Int))) w41)))))) ∧ (Ld (.int .i64) (⟨b8, 3, none⟩) w23 fun x142 => (S16 w23 ∧ (Ld .sl (⟨b8, 2, none⟩) w23 fun x136 => (S16 w23 ∧ Al (.cells #[.string x126, .bool (x142 == (0 : Int)), .int .i64 x149] T.frisketref28_Comment (0, 0)) w23 fun b23 w42 => (S16 w42 ∧ App P (Builtin.append_ #[T.sl_frisketref28_Comment, T.sl_frisketref28_Comment] T.sl_frisketref28_Comment #[.slice x136.a x136.n x136.c, .slice (some ⟨b23, 0, none⟩) 1 1]) (.one .sl) w42 fun x152 w43 => (S16 w43 ∧ St (⟨b8, 2, none⟩) (.slice x152.a x152.n x152.c) w43 fun w44 => (S16 w44 ∧ again12 (w64 (s11 + (1 : Int))) w44))))) ∧ (Al (.cells #[.string x126, .bool (x142 == (0 : Int)), .int .i64 x149] T.frisketref28_Comment (0, 0)) w23 fun b24 w45 => (S16 w45 ∧ Ld .sl (⟨b8, 2, none⟩) w45 fun x136 => (S16 w45 ∧ App P (Builtin.append_ #[T.sl_frisketref28_Comment, T.sl_frisketref28_Comment] T.sl_frisketref28_Comment #[.slice x136.a x136.n x136.c, .slice (some ⟨b24, 0, none⟩) 1 1]) (.one .sl) w45 fun x152 w46 => (S16 w46 ∧ St (⟨b8, 2, none⟩) (.slice x152.a x152.n x152.c) w46 fun w47 => (S16 w47 ∧ again12 (w64 (s11 + (1 : Int))) w47)))))))))) (IdxS l_0 s11 3 fun p147 => (Ld .sl (⟨b8, 2, none⟩) w23 fun x136 => (S16 w23 ∧ (Ld (.int .i64) (p147.add 1) w23 fun x149 => (S16 w23 ∧ Al (.cells #[.string x126, .bool false, .int .i64 x149] T.frisketref28_Comment (0, 0)) w23 fun b25 w48 => (S16 w48 ∧ App P (Builtin.append_ #[T.sl_frisketref28_Comment, T.sl_frisketref28_Comment] T.sl_frisketref28_Comment #[.slice x136.a x136.n x136.c, .slice (some ⟨b25, 0, none⟩) 1 1]) (.one .sl) w48 fun x152 w49 => (S16 w49 ∧ St (⟨b8, 2, none⟩) (.slice x152.a x152.n x152.c) w49 fun w50 => (S16 w50 ∧ again12 (w64 (s11 + (1 : Int))) w50))))) ∧ (Ld (.int .i64) (p147.add 1) w23 fun x149 => (S16 w23 ∧ Al (.cells #[.string x126, .bool false, .int .i64 x149] T.frisketref28_Comment (0, 0)) w23 fun b26 w51 => (S16 w51 ∧ App P (Builtin.append_ #[T.sl_frisketref28_Comment, T.sl_frisketref28_Comment] T.sl_frisketref28_Comment #[.slice x136.a x136.n x136.c, .slice (some ⟨b26, 0, none⟩) 1 1]) (.one .sl) w51 fun x152 w52 => (S16 w52 ∧ St (⟨b8, 2, none⟩) (.slice x152.a x152.n x152.c) w52 fun w53 => (S16 w53 ∧ again12 (w64 (s11 + (1 : Int))) w53))))))) ∧ ((Ld .sl (⟨b8, 2, none⟩) w23 fun x136 => (S16 w23 ∧ Ld (.int .i64) (p147.add 1) w23 fun x149 => (S16 w23 ∧ Al (.cells #[.string x126, .bool false, .int .i64 x149] T.frisketref28_Comment (0, 0)) w23 fun b27 w54 => (S16 w54 ∧ App P (Builtin.append_ #[T.sl_frisketref28_Comment, T.sl_frisketref28_Comment] T.sl_frisketref28_Comment #[.slice x136.a x136.n x136.c, .slice (some ⟨b27, 0, none⟩) 1 1]) (.one .sl) w54 fun x152 w55 => (S16 w55 ∧ St (⟨b8, 2, none⟩) (.slice x152.a x152.n x152.c) w55 fun w56 => (S16 w56 ∧ again12 (w64 (s11 + (1 : Int))) w56)))))) ∧ (Ld (.int .i64) (p147.add 1) w23 fun x149 => (S16 w23 ∧ (Ld .sl (⟨b8, 2, none⟩) w23 fun x136 => (S16 w23 ∧ Al (.cells #[.string x126, .bool false, .int .i64 x149] T.frisketref28_Comment (0, 0)) w23 fun b28 w57 => (S16 w57 ∧ App P (Builtin.append_ #[T.sl_frisketref28_Comment, T.sl_frisketref28_Comment] T.sl_frisketref28_Comment #[.slice x136.a x136.n x136.c, .slice (some ⟨b28, 0, none⟩) 1 1]) (.one .sl) w57 fun x152 w58 => (S16 w58 ∧ St (⟨b8, 2, none⟩) (.slice x152.a x152.n x152.c) w58 fun w59 => (S16 w59 ∧ again12 (w64 (s11 + (1 : Int))) w59))))) ∧ (Al (.cells #[.string x126, .bool false, .int .i64 x149] T.frisketref28_Comment (0, 0)) w23 fun b29 w60 => (S16 w60 ∧ Ld .sl (⟨b8, 2, none⟩) w60 fun x136 => (S16 w60 ∧ App P (Builtin.append_ #[T.sl_frisketref28_Comment, T.sl_frisketref28_Comment] T.sl_frisketref28_Comment #[.slice x136.a x136.n x136.c, .slice (some ⟨b29, 0, none⟩) 1 1]) (.one .sl) w60 fun x152 w61 => (S16 w61 ∧ St (⟨b8, 2, none⟩) (.slice x152.a x152.n x152.c) w61 fun w62 => (S16 w62 ∧ again12 (w64 (s11 + (1 : Int))) w62)))))))) ∧ (Ld (.int .i64) (p147.add 1) w23 fun x149 => (S16 w23 ∧ (Ld .sl (⟨b8, 2, none⟩) w23 fun x136 => (S16 w23 ∧ Al (.cells #[.string x126, .bool false, .int .i64 x149] T.frisketref28_Comment (0, 0)) w23 fun b30 w63 => (S16 w63 ∧ App P (Builtin.append_ #[T.sl_frisketref28_Comment, T.sl_frisketref28_Comment] T.sl_frisketref28_Comment #[.slice x136.a x136.n x136.c, .slice (some ⟨b30, 0, none⟩) 1 1]) (.one .sl) w63 fun x152 w65 => (S16 w65 ∧ St (⟨b8, 2, none⟩) (.slice x152.a x152.n x152.c) w65 fun w66 => (S16 w66 ∧ again12 (w64 (s11 + (1 : Int))) w66))))) ∧ ((Ld .sl (⟨b8, 2, none⟩) w23 fun x136 => (S16 w23 ∧ Al (.cells #[.string x126, .bool false, .int .i64 x149] T.frisketref28_Comment (0, 0)) w23 fun b31 w67 => (S16 w67 ∧ App P (Builtin.append_ #[T.sl_frisketref28_Comment, T.sl_frisketref28_Comment] T.sl_frisketref28_Comment #[.slice x136.a x136.n x136.c, .slice (some ⟨b31, 0, none⟩) 1 1]) (.one .sl) w67 fun x152 w68 => (S16 w68 ∧ St (⟨b8, 2, none⟩) (.slice x152.a x152.n x152.c) w68 fun w69 => (S16 w69 ∧ again12 (w64 (s11 + (1 : Int))) w69))))) ∧ (Al (.cells #[.string x126, .bool false, .int .i64 x149] T.frisketref28_Comment (0, 0)) w23 fun b32 w70 => (S16 w70 ∧ Ld .sl (⟨b8, 2, none⟩) w70 fun x136 => (S16 w70 ∧ App P (Builtin.append_ #[T.sl_frisketref28_Comment, T.sl_frisketref28_Comment] T.sl_frisketref28_Comment #[.slice x136.a x136.n x136.c, .slice (some ⟨b32, 0, none⟩) 1 1]) (.one .sl) w70 fun x152 w71 => (S16 w71 ∧ St (⟨b8, 2, none⟩) (.slice x152.a x152.n x152.c) w71 fun w72 => (S16 w72 ∧ again12 (w64 (s11 + (1 : Int))) w72))))))))))))) fun j33 => Draw w13 fun S34 w73 => IdxS l_0 s11 3 fun p80 => LdS S34 (.int .i64) (p80.add 1) fun x82 => LdS S34 (.int .i64) (⟨b8, 0, none⟩) fun x84 => Br (decide (x82 < x84)) (j33 true w73) (IdxS l_0 s11 3 fun p89 => LdS S34 (.int .i64) (p89.add 2) fun x91 => LdS S34 (.int .i64) (⟨b8, 1, none⟩) fun x93 => Br (decide (x93 < x91)) (j33 true w73) (IdxS l_0 s11 3 fun p99 => LdS S34 (.int .i64) p99 fun x101 => Br (decide (x101 < (0 : Int))) (j33 true w73) (IdxS l_0 s11 3 fun p108 => LdS S34 (.int .i64) p108 fun x110 => IdxS layout_1 x110 1 fun p111 => LdS S34 .bool p111 fun x112 => j33 (!x112) w73)))) (Ld (.int .i64) (⟨b8, 0, none⟩) w13 fun x155_0 => Ld (.int .i64) (⟨b8, 1, none⟩) w13 fun x155_1 => Ld .sl (⟨b8, 2, none⟩) w13 fun x155_2 => Ld (.int .i64) (⟨b8, 3, none⟩) w13 fun x155_3 => Al (.cells #[.int .i64 x155_0, .int .i64 x155_1, .slice x155_2.a x155_2.n x155_2.c, .int .i64 x155_3] T.frisketref28_Gap (0, 0)) w13 fun b35 w74 => App P (Builtin.append_ #[T.sl_frisketref28_Gap, T.sl_frisketref28_Gap] T.sl_frisketref28_Gap #[.slice s6.1.a s6.1.n s6.1.c, .slice (some ⟨b35, 0, none⟩) 1 1]) (.one .sl) w74 fun x157 w75 => again7 (x157, (w64 (s6.2 + (1 : Int)))) w75)) 0 w12) fun j36 => Br (decide (s6.2 < (s1.1.n : Int))) (IdxS s1.1 s6.2 3 fun p68 => Ld (.int .i64) (p68.add 1) w11 fun x70 => St (⟨b8, 1, none⟩) (.int .i64 x70) w11 fun w76 => j36 () w76) (j36 () w11)) fun j37 => Br (decide ((0 : Int) < s6.2)) (IdxS s1.1 (w64 (s6.2 - (1 : Int))) 3 fun p58 => Ld (.int .i64) (p58.add 2) w10 fun x60 => St (⟨b8, 0, none⟩) (.int .i64 x60) w10 fun w77 => j37 () w77) (j37 () w10)) (K s6.1 w5)) (⟨none, 0, 0⟩, 0) w1)) (⟨none, 0, 0⟩, 0) w
theorem frisketref28_Find.ok (l_0 : Sl) (layout_1 : Sl) (text_2 : ByteArray) (K : Sl → World → Prop) (w : World) (h : frisketref28_Find.M l_0 layout_1 text_2 K w) : frisketref28_Find.C l_0 layout_1 text_2 w K :=
  calls_of_sem (P := P) (H := [(24, .one (.int .i64)), (32, .one (.int .i64)), (34, .one .bool), (41, .agg [(.int .i64), (.int .i64), (.int .i64)]), (60, .one (.int .i64)), (70, .one (.int .i64)), (82, .one (.int .i64)), (84, .one (.int .i64)), (91, .one (.int .i64)), (93, .one (.int .i64)), (101, .one (.int .i64)), (110, .one (.int .i64)), (112, .one .bool), (120, .one (.int .i64)), (125, .one (.int .i64)), (126, .one .str), (128, .one .bool), (130, .one (.int .i64)), (132, .one (.int .i64)), (136, .one .sl), (142, .one (.int .i64)), (149, .one (.int .i64)), (155, .agg [(.int .i64), (.int .i64), .sl, (.int .i64)])]) (ann := (.n .z (.n .z (.n (.n .z (.l [(7, .one .sl), (8, .one (.int .i64))] [0, 1, 2] (.n .z (.n (.j [(36, .one .bool)] [0, 1, 2, 7, 8] .z .z) .z)))) (.n .z (.n (.n .z (.l [(9, .one .sl), (10, .one (.int .i64))] [0, 1, 2, 7] (.n .z (.n (.n .z (.j [] [0, 1, 2, 7, 9, 10, 11] .z (.j [] [0, 1, 2, 7, 9, 10, 11] .z (.n (.n .z (.l [(12, .one (.int .i64))] [0, 1, 2, 7, 9, 10, 11] (.n .z (.n (.n (.j [(114, .one .bool)] [0, 1, 2, 7, 9, 10, 11, 12] .z .z) (.n .z (.n .z (.n .d .d)))) .z)))) .z)))) .z)))) .z)))))) (args := [.slice l_0.a l_0.n l_0.c, .slice layout_1.a layout_1.n layout_1.c, .string text_2]) (rt := .one .sl) P_mixed rfl rfl (by kernel_rfl) (by kernel_rfl)
    ((show _ = frisketref28_Find.M l_0 layout_1 text_2 K w by kernel_rfl).mpr h)

/-- frisket/frisketlaw28.same -/
def frisketlaw28_same.M (l_0 : Sl) (m_1 : Sl) (K : Int → World → Prop) (w : World) : Prop :=
  Br ((l_0.n : Int) != (m_1.n : Int)) (K 1 w) (Loop (fun (s1 : Int × Int) w1 again2 => Br (decide (s1.2 < (l_0.n : Int))) (Join (fun (s3 : Bool) w2 => Br s3 (again2 ((w64 (s1.1 + (1 : Int))), (w64 (s1.2 + (1 : Int)))) w2) (Loop (fun (s4 : Int × Int) w3 again5 => IdxS m_1 s1.2 4 fun p70 => Ld .sl (p70.add 2) w3 fun x72 => Br (decide (s4.2 < (x72.n : Int))) (IdxS m_1 s1.2 4 fun p79 => Ld .sl (p79.add 2) w3 fun x81 => IdxS x81 s4.2 3 fun p83 => Ld .str p83 w3 fun x84_0 => Ld .bool (p83.add 1) w3 fun x84_1 => Ld (.int .i64) (p83.add 2) w3 fun x84_2 => Al (.cells #[.string (⟨#[]⟩), .bool false, .int .i64 0] T.frisketref28_Comment (0, 0)) w3 fun b6 w4 => St (⟨b6, 0, none⟩) (.string x84_0) w4 fun w5 => St (⟨b6, 1, none⟩) (.bool x84_1) w5 fun w6 => St (⟨b6, 2, none⟩) (.int .i64 x84_2) w6 fun w7 => Draw w7 fun S7 w8 => IdxS l_0 s1.2 4 fun p87 => LdS S7 .sl (p87.add 2) fun x89 => IdxS x89 s4.2 3 fun p91 => LdS S7 .str p91 fun x92_0 => LdS S7 .bool (p91.add 1) fun x92_1 => LdS S7 (.int .i64) (p91.add 2) fun x92_2 => LdS S7 .str (⟨b6, 0, none⟩) fun x94 => LdS S7 .bool (⟨b6, 1, none⟩) fun x96 => LdS S7 (.int .i64) (⟨b6, 2, none⟩) fun x98 => Br (!((x92_0.toList == x94.toList) && ((x92_1 == x96) && (x92_2 == x98)))) (again5 ((w64 (s4.1 + (1 : Int))), (w64 (s4.2 + (1 : Int)))) w8) (again5 (s4.1, (w64 (s4.2 + (1 : Int)))) w8)) (again2 (s4.1, (w64 (s1.2 + (1 : Int)))) w3)) (s1.1, 0) w2)) fun j8 => Draw w1 fun S9 w9 => IdxS l_0 s1.2 4 fun p22 => LdS S9 (.int .i64) p22 fun x24_0 => LdS S9 (.int .i64) (p22.add 1) fun x24_1 => IdxS m_1 s1.2 4 fun p27 => LdS S9 (.int .i64) p27 fun x29 => IdxS m_1 s1.2 4 fun p32 => LdS S9 (.int .i64) (p32.add 1) fun x34 => Br (!((x24_0 == x29) && (x24_1 == x34))) (j8 true w9) (IdxS l_0 s1.2 4 fun p40 => LdS S9 (.int .i64) (p40.add 3) fun x42 => IdxS m_1 s1.2 4 fun p45 => LdS S9 (.int .i64) (p45.add 3) fun x47 => Br (x42 != x47) (j8 true w9) (IdxS l_0 s1.2 4 fun p53 => LdS S9 .sl (p53.add 2) fun x55 => IdxS m_1 s1.2 4 fun p59 => LdS S9 .sl (p59.add 2) fun x61 => j8 ((x55.n : Int) != (x61.n : Int)) w9))) (K s1.1 w1)) (0, 0) w)
theorem frisketlaw28_same.ok (l_0 : Sl) (m_1 : Sl) (K : Int → World → Prop) (w : World) (h : frisketlaw28_same.M l_0 m_1 K w) : frisketlaw28_same.C l_0 m_1 w K :=
  calls_of_sem (P := P) (H := [(24, .agg [(.int .i64), (.int .i64)]), (29, .one (.int .i64)), (34, .one (.int .i64)), (42, .one (.int .i64)), (47, .one (.int .i64)), (55, .one .sl), (61, .one .sl), (72, .one .sl), (81, .one .sl), (84, .agg [.str, .bool, (.int .i64)]), (89, .one .sl), (92, .agg [.str, .bool, (.int .i64)]), (94, .one .str), (96, .one .bool), (98, .one (.int .i64))]) (ann := (.n .z (.n .z (.n .z (.n (.n .z (.l [(5, .one (.int .i64)), (6, .one (.int .i64))] [0, 1] (.n .z (.n (.n (.j [(64, .one .bool)] [0, 1, 5, 6] .z .z) (.n .z (.l [(5, .one (.int .i64)), (7, .one (.int .i64))] [0, 1, 6] .z))) .z)))) .z))))) (args := [.slice l_0.a l_0.n l_0.c, .slice m_1.a m_1.n m_1.c]) (rt := .one (.int .i64)) P_mixed rfl rfl (by kernel_rfl) (by kernel_rfl)
    ((show _ = frisketlaw28_same.M l_0 m_1 K w by kernel_rfl).mpr h)

/-- frisket/trivia.Count -/
def trivia_Count.M (l_0 : Sl) (K : Int → World → Prop) (w : World) : Prop :=
  Loop (fun (s1 : Int × Int) w1 again2 => Br (decide (s1.2 < (l_0.n : Int))) (IdxS l_0 s1.2 4 fun p10 => Ld (.int .i64) p10 w1 fun x11_0 => Ld (.int .i64) (p10.add 1) w1 fun x11_1 => Ld .sl (p10.add 2) w1 fun x11_2 => Ld (.int .i64) (p10.add 3) w1 fun x11_3 => Al (.cells #[.int .i64 0, .int .i64 0, .slice none 0 0, .int .i64 0] T.trivia_Gap (0, 0)) w1 fun b3 w2 => St (⟨b3, 0, none⟩) (.int .i64 x11_0) w2 fun w3 => St (⟨b3, 1, none⟩) (.int .i64 x11_1) w3 fun w4 => St (⟨b3, 2, none⟩) (.slice x11_2.a x11_2.n x11_2.c) w4 fun w5 => St (⟨b3, 3, none⟩) (.int .i64 x11_3) w5 fun w6 => Ld .sl (⟨b3, 2, none⟩) w6 fun x14 => again2 ((w64 (s1.1 + (x14.n : Int))), (w64 (s1.2 + (1 : Int)))) w6) (K s1.1 w1)) (0, 0) w
theorem trivia_Count.ok (l_0 : Sl) (K : Int → World → Prop) (w : World) (h : trivia_Count.M l_0 K w) : trivia_Count.C l_0 w K :=
  calls_of_sem (P := P) (H := [(11, .agg [(.int .i64), (.int .i64), .sl, (.int .i64)]), (14, .one .sl)]) (ann := (.n .z (.n .z (.n (.n .z (.l [(3, .one (.int .i64)), (8, .one (.int .i64))] [6, 7] .z)) .z)))) (args := [.slice l_0.a l_0.n l_0.c]) (rt := .one (.int .i64)) P_mixed rfl rfl (by kernel_rfl) (by kernel_rfl)
    ((show _ = trivia_Count.M l_0 K w by kernel_rfl).mpr h)

/-- frisket/trivia.Bare -/
def trivia_Bare.M (l_0 : Sl) (K : Bool → World → Prop) (w : World) : Prop :=
  trivia_Count.C l_0 w fun x4 w1 => K (x4 == (0 : Int)) w1
theorem trivia_Bare.ok (l_0 : Sl) (K : Bool → World → Prop) (w : World) (h : trivia_Bare.M l_0 K w) : trivia_Bare.C l_0 w K :=
  calls_of_sem (P := P) (H := [(4, .one (.int .i64))]) (ann := .z) (args := [.slice l_0.a l_0.n l_0.c]) (rt := .one .bool) P_mixed rfl rfl (by kernel_rfl) (by kernel_rfl)
    ((show _ = trivia_Bare.M l_0 K w by kernel_rfl).mpr h)

/-- frisket/frisketlaw28.classes -/
def frisketlaw28_classes.M  (K : Sl → World → Prop) (w : World) : Prop :=
  Al (.cells #[.string (⟨#[105, 100]⟩), .string (⟨#[91, 97, 45, 122, 93, 43]⟩), .bool false, .string (⟨#[119, 115]⟩), .string (⟨#[91, 92, 115, 92, 110, 93, 43]⟩), .bool true, .string (⟨#[99]⟩), .string (⟨#[35, 91, 97, 45, 122, 92, 115, 93, 42]⟩), .bool true] T.scan_Class (0, 0)) w fun b1 w1 => K (⟨(some ⟨b1, 0, none⟩), 3, 3⟩) w1
theorem frisketlaw28_classes.ok  (K : Sl → World → Prop) (w : World) (h : frisketlaw28_classes.M  K w) : frisketlaw28_classes.C  w K :=
  calls_of_sem (P := P) (H := []) (ann := .z) (args := []) (rt := .one .sl) P_mixed rfl rfl (by kernel_rfl) (by kernel_rfl)
    ((show _ = frisketlaw28_classes.M  K w by kernel_rfl).mpr h)

/-- frisket/trivia.Same -/
def trivia_Same.M (a_0 : Sl) (b_1 : Sl) (K : Bool → World → Prop) (w : World) : Prop :=
  slices_EqualFunc_trivia_Gap.C a_0 b_1 (.func (.func FN.trivia_alike) #[] #[] : Value) w fun x7 w1 => K x7 w1
theorem trivia_Same.ok (a_0 : Sl) (b_1 : Sl) (K : Bool → World → Prop) (w : World) (h : trivia_Same.M a_0 b_1 K w) : trivia_Same.C a_0 b_1 w K :=
  calls_of_sem (P := P) (H := [(7, .one .bool)]) (ann := .z) (args := [.slice a_0.a a_0.n a_0.c, .slice b_1.a b_1.n b_1.c]) (rt := .one .bool) P_mixed rfl rfl (by kernel_rfl) (by kernel_rfl)
    ((show _ = trivia_Same.M a_0 b_1 K w by kernel_rfl).mpr h)

/-- (*frisket/trivia.finder).layout -/
def trivia_finder_layout.M (f_0 : Option Addr) (t_1 : Int × Int × Int × Int) (K : Unit → World → Prop) (w : World) : Prop :=
  Al (.cells #[.int .i64 t_1.1, .int .i64 t_1.2.1, .int .i64 t_1.2.2.1, .int .i64 t_1.2.2.2] T.scan_Token (0, 0)) w fun b1 w1 => Draw w1 fun S2 w2 => NilC f_0 fun a7 => LdS S2 .str (a7.add 1) fun x9 => LdS S2 (.int .i64) (⟨b1, 1, none⟩) fun x11 => LdS S2 (.int .i64) (⟨b1, 2, none⟩) fun x13 => App P (Instr.sliceAt T.string (.string x9) (some (.int .i64 x11)) (some (.int .i64 x13)) none) (.one .str) w2 fun x14 w3 => (S2 w3 ∧ trivia_blank.C x14 w3 fun x16 w4 => Br (!x16) (Draw w4 fun S3 w5 => NilC f_0 fun a20 => NilC f_0 fun a26 => LdS S3 .bool (a26.add 8) fun x28 => Br x28 (NilC f_0 fun a31 => LdS S3 .sl (a31.add 3) fun x33 => LdS S3 (.int .i64) (⟨b1, 1, none⟩) fun x38 => (Ld .sl ((a20.add 4).add 2) w5 fun x23 => (S3 w5 ∧ Al (.cells #[.string x14, .bool (decide ((0 : Int) < (x33.n : Int))), .int .i64 x38] T.trivia_Comment (0, 0)) w5 fun b4 w6 => (S3 w6 ∧ App P (Builtin.append_ #[T.sl_trivia_Comment, T.sl_trivia_Comment] T.sl_trivia_Comment #[.slice x23.a x23.n x23.c, .slice (some ⟨b4, 0, none⟩) 1 1]) (.one .sl) w6 fun x41 w7 => (S3 w7 ∧ NilC f_0 fun a42 => St ((a42.add 4).add 2) (.slice x41.a x41.n x41.c) w7 fun w8 => (S3 w8 ∧ K () w8))))) ∧ (Al (.cells #[.string x14, .bool (decide ((0 : Int) < (x33.n : Int))), .int .i64 x38] T.trivia_Comment (0, 0)) w5 fun b5 w9 => (S3 w9 ∧ Ld .sl ((a20.add 4).add 2) w9 fun x23 => (S3 w9 ∧ App P (Builtin.append_ #[T.sl_trivia_Comment, T.sl_trivia_Comment] T.sl_trivia_Comment #[.slice x23.a x23.n x23.c, .slice (some ⟨b5, 0, none⟩) 1 1]) (.one .sl) w9 fun x41 w10 => (S3 w10 ∧ NilC f_0 fun a42 => St ((a42.add 4).add 2) (.slice x41.a x41.n x41.c) w10 fun w11 => (S3 w11 ∧ K () w11)))))) (LdS S3 (.int .i64) (⟨b1, 1, none⟩) fun x38 => (Ld .sl ((a20.add 4).add 2) w5 fun x23 => (S3 w5 ∧ Al (.cells #[.string x14, .bool false, .int .i64 x38] T.trivia_Comment (0, 0)) w5 fun b6 w12 => (S3 w12 ∧ App P (Builtin.append_ #[T.sl_trivia_Comment, T.sl_trivia_Comment] T.sl_trivia_Comment #[.slice x23.a x23.n x23.c, .slice (some ⟨b6, 0, none⟩) 1 1]) (.one .sl) w12 fun x41 w13 => (S3 w13 ∧ NilC f_0 fun a42 => St ((a42.add 4).add 2) (.slice x41.a x41.n x41.c) w13 fun w14 => (S3 w14 ∧ K () w14))))) ∧ (Al (.cells #[.string x14, .bool false, .int .i64 x38] T.trivia_Comment (0, 0)) w5 fun b7 w15 => (S3 w15 ∧ Ld .sl ((a20.add 4).add 2) w15 fun x23 => (S3 w15 ∧ App P (Builtin.append_ #[T.sl_trivia_Comment, T.sl_trivia_Comment] T.sl_trivia_Comment #[.slice x23.a x23.n x23.c, .slice (some ⟨b7, 0, none⟩) 1 1]) (.one .sl) w15 fun x41 w16 => (S3 w16 ∧ NilC f_0 fun a42 => St ((a42.add 4).add 2) (.slice x41.a x41.n x41.c) w16 fun w17 => (S3 w17 ∧ K () w17))))))) (strings_Count.C x14 (⟨#[10]⟩) w4 fun x46 w18 => NilC f_0 fun a48 => Ld (.int .i64) ((a48.add 4).add 3) w18 fun x51 => NilC f_0 fun a54 => St ((a54.add 4).add 3) (.int .i64 (w64 (x51 + x46))) w18 fun w19 => NilC f_0 fun a59 => Ld .bool (a59.add 8) w19 fun x61 => Br x61 (NilC f_0 fun a66 => St (a66.add 8) (.bool (x46 == (0 : Int))) w19 fun w20 => K () w20) (NilC f_0 fun a66 => St (a66.add 8) (.bool false) w19 fun w21 => K () w21)))
theorem trivia_finder_layout.ok (f_0 : Option Addr) (t_1 : Int × Int × Int × Int) (K : Unit → World → Prop) (w : World) (h : trivia_finder_layout.M f_0 t_1 K w) : trivia_finder_layout.C f_0 t_1 w K :=
  calls_of_sem (P := P) (H := [(9, .one .str), (11, .one (.int .i64)), (13, .one (.int .i64)), (14, .one .str), (16, .one .bool), (23, .one .sl), (28, .one .bool), (33, .one .sl), (38, .one (.int .i64)), (46, .one (.int .i64)), (51, .one (.int .i64)), (61, .one .bool)]) (ann := (.n .z (.n .z (.n (.n .z (.n (.n (.e [5]) .z) .z)) .z)))) (args := [.pointer f_0, .agg #[.int .i64 t_1.1, .int .i64 t_1.2.1, .int .i64 t_1.2.2.1, .int .i64 t_1.2.2.2]]) (rt := .tup []) P_mixed rfl rfl (by kernel_rfl) (by kernel_rfl)
    ((show _ = trivia_finder_layout.M f_0 t_1 K w by kernel_rfl).mpr h)

/-- (*frisket/trivia.finder).close -/
def trivia_finder_close.M (f_0 : Option Addr) (at_1 : Int) (next_2 : Int) (K : Unit → World → Prop) (w : World) : Prop :=
  NilC f_0 fun a8 => St ((a8.add 4).add 1) (.int .i64 at_1) w fun w1 => Join (fun (s1 : Unit) w2 => NilC f_0 fun a31 => St (a31.add 4) (.int .i64 next_2) w2 fun w3 => St ((a31.add 4).add 1) (.int .i64 next_2) w3 fun w4 => St ((a31.add 4).add 2) (.slice none 0 0) w4 fun w5 => St ((a31.add 4).add 3) (.int .i64 0) w5 fun w6 => NilC f_0 fun a33 => St (a33.add 8) (.bool true) w6 fun w7 => K () w7) fun j2 => DrawN w1 fun S3 w8 => NilC f_0 fun a14 => NilC f_0 fun a18 => (Ld .sl (a14.add 3) w8 fun x16 => (S3 w8 ∧ Ld (.int .i64) (a18.add 4) w8 fun x20_0 => Ld (.int .i64) ((a18.add 4).add 1) w8 fun x20_1 => Ld .sl ((a18.add 4).add 2) w8 fun x20_2 => Ld (.int .i64) ((a18.add 4).add 3) w8 fun x20_3 => (S3 w8 ∧ Al (.cells #[.int .i64 x20_0, .int .i64 x20_1, .slice x20_2.a x20_2.n x20_2.c, .int .i64 x20_3] T.trivia_Gap (0, 0)) w8 fun b4 w9 => (S3 w9 ∧ App P (Builtin.append_ #[T.sl_trivia_Gap, T.sl_trivia_Gap] T.sl_trivia_Gap #[.slice x16.a x16.n x16.c, .slice (some ⟨b4, 0, none⟩) 1 1]) (.one .sl) w9 fun x22 w10 => (S3 w10 ∧ NilC f_0 fun a23 => St (a23.add 3) (.slice x22.a x22.n x22.c) w10 fun w11 => (S3 w11 ∧ j2 () w11)))))) ∧ (Ld (.int .i64) (a18.add 4) w8 fun x20_0 => Ld (.int .i64) ((a18.add 4).add 1) w8 fun x20_1 => Ld .sl ((a18.add 4).add 2) w8 fun x20_2 => Ld (.int .i64) ((a18.add 4).add 3) w8 fun x20_3 => (S3 w8 ∧ (Ld .sl (a14.add 3) w8 fun x16 => (S3 w8 ∧ Al (.cells #[.int .i64 x20_0, .int .i64 x20_1, .slice x20_2.a x20_2.n x20_2.c, .int .i64 x20_3] T.trivia_Gap (0, 0)) w8 fun b5 w12 => (S3 w12 ∧ App P (Builtin.append_ #[T.sl_trivia_Gap, T.sl_trivia_Gap] T.sl_trivia_Gap #[.slice x16.a x16.n x16.c, .slice (some ⟨b5, 0, none⟩) 1 1]) (.one .sl) w12 fun x22 w13 => (S3 w13 ∧ NilC f_0 fun a23 => St (a23.add 3) (.slice x22.a x22.n x22.c) w13 fun w14 => (S3 w14 ∧ j2 () w14))))) ∧ (Al (.cells #[.int .i64 x20_0, .int .i64 x20_1, .slice x20_2.a x20_2.n x20_2.c, .int .i64 x20_3] T.trivia_Gap (0, 0)) w8 fun b6 w15 => (S3 w15 ∧ Ld .sl (a14.add 3) w15 fun x16 => (S3 w15 ∧ App P (Builtin.append_ #[T.sl_trivia_Gap, T.sl_trivia_Gap] T.sl_trivia_Gap #[.slice x16.a x16.n x16.c, .slice (some ⟨b6, 0, none⟩) 1 1]) (.one .sl) w15 fun x22 w16 => (S3 w16 ∧ NilC f_0 fun a23 => St (a23.add 3) (.slice x22.a x22.n x22.c) w16 fun w17 => (S3 w17 ∧ j2 () w17)))))))
theorem trivia_finder_close.ok (f_0 : Option Addr) (at_1 : Int) (next_2 : Int) (K : Unit → World → Prop) (w : World) (h : trivia_finder_close.M f_0 at_1 next_2 K w) : trivia_finder_close.C f_0 at_1 next_2 w K :=
  calls_of_sem (P := P) (H := [(16, .one .sl), (20, .agg [(.int .i64), (.int .i64), .sl, (.int .i64)])]) (ann := (.n .z (.j [] [0, 2] .d .z))) (args := [.pointer f_0, .int .i64 at_1, .int .i64 next_2]) (rt := .tup []) P_mixed rfl rfl (by kernel_rfl) (by kernel_rfl)
    ((show _ = trivia_finder_close.M f_0 at_1 next_2 K w by kernel_rfl).mpr h)

/-- frisket/frisketref28.Blank -/
def frisketref28_Blank.M (s_0 : ByteArray) (K : Bool → World → Prop) (w : World) : Prop :=
  Loop (fun (s1 : Int) w1 again2 => Br (decide (s1 < (s_0.size : Int))) (Join (fun (s3 : Bool) w2 => Br s3 (K false w2) (again2 (w64 (s1 + (1 : Int))) w2)) fun j4 => IdxStr s_0 s1 fun x12 => Br ((x12.toNat : Int) != (32 : Int)) (IdxStr s_0 s1 fun x17 => Br ((x17.toNat : Int) != (9 : Int)) (IdxStr s_0 s1 fun x23 => Br ((x23.toNat : Int) != (10 : Int)) (IdxStr s_0 s1 fun x29 => j4 ((x29.toNat : Int) != (13 : Int)) w1) (j4 false w1)) (j4 false w1)) (j4 false w1)) (K true w1)) 0 w
theorem frisketref28_Blank.ok (s_0 : ByteArray) (K : Bool → World → Prop) (w : World) (h : frisketref28_Blank.M s_0 K w) : frisketref28_Blank.C s_0 w K :=
  calls_of_sem (P := P) (H := []) (ann := (.n .z (.n (.n .z (.l [(3, .one (.int .i64))] [0] (.n .z (.n (.j [(31, .one .bool)] [0, 3] .z .z) .z)))) .z))) (args := [.string s_0]) (rt := .one .bool) P_mixed rfl rfl (by kernel_rfl) (by kernel_rfl)
    ((show _ = frisketref28_Blank.M s_0 K w by kernel_rfl).mpr h)

/-- frisket/frisketref28.count -/
def frisketref28_count.M (s_0 : ByteArray) (K : Int → World → Prop) (w : World) : Prop :=
  Loop (fun (s1 : Int × Int) w1 again2 => Br (decide (s1.2 < (s_0.size : Int))) (IdxStr s_0 s1.2 fun x13 => Br ((x13.toNat : Int) == (10 : Int)) (again2 ((w64 (s1.1 + (1 : Int))), (w64 (s1.2 + (1 : Int)))) w1) (again2 (s1.1, (w64 (s1.2 + (1 : Int)))) w1)) (K s1.1 w1)) (0, 0) w
theorem frisketref28_count.ok (s_0 : ByteArray) (K : Int → World → Prop) (w : World) (h : frisketref28_count.M s_0 K w) : frisketref28_count.C s_0 w K :=
  calls_of_sem (P := P) (H := []) (ann := (.n .z (.n .z (.n (.n .z (.l [(3, .one (.int .i64)), (4, .one (.int .i64))] [0] .z)) .z)))) (args := [.string s_0]) (rt := .one (.int .i64)) P_mixed rfl rfl (by kernel_rfl) (by kernel_rfl)
    ((show _ = frisketref28_count.M s_0 K w by kernel_rfl).mpr h)

/-- frisket/trivia.alike -/
def trivia_alike.M (a_0 : Int × Int × Sl × Int) (b_1 : Int × Int × Sl × Int) (K : Bool → World → Prop) (w : World) : Prop :=
  Al (.cells #[.int .i64 a_0.1, .int .i64 a_0.2.1, .slice a_0.2.2.1.a a_0.2.2.1.n a_0.2.2.1.c, .int .i64 a_0.2.2.2] T.trivia_Gap (0, 0)) w fun b1 w1 => Al (.cells #[.int .i64 b_1.1, .int .i64 b_1.2.1, .slice b_1.2.2.1.a b_1.2.2.1.n b_1.2.2.1.c, .int .i64 b_1.2.2.2] T.trivia_Gap (0, 0)) w1 fun b2 w2 => Ld .sl (⟨b1, 2, none⟩) w2 fun x6 => Ld .sl (⟨b2, 2, none⟩) w2 fun x8 => slices_EqualFunc_trivia_Comment.C x6 x8 (.func (.func FN.trivia_alike_S1) #[] #[] : Value) w2 fun x9 w3 => K x9 w3
theorem trivia_alike.ok (a_0 : Int × Int × Sl × Int) (b_1 : Int × Int × Sl × Int) (K : Bool → World → Prop) (w : World) (h : trivia_alike.M a_0 b_1 K w) : trivia_alike.C a_0 b_1 w K :=
  calls_of_sem (P := P) (H := [(6, .one .sl), (8, .one .sl), (9, .one .bool)]) (ann := .z) (args := [.agg #[.int .i64 a_0.1, .int .i64 a_0.2.1, .slice a_0.2.2.1.a a_0.2.2.1.n a_0.2.2.1.c, .int .i64 a_0.2.2.2], .agg #[.int .i64 b_1.1, .int .i64 b_1.2.1, .slice b_1.2.2.1.a b_1.2.2.1.n b_1.2.2.1.c, .int .i64 b_1.2.2.2]]) (rt := .one .bool) P_mixed rfl rfl (by kernel_rfl) (by kernel_rfl)
    ((show _ = trivia_alike.M a_0 b_1 K w by kernel_rfl).mpr h)

/-- frisket/trivia.blank -/
def trivia_blank.M (s_0 : ByteArray) (K : Bool → World → Prop) (w : World) : Prop :=
  strings_Trim.C s_0 (⟨#[32, 9, 10, 13]⟩) w fun x4 w1 => K (x4.toList == ((⟨#[]⟩) : ByteArray).toList) w1
theorem trivia_blank.ok (s_0 : ByteArray) (K : Bool → World → Prop) (w : World) (h : trivia_blank.M s_0 K w) : trivia_blank.C s_0 w K :=
  calls_of_sem (P := P) (H := [(4, .one .str)]) (ann := .z) (args := [.string s_0]) (rt := .one .bool) P_mixed rfl rfl (by kernel_rfl) (by kernel_rfl)
    ((show _ = trivia_blank.M s_0 K w by kernel_rfl).mpr h)

/-- frisket/trivia.alike$1 -/
def trivia_alike_S1.M (x_0 : ByteArray × Bool × Int) (y_1 : ByteArray × Bool × Int) (K : Bool → World → Prop) (w : World) : Prop :=
  Al (.cells #[.string x_0.1, .bool x_0.2.1, .int .i64 x_0.2.2] T.trivia_Comment (0, 0)) w fun b1 w1 => Al (.cells #[.string y_1.1, .bool y_1.2.1, .int .i64 y_1.2.2] T.trivia_Comment (0, 0)) w1 fun b2 w2 => Ld .str (⟨b1, 0, none⟩) w2 fun x6 => Ld .str (⟨b2, 0, none⟩) w2 fun x8 => Br (x6.toList == x8.toList) (Ld .bool (⟨b1, 1, none⟩) w2 fun x12 => Ld .bool (⟨b2, 1, none⟩) w2 fun x14 => K (x12 == x14) w2) (K false w2)
theorem trivia_alike_S1.ok (x_0 : ByteArray × Bool × Int) (y_1 : ByteArray × Bool × Int) (K : Bool → World → Prop) (w : World) (h : trivia_alike_S1.M x_0 y_1 K w) : trivia_alike_S1.C x_0 y_1 w K :=
  calls_of_sem (P := P) (H := [(6, .one .str), (8, .one .str), (12, .one .bool), (14, .one .bool)]) (ann := .z) (args := [.agg #[.string x_0.1, .bool x_0.2.1, .int .i64 x_0.2.2], .agg #[.string y_1.1, .bool y_1.2.1, .int .i64 y_1.2.2]]) (rt := .one .bool) P_mixed rfl rfl (by kernel_rfl) (by kernel_rfl)
    ((show _ = trivia_alike_S1.M x_0 y_1 K w by kernel_rfl).mpr h)

end Go.Fk
end

section
set_option linter.unusedVariables false
namespace Go.Fk
open Go

/-! ## Is a text blank? -/

theorem App.pre {w : World} {s : ByteArray} {j : Nat} {K : ByteArray → World → Prop} (h2 : j ≤ s.size) (hK : K (s.extract 0 j) w) : App P (Instr.sliceAt T.string (.string s) none (some (.int .i64 (j : Int))) none) (.one .str) w K := by
  refine ⟨s.extract 0 j, w, ?_, hK⟩
  rw [run_sliceAt_string w _ _ _ _ _ strTy, run_slice_string_h w _ _ strTy .i64 _ (by omega) (by omega)]
  rfl

theorem bits_get {f : Nat → Bool} {i : Nat} (h : i < 256) : (bits f).toArray[i]? = some (.bool (f i)) := by
  rw [List.getElem?_toArray]; simp [bits, h]
theorem bits_set {f : Nat → Bool} {i : Nat} (h : i < 256) : (bits f).toArray.setIfInBounds i (.bool true) = (bits fun j => f j || j == i).toArray := by
  rw [List.setIfInBounds_toArray]
  congr 1
  refine List.ext_getElem? fun j => ?_
  rw [List.getElem?_set, bits_len]
  by_cases hj : j < 256
  · by_cases e : i = j
    · subst e; simp [bits, h]
    · have : (j == i) = false := by simp; omega
      simp [bits, hj, e, this]
  · rw [if_neg (by omega)]
    rw [List.getElem?_eq_none (by rw [bits_len]; omega), List.getElem?_eq_none (by rw [bits_len]; omega)]
theorem bits_none : Array.replicate 256 (.bool false : Value) = (bits fun j => ([] : List UInt8).any fun c => c.toNat == j).toArray := by
  refine Array.ext' ?_
  rw [Array.toList_replicate]
  refine List.ext_getElem? fun j => ?_
  rw [List.getElem?_replicate]
  split
  · rename_i h; simp [bits, h]
  · rename_i h; rw [List.getElem?_eq_none (by rw [bits_len]; omega)]
theorem bits_one {f : Nat → Bool} : ∀ u ∈ bits f, u.oneCell' = true := fun u hu => by
  obtain ⟨i, _, rfl⟩ := List.mem_map.1 hu; rfl
theorem sizeAs : (P.info? T.strings_asciiSet).map (·.size) = some 256 := by kernel_rfl

def setOf (cs : ByteArray) (j : Nat) : Bool := (bs cs).any fun c => c.toNat == j

theorem makeSet_spec {w : World} {cs : ByteArray} (h : ∀ c ∈ bs cs, c.toNat < 128) (hs : cs.size ≤ 1000) {K : (Array Value × Bool) → World → Prop} (hK : ∀ w', Keeps No w w' → K ((bits (setOf cs)).toArray, true) w') : strings_makeASCIISet.C cs w K := by
  have hsz := size_bs cs
  refine strings_makeASCIISet.ok _ _ _ ?_
  simp only [strings_makeASCIISet.M]
  refine Al.mk fun b1 w1 n1 => ?_
  have hb1 := n1.eq
  refine Loop.mk (fun t w' => Keeps No w w' ∧ ∃ i : Nat, t = i ∧ i ≤ cs.size ∧ w'.heap[b1]? = some (.cells (bits fun j => ((bs cs).take i).any fun c => c.toNat == j).toArray T.strings_asciiSet (0, 0))) (fun t => cs.size - t.toNat) ⟨n1.keeps, 0, rfl, by omega, by rw [n1.at_, bits_none]; rfl⟩ ?_
  rintro t w2 ⟨k2, i, rfl, hi, hb⟩ R hR
  refine Br.mk (fun e => ?_) (fun e => ?_)
  · have hlt : i < cs.size := by have := of_decide_eq_true e; omega
    refine IdxStr.get (by omega) (by omega) fun c hc => ?_
    simp only [Int.toNat_natCast] at hc
    have h128 := h c (List.mem_of_getElem? hc)
    refine Br.mk (fun e2 => by have := of_decide_eq_true e2; omega) (fun _ => ?_)
    refine ⟨by omega, ?_⟩
    rw [add_eq, Nat.zero_add, Nat.mul_one, Int.toNat_natCast]
    refine St.blk hb (by rw [List.size_toArray, bits_len]; omega) fun w4 u4 => ?_
    rw [w64_eq (by omega)]
    refine hR _ _ ⟨u4.keeps0 k2 (by omega), i + 1, by omega, by omega, ?_⟩ (by omega)
    have he : (fun j => (((bs cs).take i).any fun c => c.toNat == j) || j == c.toNat) = fun j => ((bs cs).take (i + 1)).any fun c => c.toNat == j := by
      funext j
      rw [List.take_add_one, hc, List.any_append]
      simp only [Option.toList_some, List.any_cons, List.any_nil, Bool.or_false]
      congr 1
      rw [Bool.eq_iff_iff, beq_iff_eq, beq_iff_eq]; omega
    rw [u4.at_, bits_set (by omega), he]
  · have hge : i = cs.size := by have := of_decide_eq_false e; omega
    subst hge
    have hall : (fun j => ((bs cs).take cs.size).any fun c => c.toNat == j) = setOf cs := by funext j; rw [List.take_of_length_le (by omega)]; rfl
    rw [hall] at hb
    refine LdA.gen (c := bits (setOf cs)) (bits_len _) (fun j u hu => by rw [Nat.zero_add]; exact cell_of hb (by rw [List.getElem?_toArray]; exact hu)) ?_
    refine StA.gen sizeAs hb (by simp [bits_len]) (by simp [bits_len]) (fun u hu => bits_one u (by simpa using hu)) fun w5 u5 => ?_
    refine LdA.gen (c := bits (setOf cs)) (bits_len _) (fun j u hu => by rw [Nat.zero_add]; exact cell_of u5.at_ (by rw [List.getElem?_toArray]; exact hu)) ?_
    exact hK _ (u5.keeps0 k2 (by omega))

theorem contains_spec {w : World} {b : Nat} {f : Nat → Bool} (hb : w.heap[b]? = some (.cells (bits f).toArray T.strings_asciiSet (0, 0))) {c : UInt8} {K : Bool → World → Prop} (hK : K (f c.toNat) w) : strings_asciiSet_contains.C (some ⟨b, 0, none⟩) (c.toNat : Int) w K := by
  refine strings_asciiSet_contains.ok _ _ _ _ ?_
  simp only [strings_asciiSet_contains.M, NilC_some]
  have := c.toNat_lt
  refine ⟨by omega, ?_⟩
  rw [add_eq, Nat.zero_add, Nat.mul_one, Int.toNat_natCast]
  exact Ld.bool (cell_of hb (bits_get (by omega))) hK

def Has (f : Nat → Bool) (s : List UInt8) : Prop := ∃ c ∈ s, f c.toNat = false

theorem trimRight_spec {w : World} {b : Nat} {f : Nat → Bool} (hb : w.heap[b]? = some (.cells (bits f).toArray T.strings_asciiSet (0, 0))) {s : ByteArray} (hs : s.size ≤ 1000000000) {K : ByteArray → World → Prop} (hK : ∀ r, r.size ≤ 1000000000 → (bs r = [] ∨ Has f (bs r)) → (Has f (bs s) ↔ Has f (bs r)) → K r w) : strings_trimRightASCII.C s (some ⟨b, 0, none⟩) w K := by
  refine strings_trimRightASCII.ok _ _ _ _ ?_
  simp only [strings_trimRightASCII.M]
  refine Loop.mk (fun t w' => w' = w ∧ t.size ≤ 1000000000 ∧ (Has f (bs s) ↔ Has f (bs t))) (fun t => t.size) ⟨rfl, hs, .rfl⟩ ?_
  rintro t w' ⟨rfl, ht, hh⟩ R hR
  have hsz := size_bs t
  refine Br.mk (fun e => ?_) (fun e => ?_)
  · have hlt : 0 < t.size := by have := of_decide_eq_true e; omega
    have ew : w64 ((t.size : Int) - 1) = ((t.size - 1 : Nat) : Int) := by rw [w64_eq (by omega)]; omega
    rw [ew]
    refine IdxStr.get (by omega) (by omega) fun c hc => contains_spec hb ?_
    simp only [Int.toNat_natCast] at hc
    refine Br.mk (fun e2 => hK t ht (.inr ⟨c, List.mem_of_getElem? hc, by simpa using e2⟩) hh) (fun e2 => ?_)
    refine App.pre (by omega) (hR _ _ ⟨rfl, ?_, ?_⟩ ?_)
    · have := size_bs (t.extract 0 (t.size - 1)); rw [bs_cut, List.length_take] at this; omega
    · have hfc : f c.toNat = true := by simpa using e2
      rw [hh, bs_cut, List.drop_zero, Nat.sub_zero]
      have hsp : bs t = (bs t).take (t.size - 1) ++ [c] := by
        have h1 := List.take_append_drop (t.size - 1) (bs t)
        rw [List.drop_eq_getElem_cons (by omega), List.drop_of_length_le (by omega)] at h1
        rw [(List.getElem?_eq_some_iff.1 hc).2] at h1
        exact h1.symm
      constructor
      · rintro ⟨d, hd, h⟩
        rw [hsp] at hd
        rcases List.mem_append.1 hd with hd | hd
        · exact ⟨d, hd, h⟩
        · rw [List.mem_singleton] at hd; subst hd; rw [hfc] at h; cases h
      · rintro ⟨d, hd, h⟩; exact ⟨d, List.mem_of_mem_take hd, h⟩
    · have := size_bs (t.extract 0 (t.size - 1)); rw [bs_cut, List.length_take] at this; omega
  · have hz : t.size = 0 := by have := of_decide_eq_false e; omega
    exact hK t ht (.inl (List.eq_nil_of_length_eq_zero (by omega))) hh

theorem trimLeft_spec {w : World} {b : Nat} {f : Nat → Bool} (hb : w.heap[b]? = some (.cells (bits f).toArray T.strings_asciiSet (0, 0))) {s : ByteArray} (hs : s.size ≤ 1000000000) {K : ByteArray → World → Prop} (hK : ∀ r, (bs r = [] ∨ Has f (bs r)) → (Has f (bs s) ↔ Has f (bs r)) → K r w) : strings_trimLeftASCII.C s (some ⟨b, 0, none⟩) w K := by
  refine strings_trimLeftASCII.ok _ _ _ _ ?_
  simp only [strings_trimLeftASCII.M]
  refine Loop.mk (fun t w' => w' = w ∧ t.size ≤ 1000000000 ∧ (Has f (bs s) ↔ Has f (bs t))) (fun t => t.size) ⟨rfl, hs, .rfl⟩ ?_
  rintro t w' ⟨rfl, ht, hh⟩ R hR
  have hsz := size_bs t
  refine Br.mk (fun e => ?_) (fun e => ?_)
  · have hlt : 0 < t.size := by have := of_decide_eq_true e; omega
    refine IdxStr.get (by omega) (by omega) fun c hc => contains_spec hb ?_
    have hc : (bs t)[0]? = some c := hc
    refine Br.mk (fun e2 => hK t (.inr ⟨c, List.mem_of_getElem? hc, by simpa using e2⟩) hh) (fun e2 => ?_)
    have hfc : f c.toNat = true := by simpa using e2
    refine App.suffix (i := 1) (by omega) (hR _ _ ⟨rfl, ?_, ?_⟩ ?_)
    · have := size_bs (t.extract 1 t.size); rw [bs_from, List.length_drop] at this; omega
    · rw [hh, bs_from]
      have hsp : bs t = c :: (bs t).drop 1 := by
        cases hb' : bs t with
        | nil => rw [hb'] at hc; cases hc
        | cons d l => rw [hb'] at hc; cases hc; rfl
      constructor
      · rintro ⟨d, hd, h⟩
        rw [hsp] at hd
        rcases List.mem_cons.1 hd with rfl | hd
        · rw [hfc] at h; cases h
        · exact ⟨d, hd, h⟩
      · rintro ⟨d, hd, h⟩; exact ⟨d, List.mem_of_mem_drop hd, h⟩
    · have := size_bs (t.extract 1 t.size); rw [bs_from, List.length_drop] at this; omega
  · have hz : t.size = 0 := by have := of_decide_eq_false e; omega
    exact hK t (.inl (List.eq_nil_of_length_eq_zero (by omega))) hh

def cutB : ByteArray := ⟨#[32, 9, 10, 13]⟩
theorem setB (c : UInt8) : setOf cutB c.toNat = bl c := by
  have : bs cutB = [32, 9, 10, 13] := rfl
  unfold setOf bl
  rw [this]
  simp only [List.any_cons, List.any_nil, Bool.or_false]
  have e : ∀ a b : Nat, (a == b) = (b == a) := fun a b => by rw [Bool.eq_iff_iff, beq_iff_eq, beq_iff_eq]; omega
  rw [e _ c.toNat, e _ c.toNat, e _ c.toNat, e _ c.toNat]
  simp only [Bool.or_assoc]
  rfl
theorem bl_iff {c : UInt8} : bl c = true ↔ c.toNat = 32 ∨ c.toNat = 9 ∨ c.toNat = 10 ∨ c.toNat = 13 := by
  unfold bl
  simp only [Bool.or_eq_true, beq_iff_eq, or_assoc]
theorem bl_ne {c : UInt8} {b : Bool} (h : b = true ↔ ¬ (c.toNat = 32 ∨ c.toNat = 9 ∨ c.toNat = 10 ∨ c.toNat = 13)) : b = !bl c := by
  rw [Bool.eq_iff_iff, h, ← bl_iff]; simp
theorem has_blank {s : ByteArray} : Has (setOf cutB) (bs s) ↔ blank s = false := by
  unfold Has blank
  rw [List.all_eq_false]
  exact ⟨fun ⟨c, hc, h⟩ => ⟨c, hc, by rw [setB] at h; rw [h]; exact Bool.false_ne_true⟩, fun ⟨c, hc, h⟩ => ⟨c, hc, by rw [setB]; exact Bool.eq_false_iff.2 h⟩⟩

theorem nilStr {s : ByteArray} : (s.toList == (⟨#[]⟩ : ByteArray).toList) = decide (bs s = []) := by
  rw [Bool.eq_iff_iff, strEq_bs, decide_eq_true_eq]

theorem blank_spec {w : World} {s : ByteArray} (hs : s.size ≤ 1000000000) {K : Bool → World → Prop} (hK : ∀ w', Keeps No w w' → K (blank s) w') : trivia_blank.C s w K := by
  refine trivia_blank.ok _ _ _ ?_
  simp only [trivia_blank.M]
  refine strings_Trim.ok _ _ _ _ ?_
  simp only [strings_Trim.M]
  rw [nilStr, nilStr]
  have hcb : bs (⟨#[32, 9, 10, 13]⟩ : ByteArray) = [32, 9, 10, 13] := rfl
  refine Join.cut (fun b w' => w' = w ∧ b = decide (bs s = [])) ?_ (fun j hj => Br.mk (fun e => hj _ _ ⟨rfl, e.symm⟩) (fun e => hj _ _ ⟨rfl, by rw [e]; exact decide_eq_false (by rw [hcb]; simp)⟩))
  rintro b w ⟨rfl, rfl⟩
  refine Br.mk (fun hz => ?_) (fun hz => ?_)
  · have hz := of_decide_eq_true hz
    have hbl : blank s = true := by unfold blank; rw [hz, List.all_nil]
    rw [hbl] at hK
    rw [decide_eq_true hz]
    exact hK _ .refl
  · have h4 : (((⟨#[32, 9, 10, 13]⟩ : ByteArray).size : Int) == 1) = false := rfl
    refine Join.cut (fun b w' => w' = w ∧ b = false) ?_ fun j hj => (by rw [h4, Br_false]; exact hj _ _ ⟨rfl, rfl⟩)
    rintro _ w ⟨rfl, rfl⟩
    rw [Br_false]
    refine makeSet_spec (cs := cutB) (by rw [show bs cutB = [32, 9, 10, 13] from rfl]; decide) (by decide) fun w1 k1 => ?_
    refine Al.mk fun b4 w2 n2 => ?_
    have hb4 := n2.eq
    refine StA.gen sizeAs n2.at_ (by simp) (by simp [bits_len]) (fun u hu => bits_one u (by simpa using hu)) fun w3 u3 => ?_
    rw [Br_true]
    have k3 : Keeps No w w3 := u3.keeps0 (k1.trans n2.keeps) (by have := k1.size; omega)
    refine trimRight_spec u3.at_ hs fun r hr h1 h2 => trimLeft_spec u3.at_ hr fun r2 h3 h4 => ?_
    rw [nilStr]
    have e : decide (bs r2 = []) = blank s := by
      rw [has_blank, h4] at h2
      cases hbl : blank s with
      | true =>
        rw [hbl] at h2
        rcases h3 with h3 | h3
        · rw [h3]; exact decide_eq_true rfl
        · have := h2.2 h3; cases this
      | false =>
        obtain ⟨c, hc, _⟩ := h2.1 hbl
        exact decide_eq_false fun h => by rw [h] at hc; cases hc
    rw [e]
    exact hK w3 k3

theorem strings_Count_spec {w : World} {s : ByteArray} {K : Int → World → Prop} (hk : K (nls s : Int) w) : strings_Count.C s ⟨#[10]⟩ w K :=
  (Go.Proofs.Tryz.strings_Count_one s 10 w).mono fun e w' ⟨h1, h2⟩ => ⟨_, h1, h2 ▸ hk⟩

theorem ref28_Blank_spec {w : World} {s : ByteArray} (hs : s.size ≤ 1000000000) {K : Bool → World → Prop} (hK : K (blank s) w) : frisketref28_Blank.C s w K := by
  have hsz := size_bs s
  refine frisketref28_Blank.ok _ _ _ ?_
  simp only [frisketref28_Blank.M]
  refine Loop.mk (fun t w' => w' = w ∧ ∃ i : Nat, t = i ∧ i ≤ s.size ∧ ((bs s).take i).all bl = true) (fun t => s.size - t.toNat) ⟨rfl, 0, rfl, by omega, rfl⟩ ?_
  rintro t w' ⟨rfl, i, rfl, hi, hall⟩ R hR
  refine Br.mk (fun e => ?_) (fun e => ?_)
  · have hlt : i < s.size := by have := of_decide_eq_true e; omega
    have hc := List.getElem?_eq_getElem (l := bs s) (i := i) (by omega)
    generalize (bs s)[i]'(by omega) = c at hc
    have get : ∀ {Q : UInt8 → Prop}, Q c → IdxStr s (i : Int) Q := fun {Q} h => IdxStr.get (by omega) (by omega) fun c' hc' => by
      rw [Int.toNat_natCast, hc] at hc'; cases hc'; exact h
    refine Join.cut (fun b w2 => w2 = w' ∧ b = !bl c) ?_ ?_
    · rintro b w2 ⟨rfl, rfl⟩
      refine Br.mk (fun e2 => ?_) (fun e2 => ?_)
      · have : blank s = false := List.all_eq_false.2 ⟨c, List.mem_of_getElem? hc, by simpa using e2⟩
        rw [this] at hK; exact hK
      · rw [w64_eq (by omega)]
        refine hR _ _ ⟨rfl, i + 1, by omega, by omega, ?_⟩ (by omega)
        have e2 : bl c = true := by simpa using e2
        rw [List.take_add_one, hc]
        simp [List.all_append, hall, e2]
    · intro j hj
      have fin : ∀ {b : Bool}, b = (!bl c) → j b w' := fun h => hj _ _ ⟨rfl, h⟩
      refine get (Br.mk (fun e1 => get (Br.mk (fun e2 => get (Br.mk (fun e3 => get (fin (bl_ne ?_))) fun e3 => fin (bl_ne ?_))) fun e2 => fin (bl_ne ?_))) fun e1 => fin (bl_ne ?_))
      all_goals
        simp only [bne_iff_ne, ne_eq, bne_eq_false_iff_eq, Bool.false_eq_true, false_iff, Classical.not_not] at *
        omega
  · have hge : i = s.size := by have := of_decide_eq_false e; omega
    subst hge
    rw [List.take_of_length_le (by omega)] at hall
    have : blank s = true := hall
    rw [this] at hK; exact hK

theorem ref28_count_spec {w : World} {s : ByteArray} (hs : s.size ≤ 1000000000) {K : Int → World → Prop} (hK : K (nls s : Int) w) : frisketref28_count.C s w K := by
  have hsz := size_bs s
  refine frisketref28_count.ok _ _ _ ?_
  simp only [frisketref28_count.M]
  refine Loop.mk (fun t w' => w' = w ∧ ∃ i : Nat, t.2 = i ∧ i ≤ s.size ∧ t.1 = (((bs s).take i).count 10 : Nat)) (fun t => s.size - t.2.toNat) ⟨rfl, 0, rfl, by omega, rfl⟩ ?_
  rintro ⟨n, t⟩ w' ⟨rfl, i, hi0, hi, hn⟩ R hR
  dsimp only at hi0 hn ⊢
  subst hi0; subst hn
  have hle : ((bs s).take i).count 10 ≤ i := Nat.le_trans List.count_le_length (by rw [List.length_take]; omega)
  refine Br.mk (fun e => ?_) (fun e => ?_)
  · have hlt : i < s.size := by have := of_decide_eq_true e; omega
    refine IdxStr.get (by omega) (by omega) fun c hc => ?_
    simp only [Int.toNat_natCast] at hc
    have ht : (bs s).take (i + 1) = (bs s).take i ++ [c] := by rw [List.take_add_one, hc]; rfl
    rw [w64_eq (by omega), w64_eq (by omega)]
    refine Br.mk (fun e2 => ?_) (fun e2 => ?_)
    · have h10 : c = 10 := by
        have := eq_of_beq e2
        exact UInt8.toNat_inj.1 (by show c.toNat = 10; omega)
      refine hR _ _ ⟨rfl, i + 1, by dsimp only; omega, by omega, ?_⟩ (by dsimp only; omega)
      rw [ht, List.count_append, h10]; simp
    · have h10 : c ≠ 10 := fun h => by subst h; simp at e2
      refine hR _ _ ⟨rfl, i + 1, by dsimp only; omega, by omega, ?_⟩ (by dsimp only; omega)
      rw [ht, List.count_append]
      have : [c].count 10 = 0 := List.count_eq_zero.2 (by simpa using fun h => h10 h.symm)
      rw [this]; simp
  · have hge : i = s.size := by have := of_decide_eq_false e; omega
    subst hge
    rw [List.take_of_length_le (by omega)]
    exact hK
end Go.Fk
end

section
set_option linter.unusedVariables false
namespace Go.Fk
open Go

/-! ## Gaps, in memory -/

def Cm.cells (c : Cm) : List Value := [.string c.s, .bool c.tr, .int .i64 c.a]
theorem Cm.lens {xs : List Cm} : ∀ c ∈ xs.map Cm.cells, c.length = 3 := fun c hc => by obtain ⟨m, _, rfl⟩ := List.mem_map.1 hc; rfl
theorem Cm.one (c : Cm) : ∀ u ∈ c.cells, u.oneCell' = true := fun u hu => by
  simp only [Cm.cells, List.mem_cons, List.not_mem_nil, or_false] at hu
  rcases hu with rfl | rfl | rfl <;> rfl
structure GV where
  f : Int
  t : Int
  l : Sl
  ln : Int
def GV.cells (v : GV) : List Value := [.int .i64 v.f, .int .i64 v.t, .slice v.l.a v.l.n v.l.c, .int .i64 v.ln]
theorem GV.lens {xs : List GV} : ∀ c ∈ xs.map GV.cells, c.length = 4 := fun c hc => by obtain ⟨m, _, rfl⟩ := List.mem_map.1 hc; rfl
theorem GV.one (v : GV) : ∀ u ∈ v.cells, u.oneCell' = true := fun u hu => by
  simp only [GV.cells, List.mem_cons, List.not_mem_nil, or_false] at hu
  rcases hu with rfl | rfl | rfl | rfl <;> rfl
structure GapR (H : View) (v : GV) (g : Gp) : Prop where
  f : v.f = g.f
  t : v.t = g.t
  ln : v.ln = g.ln
  cm : SlC H v.l 3 (g.cm.map Cm.cells)
theorem GapR.mono {H H' : View} {v : GV} {g : Gp} (h : GapR H v g) (hv : Vle H H') : GapR H' v g := ⟨h.f, h.t, h.ln, h.cm.mono hv⟩
def SlGap (H : View) (l : Sl) (gs : List Gp) : Prop := ∃ vs, SlC H l 4 (vs.map GV.cells) ∧ All2 (GapR H) vs gs
theorem SlGap.mono {H H' : View} {l : Sl} {gs : List Gp} (h : SlGap H l gs) (hv : Vle H H') : SlGap H' l gs := by
  obtain ⟨vs, h1, h2⟩ := h
  exact ⟨vs, h1.mono hv, h2.mono fun _ _ x => x.mono hv⟩
theorem SlGap.n {H : View} {l : Sl} {gs : List Gp} (h : SlGap H l gs) : l.n = gs.length := by
  obtain ⟨vs, h1, h2⟩ := h
  have := h1.1
  rw [← h2.length]; simpa using this

/-- The cells of a gap. -/
structure GapC (M : Nat → Prop) (w : World) (p : Addr) (g : Gp) (d : Sl) : Prop where
  f : w.cell? p = some (.int .i64 g.f)
  t : w.cell? (p.add 1) = some (.int .i64 g.t)
  c : w.cell? (p.add 2) = some (.slice d.a d.n d.c)
  ln : w.cell? (p.add 3) = some (.int .i64 g.ln)
  cm : SlC (V M w) d 3 (g.cm.map Cm.cells)
theorem GapC.cn {M : Nat → Prop} {w : World} {p : Addr} {g : Gp} {d : Sl} (h : GapC M w p g d) : d.n = g.cm.length := by have := h.cm.1; simpa using this
theorem IdxS.gap {M : Nat → Prop} {w : World} {l : Sl} {gs : List Gp} {i : Int} {K : Addr → Prop} (h : SlGap (V M w) l gs) (h0 : 0 ≤ i) (h1 : i < gs.length)
    (hk : ∀ g c p, gs[i.toNat]? = some g → GapC M w p g c → K p) : IdxS l i 4 K := by
  obtain ⟨vs, h2, h3⟩ := h
  have hl := h3.length
  refine IdxS.recd (M := M) h2 h0 (by rw [List.length_map]; omega) fun b off c hc hcell => ?_
  rw [List.getElem?_map] at hc
  obtain ⟨v, hv, rfl⟩ := Option.map_eq_some_iff.1 hc
  obtain ⟨g, hg, r⟩ := h3.get _ _ hv
  refine hk g v.l _ hg ⟨?_, ?_, ?_, ?_, r.cm⟩
  · rw [← r.f]; exact hcell 0 _ rfl
  · rw [← r.t, add_eq]; exact hcell 1 _ rfl
  · rw [add_eq]; exact hcell 2 _ rfl
  · rw [← r.ln, add_eq]; exact hcell 3 _ rfl

structure CmC (w : World) (p : Addr) (c : Cm) : Prop where
  s : w.cell? p = some (.string c.s)
  tr : w.cell? (p.add 1) = some (.bool c.tr)
  a : w.cell? (p.add 2) = some (.int .i64 c.a)
theorem IdxS.cm {M : Nat → Prop} {w : World} {l : Sl} {cs : List Cm} {i : Int} {K : Addr → Prop} (h : SlC (V M w) l 3 (cs.map Cm.cells)) (h0 : 0 ≤ i) (h1 : i < cs.length)
    (hk : ∀ c p, cs[i.toNat]? = some c → CmC w p c → K p) : IdxS l i 3 K := by
  refine IdxS.recd (M := M) h h0 (by simpa using h1) fun b off c hc hcell => ?_
  rw [List.getElem?_map] at hc
  obtain ⟨v, hv, rfl⟩ := Option.map_eq_some_iff.1 hc
  refine hk v _ hv ⟨?_, ?_, ?_⟩
  · exact hcell 0 _ rfl
  · rw [add_eq]; exact hcell 1 _ rfl
  · rw [add_eq]; exact hcell 2 _ rfl

theorem App.midI {w : World} {s : ByteArray} {i j : Int} {K : ByteArray → World → Prop} (h0 : 0 ≤ i) (h : i ≤ j) (h2 : j ≤ s.size) (hK : K (s.extract i.toNat j.toNat) w) : App P (Instr.sliceAt T.string (.string s) (some (.int .i64 i)) (some (.int .i64 j)) none) (.one .str) w K := by
  obtain ⟨a, rfl⟩ := Int.eq_ofNat_of_zero_le h0
  obtain ⟨b, rfl⟩ := Int.eq_ofNat_of_zero_le (show 0 ≤ j by omega)
  exact App.mid (by omega) (by omega) hK
theorem Draw.by {w : World} {F : (World → Prop) → World → Prop} (S : World → World → Prop) (h0 : ∀ w', w'.heap = w.heap → S w' w') (h : ∀ w', w'.heap = w.heap → Keeps No w w' → F (S w') w') : Draw w F :=
  ⟨S w.drew, h0 _ rfl, h _ rfl Keeps.drew⟩

theorem elCm : Elem P T.sl_trivia_Comment T.trivia_Comment (.agg #[.string ⟨#[]⟩, .bool false, .int .i64 0]) 3 32 := ⟨by kernel_rfl, by kernel_rfl, rfl, by decide⟩
theorem elGap : Elem P T.sl_trivia_Gap T.trivia_Gap (.agg #[.int .i64 0, .int .i64 0, .slice none 0 0, .int .i64 0]) 4 48 := ⟨by kernel_rfl, by kernel_rfl, rfl, by decide⟩

abbrev finObj (s : Option Addr) (text : ByteArray) (cl L : Sl) (f t : Int) (C : Sl) (ln : Nat) : Obj :=
  .cells #[.pointer s, .string text, .slice cl.a cl.n cl.c, .slice L.a L.n L.c, .int .i64 f, .int .i64 t, .slice C.a C.n C.c, .int .i64 ln, .bool (ln == 0)] T.trivia_finder (0, 0)
structure FinAt (w : World) (b1 : Nat) (s : Option Addr) (text : ByteArray) (cl L C : Sl) (vs : List GV) (gs : List Gp) (f t : Int) (cm : List Cm) (ln : Nat) : Prop where
  at_ : w.heap[b1]? = some (finObj s text cl L f t C ln)
  ownL : Own w (b1 + 1) T.trivia_Gap 4 L (vs.map GV.cells).flatten
  ownC : Own w (b1 + 1) T.trivia_Comment 3 C (cm.map Cm.cells).flatten
  sep : ∀ c, C.blk c → ¬ L.blk c
  old : All2 (GapR (V (fun b => b ≤ b1 ∨ L.blk b ∨ C.blk b) w)) vs gs

theorem FinAt.ln_ {w : World} {b1 : Nat} {s : Option Addr} {text : ByteArray} {cl L C : Sl} {vs : List GV} {gs : List Gp} {f t : Int} {cm : List Cm} {ln : Nat} (h : FinAt w b1 s text cl L C vs gs f t cm ln) : L.n = vs.length := by have := h.ownL.len; rw [flatten_len GV.lens, List.length_map] at this; omega
theorem FinAt.cn_ {w : World} {b1 : Nat} {s : Option Addr} {text : ByteArray} {cl L C : Sl} {vs : List GV} {gs : List Gp} {f t : Int} {cm : List Cm} {ln : Nat} (h : FinAt w b1 s text cl L C vs gs f t cm ln) : C.n = cm.length := by have := h.ownC.len; rw [flatten_len Cm.lens, List.length_map] at this; omega
theorem FinAt.keep {w : World} {b1 : Nat} {s : Option Addr} {text : ByteArray} {cl L C : Sl} {vs : List GV} {gs : List Gp} {f t : Int} {cm : List Cm} {ln : Nat} (h : FinAt w b1 s text cl L C vs gs f t cm ln) {w' : World} (k : Keeps No w w') : FinAt w' b1 s text cl L C vs gs f t cm ln :=
  ⟨k.blk0 h.at_, h.ownL.keep0 k, h.ownC.keep0 k, h.sep, h.old.mono fun _ _ x => x.mono (V.keeps0 k)⟩

theorem layout_spec {w : World} {b1 : Nat} {s : Option Addr} {text : ByteArray} {cl L C : Sl} {vs : List GV} {gs : List Gp} {f t : Int} {cm : List Cm} {ln : Nat} (h : FinAt w b1 s text cl L C vs gs f t cm ln) {x : Tok} (hx : 0 ≤ x.f ∧ x.f ≤ x.t ∧ x.t ≤ text.size) (hs : text.size ≤ 1000000) (hln : ln ≤ 1000000) (hcm : cm.length ≤ 1000000) {K : Unit → World → Prop}
    (hK : ∀ C' w', FinAt w' b1 s text cl L C' vs gs f t (stepL text (decide (0 < gs.length)) (cm, ln) x).1 (stepL text (decide (0 < gs.length)) (cm, ln) x).2 → Keeps (fun b => b1 ≤ b) w w' → K () w') :
    trivia_finder_layout.C (some ⟨b1, 0, none⟩) (x.c, x.f, x.t, x.l) w K := by
  have hb1 := lt_of_some h.at_
  have hLn := h.ln_
  have hCn := h.cn_
  have hvg := h.old.length
  have hcut : (cutT text x).size ≤ 1000000 := by
    have := size_bs (cutT text x)
    unfold cutT at this
    rw [bs_cut, List.length_take] at this
    unfold cutT; omega
  refine trivia_finder_layout.ok _ _ _ _ ?_
  simp only [trivia_finder_layout.M, NilC_some]
  refine Al.mk fun b w1 n1 => Draw.kp fun w2 e2 k2 => ?_
  have k02 := n1.keeps.trans k2
  have h2 := h.keep k02
  have hb := k2.blk0 n1.at_
  have hbne := n1.eq
  refine LdK.str (by rw [add_eq]; exact cell_of h2.at_ rfl) (LdK.int (cell_of hb rfl) (LdK.int (cell_of hb rfl) (App.midI hx.1 hx.2.1 hx.2.2 ⟨.refl, ?_⟩)))
  refine blank_spec (s := cutT text x) (by omega) fun w4 k4 => ?_
  have h4 := h2.keep k4
  have hb4 := k4.blk0 hb
  have k04 := k02.trans k4
  refine Br.mk (fun e => ?_) (fun e => ?_)
  · have hbl : blank (cutT text x) = false := by simpa using e
    have hst : stepL text (decide (0 < gs.length)) (cm, ln) x = (cm ++ [⟨cutT text x, decide (0 < gs.length) && (ln == 0), x.f⟩], ln) := by
      unfold stepL; rw [hbl]; rfl
    rw [hst] at hK
    refine Draw.by (fun w' y => Keeps (fun q => q = b1 ∨ C.blk q) w' y ∧ ∃ C' : Sl, y.heap[b1]? = some (finObj s text cl L f t C' ln)) (fun w' ew => ⟨.refl, C, by rw [ew]; exact h4.at_⟩) fun w5 e5 k5 => ?_
    have h5 := h4.keep k5
    have hb5 := k5.blk0 hb4
    have k05 := k04.trans k5
    have hbC : ¬ (b = b1 ∨ C.blk b) := by
      rintro (e | e)
      · omega
      · have := (h.ownC.ge e).2; omega
    -- the tail: a comment lies ready
    have tail : ∀ (bt : Bool), bt = (decide (0 < gs.length) && (ln == 0)) → ∀ {b' w9}, New b' (.cells #[.string (cutT text x), .bool bt, .int .i64 x.f] T.trivia_Comment (0, 0)) w5 w9 →
        App P (Builtin.append_ #[T.sl_trivia_Comment, T.sl_trivia_Comment] T.sl_trivia_Comment #[.slice C.a C.n C.c, .slice (some ⟨b', 0, none⟩) 1 1]) (.one .sl) w9 fun x41 w7 =>
          ((Keeps (fun q => q = b1 ∨ C.blk q) w5 w7 ∧ ∃ C' : Sl, w7.heap[b1]? = some (finObj s text cl L f t C' ln)) ∧ St ((((⟨b1, 0, none⟩ : Addr).add 4)).add 2) (.slice x41.a x41.n x41.c) w7 fun w8 => ((Keeps (fun q => q = b1 ∨ C.blk q) w5 w8 ∧ ∃ C' : Sl, w8.heap[b1]? = some (finObj s text cl L f t C' ln)) ∧ K () w8)) := by
      intro bt hbt b' w9 n9
      have h9 := h5.keep n9.keeps
      have s9 := n9.size
      have e9 := n9.eq
      have s5 := k05.size
      refine appendC (c := Cm.cells ⟨cutT text x, bt, x.f⟩) elCm h9.ownC rfl n9.at_ (Cm.one _) (by omega) (by omega) (by omega) fun C' w7 hC' hn' k7 hg' => ?_
      have hCge : ∀ q, C.blk q → b1 + 1 ≤ q ∧ q < w.heap.size := fun q hq => h.ownC.ge hq
      have hLge : ∀ q, L.blk q → b1 + 1 ≤ q ∧ q < w.heap.size := fun q hq => h.ownL.ge hq
      have hC'b : ∀ q, C'.blk q → C.blk q ∨ w9.heap.size ≤ q := by
        rintro q ⟨a, ha, rfl⟩
        obtain ⟨g, hg, h6⟩ := hg'
        rw [hg] at ha; cases ha; exact h6
      have k57 : Keeps (fun q => q = b1 ∨ C.blk q) w5 w7 := (n9.keeps.no (M := fun q => q = b1 ∨ C.blk q)).trans (k7.mono fun q _ hq => .inr hq)
      have h7at := k7.blk h9.at_ (fun hq => by have := (hCge _ hq).1; omega)
      refine ⟨⟨k57, C, h7at⟩, ?_⟩
      rw [add_add]
      refine St.blk h7at (by simp) fun w8 u8 => ?_
      have u8at : w8.heap[b1]? = some (finObj s text cl L f t C' ln) := u8.at_
      have k78 : Keeps (fun q => q = b1 ∨ C.blk q) w7 w8 := u8.keeps.mono fun q _ hq => .inl hq
      have k58 := k57.trans k78
      refine ⟨⟨k58, C', u8at⟩, hK C' w8 ⟨u8at, ?_, ?_, ?_, ?_⟩ ?_⟩
      · exact h5.ownL.keep k58 (by rintro q (rfl | hq) hl; have := (hLge _ hl).1; omega; exact h.sep _ hq hl)
      · have := hC'.keep u8.keeps (fun q hq hl => by subst hq; have := (hC'.ge hl).1; omega)
        rw [hbt] at this
        simpa using this
      · intro q hq hl
        rcases hC'b q hq with hq | hq
        · exact h.sep _ hq hl
        · have := (hLge _ hl).2; omega
      · have s57 := n9.size
        refine h5.old.mono fun _ _ y => y.mono (V.move k58 (fun q _ hq => hq.elim (fun e => .inl (by omega)) fun e => .inr (.inr e)) fun q hq hm => ?_)
        rcases hm with hm | hm | hm
        · exact .inl hm
        · exact .inr (.inl hm)
        · rcases hC'b q hm with hm | hm
          · exact .inr (.inr hm)
          · omega
      · refine (k05.no (M := fun q => b1 ≤ q)).trans (k58.mono fun q _ hq => ?_)
        rcases hq with hq | hq
        · exact Nat.le_of_eq hq.symm
        · exact Nat.le_of_succ_le (hCge _ hq).1
    have g8 : ∀ {Q : Bool → Prop}, Q (ln == 0) → LdS (fun y => Keeps (fun q => q = b1 ∨ C.blk q) w5 y ∧ ∃ C' : Sl, y.heap[b1]? = some (finObj s text cl L f t C' ln)) .bool ((⟨b1, 0, none⟩ : Addr).add 8) Q :=
      fun hq => LdS.of (t := .bool) (fun y hy => by obtain ⟨_, C', hy⟩ := hy; rw [add_eq]; exact cell_of hy rfl) hq
    have gL : ∀ {Q : Sl → Prop}, Q L → LdS (fun y => Keeps (fun q => q = b1 ∨ C.blk q) w5 y ∧ ∃ C' : Sl, y.heap[b1]? = some (finObj s text cl L f t C' ln)) .sl ((⟨b1, 0, none⟩ : Addr).add 3) Q :=
      fun hq => LdS.of (t := .sl) (fun y hy => by obtain ⟨_, C', hy⟩ := hy; rw [add_eq]; exact cell_of hy rfl) hq
    have gT : ∀ {Q : Int → Prop}, Q x.f → LdS (fun y => Keeps (fun q => q = b1 ∨ C.blk q) w5 y ∧ ∃ C' : Sl, y.heap[b1]? = some (finObj s text cl L f t C' ln)) (.int .i64) (⟨b, 1, none⟩ : Addr) Q :=
      fun hq => LdS.of (t := .int .i64) (fun y hy => cell_of (hy.1.blk hb5 hbC) rfl) hq
    have gC : ∀ {y : World} {Q : Sl → Prop}, y.heap[b1]? = some (finObj s text cl L f t C ln) → Q C → Ld .sl (((⟨b1, 0, none⟩ : Addr).add 4).add 2) y Q :=
      fun hy hq => Ld.sl (by rw [add_add]; exact cell_of hy rfl) hq
    have S0 : ∀ {y : World}, Keeps No w5 y → y.heap[b1]? = some (finObj s text cl L f t C ln) → (Keeps (fun q => q = b1 ∨ C.blk q) w5 y ∧ ∃ C' : Sl, y.heap[b1]? = some (finObj s text cl L f t C' ln)) := fun k hy => ⟨k.no, C, hy⟩
    refine g8 (Br.mk (fun e8 => gL (gT ⟨gC h5.at_ ⟨S0 .refl h5.at_, Al.mk fun b' w9 n9 => ⟨S0 n9.keeps (n9.keeps.blk0 h5.at_), tail _ ?_ n9⟩⟩, Al.mk fun b' w9 n9 => ⟨S0 n9.keeps (n9.keeps.blk0 h5.at_), gC (n9.keeps.blk0 h5.at_) ⟨S0 n9.keeps (n9.keeps.blk0 h5.at_), tail _ ?_ n9⟩⟩⟩))
      (fun e8 => gT ⟨gC h5.at_ ⟨S0 .refl h5.at_, Al.mk fun b' w9 n9 => ⟨S0 n9.keeps (n9.keeps.blk0 h5.at_), tail _ ?_ n9⟩⟩, Al.mk fun b' w9 n9 => ⟨S0 n9.keeps (n9.keeps.blk0 h5.at_), gC (n9.keeps.blk0 h5.at_) ⟨S0 n9.keeps (n9.keeps.blk0 h5.at_), tail _ ?_ n9⟩⟩⟩))
    · rw [e8, Bool.and_true, hLn, hvg]; congr 1; simp
    · rw [e8, Bool.and_true, hLn, hvg]; congr 1; simp
    · rw [e8, Bool.and_false]
    · rw [e8, Bool.and_false]
  · have hbl : blank (cutT text x) = true := by simpa using e
    have hst : stepL text (decide (0 < gs.length)) (cm, ln) x = (cm, ln + nls (cutT text x)) := by
      unfold stepL; rw [hbl]; rfl
    rw [hst] at hK
    refine strings_Count_spec ?_
    rw [show text.extract x.f.toNat x.t.toNat = cutT text x from rfl]
    have hnl : nls (cutT text x) ≤ 1000000 := Nat.le_trans List.count_le_length (by have := size_bs (cutT text x); omega)
    generalize nls (cutT text x) = n at hK hnl
    have ew : w64 ((ln : Int) + (n : Int)) = ((ln + n : Nat) : Int) := by rw [w64_eq (by omega)]; omega
    have hLb : ∀ q, q = b1 → ¬ L.blk q := fun q hq hl => by have := (h.ownL.ge hl).1; omega
    have hCb : ∀ q, q = b1 → ¬ C.blk q := fun q hq hl => by have := (h.ownC.ge hl).1; omega
    have fin : ∀ {w8 : World}, w8.heap[b1]? = some (finObj s text cl L f t C (ln + n)) → Keeps (· = b1) w4 w8 → K () w8 := by
      intro w8 hat k8
      refine hK C w8 ⟨hat, h4.ownL.keep k8 hLb, h4.ownC.keep k8 hCb, h.sep, h4.old.mono fun _ _ y => y.mono (V.move k8 (fun q _ hq => .inl (by omega)) fun q _ hm => hm)⟩ ?_
      exact (k04.no (M := fun q => b1 ≤ q)).trans (k8.mono fun q _ hq => Nat.le_of_eq hq.symm)
    rw [add_add]
    refine Ld.int (cell_of h4.at_ rfl) (St.blk h4.at_ (by simp) fun w8 u8 => ?_)
    rw [ew] at u8
    rw [add_eq]
    refine Ld.bool (cell_of u8.at_ rfl) (Br.mk (fun e8 => St.blk u8.at_ (by simp) fun w9 u9 => fin ?_ (u8.trans u9).keeps) (fun e8 => St.blk u8.at_ (by simp) fun w9 u9 => fin ?_ (u8.trans u9).keeps))
    · have e0 : ln = 0 := eq_of_beq e8
      subst e0
      have := u9.at_
      rw [this]
      have eb : ((n : Int) == 0) = (0 + n == 0) := by rw [Bool.eq_iff_iff, beq_iff_eq, beq_iff_eq]; omega
      rw [eb]; rfl
    · have e0 : ln ≠ 0 := fun e0 => by subst e0; cases e8
      have := u9.at_
      rw [this]
      have eb : (ln + n == 0) = false := by rw [beq_eq_false_iff_ne]; omega
      show _ = some (Obj.cells #[_, _, _, _, _, _, _, _, .bool (ln + n == 0)] _ _)
      rw [eb]; rfl
end Go.Fk
end

section
set_option linter.unusedVariables false
namespace Go.Fk
open Go

theorem close_spec {w : World} {b1 : Nat} {s : Option Addr} {text : ByteArray} {cl L C : Sl} {vs : List GV} {gs : List Gp} {f t : Int} {cm : List Cm} {ln : Nat} (h : FinAt w b1 s text cl L C vs gs f t cm ln) {at_ next : Int} (hvs : vs.length ≤ 10000000) {K : Unit → World → Prop}
    (hK : ∀ L' v w', FinAt w' b1 s text cl L' ⟨none, 0, 0⟩ (vs ++ [v]) (gs ++ [⟨f, at_, cm, ln⟩]) next next [] 0 → Keeps (fun b => b1 ≤ b) w w' → K () w') :
    trivia_finder_close.C (some ⟨b1, 0, none⟩) at_ next w K := by
  have hb1 := lt_of_some h.at_
  have hLn := h.ln_
  have hCge : ∀ q, C.blk q → b1 + 1 ≤ q ∧ q < w.heap.size := fun q hq => h.ownC.ge hq
  have hLge : ∀ q, L.blk q → b1 + 1 ≤ q ∧ q < w.heap.size := fun q hq => h.ownL.ge hq
  refine trivia_finder_close.ok _ _ _ _ _ ?_
  simp only [trivia_finder_close.M, NilC_some]
  rw [add_add]
  refine St.blk h.at_ (by simp) fun w1 u1 => ?_
  have hLb : ∀ q, q = b1 → ¬ L.blk q := fun q hq hl => by have := (hLge _ hl).1; omega
  have hCb : ∀ q, q = b1 → ¬ C.blk q := fun q hq hl => by have := (hCge _ hl).1; omega
  have h1 : FinAt w1 b1 s text cl L C vs gs f at_ cm ln := ⟨u1.at_, h.ownL.keep u1.keeps hLb, h.ownC.keep u1.keeps hCb, h.sep, h.old.mono fun _ _ y => y.mono (V.move u1.keeps (fun q _ hq => .inl (by omega)) fun q _ hm => hm)⟩
  have s1 := u1.size
  generalize hv : (⟨f, at_, C, ln⟩ : GV) = v
  refine Join.cut (fun (_ : Unit) w' => ∃ L', Keeps (fun b => b1 ≤ b) w w' ∧ w'.heap[b1]? = some (finObj s text cl L' f at_ C ln) ∧ Own w' (b1 + 1) T.trivia_Gap 4 L' ((vs ++ [v]).map GV.cells).flatten ∧ All2 (GapR (V (fun b => b ≤ b1 ∨ L'.blk b) w')) (vs ++ [v]) (gs ++ [⟨f, at_, cm, ln⟩])) ?_ ?_
  · rintro _ w2 ⟨L', k2, hat, ho, hall⟩
    rw [add_eq, Nat.zero_add]
    refine St.blk hat (by simp) fun w3 u3 => ?_
    rw [add_eq]
    refine St.blk u3.at_ (by simp) fun w4 u4 => ?_
    rw [add_eq]
    refine St.blk u4.at_ (by simp) fun w5 u5 => ?_
    rw [add_eq]
    refine St.blk u5.at_ (by simp) fun w6 u6 => ?_
    refine St.blk u6.at_ (by simp) fun w7 u7 => ?_
    have u := (((u3.trans u4).trans u5).trans u6).trans u7
    refine hK L' v w7 ⟨u.at_, ho.keep u.keeps (fun q hq hl => by subst hq; have := (ho.ge hl).1; omega), Own.nil _ _ _ _, (fun q hq => by obtain ⟨a, ha, _⟩ := hq; cases ha), hall.mono fun _ _ y => y.mono (V.move u.keeps (fun q _ hq => .inl (by omega)) fun q _ hm => ?_)⟩ (k2.trans (u.keeps.mono fun q _ hq => Nat.le_of_eq hq.symm))
    rcases hm with hm | hm | hm
    · exact .inl hm
    · exact .inr hm
    · obtain ⟨a, ha, _⟩ := hm; cases ha
  · intro j hj
    have tail : ∀ {b' w8 w9}, Keeps No w1 w8 → New b' (.cells #[.int .i64 f, .int .i64 at_, .slice C.a C.n C.c, .int .i64 ln] T.trivia_Gap (0, 0)) w8 w9 →
        App P (Builtin.append_ #[T.sl_trivia_Gap, T.sl_trivia_Gap] T.sl_trivia_Gap #[.slice L.a L.n L.c, .slice (some ⟨b', 0, none⟩) 1 1]) (.one .sl) w9 fun x22 w10 => (True ∧ St ((⟨b1, 0, none⟩ : Addr).add 3) (.slice x22.a x22.n x22.c) w10 fun w11 => (True ∧ j () w11)) := by
      intro b' w8 w9 k8 n9
      have k19 := k8.trans n9.keeps
      have h9 := h1.keep k19
      have s8 := k8.size
      have s9 := n9.size
      have hve : v.cells = [.int .i64 f, .int .i64 at_, .slice C.a C.n C.c, .int .i64 ln] := by rw [← hv]; rfl
      refine appendC (c := v.cells) elGap h9.ownL rfl (by rw [hve]; exact n9.at_) (GV.one _) (by omega) (by omega) (by omega) fun L' w10 hL' hn' k10 hg' => ⟨trivial, ?_⟩
      have hL'b : ∀ q, L'.blk q → L.blk q ∨ w9.heap.size ≤ q := by
        rintro q ⟨a, ha, rfl⟩
        obtain ⟨g, hg, h6⟩ := hg'
        rw [hg] at ha; cases ha; exact h6
      have h10at := k10.blk h9.at_ (fun hq => hLb _ rfl hq)
      rw [add_eq]
      refine St.blk h10at (by simp) fun w11 u11 => ⟨trivial, hj _ _ ⟨L', ?_, u11.at_, ?_, ?_⟩⟩
      · refine ((u1.keeps.mono (M := fun b => b1 ≤ b) fun q _ hq => Nat.le_of_eq hq.symm).trans k19.no).trans ((k10.mono fun q _ hq => ?_).trans (u11.keeps.mono fun q _ hq => Nat.le_of_eq hq.symm))
        have := (hLge _ hq).1; show b1 ≤ q; omega
      · have := hL'.keep u11.keeps (fun q hq hl => by subst hq; have := (hL'.ge hl).1; omega)
        simpa using this
      · have hvw : Vle (V (fun b => b ≤ b1 ∨ L.blk b) w9) (V (fun b => b ≤ b1 ∨ L'.blk b) w11) := by
          refine (V.move (M := fun b => b ≤ b1 ∨ L.blk b) (M' := fun b => b ≤ b1 ∨ L'.blk b) k10 (fun q _ hq => .inr hq) fun q hq hm => ?_).trans (V.move u11.keeps (fun q _ hq => .inl (by omega)) fun q _ hm => hm)
          rcases hm with hm | hm
          · exact .inl hm
          · exact (hL'b q hm).elim .inr fun e => by omega
        refine All2.append (h9.old.mono fun _ _ y => (y.mono (V.sub fun q _ (hm : q ≤ b1 ∨ L.blk q) => hm.elim .inl fun e => .inr (.inl e))).mono hvw) (.cons ?_ .nil)
        · rw [← hv]
          refine ⟨rfl, rfl, rfl, (Own.readsC h9.ownC (by omega) Cm.lens fun q hq hm => ?_).mono hvw⟩
          rcases hm with hm | hm
          · have := (hCge _ hq).1; omega
          · exact h.sep _ hq hm
    refine DrawN.mk fun w8 e8 k8 => ?_
    have h8 := h1.keep k8
    have gL : ∀ {y : World} {Q : Sl → Prop}, y.heap[b1]? = some (finObj s text cl L f at_ C ln) → Q L → Ld .sl ((⟨b1, 0, none⟩ : Addr).add 3) y Q :=
      fun hy hq => Ld.sl (by rw [add_eq]; exact cell_of hy rfl) hq
    have gG : ∀ {Q : Int → Int → Sl → Int → Prop}, Q f at_ C ln → Ld (.int .i64) ((⟨b1, 0, none⟩ : Addr).add 4) w8 fun x0 => Ld (.int .i64) (((⟨b1, 0, none⟩ : Addr).add 4).add 1) w8 fun x1 => Ld .sl (((⟨b1, 0, none⟩ : Addr).add 4).add 2) w8 fun x2 => Ld (.int .i64) (((⟨b1, 0, none⟩ : Addr).add 4).add 3) w8 fun x3 => Q x0 x1 x2 x3 := by
      intro Q hq
      simp only [add_add, add_eq]
      exact Ld.int (cell_of h8.at_ rfl) (Ld.int (cell_of h8.at_ rfl) (Ld.sl (cell_of h8.at_ rfl) (Ld.int (cell_of h8.at_ rfl) hq)))
    refine ⟨gL h8.at_ ⟨trivial, gG ⟨trivial, Al.mk fun b' w9 n9 => ⟨trivial, tail k8 n9⟩⟩⟩, gG ⟨trivial, gL h8.at_ ⟨trivial, Al.mk fun b' w9 n9 => ⟨trivial, tail k8 n9⟩⟩, Al.mk fun b' w9 n9 => ⟨trivial, gL (n9.keeps.blk0 h8.at_) ⟨trivial, tail k8 n9⟩⟩⟩⟩

theorem stepL_le {text : ByteArray} {b : Bool} {cm : List Cm} {ln : Nat} {x : Tok} : (stepL text b (cm, ln) x).1.length ≤ cm.length + 1 ∧ (stepL text b (cm, ln) x).2 ≤ ln + (x.t.toNat - x.f.toNat) := by
  unfold stepL
  have := nls_le text x
  split
  · exact ⟨by dsimp only; omega, by dsimp only; omega⟩
  · exact ⟨by simp, by dsimp only; omega⟩

theorem Find_none {w : World} {text : ByteArray} {K : (Sl × Int) → World → Prop} (hK : K (⟨none, 0, 0⟩, 1) w) : trivia_Find.C none text w K := by
  refine trivia_Find.ok _ _ _ _ ?_
  simp only [trivia_Find.M]
  exact scan_Scan_none hK
theorem Find_long {w : World} {s : Option Addr} {text : ByteArray} (h : s.isNone = false) (hs : 1048576 < text.size) {K : (Sl × Int) → World → Prop} (hK : K (⟨none, 0, 0⟩, 3) w) : trivia_Find.C s text w K := by
  refine trivia_Find.ok _ _ _ _ ?_
  simp only [trivia_Find.M]
  exact scan_Scan_long h hs hK

theorem Find_spec {w : World} {s : Option Addr} {cs : List Cls} {ms : List LSt} {N : Nat} {of_ : Nat → Int} {text : ByteArray} (hsc : ScanV (V No w) s cs N ms of_) (hS : Sound cs ms) (hcl : cs.length ≤ 1000) (hs : text.size ≤ 1000000) {K : (Sl × Int) → World → Prop}
    (hK : ∀ l w', Keeps No w w' → SlGap (V No w') l (gapsOf (layF cs) text (toksOf ms (bs text))) → K (l, 0) w') : trivia_Find.C s text w K := by
  have hbs := size_bs text
  refine trivia_Find.ok _ _ _ _ ?_
  simp only [trivia_Find.M]
  refine scan_Scan_spec hsc hs fun l w1 k1 ho1 => ?_
  dsimp only
  rw [bne_self_eq_false, Br_false]
  refine scan_Classes_spec (hsc.keep k1) hcl fun cl w2 k2 ho2 => ?_
  refine Al.mk fun b1 w3 n3 => ?_
  have e3 := n3.eq
  have s3 := n3.size
  have hsrt := srt_all (ms := ms) (s := bs text)
  have htl : (toksOf ms (bs text)).length ≤ text.size := by rw [hbs]; exact toks_len
  have hget : ∀ {i x}, (toksOf ms (bs text))[i]? = some x → ∃ b, b < (bs text).length ∧ x = tokF ms (bs text) b := fun h => toks_get h
  generalize toksOf ms (bs text) = ts at *
  have hl3 : SlTok (V (fun b => b1 ≤ b) w3) l ts := ((ho1.keep0 (k2.trans n3.keeps)).readsC (M := fun b => b1 ≤ b) (by omega) Tok.lens fun b hb hge => by have := (ho1.ge hb).2; have := k2.size; have : b1 ≤ b := hge; omega)
  have hc3 : SlCls (V (fun b => b1 ≤ b) w3) cl cs := ((ho2.keep0 n3.keeps).readsC (M := fun b => b1 ≤ b) (by omega) Cls.lens fun b hb hge => by have := (ho2.ge hb).2; have : b1 ≤ b := hge; omega)
  have hln : l.n = ts.length := by have := hl3.1; simpa using this
  refine Loop.mk (fun t w' => Keeps (fun b => b1 ≤ b) w3 w' ∧ ∃ (i : Nat) (pos : Int) (L C : Sl) (vs : List GV) (gs : List Gp) (f tt : Int) (cur : List Tok), t = i ∧ i ≤ ts.length ∧ FinAt w' b1 s text cl L C vs gs f tt (foldL text (decide (0 < gs.length)) cur).1 (foldL text (decide (0 < gs.length)) cur).2 ∧ gs.length ≤ i ∧ (foldL text (decide (0 < gs.length)) cur).1.length ≤ i ∧ 0 ≤ pos ∧ pos ≤ text.size ∧ ((foldL text (decide (0 < gs.length)) cur).2 : Int) ≤ pos ∧ Srt text.size pos (ts.drop i) ∧
      gs ++ (rgs (layF cs) text.size f (decide (0 < gs.length)) cur (ts.drop i)).map (Rg.gap text) = gapsOf (layF cs) text ts)
    (fun t => ts.length - t.toNat) ⟨.refl, 0, 0, ⟨none, 0, 0⟩, ⟨none, 0, 0⟩, [], [], 0, 0, [], rfl, by omega, ⟨n3.at_, Own.nil _ _ _ _, Own.nil _ _ _ _, (fun c hc => by obtain ⟨a, ha, _⟩ := hc; cases ha), .nil⟩, by simp, by simp [foldL], by omega, by omega, by simp [foldL], by rw [hbs]; exact hsrt, rfl⟩ ?_
  rintro t w4 ⟨k4, i, pos, L, C, vs, gs, f, tt, cur, rfl, hi, hF, hgi, hci, hp0, hp1, hlp, hsr, hG⟩ R hR
  have hvg := hF.old.length
  refine Br.mk (fun e => ?_) (fun e => ?_)
  · have hlt : i < ts.length := by have := of_decide_eq_true e; omega
    have hl4 := hl3.mono (V.keeps k4)
    refine IdxS.tok hl4 (by omega) (by omega) fun x p hx hp => hp.ld ?_
    rw [Int.toNat_natCast] at hx
    have hdrop : ts.drop i = x :: ts.drop (i + 1) := by
      obtain ⟨hi', hxe⟩ := List.getElem?_eq_some_iff.1 hx
      rw [List.drop_eq_getElem_cons hi', hxe]
    rw [hdrop] at hsr hG
    obtain ⟨hx1, hx2, hx3⟩ := hsr
    have hx4 := hx3.le.1
    have ew : w64 ((i : Int) + 1) = ((i + 1 : Nat) : Int) := by rw [w64_eq (by omega)]; omega
    refine AlSt4 fun b4 w9 n9 => ?_
    have h9 := hF.keep n9.keeps
    refine Join.cut (fun b w' => Keeps No w9 w' ∧ b = layF cs x) ?_ ?_
    · rintro b w10 ⟨k10, rfl⟩
      have h10 := h9.keep k10
      have hb4 := k10.blk0 n9.at_
      have k410 : Keeps (fun b => b1 ≤ b) w4 w10 := (n9.keeps.trans k10).no
      refine Br.mk (fun e2 => ?_) (fun e2 => ?_)
      · refine Ld4i hb4 ?_
        refine layout_spec h10 (x := x) ⟨by omega, by omega, hx4⟩ hs (by omega) (by omega) fun C' w11 h11 k11 => ?_
        have hst := stepL_le (text := text) (b := decide (0 < gs.length)) (cm := (foldL text (decide (0 < gs.length)) cur).1) (ln := (foldL text (decide (0 < gs.length)) cur).2) (x := x)
        have hfs : foldL text (decide (0 < gs.length)) (cur ++ [x]) = stepL text (decide (0 < gs.length)) ((foldL text (decide (0 < gs.length)) cur).1, (foldL text (decide (0 < gs.length)) cur).2) x := foldL_snoc
        rw [← hfs] at h11 hst
        rw [ew]
        refine hR _ _ ⟨(k4.trans k410).trans k11, i + 1, x.t, L, C', vs, gs, f, tt, cur ++ [x], rfl, by omega, h11, by omega, by omega, by omega, hx4, by omega, hx3, ?_⟩ (by omega)
        rw [← hG]
        simp only [rgs, e2, if_true]
      · refine Ld.int (cell_of hb4 rfl) (Ld.int (cell_of hb4 rfl) ?_)
        refine close_spec h10 (by omega) fun L' v w12 h12 k12 => ?_
        rw [ew]
        have hb' : decide (0 < (gs ++ [(⟨f, x.f, (foldL text (decide (0 < gs.length)) cur).1, (foldL text (decide (0 < gs.length)) cur).2⟩ : Gp)]).length) = true := by simp
        refine hR _ _ ⟨(k4.trans k410).trans k12, i + 1, x.t, L', ⟨none, 0, 0⟩, vs ++ [v], gs ++ [⟨f, x.f, (foldL text (decide (0 < gs.length)) cur).1, (foldL text (decide (0 < gs.length)) cur).2⟩], x.t, x.t, [], rfl, by omega, h12, by simp; omega, by simp [foldL], by omega, hx4, by simp [foldL]; omega, hx3, ?_⟩ (by omega)
        rw [← hG, hb']
        have e2 : layF cs x = false := e2
        simp only [rgs, e2, Bool.false_eq_true, if_false, List.map_cons, List.append_assoc, List.cons_append, List.nil_append]
        rfl
    · intro j hj
      refine Draw.kp fun w13 e13 k13 => ?_
      have h13 := h9.keep k13
      have hb4 := k13.blk0 n9.at_
      obtain ⟨bt, hbt, hxb⟩ := hget hx
      have hcin := hS.cls_in (s := bs text) (i := bt) (by omega)
      rw [← hxb] at hcin
      refine LdK.int (cell_of hb4 rfl) (Br.mk (fun e2 => ?_) (fun e2 => ?_))
      · have e2 : 0 ≤ x.c := of_decide_eq_true e2
        refine LdK.sl (cell_of h13.at_ rfl) (LdK.int (cell_of hb4 rfl) ?_)
        refine IdxS.cls (hc3.mono ((V.keeps k4).trans (V.keeps0 (n9.keeps.trans k13)))) (by omega) (by omega) fun c q hc hq => LdK.bool hq.lay (hj _ _ ⟨k13, ?_⟩)
        unfold layF
        rw [if_pos (by omega), hc]; rfl
      · have e2 : ¬ 0 ≤ x.c := of_decide_eq_false e2
        refine hj _ _ ⟨k13, ?_⟩
        unfold layF
        rw [if_neg e2]
  · have hge : i = ts.length := by have := of_decide_eq_false e; omega
    subst hge
    rw [List.drop_length] at hG
    refine close_spec hF (by omega) fun L' v w14 h14 k14 => ?_
    refine Ld.sl (cell_of h14.at_ rfl) ?_
    have k03 : Keeps No w w3 := (k1.trans k2).trans n3.keeps
    have hbig : b1 ≥ w.heap.size := by have := (k1.trans k2).size; omega
    have k014 : Keeps No w w14 := (k03.no (M := No)).then (k4.trans k14) fun q hq (hge : b1 ≤ q) => by omega
    refine hK L' w14 k014 ⟨vs ++ [v], Own.readsC h14.ownL (by omega) GV.lens fun _ _ h => h, ?_⟩
    have hg2 : gs ++ [⟨f, (text.size : Int), (foldL text (decide (0 < gs.length)) cur).1, (foldL text (decide (0 < gs.length)) cur).2⟩] = gapsOf (layF cs) text ts := by rw [← hG]; rfl
    rw [← hg2]
    exact h14.old.mono fun _ _ y => y.mono (V.sub fun _ _ h => h.elim)
end Go.Fk
end
