/-
  A part of the proof: what the functions of the program come to, read off the model: no premise of its own, no axiom. By an AI agent.
-/
import Derived.Test.YtjcelcnlndahpaaGreatA9
set_option linter.all false
set_option linter.unusedVariables false
namespace Go.Fk
open Go Go.MapKept

theorem tok_eq {x y : Tok} : ((x.c == y.c) && ((x.f == y.f) && ((x.t == y.t) && (x.l == y.l)))) = true ↔ x = y := by
  simp only [Bool.and_eq_true, beq_iff_eq]
  constructor
  · rintro ⟨h1, h2, h3, h4⟩
    cases x; cases y
    simp only at h1 h2 h3 h4
    subst h1; subst h2; subst h3; subst h4; rfl
  · rintro rfl; exact ⟨rfl, rfl, rfl, rfl⟩

theorem same_spec {M M' : Nat → Prop} {w : World} {a b : Sl} {xs ys : List Tok} (ha : SlTok (V M w) a xs) (hb : SlTok (V M' w) b ys) (hlen : xs.length ≤ 1000000000) {K : Bool → World → Prop} (hK : ∀ r w', Keeps No w w' → (r = true ↔ xs = ys) → K r w') : frisketlaw10_same.C a b w K := by
  have han : a.n = xs.length := by simpa using ha.1
  have hbn : b.n = ys.length := by simpa using hb.1
  refine frisketlaw10_same.ok _ _ _ _ ?_
  simp only [frisketlaw10_same.M]
  refine Br.mk (fun e => hK _ w .refl ⟨fun h => (by cases h), fun h => ?_⟩) (fun e => ?_)
  · subst h
    rw [han, hbn] at e
    simp at e
  have hl : xs.length = ys.length := by
    have : (a.n : Int) = (b.n : Int) := by simpa using e
    omega
  refine Loop.mk (fun t w' => Keeps No w w' ∧ ∃ k : Nat, t = k ∧ k ≤ xs.length ∧ xs.take k = ys.take k) (fun t => xs.length - t.toNat) ⟨.refl, 0, rfl, by omega, by simp⟩ ?_
  rintro t w1 ⟨k1, k, rfl, hk, hp⟩ R hR
  refine Br.mk (fun e => ?_) (fun e => ?_)
  · have e : k < xs.length := by have := of_decide_eq_true e; omega
    refine Draw.kp fun w2 e2 k2 => ?_
    have k02 := k1.trans k2
    refine IdxS.tok (ha.mono (V.keeps0 k02)) (by omega) (by omega) fun x p hx hp1 => hp1.ldK ?_
    refine IdxS.tok (hb.mono (V.keeps0 k02)) (by omega) (by omega) fun y q hy hq1 => hq1.ldK ?_
    simp only [Int.toNat_natCast] at hx hy
    refine Br.mk (fun e3 => hK _ w2 k02 ⟨fun h => (by cases h), fun h => ?_⟩) (fun e3 => ?_)
    · subst h
      rw [hx] at hy; cases hy
      rw [tok_eq.2 rfl] at e3; cases e3
    · have e3 : ((x.c == y.c) && ((x.f == y.f) && ((x.t == y.t) && (x.l == y.l)))) = true := by simpa using e3
      have hxy := tok_eq.1 e3
      subst hxy
      rw [w64_eq (by omega)]
      refine hR _ _ ⟨k02, k + 1, by omega, by omega, ?_⟩ (by omega)
      rw [List.take_add_one, List.take_add_one, hp, hx, hy]
  · have e : k = xs.length := by have := of_decide_eq_false e; omega
    subst e
    rw [List.take_length, hl, List.take_length] at hp
    exact hK _ w1 k1 ⟨fun _ => hp, fun _ => rfl⟩

/-! ## The document's example -/

def exCs2 : List Cls := [cId, cWs]
theorem rules_ex2 : ∀ i, i < exCs2.length → RuleOK exCs2 i := by
  obtain ⟨f0, p0, h0⟩ := pId
  obtain ⟨f2, p2, h2⟩ := pWs
  intro i hi
  rcases i with _ | _ | i
  · exact rule_plus (c := cId) rfl (nameOK_of (by decide) (by decide) (by decide)) (fun j c' hj => by omega) p0 (b := 97) (h0 97 (by omega))
  · refine rule_plus (c := cWs) rfl (nameOK_of (by decide) (by decide) (by decide)) (fun j c' hj hc' => ?_) p2 (b := 32) (h2 32 (by omega))
    rcases j with _ | j
    · cases hc'; decide
    · omega
  · simp [exCs2] at hi; omega
theorem ys_ex2 : All2 (fun y g => ∃ f, y = plusR f ∧ ∀ c, c < 256 → f c = g c) (ysOf exCs2) [gId, gWs] := by
  obtain ⟨f0, p0, h0⟩ := pId
  obtain ⟨f2, p2, h2⟩ := pWs
  refine .cons ⟨f0, ?_, h0⟩ (.cons ⟨f2, ?_, h2⟩ .nil)
  · unfold reOf; rw [p0]
  · unfold reOf; rw [p2]
theorem small_ex2 : ∀ c ∈ exCs2, Small c.rx ∧ c.n.size ≤ maxLen := by
  intro c hc
  simp only [exCs2, List.mem_cons, List.not_mem_nil, or_false] at hc
  rcases hc with rfl | rfl <;> exact ⟨by unfold Small; decide, by decide⟩

/-- 'ab cd', 'axb cd'. -/
def exT1 : List UInt8 := [97, 98, 32, 99, 100]
def exT2 : List UInt8 := [97, 120, 98, 32, 99, 100]
theorem exTok1 {ms : List LSt} (h : Sound exCs2 ms) : (tokF ms exT1 0).t = 2 ∧ (tokF ms exT1 2).t = 3 ∧ (tokF ms exT1 3).t = 5 := by
  have hm : ∀ s t i, Means (ysOf exCs2) s t i ↔ plusAt [gId, gWs] s t i = true := fun s t i => means_plus ys_ex2
  exact ⟨(h.tok_is (i := 0) (by decide) (r := 0) (z := 2) (LawBest.of (t := 2) (i := 0) (hm _) (by decide) (by decide) (by decide))).2,
    (h.tok_is (i := 2) (by decide) (r := 1) (z := 1) (LawBest.of (t := 1) (i := 1) (hm _) (by decide) (by decide) (by decide))).2,
    (h.tok_is (i := 3) (by decide) (r := 0) (z := 2) (LawBest.of (t := 2) (i := 0) (hm _) (by decide) (by decide) (by decide))).2⟩
theorem exTok2 {ms : List LSt} (h : Sound exCs2 ms) : (tokF ms exT2 0).t = 3 ∧ (tokF ms exT2 3).t = 4 ∧ (tokF ms exT2 4).t = 6 := by
  have hm : ∀ s t i, Means (ysOf exCs2) s t i ↔ plusAt [gId, gWs] s t i = true := fun s t i => means_plus ys_ex2
  exact ⟨(h.tok_is (i := 0) (by decide) (r := 0) (z := 3) (LawBest.of (t := 3) (i := 0) (hm _) (by decide) (by decide) (by decide))).2,
    (h.tok_is (i := 3) (by decide) (r := 1) (z := 1) (LawBest.of (t := 1) (i := 1) (hm _) (by decide) (by decide) (by decide))).2,
    (h.tok_is (i := 4) (by decide) (r := 0) (z := 2) (LawBest.of (t := 2) (i := 0) (hm _) (by decide) (by decide) (by decide))).2⟩
theorem toks_ex1 {ms : List LSt} (h : Sound exCs2 ms) : toksOf ms exT1 = [tokF ms exT1 0, tokF ms exT1 2, tokF ms exT1 3] := by
  obtain ⟨h1, h2, h3⟩ := exTok1 h
  have g := goes_tok (ms := ms) (s := exT1)
  unfold toksOf
  rw [toks_step g (by decide), h1, show ((2 : Int)).toNat = 2 from rfl, toks_step g (by decide), h2, show ((3 : Int)).toNat = 3 from rfl, toks_step g (by decide), h3, toks_end (by decide)]
theorem toks_ex2 {ms : List LSt} (h : Sound exCs2 ms) : toksOf ms exT2 = [tokF ms exT2 0, tokF ms exT2 3, tokF ms exT2 4] := by
  obtain ⟨h1, h2, h3⟩ := exTok2 h
  have g := goes_tok (ms := ms) (s := exT2)
  unfold toksOf
  rw [toks_step g (by decide), h1, show ((3 : Int)).toNat = 3 from rfl, toks_step g (by decide), h2, show ((4 : Int)).toNat = 4 from rfl, toks_step g (by decide), h3, toks_end (by decide)]

theorem ScanV.away {w w' : World} {s : Option Addr} {cs : List Cls} {N : Nat} {ms : List LSt} {of_ : Nat → Int} {bt : Nat} (h : ScanV (V No w) s cs N ms of_) (k : Keeps No w w') (hb : w.heap.size ≤ bt) : ScanV (V (· = bt) w') s cs N ms of_ :=
  h.mono (V.move k (fun _ _ h => h.elim) fun b hb' h => by have : b = bt := h; omega)

theorem awake10_spec {w : World} {K : Bool → World → Prop} (hK : ∀ w', Keeps No w w' → K true w') : frisketlaw10_awake.C w K := by
  refine frisketlaw10_awake.ok _ _ ?_
  simp only [frisketlaw10_awake.M]
  refine Al.mk fun b1 w1 n1 => ?_
  have hcl : SlCls (V No w1) ⟨some ⟨b1, 0, none⟩, 2, 2⟩ exCs2 := cells_cls (cs := exCs2) rfl ⟨id, n1.at_⟩
  refine New_ok hcl (by decide) (by simp [exCs2]) small_ex2 rules_ex2 (by rw [cnt_plus ys_ex2]; decide) fun s ms w2 k2 ⟨N, of_, hs⟩ hS => ?_
  dsimp only
  refine relex_New_spec hs (by decide) fun bt l w3 k3 hbt ht => ?_
  dsimp only
  have hT1 : bs (⟨#[97, 98, 32, 99, 100]⟩ : ByteArray) = exT1 := rfl
  have hspl : splT ⟨#[97, 98, 32, 99, 100]⟩ ⟨#[120]⟩ 1 1 = (⟨#[97, 120, 98, 32, 99, 100]⟩ : ByteArray) := by decide +kernel
  have hT2 : bs (⟨#[97, 120, 98, 32, 99, 100]⟩ : ByteArray) = exT2 := rfl
  refine relex_Splice_spec (from_ := 1) (to_ := 1) (hs.away k3 hbt) ht (by omega) (by decide) (by decide) (by rw [hT1, toks_ex1 hS]; simp) fun l' first m w4 k4 ht4 hsp => ?_
  rw [hspl, hT1, hT2] at hsp
  rw [hspl, hT2] at ht4
  obtain ⟨a1, a2, a3⟩ := exTok1 hS
  obtain ⟨c1, c2, c3⟩ := exTok2 hS
  have e1 := toks_ex1 hS
  have e2 := toks_ex2 hS
  have g1 : ∀ i, i < 5 → (tokF ms exT1 i).f = i ∧ (tokF ms exT1 i).t ≤ (tokF ms exT1 i).l := fun i hi => by have := tok_bounds (ms := ms) (s := exT1) (i := i) hi; exact ⟨this.1, this.2.2.2.1⟩
  have g2 : ∀ i, i < 6 → (tokF ms exT2 i).f = i := fun i hi => (tok_bounds (ms := ms) (s := exT2) (i := i) hi).1
  rw [e1, e2] at hsp
  have hfirst : first = 0 := by
    refine Nat.eq_zero_of_not_pos fun h => ?_
    obtain ⟨h1, h2⟩ := hsp.head 0 (tokF ms exT2 0) h rfl
    have h1 : tokF ms exT1 0 = tokF ms exT2 0 := by simpa using h1
    rw [← h1] at h2
    have := (g1 0 (by omega)).2
    omega
  subst hfirst
  have hm : m = 1 := by
    have hle := hsp.le.2.1
    simp at hle
    rcases m with _ | _ | m
    · obtain ⟨_, y, _, _, h⟩ := hsp.tail 0 (tokF ms exT2 0) (by omega) rfl
      have := g2 0 (by omega)
      omega
    · rfl
    · refine absurd ?_ (hsp.fresh 1 (tokF ms exT2 3) (by omega) (by omega) rfl)
      have hy := g2 3 (by omega)
      have hy1 := (g1 2 (by omega)).1
      have hsz1 : (⟨#[120]⟩ : ByteArray).size = 1 := rfl
      refine ⟨?_, ?_, 1, tokF ms exT1 2, by omega, rfl, ?_⟩ <;> rw [hy] <;> rw [hsz1] <;> omega
  subst hm
  refine AlSt2 fun b2 w7 n7 => ?_
  have ht7 := ht4.keep n7.keeps
  simp only [beq_self_eq_true, Br_true]
  refine Ld2i n7.at_ ?_
  simp only [show (((0 : Nat) : Int) == 0) = true from rfl, show (((1 : Nat) : Int) == 1) = true from rfl, Bool.and_self, Br_true]
  refine relex_Text_spec ht7 ?_
  simp only [beq_self_eq_true, Br_true]
  refine relex_Tokens_spec ht7 (by rw [e2]; simp) fun l8 w8 k8 ho => ?_
  have hl8 := ho.len
  rw [e2] at hl8
  have hn8 : l8.n = 3 := by simp [Tok.cells] at hl8; omega
  rw [hn8]
  have k04 : Keeps No w w4 := ((n1.keeps.trans k2).trans k3).no.then k4 fun b hb h => by have : b = bt := h; have := (n1.keeps.trans k2).size; omega
  exact hK w8 ((k04.trans n7.keeps).trans k8)

theorem RelexNone_spec {w : World} {a b : Int} {with_ : ByteArray} {K : Bool → World → Prop} (hK : ∀ w', Keeps No w w' → K true w') : frisketlaw10_RelexNone.C a b with_ w K := by
  refine frisketlaw10_RelexNone.ok _ _ _ _ _ ?_
  simp only [frisketlaw10_RelexNone.M]
  refine Join.cut (fun b w1 => Keeps No w w1) ?_ ?_
  · rintro b w1 k1
    refine Br.mk (fun _ => awake10_spec fun w2 k2 => hK w2 (k1.trans k2)) (fun _ => ?_)
    refine relex_New_none (relex_Splice_none fun w2 k2 => AlSt2 fun b2 w3 n3 => relex_At_none fun w4 k4 => AlSt4 fun b3 w5 n5 => ?_)
    simp only [Option.isNone_none, beq_self_eq_true, Br_true]
    refine Ld2i (n5.keeps.blk0 (k4.blk0 n3.at_)) ?_
    simp only [beq_self_eq_true, Bool.and_self, Br_true, Bool.not_false]
    refine relex_Text_none ?_
    simp only [beq_self_eq_true, Br_true]
    refine relex_Tokens_none ?_
    simp only [show (((0 : Nat) : Int) == 0) = true from rfl, Br_true]
    refine relex_Scanned_none ?_
    exact hK w5 ((((k1.trans k2).trans n3.keeps).trans k4).trans n5.keeps)
  · intro j hj
    exact Br.mk (fun _ => hj _ _ .refl) (fun _ => awake10_spec fun w1 k1 => hj _ _ k1)

/-- Scanner and tape of small classes and a text. -/
theorem bad_ne {cs : List Cls} {i : Nat} {e : Int} (hb : BadAt cs i e) : (e != (0 : Int)) = true := by
  obtain ⟨c, _, h⟩ := hb
  rcases h with ⟨rfl, _⟩ | ⟨h1, rfl⟩ | ⟨rfl, _⟩
  · rfl
  · simp; omega
  · rfl

theorem RelexAt_spec {M : Nat → Prop} {w : World} {l : Sl} {cs : List Cls} {text : ByteArray} {place : Int} {K : Bool → World → Prop} (hl : SlCls (V M w) l cs) (hlen : cs.length ≤ 1048576) (hsz : ∀ c ∈ cs, c.rx.size ≤ 1048576 ∧ c.n.size ≤ 1048576)
    (hK : ∀ w', Keeps No w w' → K true w') : frisketlaw10_RelexAt.C l text place w K := by
  have hbs := size_bs text
  refine frisketlaw10_RelexAt.ok _ _ _ _ _ ?_
  simp only [frisketlaw10_RelexAt.M]
  refine Join.cut (fun b w1 => Keeps No w w1 ∧ (b = false → Few cs ∧ text.size ≤ 100)) ?_ ?_
  rotate_left
  · intro j hj
    refine Great09_spec hl hlen hsz fun n w1 k1 hn => ?_
    refine Br.mk (fun _ => hj _ _ ⟨k1, fun e => (by cases e)⟩) (fun hf => Br.mk (fun _ => hj _ _ ⟨k1, fun e => (by cases e)⟩) (fun hf2 => ?_))
    refine awake10_spec fun w2 k2 => hj _ _ ⟨k1.trans k2, fun _ => ⟨hn (of_decide_eq_false hf), ?_⟩⟩
    have := of_decide_eq_false hf2
    omega
  rintro b w1 ⟨k1, hb⟩
  refine Br.mk (fun _ => awake10_spec fun w2 k2 => hK w2 (k1.trans k2)) (fun hbf => ?_)
  obtain ⟨hfew, h24⟩ := hb hbf
  have hfl := hfew.1
  refine scan_New_spec (hl.mono (V.keeps0 k1)) (by omega) hfew.small (fun _ => hK w1 k1) (fun i e w4 k4 hi _ hb' => ?_) (fun w4 k4 _ _ _ => hK w4 (k1.trans k4)) (fun s ms w3 k3 ⟨N, of_, hs⟩ hS => ?_)
  · dsimp only
    rw [bad_ne hb', Br_true]
    exact hK w4 (k1.trans k4)
  dsimp only
  rw [bne_self_eq_false, Br_false]
  refine relex_New_spec hs (by omega) fun bt lt w4 k4 hbt ht => ?_
  have k04 := (k1.trans k3).trans k4
  have htl := toks_len (ms := ms) (s := bs text)
  obtain ⟨pos, hp⟩ := posOf ms (bs text)
  dsimp only
  -- what At answers
  have main : ∀ (x : Tok) (ok : Bool) w5, Keeps No w4 w5 → ((ok = false ∧ x = ⟨0, 0, 0, 0⟩ ∧ ¬ (0 ≤ place ∧ place < text.size)) ∨ (ok = true ∧ ∃ i, (toksOf ms (bs text))[i]? = some x ∧ x.f ≤ place ∧ place < x.t ∧ ∀ (j : Nat) (y : Tok), j < i → (toksOf ms (bs text))[j]? = some y → y.t ≤ place)) →
      Al (.cells #[.int .i64 0, .int .i64 0, .int .i64 0, .int .i64 0] T.scan_Token (0, 0)) w5 fun b2 w6 => St ⟨b2, 0, none⟩ (.int .i64 x.c) w6 fun w7 => St ⟨b2, 1, none⟩ (.int .i64 x.f) w7 fun w8 => St ⟨b2, 2, none⟩ (.int .i64 x.t) w8 fun w9 => St ⟨b2, 3, none⟩ (.int .i64 x.l) w9 fun w10 => relex_Tape_Tokens.C (some ⟨bt, 0, none⟩) w10 fun x52 w11 => Loop (fun (s3 : Int) w12 again4 => Br (decide (s3 < (x52.n : Int))) (Join (fun (s5 : Bool) w13 => Br s5 (Draw w13 fun S6 w14 => Br ok (LdS S6 (.int .i64) (⟨b2, 0, none⟩) fun x77_0 => LdS S6 (.int .i64) (⟨b2, 1, none⟩) fun x77_1 => LdS S6 (.int .i64) (⟨b2, 2, none⟩) fun x77_2 => LdS S6 (.int .i64) (⟨b2, 3, none⟩) fun x77_3 => IdxS x52 s3 4 fun p80 => LdS S6 (.int .i64) p80 fun x81_0 => LdS S6 (.int .i64) (p80.add 1) fun x81_1 => LdS S6 (.int .i64) (p80.add 2) fun x81_2 => LdS S6 (.int .i64) (p80.add 3) fun x81_3 => K ((x77_0 == x81_0) && ((x77_1 == x81_1) && ((x77_2 == x81_2) && (x77_3 == x81_3)))) w14) (K false w14)) (again4 (w64 (s3 + (1 : Int))) w13)) fun j7 => IdxS x52 s3 4 fun p61 => Ld (.int .i64) (p61.add 1) w12 fun x63 => Br (decide (x63 ≤ place)) (IdxS x52 s3 4 fun p69 => Ld (.int .i64) (p69.add 2) w12 fun x71 => j7 (decide (place < x71)) w12) (j7 false w12)) (Br (!ok) (Ld (.int .i64) (⟨b2, 0, none⟩) w12 fun x87_0 => Ld (.int .i64) (⟨b2, 1, none⟩) w12 fun x87_1 => Ld (.int .i64) (⟨b2, 2, none⟩) w12 fun x87_2 => Ld (.int .i64) (⟨b2, 3, none⟩) w12 fun x87_3 => Br ((x87_0 == (0 : Int)) && ((x87_1 == (0 : Int)) && ((x87_2 == (0 : Int)) && (x87_3 == (0 : Int))))) (Br (decide (place < (0 : Int))) (K true w12) (K (decide ((text.size : Int) ≤ place)) w12)) (K false w12)) (K false w12))) 0 w11 := by
    intro x ok w5 k5 hx
    refine AlSt4 fun b2 w10 n10 => ?_
    have k410 := k5.trans n10.keeps
    refine relex_Tokens_spec (ht.keep k410) (by omega) fun lt2 w11 k11 ho => ?_
    have hv : SlTok (V No w11) lt2 (toksOf ms (bs text)) := ho.readsC (by omega) Tok.lens fun _ _ h => h
    have hvn : lt2.n = (toksOf ms (bs text)).length := by simpa using hv.1
    have hb2 := k11.blk0 n10.at_
    have k011 := k04.trans (k410.trans k11)
    refine Loop.mk (fun t w' => Keeps No w11 w' ∧ ∃ k : Nat, t = k ∧ k ≤ (toksOf ms (bs text)).length ∧ ∀ (j : Nat) (y : Tok), j < k → (toksOf ms (bs text))[j]? = some y → ¬ (y.f ≤ place ∧ place < y.t)) (fun t => (toksOf ms (bs text)).length - t.toNat) ⟨.refl, 0, rfl, by omega, fun j y h => by omega⟩ ?_
    rintro t w12 ⟨k12, k, rfl, hk, hno⟩ R hR
    refine Br.mk (fun e => ?_) (fun e => ?_)
    · have e : k < (toksOf ms (bs text)).length := by have := of_decide_eq_true e; omega
      have hv12 := hv.mono (V.keeps0 k12)
      have hxk := List.getElem?_eq_getElem e
      generalize (toksOf ms (bs text))[k] = y at hxk
      have one : ∀ {y' : Tok}, (toksOf ms (bs text))[(k : Int).toNat]? = some y' → y' = y := fun {y'} h => by rw [Int.toNat_natCast, hxk] at h; cases h; rfl
      refine Join.cut (fun b w' => w' = w12 ∧ (b = true ↔ (y.f ≤ place ∧ place < y.t))) ?_ ?_
      · rintro b w13 ⟨rfl, hb⟩
        refine Br.mk (fun e2 => ?_) (fun e2 => ?_)
        · obtain ⟨g1, g2⟩ := hb.1 e2
          refine Draw.kp fun w14 e14 k14 => ?_
          have hyb := hp.at_ k y hxk
          rcases hx with ⟨rfl, _, hout⟩ | ⟨rfl, i, hi, h1, h2, h3⟩
          · exfalso
            have := (hp.drop (k + 1) (by omega)).1
            omega
          · have hik : i = k := by
              rcases Nat.lt_trichotomy i k with h | h | h
              · exact absurd ⟨h1, h2⟩ (hno i x h hi)
              · exact h
              · have := h3 k y h hxk; omega
            subst hik
            rw [hxk] at hi; cases hi
            rw [Br_true]
            have hb14 := (k12.trans k14).blk0 hb2
            refine LdK.int (cell_of hb14 rfl) (LdK.int (cell_of hb14 rfl) (LdK.int (cell_of hb14 rfl) (LdK.int (cell_of hb14 rfl) ?_)))
            refine IdxS.tok (hv12.mono (V.keeps0 k14)) (by omega) (by omega) fun y' p hy' hp' => hp'.ldK ?_
            rw [one hy', tok_eq.2 rfl]
            exact hK w14 (k011.trans (k12.trans k14))
        · rw [w64_eq (by omega)]
          refine hR _ _ ⟨k12, k + 1, by omega, by omega, fun j y' hj hy' => ?_⟩ (by omega)
          by_cases hjk : j = k
          · subst hjk
            rw [hxk] at hy'; cases hy'
            intro h
            rw [hb.2 h] at e2; cases e2
          · exact hno j y' (by omega) hy'
      · intro j hj
        refine IdxS.tok hv12 (by omega) (by omega) fun y' p hy' hp' => Ld.int hp'.f ?_
        rw [one hy']
        refine Br.mk (fun e2 => ?_) (fun e2 => hj _ _ ⟨rfl, ⟨fun h => (by cases h), fun h => absurd h.1 (of_decide_eq_false e2)⟩⟩)
        refine IdxS.tok hv12 (by omega) (by omega) fun y' p hy' hp' => Ld.int hp'.t (hj _ _ ⟨rfl, ?_⟩)
        rw [one hy', decide_eq_true_eq]
        exact ⟨fun h => ⟨of_decide_eq_true e2, h⟩, fun h => h.2⟩
    · have e : k = (toksOf ms (bs text)).length := by have := of_decide_eq_false e; omega
      subst e
      rcases hx with ⟨rfl, rfl, hout⟩ | ⟨rfl, i, hi, h1, h2, h3⟩
      · rw [Bool.not_false, Br_true]
        refine Ld4i (k12.blk0 hb2) ?_
        simp only [beq_self_eq_true, Bool.and_self, Br_true]
        refine Br.mk (fun e2 => hK w12 (k011.trans k12)) (fun e2 => ?_)
        have e2 := of_decide_eq_false e2
        have : decide ((text.size : Int) ≤ place) = true := by rw [decide_eq_true_eq]; omega
        rw [this]
        exact hK w12 (k011.trans k12)
      · exact absurd ⟨h1, h2⟩ (hno i x (List.getElem?_eq_some_iff.1 hi).1 hi)
  refine relex_At_spec ht (by omega) (fun hout w5 k5 => main ⟨0, 0, 0, 0⟩ false w5 k5 (.inl ⟨rfl, rfl, hout⟩)) (fun i x w5 k5 h0 h1 hi hlt hlo => main x true w5 k5 (.inr ⟨rfl, i, hi, ?_, hlt, hlo⟩))
  have hx := hp.at_ i x hi
  rw [hx.2.1]
  rcases i with _ | i
  · rw [hp.zero]; exact h0
  · have hy := List.getElem?_eq_getElem (l := toksOf ms (bs text)) (i := i) (by have := (List.getElem?_eq_some_iff.1 hi).1; omega)
    have h3 := hlo i _ (by omega) hy
    have h4 := (hp.at_ i _ hy).2.2.1
    omega

theorem RelexSame_spec {M : Nat → Prop} {w : World} {l : Sl} {cs : List Cls} {text : ByteArray} {p0 q0 : Nat} {K : Bool → World → Prop} (hl : SlCls (V M w) l cs) (ha : p0 < 256) (hq : q0 < 256) (hlen : cs.length ≤ 1048576) (hsz : ∀ c ∈ cs, c.rx.size ≤ 1048576 ∧ c.n.size ≤ 1048576)
    (hK : ∀ w', Keeps No w w' → K true w') : frisketlaw10_RelexSame.C l text p0 q0 w K := by
  have hbs := size_bs text
  refine frisketlaw10_RelexSame.ok _ _ _ _ _ _ ?_
  simp only [frisketlaw10_RelexSame.M]
  refine Join.cut (fun b w1 => Keeps No w w1 ∧ (b = false → Few cs ∧ text.size ≤ 100)) ?_ ?_
  rotate_left
  · intro j hj
    refine Great09_spec hl hlen hsz fun n w1 k1 hn => ?_
    refine Br.mk (fun _ => hj _ _ ⟨k1, fun e => (by cases e)⟩) (fun hf => Br.mk (fun _ => hj _ _ ⟨k1, fun e => (by cases e)⟩) (fun hf2 => ?_))
    refine awake10_spec fun w2 k2 => hj _ _ ⟨k1.trans k2, fun _ => ⟨hn (of_decide_eq_false hf), ?_⟩⟩
    have := of_decide_eq_false hf2
    omega
  rintro b w1 ⟨k1, hb⟩
  refine Br.mk (fun _ => awake10_spec fun w2 k2 => hK w2 (k1.trans k2)) (fun hbf => ?_)
  obtain ⟨hfew, h24⟩ := hb hbf
  have hfl := hfew.1
  refine scan_New_spec (hl.mono (V.keeps0 k1)) (by omega) hfew.small (fun _ => hK w1 k1) (fun i e w4 k4 hi _ hb' => ?_) (fun w4 k4 _ _ _ => hK w4 (k1.trans k4)) (fun s ms w3 k3 ⟨N, of_, hs⟩ hS => ?_)
  · dsimp only
    rw [bad_ne hb', Br_true]
    exact hK w4 (k1.trans k4)
  dsimp only
  rw [bne_self_eq_false, Br_false]
  refine relex_New_spec hs (by omega) fun bt lt w4 k4 hbt ht => ?_
  have k04 := (k1.trans k3).trans k4
  have htl := toks_len (ms := ms) (s := bs text)
  dsimp only
  have e1 : w64 ((text.size : Int) + 1) = ((text.size + 1 : Nat) : Int) := by rw [w64_eq (by omega)]; omega
  have e2 : w64 (p0 : Int) = (p0 : Int) := w64_eq (by omega)
  have e3 : w64 (q0 : Int) = (q0 : Int) := w64_eq (by omega)
  rw [e1, e2, e3]
  have e4 : Int.tmod (p0 : Int) ((text.size + 1 : Nat) : Int) = ((p0 % (text.size + 1) : Nat) : Int) := (Int.ofNat_tmod _ _).symm
  rw [e4]
  have hx : p0 % (text.size + 1) < text.size + 1 := Nat.mod_lt _ (by omega)
  generalize p0 % (text.size + 1) = x at *
  have e5 : w64 ((text.size : Int) - (x : Int)) = ((text.size - x : Nat) : Int) := by rw [w64_eq (by omega)]; omega
  rw [e5]
  have e6 : w64 (((text.size - x : Nat) : Int) + 1) = ((text.size - x + 1 : Nat) : Int) := by rw [w64_eq (by omega)]; omega
  rw [e6]
  have e7 : Int.tmod (q0 : Int) ((text.size - x + 1 : Nat) : Int) = ((q0 % (text.size - x + 1) : Nat) : Int) := (Int.ofNat_tmod _ _).symm
  rw [e7]
  have hy : q0 % (text.size - x + 1) < text.size - x + 1 := Nat.mod_lt _ (by omega)
  generalize q0 % (text.size - x + 1) = y at *
  have e8 : w64 ((x : Int) + (y : Int)) = ((x + y : Nat) : Int) := by rw [w64_eq (by omega)]; omega
  rw [e8]
  refine ⟨by omega, by omega, ?_⟩
  refine relex_Tokens_spec ht (by omega) fun was w5 k5 ho5 => ?_
  refine App.mid (by omega) (by omega) ?_
  have hsx : (text.extract x (x + y)).size = y := by
    have := size_bs (text.extract x (x + y))
    rw [bs_cut, List.length_take, List.length_drop] at this; omega
  have hspl : splT text (text.extract x (x + y)) x (x + y) = text := by
    apply bs_inj
    rw [splT_bs, bs_cut, Nat.add_sub_cancel_left, List.append_assoc]
    have : ((bs text).drop x).take y ++ (bs text).drop (x + y) = (bs text).drop x := by
      rw [← List.drop_drop, List.take_append_drop]
    rw [this, List.take_append_drop]
  have ht5 := ht.keep k5
  refine relex_Splice_spec (from_ := x) (to_ := x + y) (hs.away (k4.trans k5) (by omega)) ht5 (by omega) (by omega) (by omega) (by omega) fun l' first m w6 k6 ht6 _ => ?_
  rw [hspl] at ht6
  have k06 : Keeps No w w6 := (k04.trans k5).no.then k6 fun b hb h => by have : b = bt := h; have := (k1.trans k3).size; omega
  refine AlSt2 fun b2 w7 n7 => ?_
  rw [beq_self_eq_true, Br_true]
  have ht7 := ht6.keep n7.keeps
  refine relex_Text_spec ht7 ?_
  rw [strEq.2 rfl, Br_true]
  refine relex_Tokens_spec ht7 (by omega) fun now w8 k8 ho8 => ?_
  have hw : ∀ b, was.blk b → b < w5.heap.size ∧ w4.heap.size ≤ b := fun b hb => ⟨(ho5.ge hb).2, (ho5.ge hb).1⟩
  have hbtlt := lt_of_some ht.obj
  have ho58 : Own w8 w4.heap.size T.scan_Token 4 was ((toksOf ms (bs text)).map Tok.cells).flatten := ((ho5.keep k6 fun b hb h => by have := (hw b h).2; have : b = bt := hb; omega).keep0 n7.keeps).keep0 k8
  refine same_spec (M := No) (M' := No) (ho8.readsC (by omega) Tok.lens fun _ _ h => h) (ho58.readsC (by omega) Tok.lens fun _ _ h => h) (by omega) fun r w9 k9 hr => ?_
  rw [hr.2 rfl]
  exact hK w9 (((k06.trans n7.keeps).trans k8).trans k9)
end Go.Fk
