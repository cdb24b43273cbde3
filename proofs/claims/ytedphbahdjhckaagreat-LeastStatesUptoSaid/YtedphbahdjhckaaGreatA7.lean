/-
  A part of the proof: what the functions of the program come to, read off the model: no premise of its own, no axiom. By an AI agent.
-/
import Derived.Test.YtedphbahdjhckaaGreatA6
import Derived.Test.YtedphbahdjhckaaGreatA2
import Derived.DeepKeys3
set_option linter.all false
section
set_option linter.unusedVariables false
namespace Go.Fk
open Go

theorem goTop_take {l : List Int} {t r u : Int} {c : Nat} {k : Int} (h : goTop l t = some r) (hc : l[c]? = some k) (hp : goTop (l.take c) t = some u) : (k < 0 ∨ k ≤ u + 1) ∧ goTop (l.take (c + 1)) t = some (if k < 0 then u else if u < k then k else u) := by
  have hlt := (List.getElem?_eq_some_iff.1 hc).1
  have hl : l = l.take c ++ k :: l.drop (c + 1) := by
    have h1 := (List.take_append_drop c l).symm
    have h2 : l.drop c = k :: l.drop (c + 1) := by
      rw [List.drop_eq_getElem_cons hlt]
      rw [List.getElem?_eq_getElem hlt] at hc
      rw [Option.some.inj hc]
    rw [h2] at h1
    exact h1
  have hk : k < 0 ∨ k ≤ u + 1 := by
    rw [hl, goTop_append, hp] at h
    simp only [Option.bind_some, goTop] at h
    by_cases h0 : k < 0
    · exact .inl h0
    · rw [if_neg h0] at h
      by_cases h1 : u + 1 < k
      · rw [if_pos h1] at h; cases h
      · exact .inr (by omega)
  refine ⟨hk, ?_⟩
  have ht : l.take (c + 1) = l.take c ++ [k] := by rw [List.take_add_one, hc]; rfl
  rw [ht, goTop_append, hp]
  simp only [Option.bind_some, goTop]
  by_cases h0 : k < 0
  · simp [h0]
  · rw [if_neg h0, if_neg (by omega), if_neg h0]

theorem rowL_get {f : Nat → Int} {c : Nat} (h : c < 256) : (rowL f)[c]? = some (f c) := by simp [rowL, h]
theorem rowL_len {f : Nat → Int} : (rowL f).length = 256 := by simp [rowL]

theorem u8_small {c : Nat} (h : c < 256) : IntKind.wrap .u8 (c : Int) = (c : Int) := IntWalk.u8_in _ (by omega)

set_option maxRecDepth 20000 in
theorem DfaClasses_spec {M : Nat → Prop} {w : World} {l : Sl} {ss : List ByteArray} {a b : Nat} {K : Bool → World → Prop} (hl : SlT .str (V M w) l ss) (ha : a < 256) (hb : b < 256) (hlen : ss.length ≤ 1048576) (hsz : ∀ s ∈ ss, s.size ≤ 1048576) (hK : ∀ w', Keeps No w w' → K true w') : frisketlaw07_DfaClasses.C l a b w K := by
  refine frisketlaw07_DfaClasses.ok _ _ _ _ _ ?_
  simp only [frisketlaw07_DfaClasses.M]
  refine Join.cut (fun b w1 => Keeps No w w1 ∧ (b = false → (ss.length ≤ 6 ∧ ∀ s ∈ ss, s.size ≤ 40))) ?_ ?_
  · rintro b' w1 ⟨k1, hb'⟩
    refine Br.mk (fun _ => awake7_spec fun w2 k2 => hK w2 (k1.trans k2)) (fun hbf => ?_)
    obtain ⟨h6, h40⟩ := hb' hbf
    refine Make_spec (hl.mono (V.keeps0 k1)) (fun s hs => by have := h40 s hs; unfold Small; omega) (by omega) (fun w2 k2 _ => ?_) fun d bb xs vs svs cl nc w2 k2 hm => ?_
    · exact hK w2 (k1.trans k2)
    · have hsome : d.isNone = false := by have := hm.dv.some; simpa using this
      dsimp only
      rw [hsome]
      have hd : DfaO (V No w2) d svs cl nc := .inr hm.dv
      have hfew := hm.ok.few
      have hcl := hm.ok.cls
      show Loop _ _ _
      refine Loop.mk (fun t w' => w' = w2 ∧ ∃ n : Nat, n ≤ svs.length ∧ t.2 = (n : Int) ∧ (t.1 = true ↔ ∀ j, j < n → nextOf svs (j : Nat) a = nextOf svs (j : Nat) b)) (fun t => svs.length - t.2.toNat) ⟨rfl, 0, by omega, rfl, by simp⟩ ?_
      rintro ⟨is, nn⟩ w3 ⟨rfl, n, hn, hnn, his⟩ R hR
      dsimp only at hnn his ⊢
      subst hnn
      refine dfa_States_spec hd ?_
      refine Br.mk (fun ht => ?_) (fun hf => ?_)
      · have ht : n < svs.length := by have := of_decide_eq_true ht; omega
        have e4 : w64 ((n : Int) + 1) = ((n + 1 : Nat) : Int) := by rw [w64_eq (by omega)]; omega
        rw [e4]
        refine dfa_Next_spec hd ha (dfa_Next_spec hd hb ?_)
        have split : (∀ j, j < n + 1 → nextOf svs (j : Nat) a = nextOf svs (j : Nat) b) ↔ (∀ j, j < n → nextOf svs (j : Nat) a = nextOf svs (j : Nat) b) ∧ nextOf svs (n : Nat) a = nextOf svs (n : Nat) b := by
          constructor
          · intro h; exact ⟨fun j hj => h j (by omega), h n (by omega)⟩
          · rintro ⟨h1, h2⟩ j hj
            by_cases e : j = n
            · subst e; exact h2
            · exact h1 j (by omega)
        refine Br.mk (fun hi => Br.mk (fun he => ?_) (fun he => ?_)) (fun hi => ?_)
        · have he : (nextOf svs (n : Nat) a).1 = (nextOf svs (n : Nat) b).1 := by simpa using he
          refine hR _ _ ⟨rfl, n + 1, by omega, rfl, ?_⟩ (by dsimp only; omega)
          dsimp only
          rw [split]
          have h1 := his.1 hi
          constructor
          · intro h
            have h : (nextOf svs (n : Nat) a).2 = (nextOf svs (n : Nat) b).2 := by simpa using h
            exact ⟨h1, Prod.ext he h⟩
          · rintro ⟨_, h⟩; rw [h]; simp
        · have he : ¬ (nextOf svs (n : Nat) a).1 = (nextOf svs (n : Nat) b).1 := by simpa using he
          refine hR _ _ ⟨rfl, n + 1, by omega, rfl, ?_⟩ (by dsimp only; omega)
          dsimp only
          rw [split]
          exact ⟨(fun h => by cases h), fun h => absurd (congrArg Prod.fst h.2) he⟩
        · refine hR _ _ ⟨rfl, n + 1, by omega, rfl, ?_⟩ (by dsimp only; omega)
          dsimp only
          rw [split]
          exact ⟨(fun h => by cases h), fun h => by rw [his.2 h.1] at hi; cases hi⟩
      · have hf : n = svs.length := by have := of_decide_eq_false hf; omega
        subst hf
        have hisc : is = true ↔ cl a = cl b := by
          rw [his, hcl.iff a b ha hb]
          unfold colOf
          constructor
          · intro h
            refine List.map_congr_left fun sv hs => ?_
            obtain ⟨j, hj⟩ := List.getElem?_of_mem hs
            have hlt := (List.getElem?_eq_some_iff.1 hj).1
            have := h j hlt
            have hat : stAt svs ((j : Nat) : Int) = some sv := stAt_in (by omega) (by simpa using hj)
            simp only [nextOf, hat] at this
            by_cases e1 : sv.nx a = -1 <;> by_cases e2 : sv.nx b = -1
            · rw [e1, e2]
            · simp [e1, e2] at this
            · simp [e1, e2] at this
            · simp [e1, e2] at this; rw [this]
          · intro h j hj
            have hx : svs[j]? = some svs[j] := List.getElem?_eq_getElem hj
            have hat : stAt svs ((j : Nat) : Int) = some svs[j] := stAt_in (by omega) (by simpa using hx)
            have h2 := congrArg (fun l => l[j]?) h
            simp only [List.getElem?_map, hx, Option.map_some, Option.some.injEq] at h2
            have h3 : (svs[j]).nx a = (svs[j]).nx b := by omega
            simp only [nextOf, hat, h3]
        refine Loop.mk (fun t w' => w' = w3 ∧ ∃ c : Nat, c ≤ 256 ∧ t.2 = (c : Int) ∧ goTop ((rowL cl).take c) (-1) = some t.1 ∧ -1 ≤ t.1 ∧ t.1 < c) (fun t => 256 - t.2.toNat) ⟨rfl, 0, by omega, rfl, by simp [goTop], by simp, by simp⟩ ?_
        rintro ⟨top, cc⟩ w4 ⟨rfl, c, hc, hcc, htop, ht0, ht1⟩ R2 hR2
        dsimp only at hcc htop ht0 ht1 ⊢
        subst hcc
        refine Br.mk (fun ht => ?_) (fun hf => ?_)
        · have ht : c < 256 := by have := of_decide_eq_true ht; omega
          rw [u8_small ht]
          refine dfa_Class_spec hd ht ?_
          obtain ⟨g1, g2⟩ := goTop_take hcl.top (rowL_get ht) htop
          have g0 := hcl.pos c ht
          refine Join.cut (fun (s6 : Bool) w' => w' = w4 ∧ s6 = false) ?_ ?_
          · rintro s6 w' ⟨rfl, rfl⟩
            refine App.max2 ?_
            have e4 : w64 ((c : Int) + 1) = ((c + 1 : Nat) : Int) := by rw [w64_eq (by omega)]; omega
            rw [e4]
            have e5 : (if cl c < 0 then top else if top < cl c then cl c else top) = (if cl c > top then cl c else top) := by
              rw [if_neg (by omega)]
            rw [e5] at g2
            refine hR2 _ _ ⟨rfl, c + 1, by omega, rfl, g2, ?_, ?_⟩ (by dsimp only; omega)
            · dsimp only; split <;> omega
            · dsimp only; split <;> omega
          · intro j hj
            refine Br.mk (fun h => absurd (of_decide_eq_true h) (by omega)) (fun _ => hj _ _ ⟨rfl, ?_⟩)
            rw [w64_eq (by omega)]
            exact decide_eq_false (by omega)
        · have hf : c = 256 := by have := of_decide_eq_false hf; omega
          subst hf
          rw [List.take_of_length_le (by rw [rowL_len]; omega), hcl.top] at htop
          have htop : nc - 1 = top := Option.some.inj htop
          refine dfa_Classes_spec hd ?_
          rw [w64_eq (by omega), htop]
          simp only [beq_self_eq_true, Br_true]
          refine dfa_Class_spec hd ha (dfa_Class_spec hd hb ?_)
          have : ((cl a == cl b) == is) = true := by
            by_cases e : cl a = cl b
            · rw [hisc.2 e]; simp [e]
            · have : is = false := by cases h : is with | false => rfl | true => exact absurd (hisc.1 h) e
              rw [this]; simp [e]
          rw [this]
          exact hK w4 (k1.trans k2)
  · intro j hj
    refine Great_spec hl hlen hsz fun n hn => ?_
    refine Br.mk (fun _ => hj _ _ ⟨.refl, fun e => by cases e⟩) (fun hf => ?_)
    exact awake7_spec fun w1 k1 => hj _ _ ⟨k1, fun _ => hn (of_decide_eq_false hf)⟩
end Go.Fk
end

section
set_option linter.unusedVariables false
namespace Go.Fk
open Go

theorem same_spec {M : Nat → Prop} {w : World} {a b : Sl} {xs ys : List Int} {K : Bool → World → Prop} (ha : SlT (.int .i64) (V M w) a xs) (hb : SlT (.int .i64) (V M w) b ys) (hlen : xs.length < 1000000000)
    (hK : ∀ w', Keeps No w w' → K (decide (xs = ys)) w') : frisketlaw07_same.C a b w K := by
  refine frisketlaw07_same.ok _ _ _ _ ?_
  simp only [frisketlaw07_same.M]
  have h1 := ha.1; have h2 := hb.1
  refine Br.mk (fun ht => ?_) (fun hf => ?_)
  · have hne : xs ≠ ys := fun e => by subst e; simp [h1, h2] at ht
    have := hK w Keeps.refl
    rwa [decide_eq_false hne] at this
  · have hl : xs.length = ys.length := by
      have : (a.n : Int) = b.n := by simpa using hf
      omega
    refine Loop.mk (fun s w' => Keeps No w w' ∧ 0 ≤ s ∧ s ≤ xs.length ∧ ∀ i : Nat, i < s → xs[i]? = ys[i]?) (fun s => (xs.length : Nat) - s.toNat) ⟨Keeps.refl, by omega, by omega, fun i hi => by omega⟩ ?_
    rintro s w1 ⟨k1, g0, g1, g2⟩ R hR
    refine Br.mk (fun ht => ?_) (fun hf => ?_)
    · have ht : s < xs.length := by simpa [h1] using ht
      refine Draw.mk fun w2 e2 k2 => ?_
      have hS : ∀ w', w' = w2 → Vle (V M w) (V No w') := fun w' e => e ▸ (V.keeps0 (k1.trans k2)).trans (V.sub fun _ _ h => h.elim)
      refine IdxS.getS ha hS g0 ht fun x hx => IdxS.getS hb hS g0 (by omega) fun y hy => ?_
      refine Br.mk (fun he => ?_) (fun he => ?_)
      · have hne : x ≠ y := by simpa using he
        have hne2 : xs ≠ ys := fun e => by subst e; rw [hx] at hy; cases hy; exact hne rfl
        have := hK w2 (k1.trans k2)
        rwa [decide_eq_false hne2] at this
      · have heq : x = y := by simpa using he
        rw [w64_eq (by omega)]
        refine hR _ w2 ⟨k1.trans k2, by omega, by omega, fun i hi => ?_⟩ (by omega)
        by_cases e : (i : Int) = s
        · have : s.toNat = i := by omega
          rw [this] at hx hy
          rw [hx, hy, heq]
        · exact g2 i (by omega)
    · have hf : (xs.length : Int) ≤ s := by have := of_decide_eq_false hf; omega
      have he : xs = ys := by
        refine List.ext_getElem? fun i => ?_
        by_cases hi : i < xs.length
        · exact g2 i (by omega)
        · rw [List.getElem?_eq_none (by omega), List.getElem?_eq_none (by omega)]
      have := hK w1 k1
      rwa [decide_eq_true he] at this

theorem has_spec {M : Nat → Prop} {w : World} {l : Sl} {xs : List Int} {v : Int} {K : Bool → World → Prop} (hl : SlT (.int .i64) (V M w) l xs) (hlen : xs.length ≤ 1000000000) (hK : K (decide (v ∈ xs)) w) : frisketlaw07_has.C l v w K := by
  have hn := hl.1
  refine frisketlaw07_has.ok _ _ _ _ ?_
  simp only [frisketlaw07_has.M]
  refine Loop.mk (fun s w' => w' = w ∧ 0 ≤ s ∧ s ≤ xs.length ∧ ∀ i : Nat, i < s → xs[i]? ≠ some v) (fun s => (xs.length : Nat) - s.toNat) ⟨rfl, by omega, by omega, fun i hi => by omega⟩ ?_
  rintro s w1 ⟨rfl, h0, h1, h2⟩ R hR
  refine Br.mk (fun ht => ?_) (fun hf => ?_)
  · have ht : s < xs.length := by simpa [hn] using ht
    refine IdxS.get (M := M) hl h0 ht fun q hq => ?_
    refine Br.mk (fun hz => ?_) (fun hz => ?_)
    · have : q = v := by simpa using hz
      subst this
      rwa [decide_eq_true (List.mem_of_getElem? hq)] at hK
    · have hne : q ≠ v := by simpa using hz
      rw [w64_eq (by omega)]
      refine hR _ _ ⟨rfl, by omega, by omega, fun i hi => ?_⟩ (by omega)
      by_cases e : (i : Int) = s
      · have : s.toNat = i := by omega
        rw [this] at hq
        rw [hq]
        rintro ⟨⟩
        exact hne rfl
      · exact h2 i (by omega)
  · have hf : (xs.length : Int) ≤ s := by have := of_decide_eq_false hf; omega
    have hno : v ∉ xs := fun h => by
      obtain ⟨i, hi⟩ := List.getElem?_of_mem h
      have := (List.getElem?_eq_some_iff.1 hi).1
      exact absurd hi (h2 i (by omega))
    rwa [decide_eq_false hno] at hK

/-- All that is met, one behind the other. -/
def allSeq (svs : List DSt) : List Int := seqOf svs.length 0 svs
theorem allSeq_get {svs : List DSt} {n : Nat} {sv : DSt} {b : Nat} (h : svs[n]? = some sv) (hb : b < 256) : (allSeq svs)[n * 256 + b]? = some (sv.nx b) := by
  unfold allSeq seqOf
  simp only [List.range_zero, List.map_nil, List.append_nil]
  rw [List.flatMap_def]
  have hlt := (List.getElem?_eq_some_iff.1 h).1
  refine flatten_get (sz := 256) (fun c hc => ?_) (i := n) (c := rowL (nxAt svs n)) ?_ ?_
  · obtain ⟨i, _, rfl⟩ := List.mem_map.1 hc
    exact rowL_len
  · rw [List.getElem?_map]
    simp [hlt]
  · rw [rowL_get hb]
    simp [nxAt, h]
theorem allSeq_len {svs : List DSt} : (allSeq svs).length = svs.length * 256 := by
  unfold allSeq seqOf
  simp only [List.range_zero, List.map_nil, List.append_nil]
  rw [List.flatMap_def, flatten_len (sz := 256) (fun c hc => by obtain ⟨i, _, rfl⟩ := List.mem_map.1 hc; exact rowL_len)]
  simp

/-- By the machine: what may stand behind a state's positions and has the byte, found as the law finds it. -/
theorem step_law {fs : List ((Nat → Bool) × Int)} {F : Int → Int → Prop} {ks : List Kn} {xs : List Int} {c : Nat} {q : Int} (hown : ∀ (r : Nat), (knAt ks r).first q → ruleAt fs q = r) :
    stepS fs F ks xs c q ↔ ((xs = [] ∧ (knAt ks (ruleAt fs q)).first q) ∨ ∃ p ∈ xs, F p q) ∧ hasAt fs q c = true := by
  unfold stepS nextSet
  constructor
  · rintro ⟨⟨h0, r, hr, hf⟩ | h, hh⟩
    · exact ⟨.inl ⟨h0, by rw [hown r hf]; exact hf⟩, hh⟩
    · exact ⟨.inr h, hh⟩
  · rintro ⟨⟨h0, hf⟩ | h, hh⟩
    · refine ⟨.inl ⟨h0, ?_⟩, hh⟩
      by_cases hi : 0 ≤ ruleAt fs q ∧ ruleAt fs q < ks.length
      · refine ⟨(ruleAt fs q).toNat, by omega, ?_⟩
        have : (((ruleAt fs q).toNat : Nat) : Int) = ruleAt fs q := by omega
        rw [this]; exact hf
      · rw [knAt_out hi] at hf; exact hf.elim
    · exact ⟨.inr h, hh⟩

set_option maxRecDepth 20000 in
theorem DfaStates_spec {M : Nat → Prop} {w : World} {l : Sl} {ss : List ByteArray} {c : Nat} {K : Bool → World → Prop} (hl : SlT .str (V M w) l ss) (hc : c < 256) (hlen : ss.length ≤ 1048576) (hsz : ∀ s ∈ ss, s.size ≤ 1048576) (hK : ∀ w', Keeps No w w' → K true w') : frisketlaw07_DfaStates.C l c w K := by
  refine frisketlaw07_DfaStates.ok _ _ _ _ ?_
  simp only [frisketlaw07_DfaStates.M]
  refine Join.cut (fun b w1 => Keeps No w w1 ∧ (b = false → (ss.length ≤ 6 ∧ ∀ s ∈ ss, s.size ≤ 40))) ?_ ?_
  · rintro b' w1 ⟨k1, hb'⟩
    refine Br.mk (fun _ => awake7_spec fun w2 k2 => hK w2 (k1.trans k2)) (fun hbf => ?_)
    obtain ⟨h6, h40⟩ := hb' hbf
    refine Rules_spec (hl.mono (V.keeps0 k1)) (fun s hs => by have := h40 s hs; unfold Small; omega) (by omega) fun a b bad ps ys vs xs w4 k4 tw hnorm hyl hys hyr => ?_
    have k04 := k1.trans k4
    have hal := tw.na.length
    have hsa : SlT .ptr (V No w4) a ps := tw.oa.reads fun _ _ h => h
    by_cases hps : ps = []
    · exact nfa_New_none hsa (by rw [hal]; omega) (.inl hps) (dfa_New_nil (hK w4 k04))
    have hna : All2 (Nd (V No w4)) ps ys := tw.na.mono fun _ _ x => x.mono (V.sub fun _ _ h => h.elim)
    refine nfa_New_spec (fun _ h => h.elim) hsa hna hps (by omega) (fun y hy => by have := hys y hy; omega) fun m e w5 k5 g1 g2 => ?_
    have k05 := k04.trans k5
    by_cases hcm : mCnt ys ≤ 2000
    case neg =>
      obtain ⟨rfl, rfl⟩ := g2 (by omega)
      exact dfa_New_nil (hK w5 k05)
    obtain ⟨rfl, hm⟩ := g1 hcm
    have hmo : MachO (V No w5) m _ _ _ := .inr hm
    have hmn : m ≠ none := by
      obtain ⟨bm, _, _, _, _, rfl, _⟩ := hm.ex
      simp
    have hmi : m.isNone = false := by cases m with | none => exact absurd rfl hmn | some a => rfl
    refine dfa_New_spec hmo hmn (by rw [mKs_len]; omega) (fun d svs cl nc w6 k6 hdv hok => ?_) (fun w6 k6 hg => ?_)
    case refine_2 =>
      dsimp only
      rw [hmi]
      exact hK w6 (k05.trans k6)
    dsimp only
    rw [hmi, Br_false]
    have k06 := k05.trans k6
    have hsome : d.isNone = false := by have := hdv.some; simpa using this
    have hm6 : MachO (V No w6) m _ _ _ := hmo.mono (V.keeps0 k6)
    have hd6 : DfaO (V No w6) d svs cl nc := .inr hdv
    refine Join.cut (fun (s2 : Bool) w' => w' = w6 ∧ (s2 = false → svs.length ≤ 200)) ?_ ?_
    case refine_2 =>
      intro j hj
      refine Br.mk (fun h => by cases h) (fun _ => ?_)
      refine dfa_States_spec hd6 (hj _ _ ⟨rfl, fun e => ?_⟩)
      have := of_decide_eq_false e
      omega
    rintro s2 w' ⟨rfl, h200⟩
    refine Br.mk (fun _ => ?_) (fun hs2 => ?_)
    · rw [hsome]
      exact hK w' k06
    have h200 := h200 hs2
    have hxl : ∀ sv ∈ svs, sv.xs.length ≤ 2000 := fun sv hs => by
      have hr := hok.sts.rise sv hs
      have hfew := hm6.few
      exact nodup_bound 2000 sv.xs (hr.1.imp fun {a b} h e => by omega) fun q hq => by have := hr.2 q hq; omega
    have hwhole : goTop (allSeq svs) 0 = some ((svs.length : Int) - 1) := hok.done.top
    -- the states
    refine Loop.mk (fun t w7 => Keeps No w' w7 ∧ ∃ n : Nat, n ≤ svs.length ∧ t.2 = (n : Int) ∧ goTop ((allSeq svs).take (n * 256)) 0 = some t.1 ∧ 0 ≤ t.1 ∧ t.1 ≤ 200) (fun t => svs.length - t.2.toNat) ⟨.refl, 0, by omega, rfl, by simp [goTop], by simp, by simp⟩ ?_
    rintro ⟨top, nn⟩ w7 ⟨k7, n, hn, hnn, htop, ht0, ht1⟩ R hR
    dsimp only at hnn htop ht0 ht1 ⊢
    subst hnn
    have hd7 := hd6.mono (V.keeps0 k7)
    have hm7 := hm6.mono (V.keeps0 k7)
    refine dfa_States_spec hd7 ?_
    refine Br.mk (fun ht => ?_) (fun hf => ?_)
    case refine_2 =>
      have hf : n = svs.length := by have := of_decide_eq_false hf; omega
      subst hf
      rw [List.take_of_length_le (by rw [allSeq_len]; omega), hwhole] at htop
      have htop : (svs.length : Int) - 1 = top := Option.some.inj htop
      refine dfa_States_spec hd7 ?_
      rw [w64_eq (by omega), htop]
      simpa using hK w7 (k06.trans k7)
    have ht : n < svs.length := by have := of_decide_eq_true ht; omega
    have hsv : svs[n]? = some svs[n] := List.getElem?_eq_getElem ht
    generalize svs[n] = sv at hsv
    have hsm := List.mem_of_getElem? hsv
    have hat : stAt svs (n : Int) = some sv := stAt_in (by omega) (by simpa using hsv)
    have hxr := hok.sts.rise sv hsm
    refine dfa_Positions_spec hd7 hxl fun p w8 k8 hp => ?_
    rw [hat] at hp
    have hp : SlT (.int .i64) (V No w8) p sv.xs := hp
    have hpn := hp.1
    have hxl1 := hxl sv hsm
    have hx0 : sv.xs = [] ↔ n = 0 := by
      constructor
      · intro h
        refine Decidable.byContradiction fun h0 => hok.sts.ne n sv hsv (by omega) h
      · rintro rfl
        obtain ⟨sv0, q1, q2⟩ := hok.sts.zero
        rw [hsv] at q1; cases q1; exact q2
    refine Join.cut (fun (s5 : Bool) w' => w' = w8 ∧ s5 = false) ?_ ?_
    case refine_2 =>
      intro j hj
      by_cases h0 : n = 0
      · have hp0 : p.n = 0 := by rw [hpn, hx0.2 h0]; rfl
        subst h0
        rw [hp0]
        exact hj false w8 ⟨rfl, rfl⟩
      · have hp1 : ¬ p.n = 0 := by rw [hpn]; intro e; exact h0 (hx0.1 (List.eq_nil_of_length_eq_zero e))
        have e1 : decide ((0 : Int) < (n : Int)) = true := decide_eq_true (by omega)
        have e2 : ((p.n : Int) == 0) = false := by simp; omega
        have e3 : ((n : Int) == 0) = false := by simp; omega
        rw [e1, e2, e3]
        exact hj false w8 ⟨rfl, rfl⟩
    rintro s5 w8' ⟨rfl, rfl⟩
    show Loop _ _ _
    have k78 := k7.trans k8
    -- what is wanted
    refine Loop.mk (fun t w9 => Keeps No w8' w9 ∧ ∃ (q : Nat) (zs : List Int), q ≤ (mFs 0 ys).length ∧ t.2 = (q : Int) ∧ Own w9 w8'.heap.size T.int 1 t.1 (zs.map (Ty.int .i64).enc) ∧ zs.Pairwise (· < ·) ∧ ∀ x, x ∈ zs ↔ (0 ≤ x ∧ x < q) ∧ stepS (mFs 0 ys) (mFol 0 ys) (mKs 0 ys) sv.xs c x) (fun t => (mFs 0 ys).length - t.2.toNat) ⟨.refl, 0, [], by omega, rfl, Own.nil _ _ _ _, .nil, fun x => by simp; omega⟩ ?_
    rintro ⟨o, qq⟩ w9 ⟨k9, q, zs, hq, hqq, ho, hz1, hz2⟩ R2 hR2
    dsimp only at hqq ho ⊢
    subst hqq
    have hm9 := hm7.mono (V.keeps0 (k8.trans k9))
    have hd9 := hd7.mono (V.keeps0 (k8.trans k9))
    have hfew := hm9.few
    have hzl : zs.length ≤ 2000 := nodup_bound 2000 zs (hz1.imp fun {a b} h e => by omega) fun x hx => by have := ((hz2 x).1 hx).1; omega
    refine nfa_Machine_Len_spec hm9 ?_
    refine Br.mk (fun htq => ?_) (fun hfq => ?_)
    · -- one position
      have htq : q < (mFs 0 ys).length := by have := of_decide_eq_true htq; omega
      have e4 : w64 ((q : Int) + 1) = ((q + 1 : Nat) : Int) := by rw [w64_eq (by omega)]; omega
      refine Loop.mk (fun t w10 => Keeps No w9 w10 ∧ ∃ i : Nat, i ≤ sv.xs.length ∧ t.2 = (i : Int) ∧ (t.1 = true ↔ ∃ x ∈ sv.xs.take i, mFol 0 ys x q)) (fun t => sv.xs.length - t.2.toNat) ⟨.refl, 0, by omega, rfl, by simp⟩ ?_
      rintro ⟨is, ii⟩ w10 ⟨k10, i, hi, hii, his⟩ R3 hR3
      dsimp only at hii his ⊢
      subst hii
      refine Br.mk (fun hti => ?_) (fun hfi => ?_)
      · have hti : i < sv.xs.length := by have := of_decide_eq_true hti; omega
        have e5 : w64 ((i : Int) + 1) = ((i + 1 : Nat) : Int) := by rw [w64_eq (by omega)]; omega
        rw [e5]
        have hx : sv.xs[i]? = some sv.xs[i] := List.getElem?_eq_getElem hti
        have htk : sv.xs.take (i + 1) = sv.xs.take i ++ [sv.xs[i]] := by rw [List.take_add_one, hx]; rfl
        refine Br.mk (fun hist => ?_) (fun hisf => ?_)
        · refine hR3 _ w10 ⟨k10, i + 1, by omega, rfl, ?_⟩ (by dsimp only; omega)
          dsimp only
          rw [htk]
          obtain ⟨x, hx1, hx2⟩ := his.1 hist
          exact ⟨fun _ => ⟨x, List.mem_append_left _ hx1, hx2⟩, fun _ => rfl⟩
        · refine IdxS.get (M := No) (hp.mono (V.keeps0 (k9.trans k10))) (by omega) (by omega) fun x hx' => ?_
          simp only [Int.toNat_natCast] at hx'
          rw [hx] at hx'
          cases hx'
          refine nfa_Machine_Follow_spec (hm9.mono (V.keeps0 k10)) fun lf us w11 k11 o11 r11 => ?_
          have hul : us.length ≤ 2000 := nodup_bound 2000 us (r11.1.imp fun {a b} h e => by omega) fun y hy => by
            have h1 := (r11.2 y).1 hy
            have := hm9.fin h1.1 h1.2; omega
          refine has_spec (M := No) (o11.reads fun _ _ h => h) (by omega) ?_
          refine hR3 _ w11 ⟨k10.trans k11, i + 1, by omega, rfl, ?_⟩ (by dsimp only; omega)
          have hxin := hxr.2 sv.xs[i] (List.getElem_mem hti)
          have hno : ¬ ∃ x ∈ sv.xs.take i, mFol 0 ys x q := fun h => by rw [his.2 h] at hisf; cases hisf
          show decide ((q : Int) ∈ us) = true ↔ _
          rw [decide_eq_true_iff, r11.2, htk]
          constructor
          · rintro ⟨_, h⟩; exact ⟨sv.xs[i], List.mem_append_right _ (List.mem_singleton.2 rfl), h⟩
          · rintro ⟨x, h1, h2⟩
            rcases List.mem_append.1 h1 with h1 | h1
            · exact absurd ⟨x, h1, h2⟩ hno
            · simp only [List.mem_singleton] at h1
              subst h1; exact ⟨hxin, h2⟩
      · have hfi : i = sv.xs.length := by have := of_decide_eq_false hfi; omega
        subst hfi
        rw [List.take_length] at his
        have hm10 := hm9.mono (V.keeps0 k10)
        have hstep := step_law (fs := mFs 0 ys) (F := mFol 0 ys) (ks := mKs 0 ys) (xs := sv.xs) (c := c) (q := (q : Int)) (fun r hf => ruleAt_first (.inl hf))
        refine Join.cut (fun (s10 : Bool) w11 => Keeps No w9 w11 ∧ (s10 = true ↔ ((sv.xs = [] ∧ (knAt (mKs 0 ys) (ruleAt (mFs 0 ys) q)).first q) ∨ ∃ p ∈ sv.xs, mFol 0 ys p q))) ?_ ?_
        case refine_2 =>
          intro j hj
          refine Br.mk (fun h0 => ?_) (fun h0 => ?_)
          · have h0 : n = 0 := by have : (n : Int) = 0 := by simpa using h0
                                  omega
            have hxe := hx0.2 h0
            refine nfa_Machine_Rule_spec hm10 fun w11 k11 => ?_
            refine nfa_Machine_First_spec (hm10.mono (V.keeps0 k11)) fun lf us w12 k12 o12 r12 => ?_
            have hul : us.length ≤ 2000 := nodup_bound 2000 us (r12.1.imp fun {a b} h e => by omega) fun y hy => by
              have := hm10.kin _ y (.inl ((r12.2 y).1 hy)); omega
            refine has_spec (M := No) (o12.reads fun _ _ h => h) (by omega) (hj _ _ ⟨(k10.trans k11).trans k12, ?_⟩)
            rw [decide_eq_true_iff, r12.2]
            simp [hxe]
          · have h0 : ¬ n = 0 := by have : ¬ (n : Int) = 0 := by simpa using h0
                                    omega
            have hxe : sv.xs ≠ [] := fun e => h0 (hx0.1 e)
            refine hj _ _ ⟨k10, ?_⟩
            rw [his]
            simp [hxe]
        rintro s10 w11 ⟨k11, hs10⟩
        have hm11 := hm9.mono (V.keeps0 k11)
        refine Join.cut (fun (s11 : Bool) w12 => Keeps No w9 w12 ∧ (s11 = true ↔ stepS (mFs 0 ys) (mFol 0 ys) (mKs 0 ys) sv.xs c q)) ?_ ?_
        case refine_2 =>
          intro j hj
          refine Br.mk (fun h0 => ?_) (fun h0 => ?_)
          · refine nfa_Machine_Has_spec hm11 hc fun w12 k12 => hj _ _ ⟨k11.trans k12, ?_⟩
            rw [hstep]
            exact ⟨fun h => ⟨hs10.1 h0, h⟩, fun h => h.2⟩
          · refine hj _ _ ⟨k11, ?_⟩
            rw [hstep]
            exact ⟨(fun h => by cases h), fun h => by rw [hs10.2 h.1] at h0; cases h0⟩
        rintro s11 w12 ⟨k12, hs11⟩
        rw [e4]
        have ho12 := ho.keep0 k12
        have hol := ho12.len
        simp at hol
        refine Br.mk (fun h0 => ?_) (fun h0 => ?_)
        · have z12 := (k9.trans k12).size
          refine append1 (t := .int .i64) (x := (q : Int)) elInt ho12 rfl (by omega) (by omega) z12 fun o' w13 o13 m13 k13 g13 => ?_
          refine hR2 _ w13 ⟨((k9.trans k12).no (M := No)).then k13 fun b hb hbl => by have := (ho12.ge hbl).1; have : b < w8'.heap.size := hb; omega, q + 1, zs ++ [(q : Int)], by omega, rfl, o13, ?_, fun x => ?_⟩ (by dsimp only; omega)
          · rw [List.pairwise_append]
            exact ⟨hz1, by simp, fun a ha b hb => by simp at hb; subst hb; exact ((hz2 a).1 ha).1.2⟩
          · rw [List.mem_append, hz2]
            constructor
            · rintro (⟨h1, h2⟩ | h)
              · exact ⟨by omega, h2⟩
              · simp at h; subst h; exact ⟨by omega, hs11.1 h0⟩
            · rintro ⟨h1, h2⟩
              by_cases e : x = q
              · exact .inr (by simp [e])
              · exact .inl ⟨by omega, h2⟩
        · refine hR2 _ w12 ⟨k9.trans k12, q + 1, zs, by omega, rfl, ho12, hz1, fun x => ?_⟩ (by dsimp only; omega)
          rw [hz2]
          constructor
          · rintro ⟨h1, h2⟩; exact ⟨by omega, h2⟩
          · rintro ⟨h1, h2⟩
            by_cases e : x = q
            · subst e; rw [hs11.2 h2] at h0; cases h0
            · exact ⟨by omega, h2⟩
    · -- all positions
      have hfq : q = (mFs 0 ys).length := by have := of_decide_eq_false hfq; omega
      subst hfq
      have hz3 : ∀ x, x ∈ zs ↔ stepS (mFs 0 ys) (mFol 0 ys) (mKs 0 ys) sv.xs c x := fun x => by
        rw [hz2]
        refine ⟨fun h => h.2, fun h => ⟨?_, h⟩⟩
        rcases h.1 with ⟨_, r, _, hf⟩ | ⟨p', hp', hf⟩
        · exact hm9.kin r x (.inl hf)
        · exact hm9.fin (hxr.2 p' hp') hf
      have hon : o.n = zs.length := by have := ho.len; simpa using this.symm
      have hso : SlT (.int .i64) (V No w9) o zs := ho.reads fun _ _ h => h
      refine dfa_Next_spec hd9 hc ?_
      have hgood := hok.good hsm hc
      refine Join.cut (fun (s15 : Bool) w10 => Keeps No w9 w10 ∧ s15 = false) ?_ ?_
      case refine_2 =>
        intro j hj
        rcases hgood with ⟨h1, h2⟩ | ⟨k, sv', hk0, hk1, hk2, hk3⟩
        · have hze : zs = [] := by
            cases zs with
            | nil => rfl
            | cons x l => exact absurd ((hz3 x).1 (by simp)) (h2 x)
          have en : nextOf svs (n : Int) c = (0, false) := by simp [nextOf, hat, h1]
          have eo : o.n = 0 := by rw [hon, hze]; rfl
          rw [en, eo]
          exact hj false w9 ⟨.refl, rfl⟩
        · have hne : ¬ sv.nx c = -1 := by omega
          have en : nextOf svs (n : Int) c = ((k : Int), true) := by simp [nextOf, hat, hk1]
          have hzx : sv'.xs = zs := sorted_unique (hok.sts.rise sv' (List.mem_of_getElem? hk2)).1 hz1 fun x => by rw [hk3, hz3]
          have hzne : zs ≠ [] := by rw [← hzx]; exact hok.sts.ne k sv' hk2 hk0
          have eo : decide ((0 : Int) < (o.n : Int)) = true := decide_eq_true (by
            have : 0 < zs.length := List.length_pos_iff.2 hzne
            omega)
          rw [en, eo]
          show dfa_Dfa_Positions.C _ _ _ _
          refine dfa_Positions_spec hd9 hxl fun p2 w10 k10 hp2 => ?_
          have hat2 : stAt svs (k : Int) = some sv' := stAt_in (by omega) (by simpa using hk2)
          rw [hat2] at hp2
          have hp2 : SlT (.int .i64) (V No w10) p2 sv'.xs := hp2
          refine same_spec hp2 (hso.mono (V.keeps0 k10)) (by have := hxl sv' (List.mem_of_getElem? hk2); omega) fun w11 k11 => ?_
          rw [decide_eq_true hzx]
          exact hj false w11 ⟨k10.trans k11, rfl⟩
      rintro s15 w10 ⟨k10, rfl⟩
      show Loop _ _ _
      have hd10 := hd9.mono (V.keeps0 k10)
      have k710 := (k78.trans k9).trans k10
      -- the bytes
      refine Loop.mk (fun t w11 => w11 = w10 ∧ ∃ b : Nat, b ≤ 256 ∧ t.2 = (b : Int) ∧ goTop ((allSeq svs).take (n * 256 + b)) 0 = some t.1 ∧ 0 ≤ t.1 ∧ t.1 ≤ 200) (fun t => 256 - t.2.toNat) ⟨rfl, 0, by omega, rfl, htop, ht0, ht1⟩ ?_
      rintro ⟨tp, bb⟩ w11 ⟨rfl, b2, hb2, hbb, htp, htp0, htp1⟩ R4 hR4
      dsimp only at hbb htp htp0 htp1 ⊢
      subst hbb
      refine Br.mk (fun htb => ?_) (fun hfb => ?_)
      · have htb : b2 < 256 := by have := of_decide_eq_true htb; omega
        rw [u8_small htb]
        refine dfa_Next_spec hd10 htb ?_
        obtain ⟨q1, q2⟩ := goTop_take hwhole (allSeq_get hsv htb) htp
        have hrange := (hok.good hsm htb).range
        have e4 : w64 ((b2 : Int) + 1) = ((b2 + 1 : Nat) : Int) := by rw [w64_eq (by omega)]; omega
        rw [e4]
        by_cases hnx : sv.nx b2 = -1
        · have en : nextOf svs (n : Int) b2 = (0, false) := by simp [nextOf, hat, hnx]
          rw [en]
          rw [if_pos (by omega)] at q2
          exact hR4 _ _ ⟨rfl, b2 + 1, by omega, rfl, q2, htp0, htp1⟩ (by dsimp only; omega)
        · have en : nextOf svs (n : Int) b2 = (sv.nx b2, true) := by simp [nextOf, hat, hnx]
          rw [en]
          have hk0 : ¬ sv.nx b2 < 0 := by omega
          have hlt : decide (w64 (tp + 1) < sv.nx b2) = false := by
            rw [w64_eq (by omega)]; exact decide_eq_false (by omega)
          show Join _ _
          refine Join.cut (fun (s18 : Bool) w' => w' = w11 ∧ s18 = false) ?_ (fun j hj => hj _ _ ⟨rfl, hlt⟩)
          rintro s18 w' ⟨rfl, rfl⟩
          show App _ _ _ _ _
          refine App.max2 ?_
          rw [if_neg hk0] at q2
          refine hR4 _ _ ⟨rfl, b2 + 1, by omega, rfl, q2, ?_, ?_⟩ (by dsimp only; omega)
          · dsimp only; split <;> omega
          · dsimp only; split <;> omega
      · have hfb : b2 = 256 := by have := of_decide_eq_false hfb; omega
        subst hfb
        -- none before is the same
        refine Loop.mk (fun t w12 => Keeps No w11 w12 ∧ ∃ k : Nat, 1 ≤ k ∧ t = (k : Int)) (fun t => svs.length - t.toNat) ⟨.refl, 1, by omega, rfl⟩ ?_
        rintro t w12 ⟨k12, k, hk1, rfl⟩ R5 hR5
        have hd12 := hd10.mono (V.keeps0 k12)
        refine Br.mk (fun htk => ?_) (fun hfk => ?_)
        · have htk : k < n := by have := of_decide_eq_true htk; omega
          have hsk : svs[k]? = some svs[k] := List.getElem?_eq_getElem (by omega)
          generalize svs[k] = sk at hsk
          refine dfa_Positions_spec hd12 hxl fun p2 w13 k13 hp2 => ?_
          have hat2 : stAt svs (k : Int) = some sk := stAt_in (by omega) (by simpa using hsk)
          rw [hat2] at hp2
          have hp2 : SlT (.int .i64) (V No w13) p2 sk.xs := hp2
          refine same_spec hp2 (hp.mono (V.keeps0 (((k9.trans k10).trans k12).trans k13))) (by have := hxl sk (List.mem_of_getElem? hsk); omega) fun w14 k14 => ?_
          have hne : ¬ sk.xs = sv.xs := fun e => by have := hok.sts.inj k n sk sv hsk hsv e; omega
          rw [decide_eq_false hne]
          have e4 : w64 ((k : Int) + 1) = ((k + 1 : Nat) : Int) := by rw [w64_eq (by omega)]; omega
          rw [e4]
          exact hR5 _ w14 ⟨(k12.trans k13).trans k14, k + 1, by omega, rfl⟩ (by omega)
        · have e4 : w64 ((n : Int) + 1) = ((n + 1 : Nat) : Int) := by rw [w64_eq (by omega)]; omega
          rw [e4]
          refine hR _ w12 ⟨k710.trans k12, n + 1, by omega, rfl, ?_, htp0, htp1⟩ (by dsimp only; omega)
          rw [show (n + 1) * 256 = n * 256 + 256 by omega]
          exact htp
  · intro j hj
    refine Great_spec hl hlen hsz fun n hn => ?_
    refine Br.mk (fun _ => hj _ _ ⟨.refl, fun e => by cases e⟩) (fun hf => ?_)
    exact awake7_spec fun w1 k1 => hj _ _ ⟨k1, fun _ => hn (of_decide_eq_false hf)⟩
end Go.Fk
end

section
set_option maxRecDepth 100000
set_option linter.unusedVariables false
namespace Go.Fk
open Go

/-- frisket/frisketlaw08.LeastStates -/
def frisketlaw08_LeastStates.M (l_0 : Sl) (K : Bool → World → Prop) (w : World) : Prop :=
  Join (fun (s1 : Bool) w1 => Br s1 (frisketlaw08_awake.C  w1 fun x29 w2 => K x29 w2) (frisketlaw07_Make.C l_0 w1 fun x32 w3 => Join (fun (s2 : Bool) w4 => Br s2 (K true w4) (least_New.C x32.1 w4 fun x44 w5 => Join (fun (s3 : Bool) w6 => Br s3 (K false w6) (frisketlaw08_alike.C x32.1 w6 fun x61 w7 => dfa_Dfa_States.C x32.1 w7 fun x63 w8 => Loop (fun (s4 : Int) w9 again5 => Br (decide (s4 < x63)) (least_Least_Of.C x44.1 s4 w9 fun x72 w10 => Join (fun (s6 : Bool) w11 => Br s6 (K false w11) (Loop (fun (s7 : Int) w12 again8 => Join (fun (s9 : Bool) w13 => Br s9 (least_Least_Of.C x44.1 s7 w13 fun x107 w14 => Join (fun (s10 : Bool) w15 => Br s10 (K false w15) (again8 (w64 (s7 + (1 : Int))) w15)) fun j11 => Br x107.2 (IdxS x61 s7 1 fun p114 => Ld .sl p114 w14 fun x115 => IdxS x115 x63 1 fun p117 => Ld .bool p117 w14 fun x118 => Br x118 (IdxS x61 s4 1 fun p123 => Ld .sl p123 w14 fun x124 => IdxS x124 x63 1 fun p126 => Ld .bool p126 w14 fun x127 => Br x127 (IdxS x61 s4 1 fun p135 => Ld .sl p135 w14 fun x136 => IdxS x136 s7 1 fun p138 => Ld .bool p138 w14 fun x139 => j11 ((x72.1 == x107.1) == x139) w14) (j11 false w14)) (j11 false w14)) (j11 false w14)) (Br (!x72.2) (again5 (w64 (s4 + (1 : Int))) w13) (least_Least_Accept.C x44.1 x72.1 w13 fun x146 w16 => dfa_Dfa_Accept.C x32.1 s4 w16 fun x149 w17 => Br (x146 != x149) (K false w17) (Loop (fun (s12 : Int) w18 again13 => Br (decide (s12 < (256 : Int))) (dfa_Dfa_Next.C x32.1 s4 (IntKind.wrap .u8 (s12)) w18 fun x160 w19 => least_Least_Next.C x44.1 x72.1 (IntKind.wrap .u8 (s12)) w19 fun x168 w20 => Join (fun (s14 : Bool) w21 => Br s14 (K false w21) (Br x168.2 (least_Least_Of.C x44.1 x160.1 w21 fun x187 w22 => Br (x168.1 != x187.1) (K false w22) (again13 (w64 (s12 + (1 : Int))) w22)) (again13 (w64 (s12 + (1 : Int))) w21))) fun j15 => Br x160.2 (IdxS x61 x160.1 1 fun p176 => Ld .sl p176 w20 fun x177 => IdxS x177 x63 1 fun p179 => Ld .bool p179 w20 fun x180 => j15 (!(x168.2 == x180)) w20) (j15 (!(x168.2 == false)) w20)) (again5 (w64 (s4 + (1 : Int))) w18)) 0 w17)))) fun j16 => Br (decide (s7 < s4)) (j16 x72.2 w12) (j16 false w12)) 0 w11)) fun j17 => Br (s4 == (0 : Int)) (Br (!(x72.2 == true)) (j17 true w10) (Br (!x72.2) (j17 (x72.1 != (0 : Int)) w10) (j17 false w10))) (IdxS x61 s4 1 fun p81 => Ld .sl p81 w10 fun x82 => IdxS x82 x63 1 fun p84 => Ld .bool p84 w10 fun x85 => Br (!(x72.2 == x85)) (j17 true w10) (Br (!x72.2) (j17 (x72.1 != (0 : Int)) w10) (j17 false w10)))) (K true w9)) 0 w8)) fun j18 => Br (x44.1.isNone) (j18 true w5) (Br (x44.2 != (0 : Int)) (j18 true w5) (least_Least_States.C x44.1 w5 fun x55 w23 => dfa_Dfa_States.C x32.1 w23 fun x57 w24 => j18 (decide (x57 < x55)) w24)))) fun j19 => Br (x32.1.isNone) (j19 true w3) (dfa_Dfa_States.C x32.1 w3 fun x39 w25 => j19 (decide ((40 : Int) < x39)) w25))) fun j20 => frisketlaw07_Great.C l_0 w fun x23 w26 => Br (decide ((0 : Int) < x23)) (j20 true w26) (frisketlaw08_awake.C  w26 fun x26 w27 => j20 (!x26) w27)
theorem frisketlaw08_LeastStates.ok (l_0 : Sl) (K : Bool → World → Prop) (w : World) (h : frisketlaw08_LeastStates.M l_0 K w) : frisketlaw08_LeastStates.C l_0 w K :=
  calls_of_sem (P := P) (H := [(23, .one (.int .i64)), (26, .one .bool), (29, .one .bool), (32, .tup [.one .ptr, .one .sl]), (39, .one (.int .i64)), (44, .tup [.one .ptr, .one (.int .i64)]), (55, .one (.int .i64)), (57, .one (.int .i64)), (61, .one .sl), (63, .one (.int .i64)), (72, .tup [.one (.int .i64), .one .bool]), (82, .one .sl), (85, .one .bool), (107, .tup [.one (.int .i64), .one .bool]), (115, .one .sl), (118, .one .bool), (124, .one .sl), (127, .one .bool), (136, .one .sl), (139, .one .bool), (146, .one (.int .i64)), (149, .one (.int .i64)), (160, .tup [.one (.int .i64), .one .bool]), (168, .tup [.one (.int .i64), .one .bool]), (177, .one .sl), (180, .one .bool), (187, .tup [.one (.int .i64), .one .bool])]) (ann := (.n .z (.n (.j [(28, .one .bool)] [0] .z .z) (.n .z (.n (.j [(41, .one .bool)] [3] .z .z) (.n .z (.n (.j [(59, .one .bool)] [3, 5] .z .z) (.n .z (.n .z (.n (.n .z (.l [(9, .one (.int .i64))] [3, 5, 7, 8] (.n .z (.n (.n .z (.n (.j [(95, .one .bool)] [3, 5, 7, 8, 9, 10, 11] .z .z) (.n (.n .z (.l [(12, .one (.int .i64))] [3, 5, 7, 8, 9, 10, 11] (.n (.j [(101, .one .bool)] [3, 5, 7, 8, 9, 10, 11, 12] .z .z) (.n (.n .z (.j [(141, .one .bool)] [3, 5, 7, 8, 9, 10, 11, 12] .z .z)) .z)))) (.n .z (.n .z (.n .z (.l [(15, .one (.int .i64))] [3, 5, 7, 8, 9, 10] (.n .z (.n (.n .z (.n .z (.n (.j [(182, .one .bool)] [3, 5, 7, 8, 9, 10, 15, 16, 18, 19] .z .z) .z))) .z))))))))) .z)))) .z)))))))))) (args := [.slice l_0.a l_0.n l_0.c]) (rt := .one .bool) P_mixed rfl rfl (by kernel_rfl) (by kernel_rfl)
    ((show _ = frisketlaw08_LeastStates.M l_0 K w by kernel_rfl).mpr h)

/-- frisket/frisketlaw08.LeastRuns -/
def frisketlaw08_LeastRuns.M (l_0 : Sl) (s_1 : ByteArray) (K : Bool → World → Prop) (w : World) : Prop :=
  Join (fun (s1 : Bool) w1 => Br s1 (frisketlaw08_awake.C  w1 fun x30 w2 => K x30 w2) (frisketlaw07_Make.C l_0 w1 fun x33 w3 => Br (x33.1.isNone) (K true w3) (least_New.C x33.1 w3 fun x40 w4 => Br (x40.2 != (0 : Int)) (K false w4) (dfa_Dfa_Run.C x33.1 s_1 w4 fun x48 w5 => least_Least_Run.C x40.1 s_1 w5 fun x54 w6 => Join (fun (s2 : Bool) w7 => Br s2 (K false w7) (Loop (fun (s3 : Int × Int) w8 again4 => least_Least_States.C x40.1 w8 fun x86 w9 => Br (decide (s3.2 < x86)) (Loop (fun (s5 : Int × Int) w10 again6 => Br (decide (s5.2 < (256 : Int))) (least_Least_Next.C x40.1 s3.2 (IntKind.wrap .u8 (s5.2)) w10 fun x99 w11 => Join (fun (s7 : Bool) w12 => Br s7 (K false w12) (Br x99.2 (App P (Builtin.max_ #[T.int, T.int] T.int #[.int .i64 s5.1, .int .i64 x99.1]) (.one (.int .i64)) w12 fun x112 w13 => again6 (x112, (w64 (s5.2 + (1 : Int)))) w13) (again6 (s5.1, (w64 (s5.2 + (1 : Int)))) w12))) fun j8 => Br x99.2 (j8 (decide ((w64 (s5.1 + (1 : Int))) < x99.1)) w11) (j8 false w11)) (again4 (s5.1, (w64 (s3.2 + (1 : Int)))) w10)) (s3.1, 0) w9) (least_Least_States.C x40.1 w9 fun x115 w14 => K (s3.1 == (w64 (x115 - (1 : Int)))) w14)) (0, 0) w7)) fun j9 => Br x54.2 (Br (!x48.2) (j9 true w6) (dfa_Dfa_Accept.C x33.1 x48.1 w6 fun x64 w15 => least_Least_Accept.C x40.1 x54.1 w15 fun x67 w16 => Br (x64 != x67) (j9 true w16) (Br (!x54.2) (Br x48.2 (dfa_Dfa_Accept.C x33.1 x48.1 w16 fun x80 w17 => j9 (decide ((0 : Int) ≤ x80)) w17) (j9 false w16)) (j9 false w16)))) (Br (!x54.2) (Br x48.2 (dfa_Dfa_Accept.C x33.1 x48.1 w6 fun x80 w18 => j9 (decide ((0 : Int) ≤ x80)) w18) (j9 false w6)) (j9 false w6)))))) fun j10 => frisketlaw07_Great.C l_0 w fun x19 w19 => Br (decide ((0 : Int) < x19)) (j10 true w19) (Br (decide ((60 : Int) < (s_1.size : Int))) (j10 true w19) (frisketlaw08_awake.C  w19 fun x27 w20 => j10 (!x27) w20))
theorem frisketlaw08_LeastRuns.ok (l_0 : Sl) (s_1 : ByteArray) (K : Bool → World → Prop) (w : World) (h : frisketlaw08_LeastRuns.M l_0 s_1 K w) : frisketlaw08_LeastRuns.C l_0 s_1 w K :=
  calls_of_sem (P := P) (H := [(19, .one (.int .i64)), (27, .one .bool), (30, .one .bool), (33, .tup [.one .ptr, .one .sl]), (40, .tup [.one .ptr, .one (.int .i64)]), (48, .tup [.one (.int .i64), .one .bool]), (54, .tup [.one (.int .i64), .one .bool]), (64, .one (.int .i64)), (67, .one (.int .i64)), (80, .one (.int .i64)), (86, .one (.int .i64)), (99, .tup [.one (.int .i64), .one .bool]), (112, .one (.int .i64)), (115, .one (.int .i64))]) (ann := (.n .z (.n (.j [(29, .one .bool)] [0, 1] .z .z) (.n .z (.n .z (.n .z (.n .z (.n .z (.n .z (.n (.j [(83, .one .bool)] [7] .z .z) (.n .z (.n (.n .z (.l [(13, .one (.int .i64)), (14, .one (.int .i64))] [7] (.n .z (.n (.n .z (.l [(13, .one (.int .i64)), (15, .one (.int .i64))] [7, 14] (.n .z (.n (.n .z (.n (.j [(108, .one .bool)] [7, 13, 14, 15, 16, 17] .z .z) .z)) .z)))) .z)))) .z)))))))))))) (args := [.slice l_0.a l_0.n l_0.c, .string s_1]) (rt := .one .bool) P_mixed rfl rfl (by kernel_rfl) (by kernel_rfl)
    ((show _ = frisketlaw08_LeastRuns.M l_0 s_1 K w by kernel_rfl).mpr h)

/-- frisket/frisketlaw08.LeastLongest -/
def frisketlaw08_LeastLongest.M (l_0 : Sl) (s_1 : ByteArray) (K : Bool → World → Prop) (w : World) : Prop :=
  Join (fun (s1 : Bool) w1 => Br s1 (frisketlaw08_awake.C  w1 fun x31 w2 => K x31 w2) (frisketlaw07_Make.C l_0 w1 fun x34 w3 => Br (x34.1.isNone) (K true w3) (least_New.C x34.1 w3 fun x41 w4 => least_Least_Longest.C x41.1 s_1 w4 fun x47 w5 => Loop (fun (s2 : Int × Int × Int) w6 again3 => Br (decide (s2.2.2 < (x34.2.n : Int))) (IdxS x34.2 s2.2.2 258 fun p59 => LdA 258 p59 w6 fun x60 => frisketref05_Longest.C x60 s_1 w6 fun x62 w7 => Br (decide (s2.2.1 < x62)) (again3 (s2.2.2, x62, (w64 (s2.2.2 + (1 : Int)))) w7) (again3 (s2.1, s2.2.1, (w64 (s2.2.2 + (1 : Int)))) w7)) (Join (fun (s4 : Bool) w8 => Br s4 (K false w8) (Join (fun (s5 : Int) w9 => App P (Builtin.min_ #[T.int, T.int] T.int #[.int .i64 (w64 (s5 + (1 : Int))), .int .i64 (s_1.size : Int)]) (.one (.int .i64)) w9 fun x109 w10 => K (x47.2.2 == x109) w10) fun j6 => Loop (fun (s7 : Int) w11 again8 => Br (decide (s7 < (s_1.size : Int))) (App P (Instr.sliceAt T.string (.string s_1) none (some (.int .i64 (w64 (s7 + (1 : Int))))) none) (.one .str) w11 fun x96 w12 => least_Least_Run.C x41.1 x96 w12 fun x97 w13 => Br (!x97.2) (j6 s7 w13) (again8 (w64 (s7 + (1 : Int))) w13)) (j6 s7 w11)) 0 w8)) fun j9 => Br (x47.1 != s2.1) (j9 true w6) (Br (x47.2.1 != s2.2.1) (j9 true w6) (Br (decide (x47.2.2 < x47.2.1)) (j9 true w6) (j9 (decide ((s_1.size : Int) < x47.2.2)) w6))))) ((-1), 0, 0) w5))) fun j10 => frisketlaw07_Great.C l_0 w fun x20 w14 => Br (decide ((0 : Int) < x20)) (j10 true w14) (Br (decide ((14 : Int) < (s_1.size : Int))) (j10 true w14) (frisketlaw08_awake.C  w14 fun x28 w15 => j10 (!x28) w15))
theorem frisketlaw08_LeastLongest.ok (l_0 : Sl) (s_1 : ByteArray) (K : Bool → World → Prop) (w : World) (h : frisketlaw08_LeastLongest.M l_0 s_1 K w) : frisketlaw08_LeastLongest.C l_0 s_1 w K :=
  calls_of_sem (P := P) (H := [(20, .one (.int .i64)), (28, .one .bool), (31, .one .bool), (34, .tup [.one .ptr, .one .sl]), (41, .tup [.one .ptr, .one (.int .i64)]), (47, .tup [.one (.int .i64), .one (.int .i64), .one (.int .i64)]), (60, .big), (62, .one (.int .i64)), (96, .one .str), (97, .tup [.one (.int .i64), .one .bool]), (109, .one (.int .i64))]) (ann := (.n .z (.n (.j [(30, .one .bool)] [0, 1] .z .z) (.n .z (.n .z (.n .z (.n .z (.n .z (.n (.n .z (.l [(12, .one (.int .i64)), (13, .one (.int .i64)), (14, .one (.int .i64))] [1, 6, 7, 9, 10, 11] .z)) (.n (.j [(86, .one .bool)] [1, 7, 11] .z .z) (.n .z (.j [(16, .one (.int .i64))] [1, 11] (.l [(16, .one (.int .i64))] [1, 7, 11] .z) .z)))))))))))) (args := [.slice l_0.a l_0.n l_0.c, .string s_1]) (rt := .one .bool) P_mixed rfl rfl (by kernel_rfl) (by kernel_rfl)
    ((show _ = frisketlaw08_LeastLongest.M l_0 s_1 K w by kernel_rfl).mpr h)

/-- frisket/frisketlaw08.LeastNone -/
def frisketlaw08_LeastNone.M (n_0 : Int) (c_1 : Int) (s_2 : ByteArray) (K : Bool → World → Prop) (w : World) : Prop :=
  Br (decide ((30 : Int) < (s_2.size : Int))) (frisketlaw08_awake.C  w fun x22 w1 => K x22 w1) (least_New.C none w fun x24 w2 => least_Least_Next.C none n_0 c_1 w2 fun x31 w3 => least_Least_Run.C none s_2 w3 fun x37 w4 => least_Least_Of.C none n_0 w4 fun x43 w5 => least_Least_Longest.C none s_2 w5 fun x49 w6 => Br (x24.1.isNone) (Br (x24.2 == (1 : Int)) (Br (x31.1 == (0 : Int)) (Br (!x31.2) (Br (x37.1 == (0 : Int)) (Br (!x37.2) (Br (x43.1 == (0 : Int)) (Br (!x43.2) (Br (x49.1 == (-1 : Int)) (Br (x49.2.1 == (0 : Int)) (least_Least_States.C none w6 fun x93 w7 => Br (x93 == (0 : Int)) (least_Least_Accept.C none n_0 w7 fun x99 w8 => Br (x99 == (-1 : Int)) (frisketlaw08_awake.C  w8 fun x103 w9 => K x103 w9) (K false w8)) (K false w7)) (K false w6)) (K false w6)) (K false w6)) (K false w6)) (K false w6)) (K false w6)) (K false w6)) (K false w6)) (K false w6)) (K false w6))
theorem frisketlaw08_LeastNone.ok (n_0 : Int) (c_1 : Int) (s_2 : ByteArray) (K : Bool → World → Prop) (w : World) (h : frisketlaw08_LeastNone.M n_0 c_1 s_2 K w) : frisketlaw08_LeastNone.C n_0 c_1 s_2 w K :=
  calls_of_sem (P := P) (H := [(22, .one .bool), (24, .tup [.one .ptr, .one (.int .i64)]), (31, .tup [.one (.int .i64), .one .bool]), (37, .tup [.one (.int .i64), .one .bool]), (43, .tup [.one (.int .i64), .one .bool]), (49, .tup [.one (.int .i64), .one (.int .i64), .one (.int .i64)]), (93, .one (.int .i64)), (99, .one (.int .i64)), (103, .one .bool)]) (ann := .z) (args := [.int .i64 n_0, .int .u8 c_1, .string s_2]) (rt := .one .bool) P_mixed rfl rfl (by kernel_rfl) (by kernel_rfl)
    ((show _ = frisketlaw08_LeastNone.M n_0 c_1 s_2 K w by kernel_rfl).mpr h)

/-- frisket/frisketlaw08.awake -/
def frisketlaw08_awake.M  (K : Bool → World → Prop) (w : World) : Prop :=
  Al (.cells #[.string (⟨#[97, 98, 99, 124, 97, 98, 100]⟩)] T.string (0, 0)) w fun b1 w1 => frisketlaw07_Make.C (⟨(some ⟨b1, 0, none⟩), 1, 1⟩) w1 fun x11 w2 => least_New.C x11.1 w2 fun x16 w3 => least_Least_Run.C x16.1 (⟨#[97, 98, 99]⟩) w3 fun x21 w4 => least_Least_Run.C x16.1 (⟨#[97, 98, 100]⟩) w4 fun x26 w5 => Br (x16.2 == (0 : Int)) (Br x21.2 (Br x26.2 (Br (x21.1 == x26.1) (least_Least_Accept.C x16.1 x21.1 w5 fun x45 w6 => K (x45 == (0 : Int)) w6) (K false w5)) (K false w5)) (K false w5)) (K false w5)
theorem frisketlaw08_awake.ok  (K : Bool → World → Prop) (w : World) (h : frisketlaw08_awake.M  K w) : frisketlaw08_awake.C  w K :=
  calls_of_sem (P := P) (H := [(11, .tup [.one .ptr, .one .sl]), (16, .tup [.one .ptr, .one (.int .i64)]), (21, .tup [.one (.int .i64), .one .bool]), (26, .tup [.one (.int .i64), .one .bool]), (45, .one (.int .i64))]) (ann := .z) (args := []) (rt := .one .bool) P_mixed rfl rfl (by kernel_rfl) (by kernel_rfl)
    ((show _ = frisketlaw08_awake.M  K w by kernel_rfl).mpr h)

/-- frisket/least.New -/
def least_New.M (d_0 : Option Addr) (K : (Option Addr × Int) → World → Prop) (w : World) : Prop :=
  Br (d_0.isNone) (K (none, 1) w) (least_live.C d_0 w fun x22 w1 => least_kinds.C d_0 x22 w1 fun x25 w2 => dfa_Dfa_States.C d_0 w2 fun x27 w3 => App P (Instr.makeSlice T.sl_int (.int .i64 x27) (.int .i64 x27)) (.one .sl) w3 fun x28 w4 => Al (.cells #[.slice none 0 0, .slice x28.a x28.n x28.c] T.least_Least (0, 0)) w4 fun b1 w5 => Al (.map #[] 0) w5 fun m2 w6 => IdxS x25 0 1 fun p33 => Ld (.int .i64) p33 w6 fun x34 => App0 P (Instr.mapUpdate T.map_int_int (.map (some m2)) (.int .i64 x34) (.int .i64 0)) w6 fun w7 => Al (.cells #[.int .i64 0] T.int (0, 0)) w7 fun b3 w8 => Loop (fun (s4 : Sl × Int) w9 again5 => Br (decide (s4.2 < (s4.1.n : Int))) (IdxS s4.1 s4.2 1 fun p46 => Ld (.int .i64) p46 w9 fun x47 => dfa_Dfa_Accept.C d_0 x47 w9 fun x48 w10 => App P (Instr.build T.least_state #[(1, .int .i64 x48)]) .big w10 fun x49 w11 => Al (.cells (Array.replicate 257 (.int .i64 0 : Value)) T.least_state (0, 0)) w11 fun b6 w12 => StA P T.least_state (⟨b6, 0, none⟩) x49 w12 fun w13 => Loop (fun (s7 : Sl × Int) w14 again8 => Br (decide (s7.2 < (256 : Int))) (IdxA 256 (⟨b6, 0, none⟩) s7.2 1 fun p55 => St p55 (.int .i64 (-1)) w14 fun w15 => IdxS s7.1 s4.2 1 fun p60 => Ld (.int .i64) p60 w15 fun x61 => dfa_Dfa_Next.C d_0 x61 (IntKind.wrap .u8 (s7.2)) w15 fun x64 w16 => Join (fun (s9 : Bool) w17 => Br s9 (again8 (s7.1, (w64 (s7.2 + (1 : Int)))) w17) (IdxS x25 x64.1 1 fun p80 => Ld (.int .i64) p80 w17 fun x81 => App P (Instr.lookup T.map_int_int (.map (some m2)) (.int .i64 x81) true) (.tup [.one (.int .i64), .one .bool]) w17 fun x82 w18 => Join (fun (s10 : Sl × Int) w19 => IdxA 256 (⟨b6, 0, none⟩) s7.2 1 fun p102 => St p102 (.int .i64 s10.2) w19 fun w20 => again8 (s10.1, (w64 (s7.2 + (1 : Int)))) w20) fun j11 => Br (!x82.2) (IdxS x25 x64.1 1 fun p92 => Ld (.int .i64) p92 w18 fun x93 => App0 P (Instr.mapUpdate T.map_int_int (.map (some m2)) (.int .i64 x93) (.int .i64 (s7.1.n : Int))) w18 fun w21 => Al (.cells #[.int .i64 x64.1] T.int (0, 0)) w21 fun b12 w22 => App P (Builtin.append_ #[T.sl_int, T.sl_int] T.sl_int #[.slice s7.1.a s7.1.n s7.1.c, .slice (some ⟨b12, 0, none⟩) 1 1]) (.one .sl) w22 fun x98 w23 => j11 (x98, (s7.1.n : Int)) w23) (j11 (s7.1, x82.1) w18))) fun j13 => Br (!x64.2) (j13 true w16) (IdxS x22 x64.1 1 fun p72 => Ld .bool p72 w16 fun x73 => j13 (!x73) w16)) (DrawN w14 fun S14 w24 => (Ld .sl (⟨b1, 0, none⟩) w24 fun x108 => (S14 w24 ∧ LdA 257 (⟨b6, 0, none⟩) w24 fun x109 => (S14 w24 ∧ App P (Instr.buildSlice T.sl_least_state 1 #[(0, .agg x109)]) (.one .sl) w24 fun x110 w25 => (S14 w25 ∧ App P (Builtin.append_ #[T.sl_least_state, T.sl_least_state] T.sl_least_state #[.slice x108.a x108.n x108.c, .slice x110.a x110.n x110.c]) (.one .sl) w25 fun x111 w26 => (S14 w26 ∧ St (⟨b1, 0, none⟩) (.slice x111.a x111.n x111.c) w26 fun w27 => (S14 w27 ∧ again5 (s7.1, (w64 (s4.2 + (1 : Int)))) w27)))))) ∧ (LdA 257 (⟨b6, 0, none⟩) w24 fun x109 => (S14 w24 ∧ (Ld .sl (⟨b1, 0, none⟩) w24 fun x108 => (S14 w24 ∧ App P (Instr.buildSlice T.sl_least_state 1 #[(0, .agg x109)]) (.one .sl) w24 fun x110 w28 => (S14 w28 ∧ App P (Builtin.append_ #[T.sl_least_state, T.sl_least_state] T.sl_least_state #[.slice x108.a x108.n x108.c, .slice x110.a x110.n x110.c]) (.one .sl) w28 fun x111 w29 => (S14 w29 ∧ St (⟨b1, 0, none⟩) (.slice x111.a x111.n x111.c) w29 fun w30 => (S14 w30 ∧ again5 (s7.1, (w64 (s4.2 + (1 : Int)))) w30))))) ∧ (App P (Instr.buildSlice T.sl_least_state 1 #[(0, .agg x109)]) (.one .sl) w24 fun x110 w31 => (S14 w31 ∧ Ld .sl (⟨b1, 0, none⟩) w31 fun x108 => (S14 w31 ∧ App P (Builtin.append_ #[T.sl_least_state, T.sl_least_state] T.sl_least_state #[.slice x108.a x108.n x108.c, .slice x110.a x110.n x110.c]) (.one .sl) w31 fun x111 w32 => (S14 w32 ∧ St (⟨b1, 0, none⟩) (.slice x111.a x111.n x111.c) w32 fun w33 => (S14 w33 ∧ again5 (s7.1, (w64 (s4.2 + (1 : Int)))) w33))))))))) (s4.1, 0) w13) (Ld .sl (⟨b1, 1, none⟩) w9 fun x117 => Loop (fun (s15 : Int) w34 again16 => Br (decide (s15 < (x117.n : Int))) (Ld .sl (⟨b1, 1, none⟩) w34 fun x125 => IdxS x125 s15 1 fun p127 => St p127 (.int .i64 (-1)) w34 fun w35 => IdxS x25 s15 1 fun p132 => Ld (.int .i64) p132 w35 fun x133 => App P (Instr.lookup T.map_int_int (.map (some m2)) (.int .i64 x133) true) (.tup [.one (.int .i64), .one .bool]) w35 fun x134 w36 => Join (fun (s17 : Bool) w37 => Br s17 (Ld .sl (⟨b1, 1, none⟩) w37 fun x151 => IdxS x151 s15 1 fun p154 => St p154 (.int .i64 x134.1) w37 fun w38 => again16 (w64 (s15 + (1 : Int))) w38) (again16 (w64 (s15 + (1 : Int))) w37)) fun j18 => Br x134.2 (IdxS x22 s15 1 fun p141 => Ld .bool p141 w36 fun x142 => Br x142 (j18 true w36) (j18 (s15 == (0 : Int)) w36)) (j18 false w36)) (K ((some (⟨b1, 0, none⟩)), 0) w34)) 0 w9)) (⟨(some ⟨b3, 0, none⟩), 1, 1⟩, 0) w8)
theorem least_New.ok (d_0 : Option Addr) (K : (Option Addr × Int) → World → Prop) (w : World) (h : least_New.M d_0 K w) : least_New.C d_0 w K :=
  calls_of_sem (P := P) (H := [(22, .one .sl), (25, .one .sl), (27, .one (.int .i64)), (28, .one .sl), (34, .one (.int .i64)), (47, .one (.int .i64)), (48, .one (.int .i64)), (49, .big), (61, .one (.int .i64)), (64, .tup [.one (.int .i64), .one .bool]), (73, .one .bool), (81, .one (.int .i64)), (82, .tup [.one (.int .i64), .one .bool]), (93, .one (.int .i64)), (108, .one .sl), (109, .big), (110, .one .sl), (117, .one .sl), (125, .one .sl), (133, .one (.int .i64)), (134, .tup [.one (.int .i64), .one .bool]), (142, .one .bool), (151, .one .sl)]) (ann := (.n .z (.n .z (.n .z (.n .z (.n .z (.n .z (.n .z (.n (.n .z (.l [(8, .one .sl), (9, .one (.int .i64))] [0, 4, 5, 6, 7] (.n .z (.n (.n .z (.n (.n .z (.l [(8, .one .sl), (50, .one (.int .i64))] [0, 4, 5, 6, 7, 9, 10] (.n .z (.n .z (.n (.n .z (.n .z (.n .z (.n (.j [(75, .one .bool)] [0, 4, 5, 6, 7, 8, 9, 10, 11, 12, 50] .z .z) (.n .z (.j [(8, .one .sl), (14, .one (.int .i64))] [0, 4, 5, 6, 7, 9, 10, 11, 50] .z .z)))))) .z))))) .d)) .z)))) (.n (.n .z (.l [(119, .one (.int .i64))] [4, 5, 6, 7, 118] (.n .z (.n .z (.n (.n .z (.n .z (.n .z (.j [(147, .one .bool)] [4, 5, 6, 7, 16, 17, 118, 119] .z .z)))) .z))))) .z)))))))))) (args := [.pointer d_0]) (rt := .tup [.one .ptr, .one (.int .i64)]) P_mixed rfl rfl (by kernel_rfl) (by kernel_rfl)
    ((show _ = least_New.M d_0 K w by kernel_rfl).mpr h)

/-- (*frisket/least.Least).States -/
def least_Least_States.M (l_0 : Option Addr) (K : Int → World → Prop) (w : World) : Prop :=
  Br (l_0.isNone) (K 0 w) (NilC l_0 fun a6 => Ld .sl a6 w fun x8 => K (x8.n : Int) w)
theorem least_Least_States.ok (l_0 : Option Addr) (K : Int → World → Prop) (w : World) (h : least_Least_States.M l_0 K w) : least_Least_States.C l_0 w K :=
  calls_of_sem (P := P) (H := [(8, .one .sl)]) (ann := .z) (args := [.pointer l_0]) (rt := .one (.int .i64)) P_mixed rfl rfl (by kernel_rfl) (by kernel_rfl)
    ((show _ = least_Least_States.M l_0 K w by kernel_rfl).mpr h)

/-- frisket/frisketlaw08.alike -/
def frisketlaw08_alike.M (d_0 : Option Addr) (K : Sl → World → Prop) (w : World) : Prop :=
  dfa_Dfa_States.C d_0 w fun x16 w1 => App P (Instr.makeSlice T.sl_sl_bool (.int .i64 (w64 (x16 + (1 : Int)))) (.int .i64 (w64 (x16 + (1 : Int))))) (.one .sl) w1 fun x19 w2 => Loop (fun (s1 : Int) w3 again2 => Br (decide (s1 ≤ x16)) (App P (Instr.makeSlice T.sl_bool (.int .i64 (w64 (x16 + (1 : Int)))) (.int .i64 (w64 (x16 + (1 : Int))))) (.one .sl) w3 fun x29 w4 => IdxS x19 s1 1 fun p30 => St p30 (.slice x29.a x29.n x29.c) w4 fun w5 => Loop (fun (s3 : Int) w6 again4 => Br (decide (s3 ≤ x16)) (Draw w6 fun S5 w7 => IdxS x19 s1 1 fun p38 => LdS S5 .sl p38 fun x39 => dfa_Dfa_Accept.C d_0 s1 w7 fun x43 w8 => (S5 w8 ∧ dfa_Dfa_Accept.C d_0 s3 w8 fun x46 w9 => (S5 w9 ∧ IdxS x39 s3 1 fun p48 => St p48 (.bool (x43 != x46)) w9 fun w10 => (S5 w10 ∧ again4 (w64 (s3 + (1 : Int))) w10)))) (again2 (w64 (s1 + (1 : Int))) w6)) 0 w5) (Loop (fun (s6 : Bool) w11 again7 => Br s6 (Loop (fun (s8 : Bool × Int) w12 again9 => Br (decide (s8.2 ≤ x16)) (Loop (fun (s10 : Bool × Int) w13 again11 => Br (decide (s10.2 < s8.2)) (IdxS x19 s8.2 1 fun p62 => Ld .sl p62 w13 fun x63 => IdxS x63 s10.2 1 fun p65 => Ld .bool p65 w13 fun x66 => Br x66 (again11 (s10.1, (w64 (s10.2 + (1 : Int)))) w13) (Loop (fun (s12 : Bool × Int) w14 again13 => Br (decide (s12.2 < (256 : Int))) (dfa_Dfa_Next.C d_0 s8.2 (IntKind.wrap .u8 (s12.2)) w14 fun x76 w15 => dfa_Dfa_Next.C d_0 s10.2 (IntKind.wrap .u8 (s12.2)) w15 fun x84 w16 => Join (fun (s14 : Int) w17 => Join (fun (s15 : Int) w18 => IdxS x19 s14 1 fun p95 => Ld .sl p95 w18 fun x96 => IdxS x96 s15 1 fun p98 => Ld .bool p98 w18 fun x99 => Br x99 (IdxS x19 s8.2 1 fun p102 => Ld .sl p102 w18 fun x103 => IdxS x103 s10.2 1 fun p105 => St p105 (.bool true) w18 fun w19 => IdxS x19 s10.2 1 fun p108 => Ld .sl p108 w19 fun x109 => IdxS x109 s8.2 1 fun p111 => St p111 (.bool true) w19 fun w20 => again11 (true, (w64 (s10.2 + (1 : Int)))) w20) (again13 (s12.1, (w64 (s12.2 + (1 : Int)))) w18)) fun j16 => Br (!x84.2) (j16 x16 w17) (j16 x84.1 w17)) fun j17 => Br (!x76.2) (j17 x16 w16) (j17 x76.1 w16)) (again11 (s12.1, (w64 (s10.2 + (1 : Int)))) w14)) (s10.1, 0) w13)) (again9 (s10.1, (w64 (s8.2 + (1 : Int)))) w13)) (s8.1, 0) w12) (again7 s8.1 w12)) (false, 0) w11) (K x19 w11)) true w3)) 0 w2
theorem frisketlaw08_alike.ok (d_0 : Option Addr) (K : Sl → World → Prop) (w : World) (h : frisketlaw08_alike.M d_0 K w) : frisketlaw08_alike.C d_0 w K :=
  calls_of_sem (P := P) (H := [(16, .one (.int .i64)), (19, .one .sl), (29, .one .sl), (39, .one .sl), (43, .one (.int .i64)), (46, .one (.int .i64)), (63, .one .sl), (66, .one .bool), (76, .tup [.one (.int .i64), .one .bool]), (84, .tup [.one (.int .i64), .one .bool]), (96, .one .sl), (99, .one .bool), (103, .one .sl), (109, .one .sl)]) (ann := (.n .z (.n .z (.n .z (.n (.n .z (.l [(5, .one (.int .i64))] [0, 3, 4] (.n .z (.n (.n .z (.n .z (.l [(6, .one (.int .i64))] [0, 3, 4, 5] .z))) .z)))) (.n (.n .z (.l [(7, .one .bool)] [0, 3, 4] (.n .z (.n .z (.n .z (.l [(7, .one .bool), (8, .one (.int .i64))] [0, 3, 4] (.n .z (.n (.n .z (.l [(7, .one .bool), (9, .one (.int .i64))] [0, 3, 4, 8] (.n .z (.n (.n .z (.n .z (.l [(7, .one .bool), (10, .one (.int .i64))] [0, 3, 4, 8, 9] (.n .z (.n (.n .z (.n .z (.j [(11, .one (.int .i64))] [0, 3, 4, 7, 8, 9, 10, 13, 14] .z (.j [(13, .one (.int .i64))] [0, 3, 4, 7, 8, 9, 10, 11] .z .z)))) .z))))) .z)))) .z)))))))) .z)))))) (args := [.pointer d_0]) (rt := .one .sl) P_mixed rfl rfl (by kernel_rfl) (by kernel_rfl)
    ((show _ = frisketlaw08_alike.M d_0 K w by kernel_rfl).mpr h)

/-- (*frisket/least.Least).Of -/
def least_Least_Of.M (l_0 : Option Addr) (n_1 : Int) (K : (Int × Bool) → World → Prop) (w : World) : Prop :=
  Join (fun (s1 : Bool) w1 => Br s1 (K (0, false) w1) (NilC l_0 fun a32 => Ld .sl (a32.add 1) w1 fun x34 => IdxS x34 n_1 1 fun p36 => Ld (.int .i64) p36 w1 fun x37 => K (x37, true) w1)) fun j2 => Br (l_0.isNone) (j2 true w) (Br (decide (n_1 < (0 : Int))) (j2 true w) (NilC l_0 fun a15 => Ld .sl (a15.add 1) w fun x17 => Br (decide ((x17.n : Int) ≤ n_1)) (j2 true w) (NilC l_0 fun a23 => Ld .sl (a23.add 1) w fun x25 => IdxS x25 n_1 1 fun p27 => Ld (.int .i64) p27 w fun x28 => j2 (x28 == (-1 : Int)) w)))
theorem least_Least_Of.ok (l_0 : Option Addr) (n_1 : Int) (K : (Int × Bool) → World → Prop) (w : World) (h : least_Least_Of.M l_0 n_1 K w) : least_Least_Of.C l_0 n_1 w K :=
  calls_of_sem (P := P) (H := [(17, .one .sl), (25, .one .sl), (28, .one (.int .i64)), (34, .one .sl), (37, .one (.int .i64))]) (ann := (.n .z (.n (.j [(30, .one .bool)] [0, 1] .z .z) .z))) (args := [.pointer l_0, .int .i64 n_1]) (rt := .tup [.one (.int .i64), .one .bool]) P_mixed rfl rfl (by kernel_rfl) (by kernel_rfl)
    ((show _ = least_Least_Of.M l_0 n_1 K w by kernel_rfl).mpr h)

/-- (*frisket/least.Least).Accept -/
def least_Least_Accept.M (l_0 : Option Addr) (n_1 : Int) (K : Int → World → Prop) (w : World) : Prop :=
  least_Least_has.C l_0 n_1 w fun x7 w1 => Br (!x7) (K (-1) w1) (NilC l_0 fun a10 => Ld .sl a10 w1 fun x12 => IdxS x12 n_1 257 fun p14 => Ld (.int .i64) (p14.add 256) w1 fun x16 => K x16 w1)
theorem least_Least_Accept.ok (l_0 : Option Addr) (n_1 : Int) (K : Int → World → Prop) (w : World) (h : least_Least_Accept.M l_0 n_1 K w) : least_Least_Accept.C l_0 n_1 w K :=
  calls_of_sem (P := P) (H := [(7, .one .bool), (12, .one .sl), (16, .one (.int .i64))]) (ann := .z) (args := [.pointer l_0, .int .i64 n_1]) (rt := .one (.int .i64)) P_mixed rfl rfl (by kernel_rfl) (by kernel_rfl)
    ((show _ = least_Least_Accept.M l_0 n_1 K w by kernel_rfl).mpr h)

/-- (*frisket/least.Least).Next -/
def least_Least_Next.M (l_0 : Option Addr) (n_1 : Int) (b_2 : Int) (K : (Int × Bool) → World → Prop) (w : World) : Prop :=
  Join (fun (s1 : Bool) w1 => Br s1 (K (0, false) w1) (NilC l_0 fun a26 => Ld .sl a26 w1 fun x28 => IdxS x28 n_1 257 fun p31 => IdxA 256 p31 b_2 1 fun p33 => Ld (.int .i64) p33 w1 fun x34 => K (x34, true) w1)) fun j2 => least_Least_has.C l_0 n_1 w fun x10 w2 => Br (!x10) (j2 true w2) (NilC l_0 fun a14 => Ld .sl a14 w2 fun x16 => IdxS x16 n_1 257 fun p19 => IdxA 256 p19 b_2 1 fun p21 => Ld (.int .i64) p21 w2 fun x22 => j2 (x22 == (-1 : Int)) w2)
theorem least_Least_Next.ok (l_0 : Option Addr) (n_1 : Int) (b_2 : Int) (K : (Int × Bool) → World → Prop) (w : World) (h : least_Least_Next.M l_0 n_1 b_2 K w) : least_Least_Next.C l_0 n_1 b_2 w K :=
  calls_of_sem (P := P) (H := [(10, .one .bool), (16, .one .sl), (22, .one (.int .i64)), (28, .one .sl), (34, .one (.int .i64))]) (ann := (.n .z (.n (.j [(24, .one .bool)] [0, 1, 2] .z .z) .z))) (args := [.pointer l_0, .int .i64 n_1, .int .u8 b_2]) (rt := .tup [.one (.int .i64), .one .bool]) P_mixed rfl rfl (by kernel_rfl) (by kernel_rfl)
    ((show _ = least_Least_Next.M l_0 n_1 b_2 K w by kernel_rfl).mpr h)

/-- (*frisket/least.Least).Run -/
def least_Least_Run.M (l_0 : Option Addr) (s_1 : ByteArray) (K : (Int × Bool) → World → Prop) (w : World) : Prop :=
  Loop (fun (s1 : Int × Bool × Int) w1 again2 => Join (fun (s3 : Bool) w2 => Br s3 (IdxStr s_1 s1.2.2 fun x25 => least_Least_Next.C l_0 s1.1 (x25.toNat : Int) w2 fun x26 w3 => again2 (x26.1, x26.2, (w64 (s1.2.2 + (1 : Int)))) w3) (K (s1.1, s1.2.1) w2)) fun j4 => Br (decide (s1.2.2 < (s_1.size : Int))) (j4 s1.2.1 w1) (j4 false w1)) (0, (!l_0.isNone), 0) w
theorem least_Least_Run.ok (l_0 : Option Addr) (s_1 : ByteArray) (K : (Int × Bool) → World → Prop) (w : World) (h : least_Least_Run.M l_0 s_1 K w) : least_Least_Run.C l_0 s_1 w K :=
  calls_of_sem (P := P) (H := [(26, .tup [.one (.int .i64), .one .bool])]) (ann := (.n .z (.n .z (.n (.n .z (.l [(6, .one (.int .i64)), (7, .one .bool), (8, .one (.int .i64))] [0, 1] (.n (.j [(17, .one .bool)] [0, 1, 6, 7, 8] .z .z) .z))) .z)))) (args := [.pointer l_0, .string s_1]) (rt := .tup [.one (.int .i64), .one .bool]) P_mixed rfl rfl (by kernel_rfl) (by kernel_rfl)
    ((show _ = least_Least_Run.M l_0 s_1 K w by kernel_rfl).mpr h)

/-- (*frisket/least.Least).Longest -/
def least_Least_Longest.M (l_0 : Option Addr) (s_1 : ByteArray) (K : (Int × Int × Int) → World → Prop) (w : World) : Prop :=
  Loop (fun (s1 : Int × Int × Int × Int) w1 again2 => Br (decide (s1.2.2.2 < (s_1.size : Int))) (IdxStr s_1 s1.2.2.2 fun x23 => least_Least_Next.C l_0 s1.2.2.1 (x23.toNat : Int) w1 fun x24 w2 => Br (!x24.2) (K (s1.1, s1.2.1, (w64 (s1.2.2.2 + (1 : Int)))) w2) (least_Least_Accept.C l_0 x24.1 w2 fun x36 w3 => Br (x36 != (-1 : Int)) (least_Least_Accept.C l_0 x24.1 w3 fun x40 w4 => again2 (x40, (w64 (s1.2.2.2 + (1 : Int))), x24.1, (w64 (s1.2.2.2 + (1 : Int)))) w4) (again2 (s1.1, s1.2.1, x24.1, (w64 (s1.2.2.2 + (1 : Int)))) w3))) (K (s1.1, s1.2.1, (s_1.size : Int)) w1)) ((-1), 0, 0, 0) w
theorem least_Least_Longest.ok (l_0 : Option Addr) (s_1 : ByteArray) (K : (Int × Int × Int) → World → Prop) (w : World) (h : least_Least_Longest.M l_0 s_1 K w) : least_Least_Longest.C l_0 s_1 w K :=
  calls_of_sem (P := P) (H := [(24, .tup [.one (.int .i64), .one .bool]), (36, .one (.int .i64)), (40, .one (.int .i64))]) (ann := (.n .z (.n .z (.n (.n .z (.l [(7, .one (.int .i64)), (8, .one (.int .i64)), (9, .one (.int .i64)), (15, .one (.int .i64))] [0, 1, 14] .z)) .z)))) (args := [.pointer l_0, .string s_1]) (rt := .tup [.one (.int .i64), .one (.int .i64), .one (.int .i64)]) P_mixed rfl rfl (by kernel_rfl) (by kernel_rfl)
    ((show _ = least_Least_Longest.M l_0 s_1 K w by kernel_rfl).mpr h)

/-- frisket/frisketref05.Longest -/
def frisketref05_Longest.M (n_0 : Array Value) (s_1 : ByteArray) (K : Int → World → Prop) (w : World) : Prop :=
  Al (.cells n_0 T.frisketref05_Node (0, 0)) w fun b1 w1 => App P (Instr.makeSlice T.sl_bool (.int .i64 (w64 ((s_1.size : Int) + (1 : Int)))) (.int .i64 (w64 ((s_1.size : Int) + (1 : Int))))) (.one .sl) w1 fun x11 w2 => IdxS x11 0 1 fun p13 => St p13 (.bool true) w2 fun w3 => LdA 258 (⟨b1, 0, none⟩) w3 fun x14 => frisketref05_Ends.C x14 s_1 x11 w3 fun x17 w4 => Loop (fun (s2 : Int) w5 again3 => Br (decide ((0 : Int) ≤ s2)) (IdxS x17 s2 1 fun p26 => Ld .bool p26 w5 fun x27 => Br x27 (K s2 w5) (again3 (w64 (s2 - (1 : Int))) w5)) (K (-1) w5)) (s_1.size : Int) w4
theorem frisketref05_Longest.ok (n_0 : Array Value) (s_1 : ByteArray) (K : Int → World → Prop) (w : World) (h : frisketref05_Longest.M n_0 s_1 K w) : frisketref05_Longest.C n_0 s_1 w K :=
  calls_of_sem (P := P) (H := [(11, .one .sl), (14, .big), (17, .one .sl), (27, .one .bool)]) (ann := (.n .z (.n .z (.n .z (.n .z (.n (.n .z (.l [(7, .one (.int .i64))] [6] .z)) .z)))))) (args := [.agg n_0, .string s_1]) (rt := .one (.int .i64)) P_mixed rfl rfl (by kernel_rfl) (by kernel_rfl)
    ((show _ = frisketref05_Longest.M n_0 s_1 K w by kernel_rfl).mpr h)

/-- frisket/least.live -/
def least_live.M (d_0 : Option Addr) (K : Sl → World → Prop) (w : World) : Prop :=
  dfa_Dfa_States.C d_0 w fun x11 w1 => App P (Instr.makeSlice T.sl_bool (.int .i64 x11) (.int .i64 x11)) (.one .sl) w1 fun x12 w2 => Loop (fun (s1 : Int) w3 again2 => Br (decide (s1 < (x12.n : Int))) (dfa_Dfa_Accept.C d_0 s1 w3 fun x22 w4 => IdxS x12 s1 1 fun p24 => St p24 (.bool (x22 != (-1 : Int))) w4 fun w5 => again2 (w64 (s1 + (1 : Int))) w5) (Loop (fun (s3 : Bool) w6 again4 => Br s3 (Loop (fun (s5 : Bool × Int) w7 again6 => Br (decide (s5.2 < (x12.n : Int))) (Loop (fun (s7 : Bool × Int) w8 again8 => Join (fun (s9 : Bool) w9 => Br s9 (dfa_Dfa_Next.C d_0 s5.2 (IntKind.wrap .u8 (s7.2)) w9 fun x48 w10 => Join (fun (s10 : Bool) w11 => Br s10 (IdxS x12 s5.2 1 fun p60 => St p60 (.bool true) w11 fun w12 => again8 (true, (w64 (s7.2 + (1 : Int)))) w12) (again8 (s7.1, (w64 (s7.2 + (1 : Int)))) w11)) fun j11 => Br x48.2 (IdxS x12 x48.1 1 fun p55 => Ld .bool p55 w10 fun x56 => j11 x56 w10) (j11 false w10)) (again6 (s7.1, (w64 (s5.2 + (1 : Int)))) w9)) fun j12 => Br (decide (s7.2 < (256 : Int))) (IdxS x12 s5.2 1 fun p37 => Ld .bool p37 w8 fun x38 => j12 (!x38) w8) (j12 false w8)) (s5.1, 0) w7) (again4 s5.1 w7)) (false, 0) w6) (K x12 w6)) true w3)) 0 w2
theorem least_live.ok (d_0 : Option Addr) (K : Sl → World → Prop) (w : World) (h : least_live.M d_0 K w) : least_live.C d_0 w K :=
  calls_of_sem (P := P) (H := [(11, .one (.int .i64)), (12, .one .sl), (22, .one (.int .i64)), (38, .one .bool), (48, .tup [.one (.int .i64), .one .bool]), (56, .one .bool)]) (ann := (.n .z (.n .z (.n (.n .z (.l [(15, .one (.int .i64))] [0, 3, 14] .z)) (.n (.n .z (.l [(5, .one .bool)] [0, 3] (.n .z (.n .z (.n .z (.l [(5, .one .bool), (29, .one (.int .i64))] [0, 3, 28] (.n .z (.n .z (.n (.n .z (.n .z (.l [(5, .one .bool), (7, .one (.int .i64))] [0, 3, 6, 28, 29] (.n (.j [(40, .one .bool)] [0, 3, 5, 6, 7, 28, 29] .z .z) (.n (.n .z (.j [(57, .one .bool)] [0, 3, 5, 6, 7, 28, 29] .z .z)) .z))))) .z))))))))) .z))))) (args := [.pointer d_0]) (rt := .one .sl) P_mixed rfl rfl (by kernel_rfl) (by kernel_rfl)
    ((show _ = least_live.M d_0 K w by kernel_rfl).mpr h)

/-- frisket/least.kinds -/
def least_kinds.M (d_0 : Option Addr) (lives_1 : Sl) (K : Sl → World → Prop) (w : World) : Prop :=
  dfa_Dfa_States.C d_0 w fun x11 w1 => App P (Instr.makeSlice T.sl_int (.int .i64 x11) (.int .i64 x11)) (.one .sl) w1 fun x12 w2 => Al (.cells #[.pointer d_0, .slice lives_1.a lives_1.n lives_1.c, .slice x12.a x12.n x12.c, .int .i64 0] T.least_rounds (0, 0)) w2 fun b1 w3 => Al (.map #[] 0) w3 fun m2 w4 => Ld .sl (⟨b1, 2, none⟩) w4 fun x19 => Loop (fun (s3 : Int) w5 again4 => Br (decide (s3 < (x19.n : Int))) (Join (fun (s5 : Unit) w6 => Ld .sl (⟨b1, 2, none⟩) w6 fun x42 => IdxS x42 s3 1 fun p44 => Ld (.int .i64) p44 w6 fun x45 => App0 P (Instr.mapUpdate T.map_int_bool (.map (some m2)) (.int .i64 x45) (.bool true)) w6 fun w7 => again4 (w64 (s3 + (1 : Int))) w7) fun j6 => IdxS lives_1 s3 1 fun p26 => Ld .bool p26 w5 fun x27 => Br x27 (Draw w5 fun S7 w8 => LdS S7 .sl (⟨b1, 2, none⟩) fun x31 => dfa_Dfa_Accept.C d_0 s3 w8 fun x35 w9 => (S7 w9 ∧ IdxS x31 s3 1 fun p37 => St p37 (.int .i64 (w64 (x35 + (2 : Int)))) w9 fun w10 => (S7 w10 ∧ j6 () w10))) (j6 () w5)) (App P (Builtin.len_ #[T.map_int_bool] T.int #[.map (some m2)]) (.one (.int .i64)) w5 fun x49 w11 => St (⟨b1, 3, none⟩) (.int .i64 x49) w11 fun w12 => Loop (fun (s8 : Unit) w13 again9 => least_rounds_again.C (some (⟨b1, 0, none⟩)) w13 fun x53 w14 => Br x53 (again9 () w14) (Ld .sl (⟨b1, 2, none⟩) w14 fun x57 => K x57 w14)) () w12)) 0 w4
theorem least_kinds.ok (d_0 : Option Addr) (lives_1 : Sl) (K : Sl → World → Prop) (w : World) (h : least_kinds.M d_0 lives_1 K w) : least_kinds.C d_0 lives_1 w K :=
  calls_of_sem (P := P) (H := [(11, .one (.int .i64)), (12, .one .sl), (19, .one .sl), (27, .one .bool), (31, .one .sl), (35, .one (.int .i64)), (42, .one .sl), (45, .one (.int .i64)), (53, .one .bool), (57, .one .sl)]) (ann := (.n .z (.n .z (.n .z (.n (.n .z (.l [(21, .one (.int .i64))] [0, 1, 5, 6, 20] (.n .z (.n .z (.n (.n .z (.j [] [0, 1, 5, 6, 7, 20, 21] .z .z)) .z))))) (.n .z (.n (.l [] [5] .z) .z))))))) (args := [.pointer d_0, .slice lives_1.a lives_1.n lives_1.c]) (rt := .one .sl) P_mixed rfl rfl (by kernel_rfl) (by kernel_rfl)
    ((show _ = least_kinds.M d_0 lives_1 K w by kernel_rfl).mpr h)

/-- (*frisket/least.Least).has -/
def least_Least_has.M (l_0 : Option Addr) (n_1 : Int) (K : Bool → World → Prop) (w : World) : Prop :=
  Br (decide ((0 : Int) ≤ n_1)) (least_Least_States.C l_0 w fun x10 w1 => K (decide (n_1 < x10)) w1) (K false w)
theorem least_Least_has.ok (l_0 : Option Addr) (n_1 : Int) (K : Bool → World → Prop) (w : World) (h : least_Least_has.M l_0 n_1 K w) : least_Least_has.C l_0 n_1 w K :=
  calls_of_sem (P := P) (H := [(10, .one (.int .i64))]) (ann := .z) (args := [.pointer l_0, .int .i64 n_1]) (rt := .one .bool) P_mixed rfl rfl (by kernel_rfl) (by kernel_rfl)
    ((show _ = least_Least_has.M l_0 n_1 K w by kernel_rfl).mpr h)

/-- (*frisket/least.rounds).again -/
def least_rounds_again.M (r_0 : Option Addr) (K : Bool → World → Prop) (w : World) : Prop :=
  Al (.map #[] 0) w fun m1 w1 => NilC r_0 fun a12 => Ld .sl (a12.add 2) w1 fun x14 => App P (Instr.makeSlice T.sl_int (.int .i64 (x14.n : Int)) (.int .i64 (x14.n : Int))) (.one .sl) w1 fun x16 w2 => Loop (fun (s2 : Int) w3 again3 => Br (decide (s2 < (x16.n : Int))) (least_rounds_row.C r_0 s2 w3 fun x24 w4 => Al (.cells (Array.replicate 257 (.int .i64 0 : Value)) T.least_row (0, 0)) w4 fun b4 w5 => StA P T.least_row (⟨b4, 0, none⟩) x24 w5 fun w6 => LdA 257 (⟨b4, 0, none⟩) w6 fun x27 => App P (Instr.lookup T.map_least_row_int (.map (some m1)) (.agg x27) true) (.tup [.one (.int .i64), .one .bool]) w6 fun x28 w7 => Join (fun (s5 : Int) w8 => IdxS x16 s2 1 fun p41 => St p41 (.int .i64 s5) w8 fun w9 => again3 (w64 (s2 + (1 : Int))) w9) fun j6 => Br (!x28.2) (App P (Builtin.len_ #[T.map_least_row_int] T.int #[.map (some m1)]) (.one (.int .i64)) w7 fun x34 w10 => LdA 257 (⟨b4, 0, none⟩) w10 fun x36 => App0 P (Instr.mapUpdate T.map_least_row_int (.map (some m1)) (.agg x36) (.int .i64 x34)) w10 fun w11 => j6 x34 w11) (j6 x28.1 w7)) (Draw w3 fun S7 w12 => AppS P S7 (Builtin.len_ #[T.map_least_row_int] T.int #[.map (some m1)]) (.one (.int .i64)) fun x44 => NilC r_0 fun a46 => LdS S7 (.int .i64) (a46.add 3) fun x48 => App P (Builtin.len_ #[T.map_least_row_int] T.int #[.map (some m1)]) (.one (.int .i64)) w12 fun x54 w13 => NilC r_0 fun a55 => St (a55.add 2) (.slice x16.a x16.n x16.c) w13 fun w14 => NilC r_0 fun a57 => St (a57.add 3) (.int .i64 x54) w14 fun w15 => K (decide (x48 < x44)) w15)) 0 w2
theorem least_rounds_again.ok (r_0 : Option Addr) (K : Bool → World → Prop) (w : World) (h : least_rounds_again.M r_0 K w) : least_rounds_again.C r_0 w K :=
  calls_of_sem (P := P) (H := [(14, .one .sl), (16, .one .sl), (24, .big), (27, .big), (28, .tup [.one (.int .i64), .one .bool]), (36, .big), (48, .one (.int .i64))]) (ann := (.n .z (.n .z (.n .z (.n (.n .z (.l [(19, .one (.int .i64))] [0, 3, 4, 18] (.n .z (.n .z (.n (.n .z (.n .z (.n .z (.j [(7, .one (.int .i64))] [0, 3, 4, 5, 18, 19] .z .z)))) .z))))) .z))))) (args := [.pointer r_0]) (rt := .one .bool) P_mixed rfl rfl (by kernel_rfl) (by kernel_rfl)
    ((show _ = least_rounds_again.M r_0 K w by kernel_rfl).mpr h)

/-- (*frisket/least.rounds).row -/
def least_rounds_row.M (r_0 : Option Addr) (n_1 : Int) (K : Array Value → World → Prop) (w : World) : Prop :=
  Al (.cells (Array.replicate 257 (.int .i64 0 : Value)) T.least_row (0, 0)) w fun b1 w1 => NilC r_0 fun a10 => Ld .sl (a10.add 2) w1 fun x12 => IdxS x12 n_1 1 fun p14 => Ld (.int .i64) p14 w1 fun x15 => App P (Instr.build T.least_row #[(1, .int .i64 x15)]) .big w1 fun x16 w2 => Al (.cells (Array.replicate 257 (.int .i64 0 : Value)) T.least_row (0, 0)) w2 fun b2 w3 => StA P T.least_row (⟨b2, 0, none⟩) x16 w3 fun w4 => Loop (fun (s3 : Int) w5 again4 => Br (decide (s3 < (256 : Int))) (IdxA 256 (⟨b2, 0, none⟩) s3 1 fun p22 => St p22 (.int .i64 (-1)) w5 fun w6 => NilC r_0 fun a25 => Ld .ptr a25 w6 fun x27 => dfa_Dfa_Next.C x27 n_1 (IntKind.wrap .u8 (s3)) w6 fun x31 w7 => Join (fun (s5 : Bool) w8 => Br s5 (NilC r_0 fun a46 => Ld .sl (a46.add 2) w8 fun x48 => IdxS x48 x31.1 1 fun p50 => Ld (.int .i64) p50 w8 fun x51 => IdxA 256 (⟨b2, 0, none⟩) s3 1 fun p53 => St p53 (.int .i64 x51) w8 fun w9 => again4 (w64 (s3 + (1 : Int))) w9) (again4 (w64 (s3 + (1 : Int))) w8)) fun j6 => Br x31.2 (NilC r_0 fun a37 => Ld .sl (a37.add 1) w7 fun x39 => IdxS x39 x31.1 1 fun p41 => Ld .bool p41 w7 fun x42 => j6 x42 w7) (j6 false w7)) (LdA 257 (⟨b2, 0, none⟩) w5 fun x55 => StA P T.least_row (⟨b1, 0, none⟩) x55 w5 fun w10 => LdA 257 (⟨b1, 0, none⟩) w10 fun r0 => K r0 w10)) 0 w4
theorem least_rounds_row.ok (r_0 : Option Addr) (n_1 : Int) (K : Array Value → World → Prop) (w : World) (h : least_rounds_row.M r_0 n_1 K w) : least_rounds_row.C r_0 n_1 w K :=
  calls_of_sem (P := P) (H := [(4, .big), (12, .one .sl), (15, .one (.int .i64)), (16, .big), (27, .one .ptr), (31, .tup [.one (.int .i64), .one .bool]), (39, .one .sl), (42, .one .bool), (48, .one .sl), (51, .one (.int .i64)), (55, .big)]) (ann := (.n .z (.n .z (.n (.n .z (.l [(17, .one (.int .i64))] [0, 1, 4, 5] (.n .z (.n .z (.n (.n .z (.n .z (.n .z (.j [(43, .one .bool)] [0, 1, 4, 5, 6, 7, 17] .z .z)))) .z))))) .z)))) (args := [.pointer r_0, .int .i64 n_1]) (rt := .big) P_mixed rfl rfl (by kernel_rfl) (by kernel_rfl)
    ((show _ = least_rounds_row.M r_0 n_1 K w by kernel_rfl).mpr h)

end Go.Fk
end

section
set_option linter.unusedVariables false
namespace Go.Fk
open Go Go.MapKept

/-! ## Rows given by a rule; which states live -/

def rowG {α : Type} (N : Nat) (f : Nat → α) : List α := (List.range N).map f
section
variable {α : Type} {N : Nat} {f g : Nat → α}
theorem rowG_len : (rowG N f).length = N := by simp [rowG]
theorem rowG_get {i : Nat} (h : i < N) : (rowG N f)[i]? = some (f i) := by simp [rowG, h]
theorem rowG_congr (h : ∀ i, i < N → f i = g i) : rowG N f = rowG N g := List.map_congr_left fun i hi => h i (by simpa using hi)
theorem rowG_set {i : Nat} {v : α} : (rowG N f).set i v = rowG N fun j => if j = i then v else f j := by
  refine List.ext_getElem? fun j => ?_
  rw [List.getElem?_set]
  by_cases hj : j < N
  · rw [rowG_get hj, rowG_get hj, rowG_len]
    by_cases e : i = j
    · subst e; simp [hj]
    · simp [e, Ne.symm e]
  · have e1 : ∀ h : Nat → α, (rowG N h)[j]? = none := fun h => List.getElem?_eq_none (by rw [rowG_len]; omega)
    rw [e1, e1, rowG_len]
    by_cases e : i = j
    · subst e; simp [hj]
    · simp [e]
theorem rowG_rep {v : α} : List.replicate N v = rowG N fun _ => v := by simp [rowG, List.map_const']
end
theorem IdxS.getG {t : Ty} {M : Nat → Prop} {w : World} {l : Sl} {N : Nat} {f : Nat → t.T} {i : Nat} {K : t.T → Prop} (h : SlT t (V M w) l (rowG N f)) (hi : i < N) (hk : K (f i)) : IdxS l (i : Int) 1 fun p => Ld t p w K := by
  refine IdxS.get h (by omega) (by rw [rowG_len]; omega) fun x hx => ?_
  rw [Int.toNat_natCast, rowG_get hi] at hx
  cases hx; exact hk
theorem IdxS.putG {t : Ty} {E : TypeId} {N : Nat} {f : Nat → t.T} {w : World} {b : Nat} {c i : Nat} {v : t.T} {k : World → Prop} (h : w.heap[b]? = some (rowObj t E (rowG N f))) (hi : i < N)
    (hk : ∀ w', Upd b (rowObj t E (rowG N fun j => if j = i then v else f j)) w w' → k w') : IdxS ⟨some ⟨b, 0, none⟩, N, c⟩ (i : Int) 1 fun p => St p (t.enc v) w k := by
  refine IdxS.put (t := t) (v := v) h (by omega) (by omega) rowG_len.symm fun w' u => hk w' ?_
  rw [Int.toNat_natCast, rowG_set] at u
  exact u

/-! ## The automaton as a table -/

structure Aut (svs : List DSt) : Prop where
  pos : 0 < svs.length
  few : svs.length ≤ 2000
  rng : ∀ sv ∈ svs, ∀ c, c < 256 → sv.nx c = -1 ∨ 0 ≤ sv.nx c ∧ sv.nx c < svs.length
  acc : ∀ sv ∈ svs, -1 ≤ sv.acc ∧ sv.acc ≤ 100000

def nxt (svs : List DSt) (n b : Nat) : Option Nat := match svs[n]? with
  | some sv => if sv.nx b = -1 then none else some (sv.nx b).toNat
  | none => none
def ac (svs : List DSt) (n : Nat) : Int := accOf svs n

variable {svs : List DSt} {cl : Nat → Int} {nc : Int}

theorem Aut.nxt_lt (A : Aut svs) {n b k : Nat} (hb : b < 256) (h : nxt svs n b = some k) : k < svs.length ∧ n < svs.length := by
  unfold nxt at h
  cases hs : svs[n]? with
  | none => rw [hs] at h; cases h
  | some sv =>
    rw [hs] at h
    dsimp only at h
    have hr := A.rng sv (List.mem_of_getElem? hs) b hb
    have hl := (List.getElem?_eq_some_iff.1 hs).1
    by_cases e : sv.nx b = -1
    · rw [if_pos e] at h; cases h
    · rw [if_neg e] at h; cases h; omega

theorem Aut.next (A : Aut svs) {n b : Nat} (hb : b < 256) : nextOf svs (n : Nat) b = match nxt svs n b with
    | some k => ((k : Int), true)
    | none => (0, false) := by
  unfold nxt
  cases hs : svs[n]? with
  | none => simp [nextOf, stAt, hs]
  | some sv =>
    have hr := A.rng sv (List.mem_of_getElem? hs) b hb
    rw [nextOf, stAt_in (by omega) (by simpa using hs)]
    dsimp only
    by_cases e : sv.nx b = -1
    · rw [if_pos e, if_pos e]
    · rw [if_neg e, if_neg e]
      have : (((sv.nx b).toNat : Nat) : Int) = sv.nx b := by omega
      simp only [this]

theorem Aut.ac_rng (A : Aut svs) (n : Nat) : -1 ≤ ac svs n ∧ ac svs n ≤ 100000 := by
  unfold ac accOf
  cases hs : svs[n]? with
  | none => simp [stAt, hs]
  | some sv =>
    rw [stAt_in (by omega) (by simpa using hs)]
    exact A.acc sv (List.mem_of_getElem? hs)

/-- A state that leads to one that accepts. -/
inductive Alive (svs : List DSt) : Nat → Prop
  | acc {n : Nat} : n < svs.length → ac svs n ≠ -1 → Alive svs n
  | step {n b k : Nat} : b < 256 → nxt svs n b = some k → Alive svs k → Alive svs n

set_option maxRecDepth 20000 in
theorem live_spec {w : World} {d : Option Addr} {M : Nat → Prop} (hd : DfaO (V No w) d svs cl nc) (A : Aut svs) {K : Sl → World → Prop}
    (hK : ∀ l w' lv, Keeps No w w' → SlT .bool (V No w') l (rowG svs.length lv) → (∀ n, n < svs.length → (lv n = true ↔ Alive svs n)) → K l w') : least_live.C d w K := by
  have hfew := A.few
  refine least_live.ok _ _ _ ?_
  simp only [least_live.M]
  refine dfa_States_spec hd ?_
  refine App.make1 (t := .bool) (z := false) elBool rfl (by omega) (by omega) fun bl w1 n1 => ?_
  have e1 := n1.eq; have z1 := n1.size
  have o1 := n1.at_
  rw [rowG_rep] at o1
  -- all that is kept
  have hdd : ∀ {w'}, Keeps (· = bl) w1 w' → DfaO (V No w') d svs cl nc := fun {w'} k => (hd.mono (V.move (n1.keeps.then k fun b hb h => by omega) (fun _ _ h => h.elim) (M' := No) fun _ _ h => h.elim))
  refine Loop.mk (fun s w' => Keeps (· = bl) w1 w' ∧ ∃ i : Nat, i ≤ svs.length ∧ s = (i : Int) ∧ w'.heap[bl]? = some (rowObj .bool tBool (rowG svs.length fun j => if j < i then ac svs j != -1 else false))) (fun s => svs.length - s.toNat) ⟨.refl, 0, by omega, rfl, by simpa using o1⟩ ?_
  rintro s w2 ⟨k2, i, hi, rfl, o2⟩ R hR
  refine Br.mk (fun ht => ?_) (fun hf => ?_)
  · have ht : i < svs.length := by have h9 : (_ : Int) < (svs.length : Int) := of_decide_eq_true ht; omega
    refine dfa_Accept_spec (hdd k2) ?_
    refine IdxS.putG (t := .bool) (v := ac svs i != -1) o2 ht fun w3 u3 => ?_
    have e4 : w64 ((i : Int) + 1) = ((i + 1 : Nat) : Int) := by rw [w64_eq (by omega)]; omega
    rw [e4]
    refine hR _ _ ⟨k2.trans u3.keeps, i + 1, by omega, rfl, ?_⟩ (by omega)
    rw [u3.at_]
    congr 2
    refine rowG_congr fun j hj => ?_
    by_cases e : j = i
    · subst e; simp
    · have : (j < i + 1) ↔ j < i := by omega
      simp [e, this]
  · have hf : i = svs.length := by have h9 : ¬ (_ : Int) < (svs.length : Int) := of_decide_eq_false hf; omega
    subst hf
    have o3 : w2.heap[bl]? = some (rowObj .bool tBool (rowG svs.length fun j => if j < svs.length then ac svs j != -1 else false)) := o2
    -- the fixpoint
    let Inv : (Nat → Bool) → Prop := fun f => (∀ j, f j = true → Alive svs j) ∧ (∀ j, j < svs.length → ac svs j ≠ -1 → f j = true)
    let Clo : (Nat → Bool) → Nat → Nat → Prop := fun f n b => ∀ j c k, c < 256 → (j < n ∨ j = n ∧ c < b) → nxt svs j c = some k → f k = true → f j = true
    let Ob : World → (Nat → Bool) → Prop := fun w' f => Keeps (· = bl) w1 w' ∧ w'.heap[bl]? = some (rowObj .bool tBool (rowG svs.length f))
    refine Loop.mkn (fun m s w' => ∃ f, Ob w' f ∧ Inv f ∧ (s = false → Clo f svs.length 0) ∧ m = svs.length - cntB f svs.length + (if s then 1 else 0)) _ ⟨_, ⟨k2, o3⟩, ⟨fun j hj => ?_, fun j hj ha => ?_⟩, (fun h => by cases h), rfl⟩ ?_
    · by_cases e : j < svs.length
      · simp [e] at hj; exact .acc e hj
      · simp [e] at hj
    · simp [hj, ha]
    rintro m s w3 ⟨f, ⟨k3, o3⟩, hInv, hclo, rfl⟩ R3 hR3
    refine Br.mk (fun hs => ?_) (fun hs => ?_)
    · subst hs
      have hcf := cntB_le f svs.length
      let St3 : Bool → (Nat → Bool) → Prop := fun more f' => (∀ j, f j = true → f' j = true) ∧ Inv f' ∧ (more = true → cntB f svs.length < cntB f' svs.length) ∧ (more = false → f' = f)
      refine Loop.mk (fun (t : Bool × Int) w' => ∃ (n : Nat) (f' : Nat → Bool), n ≤ svs.length ∧ t.2 = (n : Int) ∧ Ob w' f' ∧ St3 t.1 f' ∧ (t.1 = false → Clo f' n 0)) (fun t => svs.length - t.2.toNat) ⟨0, f, by omega, rfl, ⟨k3, o3⟩, ⟨fun _ h => h, hInv, (fun h => by cases h), fun _ => rfl⟩, fun _ j c k _ h => by omega⟩ ?_
      rintro ⟨more, nn⟩ w4 ⟨n, f4, hn, hnn, ⟨k4, o4⟩, hst4, hclo4⟩ R4 hR4
      dsimp only at hnn hst4 hclo4 ⊢
      subst hnn
      refine Br.mk (fun ht => ?_) (fun hf => ?_)
      · have ht : n < svs.length := by have h9 : (_ : Int) < (svs.length : Int) := of_decide_eq_true ht; omega
        have e4 : w64 ((n : Int) + 1) = ((n + 1 : Nat) : Int) := by rw [w64_eq (by omega)]; omega
        refine Loop.mk (fun (t : Bool × Int) w' => ∃ (b : Nat) (f' : Nat → Bool), b ≤ 256 ∧ t.2 = (b : Int) ∧ Ob w' f' ∧ St3 t.1 f' ∧ (t.1 = false → Clo f' n b)) (fun t => 256 - t.2.toNat) ⟨0, f4, by omega, rfl, ⟨k4, o4⟩, hst4, hclo4⟩ ?_
        rintro ⟨more5, bb⟩ w5 ⟨b, f5, hb, hbb, ⟨k5, o5⟩, hst5, hclo5⟩ R5 hR5
        dsimp only at hbb hst5 hclo5 ⊢
        subst hbb
        have hrow5 : SlT .bool (V No w5) ⟨some ⟨bl, 0, none⟩, svs.length, svs.length⟩ (rowG svs.length f5) := Row.sl o5 (fun h => h.elim) rowG_len.symm
        refine Join.cut (fun (s9 : Bool) w' => w' = w5 ∧ (s9 = true → b < 256 ∧ f5 n = false) ∧ (s9 = false → ¬ b < 256 ∨ f5 n = true)) ?_ ?_
        · rintro s9 w6 ⟨rfl, g1, g2⟩
          refine Br.mk (fun h9 => ?_) (fun h9 => ?_)
          · obtain ⟨hb6, hfn⟩ := g1 h9
            have e5 : w64 ((b : Int) + 1) = ((b + 1 : Nat) : Int) := by rw [w64_eq (by omega)]; omega
            rw [u8_small hb6]
            refine dfa_Next_spec (hdd k5) hb6 ?_
            rw [A.next hb6]
            have skip : (∀ k, nxt svs n b = some k → f5 k = false) → R5 (more5, ((b + 1 : Nat) : Int)) w6 := fun hno => by
              refine hR5 _ _ ⟨b + 1, f5, by omega, rfl, ⟨k5, o5⟩, hst5, fun hm j c k hc h hx hk => ?_⟩ (by dsimp only; omega)
              by_cases e : j = n ∧ c = b
              · obtain ⟨rfl, rfl⟩ := e
                rw [hno k hx] at hk; cases hk
              · exact hclo5 hm j c k hc (by omega) hx hk
            cases hx : nxt svs n b with
            | none =>
              dsimp only
              simp only [Join, Br_false]
              rw [e5]
              exact skip fun k hk => by rw [hx] at hk; cases hk
            | some k =>
              dsimp only
              have hkl := (A.nxt_lt hb6 hx).1
              simp only [Join, Br_true]
              refine IdxS.getG (t := .bool) hrow5 hkl ?_
              refine (Br.mk (fun hk => ?_) (fun hk => ?_))
              · refine IdxS.putG (t := .bool) (v := true) o5 ht fun w7 u7 => ?_
                rw [e5]
                refine hR5 _ _ ⟨b + 1, fun j => if j = n then true else f5 j, by omega, rfl, ⟨k5.trans u7.keeps, u7.at_⟩, ⟨fun j h => ?_, ⟨fun j h => ?_, fun j hj ha => ?_⟩, fun _ => ?_, (fun h => by cases h)⟩, (fun h => by cases h)⟩ (by dsimp only; omega)
                · have := hst5.1 j h
                  dsimp only; split <;> simp_all
                · dsimp only at h
                  by_cases e : j = n
                  · subst e; exact .step hb6 hx (hst5.2.1.1 k hk)
                  · rw [if_neg e] at h; exact hst5.2.1.1 j h
                · dsimp only
                  split
                  · rfl
                  · exact hst5.2.1.2 j hj ha
                · have h1 : cntB f svs.length ≤ cntB f5 svs.length := cntB_mono hst5.1 _
                  have h2 : cntB f5 svs.length < cntB (fun j => if j = n then true else f5 j) svs.length := cntB_lt (fun i hi => by split <;> simp_all) ht hfn (by simp)
                  omega
              · rw [e5]
                exact skip fun k' hk' => by rw [hx] at hk'; cases hk'; exact hk
          · rw [e4]
            refine hR4 _ _ ⟨n + 1, f5, by omega, rfl, ⟨k5, o5⟩, hst5, fun hm j c k hc h hx hk => ?_⟩ (by dsimp only; omega)
            by_cases e : j = n
            · subst e
              rcases g2 h9 with h | h
              · exact hclo5 hm j c k hc (by omega) hx hk
              · exact h
            · exact hclo5 hm j c k hc (by omega) hx hk
        · intro j hj
          refine Br.mk (fun hlt => ?_) (fun hlt => ?_)
          · have hlt : b < 256 := by have := of_decide_eq_true hlt; omega
            refine IdxS.getG (t := .bool) hrow5 ht ?_
            exact hj _ _ ⟨rfl, fun h => ⟨hlt, by simpa using h⟩, fun h => .inr (by simpa using h)⟩
          · have hlt := of_decide_eq_false hlt
            exact hj _ _ ⟨rfl, (fun h => by cases h), fun _ => .inl (by omega)⟩
      · have hf : n = svs.length := by have h9 : ¬ (_ : Int) < (svs.length : Int) := of_decide_eq_false hf; omega
        subst hf
        have hc4 := cntB_le f4 svs.length
        refine hR3 _ _ _ ?_ ⟨f4, ⟨k4, o4⟩, hst4.2.1, hclo4, rfl⟩
        cases more with
        | true => have := hst4.2.2.1 rfl; simp; omega
        | false => rw [hst4.2.2.2 rfl]; simp
    · subst hs
      have hc := hclo rfl
      refine hK _ w3 f (n1.keeps.then k3 fun b hb h => by omega) (Row.sl o3 (fun h => h.elim) rowG_len.symm) fun n hn => ⟨fun h => hInv.1 n h, fun h => ?_⟩
      clear hn
      induction h with
      | acc hn ha => exact hInv.2 _ hn ha
      | step hb hx _ ih => exact hc _ _ _ hb (.inl (A.nxt_lt hb hx).2) hx ih
end Go.Fk
end

section
set_option linter.unusedVariables false
namespace Go.Fk
open Go Go.MapKept Go.Maps

/-! ## What a state does, as a key -/

def rCells (f : Nat → Int) (own : Int) : List Value := row256 f ++ [.int .i64 own]
theorem rCells_len {f : Nat → Int} {own : Int} : (rCells f own).length = 257 := by simp [rCells, row256_len]
theorem rCells_get {f : Nat → Int} {own : Int} {i : Nat} (h : i < 256) : (rCells f own)[i]? = some (.int .i64 (f i)) := by
  rw [rCells, List.getElem?_append_left (by rw [row256_len]; exact h), row256_get h]
theorem rCells_own {f : Nat → Int} {own : Int} : (rCells f own)[256]? = some (.int .i64 own) := by
  rw [rCells, List.getElem?_append_right (by rw [row256_len]; omega), row256_len]; rfl
set_option maxRecDepth 20000 in
theorem rCells_set {f : Nat → Int} {own v : Int} {i : Nat} (h : i < 256) : (rCells f own).toArray.setIfInBounds i (.int .i64 v) = (rCells (fun j => if j = i then v else f j) own).toArray := by
  rw [List.setIfInBounds_toArray]
  congr 1
  rw [rCells, List.set_append_left _ _ (by rw [row256_len]; exact h), row256_set h]
  rfl
theorem rCells_one {f : Nat → Int} {own : Int} : ∀ u ∈ rCells f own, u.oneCell' = true := by
  intro u hu
  simp only [rCells, row256, List.mem_append, List.mem_map, List.mem_range, List.mem_cons, List.not_mem_nil, or_false] at hu
  rcases hu with ⟨i, _, rfl⟩ | rfl <;> rfl
theorem rCells_zero : (Array.replicate 257 (.int .i64 0 : Value)) = (rCells (fun _ => 0) 0).toArray := by kernel_rfl
theorem rCells_congr {f g : Nat → Int} {a : Int} (h : ∀ i, i < 256 → f i = g i) : rCells f a = rCells g a := by
  unfold rCells row256
  congr 1
  exact List.map_congr_left fun i hi => by rw [h i (by simpa using hi)]
theorem rCells_inj {f g : Nat → Int} {a b : Int} (h : rCells f a = rCells g b) : (∀ i, i < 256 → f i = g i) ∧ a = b := by
  constructor
  · intro i hi
    have := congrArg (fun l => l[i]?) h
    simp only [rCells_get hi, Option.some.injEq, Value.int.injEq, true_and] at this
    exact this
  · have := congrArg (fun l => l[256]?) h
    simp only [rCells_own, Option.some.injEq, Value.int.injEq, true_and] at this
    exact this

def rowKey (f : Nat → Int) (own : Int) : Value := .agg (rCells f own).toArray
theorem rowKey_inj {f g : Nat → Int} {a b : Int} (h : rowKey f a = rowKey g b) : (∀ i, i < 256 → f i = g i) ∧ a = b := by
  refine rCells_inj ?_
  have := Value.agg.inj h
  exact congrArg Array.toList this
theorem rowKey_congr {f g : Nat → Int} {a : Int} (h : ∀ i, i < 256 → f i = g i) : rowKey f a = rowKey g a := by rw [rowKey, rowKey, rCells_congr h]

set_option maxRecDepth 20000 in
theorem rowWide : (match P.underlying T.least_row with | some (.array _ _) | some (.struct _) => true | _ => false) = true := by kernel_rfl
set_option maxRecDepth 20000 in
theorem rowIntTy : MapTy P T.map_least_row_int T.least_row T.int .raw (.int .i64) := ⟨by kernel_rfl, Keyed.of_law (deep_law (m := 3) (by omega) (by kernel_rfl) (by kernel_rfl) rowWide)⟩

noncomputable def rowFs : Array Field := match P.underlying T.least_row with
  | some (.struct fs) => fs
  | _ => #[]
noncomputable def fA : Field := rowFs[0]!
noncomputable def fB : Field := rowFs[1]!
theorem rowU : P.underlying T.least_row = some (.struct rowFs) := by kernel_rfl
theorem rowL2 : rowFs.toList = [fA, fB] := by kernel_rfl
theorem fA_off : fA.offset = 0 := by kernel_rfl
theorem fB_off : fB.offset = 256 := by kernel_rfl
theorem fB_ty : fB.type = T.int := by kernel_rfl
theorem fA_ty : P.underlying fA.type = some (.array 256 T.int) := by kernel_rfl
theorem fA_cells : P.cellsOf fA.type = 256 := by kernel_rfl
theorem int_cells : P.cellsOf T.int = 1 := by kernel_rfl
theorem row_cells : P.cellsOf T.least_row = 257 := by kernel_rfl
theorem row_names : rowFs.all (·.name != "_") = true := by kernel_rfl
theorem row_kt : P.keyType T.least_row = true := by kernel_rfl
theorem int_u : P.underlying T.int = some (.int .i64) := by kernel_rfl
theorem size_types : 4 ≤ P.types.size := of_decide_eq_true (by kernel_rfl)

theorem mapM_some {α β : Type} {f : α → Option β} : ∀ {l : List α}, (∀ x ∈ l, ∃ y, f x = some y) → ∃ ys, l.mapM f = some ys
  | [], _ => ⟨[], by simp⟩
  | a :: l, h => by
    obtain ⟨y, hy⟩ := h a (by simp)
    obtain ⟨ys, hys⟩ := mapM_some (l := l) fun x hx => h x (by simp [hx])
    exact ⟨y :: ys, by simp [List.mapM_cons, hy, hys]⟩

theorem mapM_two {α β : Type} {g : α → Option β} {a b : α} {x y : β} (h1 : g a = some x) (h2 : g b = some y) : [a, b].mapM g = some [x, y] := by simp [List.mapM_cons, h1, h2]
theorem lits_int {d : Nat} {n : Int} (h : -9223372036854775808 ≤ n ∧ n ≤ 9223372036854775807) : P.keyLits (d + 1) T.int [.int .i64 n] = some [.int .i64 n] := by
  have hu : P.underlying T.int = some (.int .i64) := by kernel_rfl
  have hw : (Lit.int .i64 n).wf = true := by
    have hm : IntKind.i64.min = -9223372036854775808 := by decide
    simp only [Lit.wf, decide_eq_true_eq, Bool.and_eq_true, hm]
    exact h
  simp [Program.keyLits, hu, hw]
theorem lits_arr {d : Nat} {f : Nat → Int} (h : ∀ i, i < 256 → -9223372036854775808 ≤ f i ∧ f i ≤ 9223372036854775807) : ∃ l, P.keyLits (d + 2) fA.type (row256 f) = some l := by
  obtain ⟨ys, hys⟩ := mapM_some (f := fun i => P.keyLits (d + 1) T.int (((row256 f).drop (i * 1)).take 1)) (l := List.range 256) fun i hi => by
    have hi : i < 256 := by simpa using hi
    refine ⟨[.int .i64 (f i)], ?_⟩
    have e : ((row256 f).drop (i * 1)).take 1 = [.int .i64 (f i)] := by
      have hg := row256_get (f := f) hi
      obtain ⟨hl, he⟩ := List.getElem?_eq_some_iff.1 hg
      rw [Nat.mul_one, List.drop_eq_getElem_cons hl, he]; rfl
    rw [e]; exact lits_int (h i hi)
  refine ⟨ys.flatten, ?_⟩
  unfold Program.keyLits
  rw [fA_ty]
  dsimp only
  rw [int_cells, fA_cells, if_pos (row256_len f), hys]; rfl

theorem rowOk {f : Nat → Int} {own : Int} (h : ∀ i, i < 256 → -9223372036854775808 ≤ f i ∧ f i ≤ 9223372036854775807) (ho : -9223372036854775808 ≤ own ∧ own ≤ 9223372036854775807) : OkKey P T.least_row (Ty.raw.enc (rowKey f own)) := by
  obtain ⟨D, hD⟩ : ∃ D, P.types.size = D + 2 := ⟨P.types.size - 2, by have := size_types; omega⟩
  obtain ⟨la, hla⟩ := lits_arr (d := D) h
  have e1 : ((rCells f own).drop fA.offset).take (P.cellsOf fA.type) = row256 f := by
    rw [fA_off, fA_cells, rCells, List.drop_zero, List.take_append_of_le_length (by rw [row256_len]; exact Nat.le_refl _), List.take_of_length_le (by rw [row256_len]; exact Nat.le_refl _)]
  have e2 : ((rCells f own).drop fB.offset).take (P.cellsOf fB.type) = [.int .i64 own] := by
    rw [fB_off, fB_ty, int_cells, rCells, List.drop_append, row256_len, List.drop_of_length_le (by rw [row256_len]; exact Nat.le_refl _)]; rfl
  have hl : P.keyLits (D + 2 + 1) T.least_row (rCells f own) = some [la, [.int .i64 own]].flatten := by
    unfold Program.keyLits
    rw [rowU]
    dsimp only
    rw [row_cells, if_pos ⟨rCells_len, row_names⟩, rowL2, mapM_two (x := la) (y := [.int .i64 own]) (by rw [e1]; exact hla) (by rw [e2, fB_ty]; exact lits_int ho)]
    rfl
  refine Option.isSome_iff_exists.1 ?_
  show (keyOf P T.least_row (.agg (rCells f own).toArray)).isSome = true
  rw [keyOf, rowU]
  dsimp only
  have hf : (Value.agg (rCells f own).toArray).formed P T.least_row = true := by
    rw [Value.formed, rowU]
    dsimp only
    rw [row_cells, List.size_toArray, rCells_len]; rfl
  rw [row_kt, hf, hD]
  simp only [Bool.and_self, if_true]
  show (Option.map _ (P.keyLits (D + 2 + 1) T.least_row (rCells f own))).isSome = true
  rw [hl]
  rfl

/-! ## What a state does -/

def rObj (d : Option Addr) (ll kk : Sl) (n : Int) : Obj := .cells #[.pointer d, .slice ll.a ll.n ll.c, .slice kk.a kk.n kk.c, .int .i64 n] T.least_rounds (0, 0)

variable {svs : List DSt} {cl : Nat → Int} {nc : Int}

/-- Where a byte leads: the kind of a state that lives, or -1. -/
def kNext (svs : List DSt) (lv : Nat → Bool) (kd : Nat → Int) (n b : Nat) : Int := match nxt svs n b with
  | some k => if lv k = true then kd k else -1
  | none => -1

theorem buildRow (k : Int) : P.built T.least_row [(1, .int .i64 k)] = some (rCells (fun _ => 0) k).toArray := by kernel_rfl
theorem sizeRow : (P.info? T.least_row).map (·.size) = some 257 := by kernel_rfl

structure Rn (H : View) (br : Nat) (d : Option Addr) (ll kk : Sl) (nn : Int) (svs : List DSt) (cl : Nat → Int) (nc : Int) (lv : Nat → Bool) (kd : Nat → Int) : Prop where
  obj : H br (rObj d ll kk nn)
  dfa : DfaO H d svs cl nc
  lives : SlT .bool H ll (rowG svs.length lv)
  kinds : SlT (.int .i64) H kk (rowG svs.length kd)

theorem Rn.mono {H H' : View} {br : Nat} {d : Option Addr} {ll kk : Sl} {nn : Int} {lv : Nat → Bool} {kd : Nat → Int} (h : Rn H br d ll kk nn svs cl nc lv kd) (hv : Vle H H') : Rn H' br d ll kk nn svs cl nc lv kd :=
  ⟨hv _ _ h.obj, h.dfa.mono hv, h.lives.mono hv, h.kinds.mono hv⟩

set_option maxRecDepth 20000 in
theorem row_spec {w : World} {br : Nat} {d : Option Addr} {ll kk : Sl} {nn : Int} {lv : Nat → Bool} {kd : Nat → Int} {n : Nat} (h : Rn (V No w) br d ll kk nn svs cl nc lv kd) (A : Aut svs) (hn : n < svs.length) {K : Array Value → World → Prop}
    (hK : ∀ w', Keeps No w w' → K (rCells (kNext svs lv kd n) (kd n)).toArray w') : least_rounds_row.C (some ⟨br, 0, none⟩) n w K := by
  refine least_rounds_row.ok _ _ _ _ ?_
  simp only [least_rounds_row.M, NilC_some, add_eq, rCells_zero, Nat.zero_add]
  refine Al.mk fun b1 w1 n1 => ?_
  have h1 := h.mono (V.keeps0 n1.keeps)
  refine Ld.slv (cell_of h1.obj.2 rfl) ?_
  refine IdxS.getG (t := .int .i64) h1.kinds hn ?_
  refine App.buildG (buildRow _) (Al.mk fun b2 w2 n2 => StA.gen sizeRow n2.at_ (by rw [List.size_toArray, rCells_len]) (by rw [List.size_toArray, rCells_len]) (fun u hu => rCells_one u (by simpa using hu)) fun w3 u3 => ?_)
  have e1 := n1.eq; have z1 := n1.size; have e2 := n2.eq; have z2 := n2.size
  have k3 : Keeps No w1 w3 := u3.keeps0 n2.keeps (by omega)
  refine Loop.mk (fun s w' => Keeps No w1 w' ∧ ∃ (b : Nat) (g : Nat → Int), b ≤ 256 ∧ s = (b : Int) ∧ w'.heap[b2]? = some (.cells (rCells g (kd n)).toArray T.least_row (0, 0)) ∧ ∀ j, j < b → g j = kNext svs lv kd n j) (fun s => 256 - s.toNat) ⟨k3, 0, _, by omega, rfl, u3.at_, fun j hj => by omega⟩ ?_
  rintro s w4 ⟨k4, b, g, hb, rfl, o4, hg⟩ R hR
  refine Br.mk (fun ht => ?_) (fun hf => ?_)
  · have ht : b < 256 := by have := of_decide_eq_true ht; omega
    have e4 : w64 ((b : Int) + 1) = ((b + 1 : Nat) : Int) := by rw [w64_eq (by omega)]; omega
    rw [e4]
    have wr : ∀ {w' : World} {g : Nat → Int} {v : Int} {k : World → Prop}, w'.heap[b2]? = some (.cells (rCells g (kd n)).toArray T.least_row (0, 0)) → (∀ w'', Upd b2 (.cells (rCells (fun j => if j = b then v else g j) (kd n)).toArray T.least_row (0, 0)) w' w'' → k w'') → IdxA 256 ⟨b2, 0, none⟩ (b : Int) 1 fun p => St p (.int .i64 v) w' k := by
      intro w' g v k hw hk
      refine ⟨⟨by omega, by omega⟩, ?_⟩
      rw [add_eq, Nat.mul_one, Int.toNat_natCast, Nat.zero_add]
      refine St.blk hw (by rw [List.size_toArray, rCells_len]; omega) fun w'' u => hk w'' ?_
      rw [rCells_set ht] at u
      exact u
    refine wr o4 fun w5 u5 => ?_
    have k5 : Keeps No w1 w5 := k4.then u5.keeps fun i hi h => by omega
    have h5 := h1.mono (V.keeps0 k5)
    refine Ld.ptr (cell_of h5.obj.2 rfl) ?_
    rw [u8_small ht]
    refine dfa_Next_spec h5.dfa ht ?_
    rw [A.next ht]
    have none' : kNext svs lv kd n b = -1 → R ((b + 1 : Nat) : Int) w5 := fun hx => by
      refine hR _ _ ⟨k5, b + 1, _, by omega, rfl, u5.at_, fun j hj => ?_⟩ (by omega)
      by_cases e : j = b
      · subst e; simp [hx]
      · rw [if_neg e]; exact hg j (by omega)
    cases hx : nxt svs n b with
    | none =>
      simp only [Join, Br_false]
      exact none' (by simp [kNext, hx])
    | some k =>
      have hk := (A.nxt_lt ht hx).1
      simp only [Join, Br_true]
      refine Ld.slv (cell_of h5.obj.2 rfl) ?_
      refine IdxS.getG (t := .bool) h5.lives hk ?_
      refine Br.mk (fun hl => ?_) (fun hl => none' ?_)
      · refine Ld.slv (cell_of h5.obj.2 rfl) ?_
        refine IdxS.getG (t := .int .i64) h5.kinds hk ?_
        refine wr u5.at_ fun w6 u6 => ?_
        refine hR _ _ ⟨k5.then u6.keeps fun i hi h => by omega, b + 1, _, by omega, rfl, u6.at_, fun j hj => ?_⟩ (by omega)
        by_cases e : j = b
        · subst e; simp [kNext, hx, hl]
        · rw [if_neg e, if_neg e]; exact hg j (by omega)
      · simp [kNext, hx, hl]
  · have hf : b = 256 := by have := of_decide_eq_false hf; omega
    subst hf
    refine LdA.gen (c := rCells g (kd n)) rCells_len (fun j u hu => cell_of o4 (by simpa using hu)) ?_
    refine StA.gen sizeRow ((k4.blk0 n1.at_)) (by rw [List.size_toArray, rCells_len]) (by rw [List.size_toArray, rCells_len]) (fun u hu => rCells_one u (by simpa using hu)) fun w5 u5 => ?_
    refine LdA.gen (c := rCells g (kd n)) rCells_len (fun j u hu => cell_of u5.at_ (by simpa using hu)) ?_
    have : rCells (kNext svs lv kd n) (kd n) = rCells g (kd n) := rCells_congr fun j hj => (hg j hj).symm
    have hK' := hK w5 (((n1.keeps.trans k4).then u5.keeps fun i hi h => by omega))
    rw [this] at hK'
    exact hK'
end Go.Fk
end

section
set_option linter.unusedVariables false
namespace Go.Fk
open Go Go.MapKept Go.Maps

/-! ## Kinds told apart once more -/

/-- There are m kinds among the first N. -/
structure Cnt (N : Nat) (f : Nat → Int) (reps : List Nat) : Prop where
  lt : ∀ r ∈ reps, r < N
  ne : reps.Pairwise fun a b => f a ≠ f b
  all : ∀ i, i < N → ∃ r ∈ reps, f r = f i

theorem Cnt.le {N : Nat} {f : Nat → Int} {reps : List Nat} (h : Cnt N f reps) : reps.length ≤ N := by
  have := nodup_le reps (List.range N) (h.ne.imp fun hne e => hne (by rw [e])) fun x hx => by simpa using h.lt x hx
  simpa using this

theorem Cnt.same {N : Nat} {f g : Nat → Int} {rf rg : List Nat} (hf : Cnt N f rf) (hg : Cnt N g rg) (href : ∀ i j, i < N → j < N → g i = g j → f i = f j) (hle : rg.length ≤ rf.length) {i j : Nat} (hi : i < N) (hj : j < N) (e : f i = f j) : g i = g j := by
  refine Classical.byContradiction fun hne => ?_
  obtain ⟨a, ha, ea⟩ := hg.all i hi
  obtain ⟨b, hb, eb⟩ := hg.all j hj
  have hab : b ≠ a := fun h => hne (by rw [← ea, ← eb, h])
  have hfa : f a = f i := href _ _ (hg.lt a ha) hi ea
  have hfb : f b = f j := href _ _ (hg.lt b hb) hj eb
  have hnd : (rf.map f).Nodup := by
    unfold List.Nodup
    rw [List.pairwise_map]
    exact hf.ne
  have := nodup_le (rf.map f) ((rg.erase a).map f) hnd fun x hx => by
    obtain ⟨r, hr, rfl⟩ := List.mem_map.1 hx
    obtain ⟨c, hc, ec⟩ := hg.all r (hf.lt r hr)
    have hfc : f c = f r := href _ _ (hg.lt c hc) (hf.lt r hr) ec
    by_cases h : c = a
    · subst h
      refine List.mem_map.2 ⟨b, ?_, ?_⟩
      · exact (List.mem_erase_of_ne hab).2 hb
      · rw [hfb, ← e, ← hfa, hfc]
    · exact List.mem_map.2 ⟨c, (List.mem_erase_of_ne h).2 hc, hfc⟩
  simp only [List.length_map] at this
  rw [List.length_erase_of_mem ha] at this
  have := List.length_pos_of_mem ha
  omega

variable {svs : List DSt} {cl : Nat → Int} {nc : Int}

def RowEq (svs : List DSt) (lv : Nat → Bool) (kd : Nat → Int) (i j : Nat) : Prop := (∀ b, b < 256 → kNext svs lv kd i b = kNext svs lv kd j b) ∧ kd i = kd j

theorem kNext_rng {lv : Nat → Bool} {kd : Nat → Int} (A : Aut svs) (hk : ∀ i, i < svs.length → 0 ≤ kd i ∧ kd i ≤ 200000) {n b : Nat} (hb : b < 256) : -1 ≤ kNext svs lv kd n b ∧ kNext svs lv kd n b ≤ 200000 := by
  unfold kNext
  cases hx : nxt svs n b with
  | none => simp
  | some k =>
    have := hk k (A.nxt_lt hb hx).1
    dsimp only
    split <;> omega

theorem elIntM : Elem P T.sl_int T.int ((Ty.int .i64).enc 0) 1 8 := elInt

set_option maxRecDepth 20000 in
theorem again_spec {w : World} {br : Nat} {d : Option Addr} {ll kk : Sl} {nn : Int} {lv : Nat → Bool} {kd : Nat → Int} (hobj : w.heap[br]? = some (rObj d ll kk nn)) (hd : DfaO (V (· = br) w) d svs cl nc) (hl : SlT .bool (V (· = br) w) ll (rowG svs.length lv))
    (hk : SlT (.int .i64) (V (· = br) w) kk (rowG svs.length kd)) (A : Aut svs) (hkr : ∀ i, i < svs.length → 0 ≤ kd i ∧ kd i ≤ 200000) {K : Bool → World → Prop}
    (hK : ∀ kk' nk reps w', Keeps (· = br) w w' → w'.heap[br]? = some (rObj d ll kk' (reps.length : Nat)) → SlT (.int .i64) (V (· = br) w') kk' (rowG svs.length nk) → (∀ i, i < svs.length → 0 ≤ nk i ∧ nk i < svs.length) →
      (∀ i j, i < svs.length → j < svs.length → (nk i = nk j ↔ RowEq svs lv kd i j)) → Cnt svs.length nk reps → K (decide (nn < (reps.length : Nat))) w') : least_rounds_again.C (some ⟨br, 0, none⟩) w K := by
  have hfew := A.few
  have hN := hk.1
  rw [rowG_len] at hN
  refine least_rounds_again.ok _ _ _ ?_
  simp only [least_rounds_again.M, NilC_some, add_eq, rCells_zero, Nat.zero_add]
  refine Al.mk fun m1 w1 n1 => ?_
  have e1 := n1.eq; have z1 := n1.size
  have hbl := lt_of_some hobj
  have hne : br ≠ m1 := by omega
  refine Ld.slv (cell_of (n1.keeps.blk0 hobj) rfl) ?_
  rw [hN]
  refine App.make1 (t := .int .i64) (z := 0) elIntM rfl (by omega) (by omega) fun bn w2 n2 => ?_
  have e2 := n2.eq; have z2 := n2.size
  have o2 := n2.at_
  rw [rowG_rep] at o2
  have hne2 : bn ≠ m1 := by omega
  have hne3 : bn ≠ br := by omega
  have k02 : Keeps No w w2 := n1.keeps.trans n2.keeps
  have hm2 : w2.heap[m1]? = some (.map #[] 0) := n2.keeps.blk0 n1.at_
  -- what stays through the loop
  let Ft : Nat → Prop := fun b => b = m1 ∨ b = bn
  have hmv : ∀ {w'}, Keeps Ft w2 w' → Vle (V (· = br) w) (V (· = br) w') := fun {w'} k => V.move (k02.then k fun b hb h => by rcases h with h | h <;> omega) (fun _ _ h => h.elim) (fun _ _ h => h)
  have hRn : ∀ {w'}, Keeps Ft w2 w' → Rn (V No w') br d ll kk nn svs cl nc lv kd := fun {w'} k =>
    ⟨⟨id, k.blk (k02.blk0 hobj) (by rintro (h | h) <;> omega)⟩, (hd.mono (hmv k)).mono (V.sub fun _ _ h => h.elim), (hl.mono (hmv k)).mono (V.sub fun _ _ h => h.elim), (hk.mono (hmv k)).mono (V.sub fun _ _ h => h.elim)⟩
  refine Loop.mk (fun s w' => Keeps Ft w2 w' ∧ ∃ (i : Nat) (nk : Nat → Int) (reps : List Nat), i ≤ svs.length ∧ s = (i : Int) ∧ w'.heap[bn]? = some (rowObj (.int .i64) T.int (rowG svs.length nk)) ∧
      MapAt P T.least_row .raw (.int .i64) (V No w') m1 (fun k v => ∃ j, j < i ∧ k = rowKey (kNext svs lv kd j) (kd j) ∧ v = nk j) ∧ MapSz w' m1 reps.length ∧ reps.length ≤ i ∧
      (∀ j, j < i → 0 ≤ nk j ∧ nk j < (reps.length : Nat)) ∧ (∀ a b, a < i → b < i → (nk a = nk b ↔ RowEq svs lv kd a b)) ∧ Cnt i nk reps) (fun s => svs.length - s.toNat)
    ⟨.refl, 0, fun _ => 0, [], by omega, rfl, o2, ?_, .empty hm2, by simp, fun j hj => by omega, fun a b ha => by omega, ⟨by simp, .nil, fun j hj => by omega⟩⟩ ?_
  · exact (MapAt.empty (kt := .raw) (vt := .int .i64) ⟨id, hm2⟩).congr fun x y => by simp
  rintro s w3 ⟨k3, i, nk, reps, hi, rfl, o3, hm3, hsz3, hri, hrg, hiff, hcnt⟩ R hR
  refine Br.mk (fun ht => ?_) (fun hf => ?_)
  · have ht : i < svs.length := by have h9 : (_ : Int) < (svs.length : Int) := of_decide_eq_true ht; omega
    have e4 : w64 ((i : Int) + 1) = ((i + 1 : Nat) : Int) := by rw [w64_eq (by omega)]; omega
    refine row_spec (hRn k3) A ht fun w4 k4 => ?_
    refine Al.mk fun b4 w5 n5 => StA.gen sizeRow n5.at_ (by rw [List.size_toArray, rCells_len]) (by rw [List.size_toArray, rCells_len]) (fun u hu => rCells_one u (by simpa using hu)) fun w6 u6 => ?_
    have e5 := n5.eq
    have k46 : Keeps No w4 w6 := u6.keeps0 n5.keeps (by omega)
    have k36 : Keeps No w3 w6 := k4.trans k46
    refine LdA.gen (c := rCells (kNext svs lv kd i) (kd i)) rCells_len (fun j u hu => cell_of u6.at_ (by simpa using hu)) ?_
    have hm6 := MapAt.mono hm3 (V.keeps0 k36)
    have hsz6 := hsz3.keep k36 id
    have o6 := k36.blk0 o3
    have k26 : Keeps Ft w2 w6 := k3.then0 k36
    have hkey : OkKey P T.least_row (Ty.raw.enc (rowKey (kNext svs lv kd i) (kd i))) := rowOk (fun b hb => by have := kNext_rng (lv := lv) A hkr (n := i) hb; omega) (by have := hkr i ht; omega)
    have keyEq : ∀ j, rowKey (kNext svs lv kd i) (kd i) = rowKey (kNext svs lv kd j) (kd j) ↔ RowEq svs lv kd i j := fun j => ⟨fun h => rowKey_inj h, fun h => by rw [h.2]; exact rowKey_congr h.1⟩
    refine App.look2 (kt := .raw) (vt := .int .i64) (x := rowKey (kNext svs lv kd i) (kd i)) (z := 0) rowIntTy (run_zeroInt w6) (mo := some m1) hm6 hkey (fun y hy => ?_) (fun hno => ?_)
    · obtain ⟨j0, hj0, hkk, rfl⟩ := hy
      have hre := (keyEq j0).1 hkk
      simp only [Join, Bool.not_true, Br_false]
      refine IdxS.putG (t := .int .i64) (v := nk j0) o6 ht fun w7 u7 => ?_
      rw [e4]
      have hold : ∀ j, j < i → (fun j => if j = i then nk j0 else nk j) j = nk j := fun j hj => by
        have : j ≠ i := by omega
        simp [this]
      have hold' : ∀ j, j < i → (if j = i then nk j0 else nk j) = nk j := hold
      have ei : ∀ a, a < i + 1 → ∃ a', a' < i ∧ (if a = i then nk j0 else nk a) = nk a' ∧ (∀ c, RowEq svs lv kd a c ↔ RowEq svs lv kd a' c) := fun a ha => by
        by_cases e : a = i
        · subst e
          refine ⟨j0, hj0, by simp, fun c => ⟨fun h => ⟨fun b hb => (hre.1 b hb).symm.trans (h.1 b hb), hre.2.symm.trans h.2⟩, fun h => ⟨fun b hb => (hre.1 b hb).trans (h.1 b hb), hre.2.trans h.2⟩⟩⟩
        · exact ⟨a, by omega, by simp [e], fun _ => Iff.rfl⟩
      have sym : ∀ a c, RowEq svs lv kd a c ↔ RowEq svs lv kd c a := fun a c => ⟨fun h => ⟨fun b hb => (h.1 b hb).symm, h.2.symm⟩, fun h => ⟨fun b hb => (h.1 b hb).symm, h.2.symm⟩⟩
      refine hR _ _ ⟨k26.then u7.keeps fun b hb h => .inr h, i + 1, fun j => if j = i then nk j0 else nk j, reps, by omega, rfl, u7.at_, ?_, hsz6.keep u7.keeps (by omega), by omega, fun j hj => ?_, fun a b ha hb => ?_, ⟨fun r hr => by have := hcnt.lt r hr; omega, ?_, fun j hj => ?_⟩⟩ (by omega)
      · refine MapAt.congr (MapAt.keep hm6 u7.keeps (by omega) id) fun k v => ?_
        constructor
        · rintro ⟨j, hj, rfl, rfl⟩; exact ⟨j, by omega, rfl, (hold j hj).symm⟩
        · rintro ⟨j, hj, rfl, rfl⟩
          by_cases e : j = i
          · subst e; exact ⟨j0, hj0, hkk, by simp⟩
          · exact ⟨j, by omega, rfl, hold j (by omega)⟩
      · obtain ⟨a', h1, h2, _⟩ := ei j hj
        show 0 ≤ (if j = i then nk j0 else nk j) ∧ (if j = i then nk j0 else nk j) < _
        rw [h2]; exact hrg a' h1
      · obtain ⟨a', h1, h2, h3⟩ := ei a ha
        obtain ⟨b', h4, h5, h6⟩ := ei b hb
        show (if a = i then nk j0 else nk a) = (if b = i then nk j0 else nk b) ↔ _
        rw [h2, h5, h3, sym a' b, h6, sym b' a']
        exact hiff a' b' h1 h4
      · refine hcnt.ne.imp_of_mem fun {a b} ha hb h => ?_
        rw [hold' a (hcnt.lt a ha), hold' b (hcnt.lt b hb)]; exact h
      · obtain ⟨a', h1, h2, _⟩ := ei j hj
        obtain ⟨r, hr, er⟩ := hcnt.all a' h1
        refine ⟨r, hr, ?_⟩
        rw [hold' r (hcnt.lt r hr)]
        show nk r = (if j = i then nk j0 else nk j)
        rw [h2, er]
    · have hnew : ∀ j, j < i → ¬ RowEq svs lv kd i j := fun j hj h => hno (nk j) ⟨j, hj, (keyEq j).2 h, rfl⟩
      simp only [Join, Bool.not_false, Br_true]
      refine App.len rowIntTy.ty hsz6 ?_
      refine LdA.gen (c := rCells (kNext svs lv kd i) (kd i)) rCells_len (fun j u hu => cell_of u6.at_ (by simpa using hu)) ?_
      refine App0.putNew (kt := .raw) (vt := .int .i64) (x := rowKey (kNext svs lv kd i) (kd i)) (y := ((reps.length : Nat) : Int)) rowIntTy hm6 hsz6 hkey (fun y hy => hno y hy) fun w7 k7 z7 hm7 hsz7 => ?_
      refine IdxS.putG (t := .int .i64) (v := ((reps.length : Nat) : Int)) (k7.blk o6 hne2) ht fun w8 u8 => ?_
      rw [e4]
      have hold : ∀ j, j < i → (fun j => if j = i then ((reps.length : Nat) : Int) else nk j) j = nk j := fun j hj => by
        have : j ≠ i := by omega
        simp [this]
      have hold' : ∀ j, j < i → (if j = i then ((reps.length : Nat) : Int) else nk j) = nk j := hold
      have sym : ∀ a c, RowEq svs lv kd a c ↔ RowEq svs lv kd c a := fun a c => ⟨fun h => ⟨fun b hb => (h.1 b hb).symm, h.2.symm⟩, fun h => ⟨fun b hb => (h.1 b hb).symm, h.2.symm⟩⟩
      refine hR _ _ ⟨(k26.then k7 fun b hb h => .inl h).then u8.keeps fun b hb h => .inr h, i + 1, fun j => if j = i then ((reps.length : Nat) : Int) else nk j, reps ++ [i], by omega, rfl, u8.at_, ?_, by rw [List.length_append]; exact hsz7.keep u8.keeps (by omega), by simp; omega, fun j hj => ?_, fun a b ha hb => ?_, ⟨fun r hr => ?_, ?_, fun j hj => ?_⟩⟩ (by omega)
      · refine MapAt.congr (MapAt.keep hm7 u8.keeps (by omega) id) fun k v => ?_
        constructor
        · rintro (⟨rfl, rfl⟩ | ⟨_, j, hj, rfl, rfl⟩)
          · exact ⟨i, by omega, rfl, by simp⟩
          · exact ⟨j, by omega, rfl, (hold j hj).symm⟩
        · rintro ⟨j, hj, rfl, rfl⟩
          by_cases e : j = i
          · subst e; exact .inl ⟨rfl, by simp⟩
          · exact .inr ⟨fun e2 => hnew j (by omega) ((keyEq j).1 e2.symm), j, by omega, rfl, hold j (by omega)⟩
      · by_cases e : j = i
        · subst e; simp; omega
        · have := hrg j (by omega)
          simp only [e, if_false, List.length_append, List.length_cons, List.length_nil]; omega
      · by_cases ea : a = i <;> by_cases eb : b = i
        · subst ea eb; simp [RowEq]
        · subst ea
          have := hrg b (by omega)
          simp only [if_true, eb, if_false]
          exact ⟨fun h => by omega, fun h => absurd h (hnew b (by omega))⟩
        · subst eb
          have := hrg a (by omega)
          simp only [if_true, ea, if_false]
          exact ⟨fun h => by omega, fun h => absurd ((sym _ _).1 h) (hnew a (by omega))⟩
        · simp only [ea, eb, if_false]
          exact hiff a b (by omega) (by omega)
      · rcases List.mem_append.1 hr with h | h
        · have := hcnt.lt r h; omega
        · simp at h; omega
      · refine List.pairwise_append.2 ⟨hcnt.ne.imp_of_mem fun {a b} ha hb h => ?_, by simp, fun a ha b hb => ?_⟩
        · rw [hold' a (hcnt.lt a ha), hold' b (hcnt.lt b hb)]; exact h
        · simp only [List.mem_singleton] at hb
          subst hb
          have h1 := hcnt.lt a ha
          have h2 := hrg a h1
          rw [hold' a h1]
          simp; omega
      · by_cases e : j = i
        · subst e; exact ⟨j, by simp, rfl⟩
        · obtain ⟨r, hr, er⟩ := hcnt.all j (by omega)
          refine ⟨r, by simp [hr], ?_⟩
          rw [hold' r (hcnt.lt r hr), hold' j (by omega)]; exact er
  · have hf : i = svs.length := by have h9 : ¬ (_ : Int) < (svs.length : Int) := of_decide_eq_false hf; omega
    subst hf
    refine Draw.mk fun w4 hh4 k4 => ?_
    have hsz4 : MapSz w4 m1 reps.length := hsz3.keep k4 id
    refine AppS.len rowIntTy.ty (fun w h => by rw [h]; exact hsz4) ?_
    have ob4 : w4.heap[br]? = some (rObj d ll kk nn) := k4.blk0 (k3.blk (k02.blk0 hobj) (by rintro (h | h) <;> omega))
    refine LdS.int (cell_of ob4 rfl) ?_
    refine App.len rowIntTy.ty hsz4 ?_
    refine St.blk ob4 (by show 2 < 4; omega) fun w5 u5 => ?_
    refine St.blk u5.at_ (by show 3 < 4; omega) fun w6 u6 => ?_
    have k46 : Keeps (· = br) w4 w6 := u5.keeps.trans u6.keeps
    have o4 := k4.blk0 o3
    refine hK ⟨some ⟨bn, 0, none⟩, svs.length, svs.length⟩ nk reps w6 ?_ u6.at_ (Row.sl (M := (· = br)) (k46.blk o4 hne3) hne3 rowG_len.symm) (fun i hi => ⟨(hrg i hi).1, Int.lt_of_lt_of_le (hrg i hi).2 (Int.ofNat_le.2 hri)⟩) hiff hcnt
    exact ((k02.then (k3.then0 k4) fun b hb h => by rcases h with h | h <;> omega).mono fun b _ h => h.elim).trans k46
end Go.Fk
end

section
set_option linter.unusedVariables false
namespace Go.Fk
open Go Go.MapKept Go.Maps
open Go.ChangeMaps (setBlock)

/-! ## Kinds of states -/

section
variable {P : Program} {T kT vT : TypeId} {kt vt : Ty} {m : Nat} {R : kt.T → vt.T → Prop}

/-- 'm[k] = v', k met. -/
theorem App0.putOld (hT : MapTy P T kT vT kt vt) {w : World} {x : kt.T} {y : vt.T} {K : World → Prop} {M : Nat → Prop} {n : Nat} (h : MapAt P kT kt vt (V M w) m R) (hsz : MapSz w m n) (hk : OkKey P kT (kt.enc x)) {y0 : vt.T} (hold : R x y0)
    (hK : ∀ w', Keeps (· = m) w w' → w'.heap.size = w.heap.size → MapAt P kT kt vt (V M w') m (fun a b => (a = x ∧ b = y) ∨ (a ≠ x ∧ R a b)) → MapSz w' m n → K w') :
    App0 P (Instr.mapUpdate T (.map (some m)) (kt.enc x) (vt.enc y)) w K := by
  obtain ⟨es, clock, ⟨hM, hb⟩, hs, h3, h4⟩ := h
  obtain ⟨es', clock', hb', hn⟩ := hsz
  rw [hb] at hb'
  cases hb'
  obtain ⟨lx, hlx⟩ := hk
  rcases hT.keyed.find w hlx es.toList (fun e he => (h3 e he).1) with ⟨h1, h2⟩ | ⟨j, e0, h1, h2, h5⟩
  · obtain ⟨e, he, hke, _⟩ := h4 x y0 hold
    exact absurd hke (h2 e he)
  · have hj : es[j]? = some e0 := by simpa using h2
    have hlist : (es.modify j (fun e' => { e' with key := kt.enc x, val := vt.enc y })).toList = es.toList.set j { e0 with key := kt.enc x, val := vt.enc y } := by rw [Array.toList_modify, Go.ChangeMaps.modify_eq_set _ _ _ _ h2]
    have hu := keepsSetBlock hb (.map (es.modify j (fun e' => { e' with key := kt.enc x, val := vt.enc y })) clock)
    refine ⟨setBlock w m (.map (es.modify j (fun e' => { e' with key := kt.enc x, val := vt.enc y })) clock), ?_, hK _ hu.keeps hu.size ?_ ⟨_, _, hu.at_, by simp [hn]⟩⟩
    · simp [Instr.mapUpdate, run_underlying hT.ty, MapKept.run_getObj_map hb, hT.keyed.check w false hlx, h1, hj, h5, hT.keyed.stays w hlx, MapKept.run_setObj_map _ hb, Result.andThen, setBlock]
    · have he0 : e0 ∈ es.toList := List.mem_of_getElem? h2
      have hset : ∀ e, e ∈ es.toList.set j { e0 with key := kt.enc x, val := vt.enc y } ↔ e = { e0 with key := kt.enc x, val := vt.enc y } ∨ (e ∈ es.toList ∧ e.key ≠ kt.enc x) := by
        intro e
        have hjl : j < es.toList.length := (List.getElem?_eq_some_iff.1 h2).1
        constructor
        · intro he
          obtain ⟨i, hi⟩ := List.getElem?_of_mem he
          rw [List.getElem?_set] at hi
          split at hi
          · simp at hi; exact .inl hi.symm
          · rename_i hne
            refine .inr ⟨List.mem_of_getElem? hi, fun e1 => ?_⟩
            have := key_once hs (List.mem_of_getElem? hi) he0 (e1.trans h5.symm)
            subst this
            have hb2 := hs.2.1
            rw [List.Nodup, List.pairwise_map, List.pairwise_iff_getElem] at hb2
            rw [List.getElem?_eq_some_iff] at hi h2
            obtain ⟨hi1, hi2⟩ := hi
            obtain ⟨hj1, hj2⟩ := h2
            rcases Nat.lt_trichotomy i j with h | h | h
            · exact hb2 i j hi1 hj1 h (by rw [hi2, hj2])
            · exact hne h.symm
            · exact hb2 j i hj1 hi1 h (by rw [hi2, hj2])
        · rintro (rfl | ⟨he, hk⟩)
          · exact List.mem_set hjl _
          · obtain ⟨i, hi⟩ := List.getElem?_of_mem he
            refine List.mem_of_getElem? (i := i) ?_
            rw [List.getElem?_set, if_neg, hi]
            rintro rfl
            rw [h2] at hi
            cases hi
            exact hk h5
      refine ⟨_, _, ⟨hM, hu.at_⟩, stamped_modify hs _ _ (fun _ _ => rfl) (fun e' _ he' => by rw [hj] at he'; cases he'; exact h5.symm), ?_, ?_⟩
      · intro e he
        rw [hlist, hset] at he
        rcases he with rfl | ⟨he, hk⟩
        · exact ⟨⟨lx, hlx⟩, x, y, rfl, rfl, .inl ⟨rfl, rfl⟩⟩
        · obtain ⟨h6, x', y', h7, h8, h9⟩ := h3 e he
          exact ⟨h6, x', y', h7, h8, .inr ⟨fun e1 => hk (by rw [h7, e1]), h9⟩⟩
      · rw [hlist]
        rintro a b (⟨rfl, rfl⟩ | ⟨ha, hr⟩)
        · exact ⟨_, (hset _).2 (.inl rfl), rfl, rfl⟩
        · obtain ⟨e, he, h6, h7⟩ := h4 a b hr
          exact ⟨e, (hset _).2 (.inr ⟨he, fun e1 => ha (Ty.enc_inj (h6.symm.trans e1))⟩), h6, h7⟩
end

theorem boolSetTy : MapTy P T.map_int_bool T.int T.bool (.int .i64) .bool := ⟨by kernel_rfl, int_keyed int_u⟩
theorem intIntTy : MapTy P T.map_int_int T.int T.int (.int .i64) (.int .i64) := ⟨by kernel_rfl, int_keyed int_u⟩
theorem intKey {n : Int} (h : -9223372036854775808 ≤ n ∧ n ≤ 9223372036854775807) : OkKey P T.int ((Ty.int .i64).enc n) := by
  have hm : IntKind.i64.min = -9223372036854775808 := by decide
  exact ⟨_, keyOf_int_mk int_u (by simp only [Lit.wf, decide_eq_true_eq, Bool.and_eq_true, hm]; exact h)⟩

variable {svs : List DSt} {cl : Nat → Int} {nc : Int}

def kd0 (svs : List DSt) (lv : Nat → Bool) (n : Nat) : Int := if lv n = true then ac svs n + 2 else 0

/-- A relation that the rounds cannot tell apart. -/
structure Bis (svs : List DSt) (lv : Nat → Bool) (E : Nat → Nat → Prop) : Prop where
  kd : ∀ i j, E i j → kd0 svs lv i = kd0 svs lv j
  next : ∀ i j b, E i j → b < 256 → match nxt svs i b, nxt svs j b with
    | some a, some c => (lv a = lv c) ∧ (lv a = true → E a c)
    | some a, none => lv a = false
    | none, some c => lv c = false
    | none, none => True

structure Kinds (svs : List DSt) (lv : Nat → Bool) (kd : Nat → Int) : Prop where
  rng : ∀ i, i < svs.length → 0 ≤ kd i ∧ kd i ≤ 200000
  zero : ∀ i j, i < svs.length → j < svs.length → kd i = kd j → kd0 svs lv i = kd0 svs lv j
  eqv : ∀ E, Bis svs lv E → ∀ i j, i < svs.length → j < svs.length → E i j → kd i = kd j

theorem Kinds.step {lv : Nat → Bool} {kd nk : Nat → Int} (A : Aut svs) (h : Kinds svs lv kd) (hr : ∀ i, i < svs.length → 0 ≤ nk i ∧ nk i < svs.length) (hiff : ∀ i j, i < svs.length → j < svs.length → (nk i = nk j ↔ RowEq svs lv kd i j)) : Kinds svs lv nk where
  rng i hi := by have := hr i hi; have := A.few; omega
  zero i j hi hj e := h.zero i j hi hj ((hiff i j hi hj).1 e).2
  eqv E hE i j hi hj e := by
    refine (hiff i j hi hj).2 ⟨fun b hb => ?_, h.eqv E hE i j hi hj e⟩
    have hn := hE.next i j b e hb
    unfold kNext
    cases h1 : nxt svs i b with
    | none =>
      cases h2 : nxt svs j b with
      | none => rfl
      | some c => rw [h1, h2] at hn; dsimp only at hn ⊢; rw [hn]; simp
    | some a =>
      cases h2 : nxt svs j b with
      | none => rw [h1, h2] at hn; dsimp only at hn ⊢; rw [hn]; simp
      | some c =>
        rw [h1, h2] at hn
        dsimp only at hn ⊢
        obtain ⟨g1, g2⟩ := hn
        rw [← g1]
        by_cases hl : lv a = true
        · rw [if_pos hl, if_pos hl]
          exact h.eqv E hE a c (A.nxt_lt hb h1).1 (A.nxt_lt hb h2).1 (g2 hl)
        · rw [if_neg hl, if_neg hl]

set_option maxRecDepth 20000 in
theorem kinds_spec {w : World} {d : Option Addr} {ll : Sl} {lv : Nat → Bool} (hd : DfaO (V No w) d svs cl nc) (hl : SlT .bool (V No w) ll (rowG svs.length lv)) (A : Aut svs) {K : Sl → World → Prop}
    (hK : ∀ kk kd w', Keeps No w w' → SlT (.int .i64) (V No w') kk (rowG svs.length kd) → Kinds svs lv kd → (∀ i j, i < svs.length → j < svs.length → kd i = kd j → ∀ b, b < 256 → kNext svs lv kd i b = kNext svs lv kd j b) → K kk w') : least_kinds.C d ll w K := by
  have hfew := A.few
  refine least_kinds.ok _ _ _ _ ?_
  simp only [least_kinds.M]
  refine dfa_States_spec hd ?_
  refine App.make1 (t := .int .i64) (z := 0) elIntM rfl (by omega) (by omega) fun bk w1 n1 => Al.mk fun b1 w2 n2 => Al.mk fun m2 w3 n3 => ?_
  have e1 := n1.eq; have z1 := n1.size; have e2 := n2.eq; have z2 := n2.size; have e3 := n3.eq; have z3 := n3.size
  have o1 := n1.at_
  rw [rowG_rep] at o1
  have ob3 : w3.heap[b1]? = some (rObj d ll ⟨some ⟨bk, 0, none⟩, svs.length, svs.length⟩ 0) := n3.keeps.blk0 n2.at_
  have k03 : Keeps No w w3 := (n1.keeps.trans n2.keeps).trans n3.keeps
  have g1 : w.heap.size ≤ bk := by omega
  have g2 : w.heap.size ≤ b1 := by omega
  have g3 : w.heap.size ≤ m2 := by omega
  have hmv : ∀ {w'}, Keeps No w w' → Vle (V No w) (V (· = b1) w') := fun {w'} k => V.move k (fun _ _ h => h.elim) (fun b hb h => by omega)
  have hmv0 : ∀ {w'}, Keeps No w w' → Vle (V No w) (V No w') := fun {w'} k => V.keeps0 k
  refine Ld.slv (l := ⟨some ⟨bk, 0, none⟩, svs.length, svs.length⟩) (cell_of ob3 rfl) ?_
  refine Loop.mk (fun s w' => Keeps No w w' ∧ ∃ (i : Nat) (reps : List Nat), i ≤ svs.length ∧ s = (i : Int) ∧ w'.heap[bk]? = some (rowObj (.int .i64) T.int (rowG svs.length fun j => if j < i then kd0 svs lv j else 0)) ∧
      w'.heap[b1]? = some (rObj d ll ⟨some ⟨bk, 0, none⟩, svs.length, svs.length⟩ 0) ∧ MapAt P T.int (.int .i64) .bool (V No w') m2 (fun k v => ∃ j, j < i ∧ k = kd0 svs lv j ∧ v = true) ∧ MapSz w' m2 reps.length ∧ Cnt i (kd0 svs lv) reps) (fun s => svs.length - s.toNat)
    ⟨k03, 0, [], by omega, rfl, by simpa using n3.keeps.blk0 (n2.keeps.blk0 o1), ob3, ?_, .empty n3.at_, ⟨by simp, .nil, fun j hj => by omega⟩⟩ ?_
  · exact (MapAt.empty (kt := .int .i64) (vt := .bool) ⟨id, n3.at_⟩).congr fun x y => by simp
  rintro s w4 ⟨k4, i, reps, hi, rfl, ok4, ob4, hm4, hsz4, hcnt⟩ R hR
  refine Br.mk (fun ht => ?_) (fun hf => ?_)
  · have ht : i < svs.length := by have h9 : (_ : Int) < (svs.length : Int) := of_decide_eq_true ht; omega
    have e4 : w64 ((i : Int) + 1) = ((i + 1 : Nat) : Int) := by rw [w64_eq (by omega)]; omega
    have hacr := A.ac_rng i
    refine Join.cut (fun (_ : Unit) w' => Keeps No w w' ∧ w'.heap[bk]? = some (rowObj (.int .i64) T.int (rowG svs.length fun j => if j < i + 1 then kd0 svs lv j else 0)) ∧
      w'.heap[b1]? = some (rObj d ll ⟨some ⟨bk, 0, none⟩, svs.length, svs.length⟩ 0) ∧ MapAt P T.int (.int .i64) .bool (V No w') m2 (fun k v => ∃ j, j < i ∧ k = kd0 svs lv j ∧ v = true) ∧ MapSz w' m2 reps.length) ?_ ?_
    · rintro _ w5 ⟨k5, ok5, ob5, hm5, hsz5⟩
      refine Ld.slv (l := ⟨some ⟨bk, 0, none⟩, svs.length, svs.length⟩) (cell_of ob5 rfl) ?_
      refine IdxS.getG (t := .int .i64) (Row.sl (M := No) ok5 (fun h => h.elim) rowG_len.symm) ht ?_
      rw [if_pos (by omega), e4]
      have hkey : OkKey P T.int ((Ty.int .i64).enc (kd0 svs lv i)) := intKey (by unfold kd0; split <;> omega)
      by_cases hex : ∃ j, j < i ∧ kd0 svs lv j = kd0 svs lv i
      · obtain ⟨j0, hj0, ej0⟩ := hex
        refine App0.putOld (kt := .int .i64) (vt := .bool) (x := kd0 svs lv i) (y := true) (y0 := true) boolSetTy hm5 hsz5 hkey ⟨j0, hj0, ej0.symm, rfl⟩ fun w6 k6 z6 hm6 hsz6 => ?_
        refine hR _ _ ⟨k5.then k6 fun b hb h => by omega, i + 1, reps, by omega, rfl, k6.blk ok5 (by omega), k6.blk ob5 (by omega), hm6.congr fun k v => ?_, hsz6, ⟨fun r hr => by have := hcnt.lt r hr; omega, hcnt.ne, fun j hj => ?_⟩⟩ (by omega)
        · constructor
          · rintro (⟨rfl, rfl⟩ | ⟨_, j, hj, rfl, rfl⟩)
            · exact ⟨i, by omega, rfl, rfl⟩
            · exact ⟨j, by omega, rfl, rfl⟩
          · rintro ⟨j, hj, rfl, rfl⟩
            by_cases e : kd0 svs lv j = kd0 svs lv i
            · exact .inl ⟨e, rfl⟩
            · refine .inr ⟨e, j, ?_, rfl, rfl⟩
              by_cases e2 : j = i
              · subst e2; exact absurd rfl e
              · omega
        · by_cases e : j = i
          · subst e
            obtain ⟨r, hr, er⟩ := hcnt.all j0 hj0
            exact ⟨r, hr, er.trans ej0⟩
          · exact hcnt.all j (by omega)
      · refine App0.putNew (kt := .int .i64) (vt := .bool) (x := kd0 svs lv i) (y := true) boolSetTy hm5 hsz5 hkey (fun y hy => ?_) fun w6 k6 z6 hm6 hsz6 => ?_
        · obtain ⟨j, hj, e, _⟩ := hy
          exact hex ⟨j, hj, e.symm⟩
        refine hR _ _ ⟨k5.then k6 fun b hb h => by omega, i + 1, reps ++ [i], by omega, rfl, k6.blk ok5 (by omega), k6.blk ob5 (by omega), hm6.congr fun k v => ?_, by rw [List.length_append]; exact hsz6, ⟨fun r hr => ?_, ?_, fun j hj => ?_⟩⟩ (by omega)
        · constructor
          · rintro (⟨rfl, rfl⟩ | ⟨_, j, hj, rfl, rfl⟩)
            · exact ⟨i, by omega, rfl, rfl⟩
            · exact ⟨j, by omega, rfl, rfl⟩
          · rintro ⟨j, hj, rfl, rfl⟩
            by_cases e : kd0 svs lv j = kd0 svs lv i
            · exact .inl ⟨e, rfl⟩
            · refine .inr ⟨e, j, ?_, rfl, rfl⟩
              by_cases e2 : j = i
              · subst e2; exact absurd rfl e
              · omega
        · rcases List.mem_append.1 hr with h | h
          · have := hcnt.lt r h; omega
          · simp at h; omega
        · refine List.pairwise_append.2 ⟨hcnt.ne, by simp, fun a ha b hb => ?_⟩
          simp only [List.mem_singleton] at hb
          subst hb
          exact fun e => hex ⟨a, hcnt.lt a ha, e⟩
        · by_cases e : j = i
          · subst e; exact ⟨j, by simp, rfl⟩
          · obtain ⟨r, hr, er⟩ := hcnt.all j (by omega)
            exact ⟨r, by simp [hr], er⟩
    · intro j6 hj6
      refine IdxS.getG (t := .bool) (hl.mono (hmv0 k4)) ht ?_
      refine Br.mk (fun hlv => ?_) (fun hlv => ?_)
      · refine ⟨fun x => x.heap[b1]? = some (rObj d ll ⟨some ⟨bk, 0, none⟩, svs.length, svs.length⟩ 0), ob4, ⟨⟨some ⟨bk, 0, none⟩, svs.length, svs.length⟩, fun x hx => cell_of hx rfl, ?_⟩⟩
        have kd5 : Keeps No w4 w4.drew := Keeps.drew
        refine dfa_Accept_spec (hd.mono (hmv0 (k4.then0 kd5))) ⟨ob4, ?_⟩
        refine IdxS.putG (t := .int .i64) (v := w64 (accOf svs i + 2)) (kd5.blk0 ok4) ht fun w5 u5 => ?_
        have ob5 := u5.keeps.blk (kd5.blk0 ob4) (by omega)
        refine ⟨ob5, hj6 () w5 ⟨(k4.then0 kd5).then u5.keeps fun b hb h => by omega, ?_, ob5, MapAt.keep (MapAt.mono hm4 (V.keeps0 kd5)) u5.keeps (by omega) id, (hsz4.keep kd5 id).keep u5.keeps (by omega)⟩⟩
        rw [u5.at_]
        congr 2
        refine rowG_congr fun j hj => ?_
        by_cases e : j = i
        · subst e
          rw [if_pos rfl, if_pos (by omega), kd0, if_pos hlv]
          exact w64_eq (by show -9223372036854775808 ≤ ac svs j + 2 ∧ ac svs j + 2 ≤ 9223372036854775807; omega)
        · have : (j < i + 1) ↔ j < i := by omega
          simp [e, this]
      · refine hj6 () w4 ⟨k4, ?_, ob4, hm4, hsz4⟩
        rw [ok4]
        congr 2
        refine rowG_congr fun j hj => ?_
        by_cases e : j = i
        · subst e; simp [kd0, hlv]
        · have : (j < i + 1) ↔ j < i := by omega
          simp [this]
  · have hf : i = svs.length := by have h9 : ¬ (_ : Int) < (svs.length : Int) := of_decide_eq_false hf; omega
    subst hf
    refine App.len boolSetTy.ty hsz4 ?_
    refine St.blk ob4 (by show 3 < 4; omega) fun w5 u5 => ?_
    have ok5 := u5.keeps.blk ok4 (by omega)
    have hk0 : Kinds svs lv (kd0 svs lv) := ⟨fun i hi => by have := A.ac_rng i; unfold kd0; split <;> omega, fun i j _ _ h => h, fun E hE i j _ _ h => hE.kd i j h⟩
    refine Loop.mkn (fun m (_ : Unit) w' => Keeps No w w' ∧ ∃ (kk : Sl) (kd : Nat → Int) (reps : List Nat), w'.heap[b1]? = some (rObj d ll kk (reps.length : Nat)) ∧ SlT (.int .i64) (V (· = b1) w') kk (rowG svs.length kd) ∧ Kinds svs lv kd ∧ Cnt svs.length kd reps ∧ m = svs.length - reps.length) _
      ⟨k4.then u5.keeps fun b hb h => by omega, ⟨some ⟨bk, 0, none⟩, svs.length, svs.length⟩, kd0 svs lv, reps, u5.at_, ?_, hk0, hcnt, rfl⟩ ?_
    · refine Row.sl (M := (· = b1)) (E := T.int) (b := bk) (n := svs.length) (c := svs.length) ?_ (by omega) rowG_len.symm
      rw [ok5]
      congr 2
      exact rowG_congr fun j hj => by rw [if_pos hj]
    rintro m _ w6 ⟨k6, kk, kd, reps6, ob6, hkk6, hkin, hcnt6, rfl⟩ R6 hR6
    refine again_spec ob6 (hd.mono (hmv k6)) (hl.mono (hmv k6)) hkk6 A hkin.rng fun kk' nk reps' w7 k7 ob7 hkk7 hnr hiff hcnt7 => ?_
    have k07 : Keeps No w w7 := k6.then k7 fun b hb h => by omega
    have hkin7 := hkin.step A hnr hiff
    have hl7 := hcnt7.le
    refine Br.mk (fun hm => ?_) (fun hm => ?_)
    · have hm := of_decide_eq_true hm
      exact hR6 _ _ _ (by omega) ⟨k07, kk', nk, reps', ob7, hkk7, hkin7, hcnt7, rfl⟩
    · have hm := of_decide_eq_false hm
      refine Ld.slv (l := kk') (cell_of ob7 rfl) ?_
      refine hK kk' nk w7 k07 (hkk7.mono (V.sub fun _ _ h => h.elim)) hkin7 fun i j hi hj e b hb => ?_
      have h1 := (hiff i j hi hj).1 e
      have h2 := h1.1 b hb
      have hsame : ∀ a c, a < svs.length → c < svs.length → kd a = kd c → nk a = nk c := fun a c ha hc h => hcnt6.same hcnt7 (fun x y hx hy h => ((hiff x y hx hy).1 h).2) (by omega) ha hc h
      unfold kNext at h2 ⊢
      cases x1 : nxt svs i b with
      | none =>
        cases x2 : nxt svs j b with
        | none => rfl
        | some c =>
          rw [x1, x2] at h2
          dsimp only at h2 ⊢
          have := hkin.rng c (A.nxt_lt hb x2).1
          by_cases hl : lv c = true
          · rw [if_pos hl] at h2; omega
          · rw [if_neg hl]
      | some a =>
        have ra := hkin.rng a (A.nxt_lt hb x1).1
        cases x2 : nxt svs j b with
        | none =>
          rw [x1, x2] at h2
          dsimp only at h2 ⊢
          by_cases hl : lv a = true
          · rw [if_pos hl] at h2; omega
          · rw [if_neg hl]
        | some c =>
          rw [x1, x2] at h2
          dsimp only at h2 ⊢
          have rc := hkin.rng c (A.nxt_lt hb x2).1
          by_cases hla : lv a = true <;> by_cases hlc : lv c = true
          · rw [if_pos hla, if_pos hlc] at h2 ⊢
            exact hsame a c (A.nxt_lt hb x1).1 (A.nxt_lt hb x2).1 h2
          · rw [if_pos hla, if_neg hlc] at h2; omega
          · rw [if_neg hla, if_pos hlc] at h2; omega
          · rw [if_neg hla, if_neg hlc]
end Go.Fk
end

section
set_option linter.unusedVariables false
namespace Go.Fk
open Go Go.MapKept Go.Maps

/-! ## The least automaton is made -/

structure LSt where
  nx : Nat → Int
  acc : Int
def LSt.cells (m : LSt) : List Value := rCells m.nx m.acc
theorem LSt.lens {ms : List LSt} : ∀ c ∈ ms.map LSt.cells, c.length = 257 := fun c hc => by obtain ⟨m, _, rfl⟩ := List.mem_map.1 hc; exact rCells_len

def LeastV (H : View) (p : Option Addr) (N : Nat) (ms : List LSt) (of_ : Nat → Int) : Prop :=
  ∃ b l o, p = some ⟨b, 0, none⟩ ∧ H b (.cells #[.slice l.a l.n l.c, .slice o.a o.n o.c] T.least_Least (0, 0)) ∧ SlC H l 257 (ms.map LSt.cells) ∧ SlT (.int .i64) H o (rowG N of_)
theorem LeastV.mono {H H' : View} {p : Option Addr} {N : Nat} {ms : List LSt} {of_ : Nat → Int} (h : LeastV H p N ms of_) (hv : Vle H H') : LeastV H' p N ms of_ := by
  obtain ⟨b, l, o, h1, h2, h3, h4⟩ := h
  exact ⟨b, l, o, h1, hv _ _ h2, h3.mono hv, h4.mono hv⟩

theorem elLs : Elem P T.sl_least_state T.least_state (.agg (rCells (fun _ => 0) 0).toArray) 257 2056 := ⟨by kernel_rfl, by kernel_rfl, by simp [Value.cells, rCells_len], by decide⟩
theorem buildLs (k : Int) : P.built T.least_state [(1, .int .i64 k)] = some (rCells (fun _ => 0) k).toArray := by kernel_rfl
theorem sizeLs : (P.info? T.least_state).map (·.size) = some 257 := by kernel_rfl

variable {svs : List DSt} {cl : Nat → Int} {nc : Int}

/-- Where a byte leads, by the states' kinds. -/
def GoodL (svs : List DSt) (lv : Nat → Bool) (kd : Nat → Int) (fs : List Nat) (n b : Nat) (v : Int) : Prop :=
  (v = -1 ∧ ∀ k, nxt svs n b = some k → lv k = false) ∨ ∃ (k x m : Nat), nxt svs n b = some k ∧ lv k = true ∧ v = x ∧ fs[x]? = some m ∧ kd m = kd k

structure FsOK (svs : List DSt) (lv : Nat → Bool) (kd : Nat → Int) (fs : List Nat) : Prop where
  lt : ∀ n ∈ fs, n < svs.length
  ne : fs.Pairwise fun a b => kd a ≠ kd b
  zero : fs[0]? = some 0
  live : ∀ (x : Nat) n, fs[x]? = some n → 0 < x → lv n = true

theorem FsOK.le {lv : Nat → Bool} {kd : Nat → Int} {fs : List Nat} (h : FsOK svs lv kd fs) : fs.length ≤ svs.length := by
  have := nodup_le fs (List.range svs.length) (h.ne.imp fun hne e => hne (by rw [e])) fun x hx => by simpa using h.lt x hx
  simpa using this

theorem FsOK.inj {lv : Nat → Bool} {kd : Nat → Int} {fs : List Nat} (h : FsOK svs lv kd fs) {x y m n : Nat} (hx : fs[x]? = some m) (hy : fs[y]? = some n) (e : kd m = kd n) : x = y := by
  have hp := List.pairwise_iff_getElem.1 h.ne
  obtain ⟨h1, h2⟩ := List.getElem?_eq_some_iff.1 hx
  obtain ⟨h3, h4⟩ := List.getElem?_eq_some_iff.1 hy
  rcases Nat.lt_trichotomy x y with g | g | g
  · exact absurd (by rw [h2, h4, e]) (hp x y h1 h3 g)
  · exact g
  · exact absurd (by rw [h2, h4, e]) (hp y x h3 h1 g)

theorem GoodL.mono {lv : Nat → Bool} {kd : Nat → Int} {fs l : List Nat} {n b : Nat} {v : Int} (h : GoodL svs lv kd fs n b v) : GoodL svs lv kd (fs ++ l) n b v := by
  rcases h with h | ⟨k, x, m, h1, h2, h3, h4, h5⟩
  · exact .inl h
  · exact .inr ⟨k, x, m, h1, h2, h3, by rw [List.getElem?_append_left (List.getElem?_eq_some_iff.1 h4).1]; exact h4, h5⟩

structure MsOK (svs : List DSt) (lv : Nat → Bool) (kd : Nat → Int) (fs : List Nat) (ms : List LSt) : Prop where
  each : ∀ (j : Nat) m, ms[j]? = some m → ∃ n, fs[j]? = some n ∧ m.acc = ac svs n ∧ ∀ b, b < 256 → GoodL svs lv kd fs n b (m.nx b)
  top : goTop (ms.flatMap fun m => rowL m.nx) 0 = some ((fs.length : Int) - 1)

def KeyL (kd : Nat → Int) (fs : List Nat) (k v : Int) : Prop := ∃ (x n : Nat), fs[x]? = some n ∧ k = kd n ∧ v = x

def OfOK (lv : Nat → Bool) (kd : Nat → Int) (fs : List Nat) (n : Nat) (v : Int) : Prop :=
  (∃ (x m : Nat), fs[x]? = some m ∧ kd m = kd n ∧ (lv n = true ∨ n = 0) ∧ v = x) ∨ (v = -1 ∧ ¬ ((lv n = true ∨ n = 0) ∧ ∃ (x m : Nat), fs[x]? = some m ∧ kd m = kd n))

structure LeastOK (svs : List DSt) (lv : Nat → Bool) (kd : Nat → Int) (fs : List Nat) (ms : List LSt) (of_ : Nat → Int) : Prop where
  alive : ∀ n, n < svs.length → (lv n = true ↔ Alive svs n)
  kinds : Kinds svs lv kd
  stable : ∀ i j, i < svs.length → j < svs.length → kd i = kd j → ∀ b, b < 256 → kNext svs lv kd i b = kNext svs lv kd j b
  fsok : FsOK svs lv kd fs
  msok : MsOK svs lv kd fs ms
  len : ms.length = fs.length
  ofok : ∀ n, n < svs.length → OfOK lv kd fs n (of_ n)

abbrev lObj (l o : Sl) : Obj := .cells #[.slice l.a l.n l.c, .slice o.a o.n o.c] T.least_Least (0, 0)

set_option maxRecDepth 20000 in
theorem least_New_spec {w : World} {d : Option Addr} (hd : DfaO (V No w) d svs cl nc) (hs : d.isNone = false) (A : Aut svs) {K : (Option Addr × Int) → World → Prop}
    (hK : ∀ p lv kd fs ms of_ w', Keeps No w w' → LeastV (V No w') p svs.length ms of_ → LeastOK svs lv kd fs ms of_ → K (p, 0) w') : least_New.C d w K := by
  have hfew := A.few
  have hpos := A.pos
  refine least_New.ok _ _ _ ?_
  simp only [least_New.M]
  rw [hs, Br_false]
  refine live_spec (M := No) hd A fun ll wl lv kl hll hlv => ?_
  refine kinds_spec (hd.mono (V.keeps0 kl)) hll A fun kk kd wk kk0 hkk hkin hstab => ?_
  have kwk : Keeps No w wk := kl.trans kk0
  have hdk := hd.mono (V.keeps0 (M := No) kwk)
  have hllk := hll.mono (V.keeps0 (M := No) kk0)
  refine dfa_States_spec hdk ?_
  refine App.make1 (t := .int .i64) (z := 0) elIntM rfl (by omega) (by omega) fun bo w4 n4 => Al.mk fun b1 w5 n5 => Al.mk fun m2 w6 n6 => ?_
  have e4 := n4.eq; have z4 := n4.size; have e5 := n5.eq; have z5 := n5.size; have e6 := n6.eq; have z6 := n6.size
  have k46 : Keeps No wk w6 := (n4.keeps.trans n5.keeps).trans n6.keeps
  refine IdxS.getG (t := .int .i64) (i := 0) (hkk.mono (V.keeps0 k46)) hpos ?_
  have hkz := hkin.rng 0 hpos
  have hempty : MapAt P T.int (.int .i64) (.int .i64) (V No w6) m2 (fun _ _ => False) := MapAt.empty ⟨id, n6.at_⟩
  refine App0.put (kt := .int .i64) (vt := .int .i64) (x := kd 0) (y := 0) intIntTy hempty (intKey (by omega)) fun w7 k7 z7 hm7 => ?_
  refine Al.mk fun b3 w8 n8 => ?_
  have e8 := n8.eq; have z8 := n8.size
  have o8 : w8.heap[bo]? = some (rowObj (.int .i64) T.int (rowG svs.length fun _ => 0)) := by
    rw [← rowG_rep]; exact n8.keeps.blk0 (k7.blk (n6.keeps.blk0 (n5.keeps.blk0 n4.at_)) (by omega))
  have ob8 : w8.heap[b1]? = some (lObj ⟨none, 0, 0⟩ ⟨some ⟨bo, 0, none⟩, svs.length, svs.length⟩) := n8.keeps.blk0 (k7.blk (n6.keeps.blk0 n5.at_) (by omega))
  have k08 : Keeps No wk w8 := (k46.then k7 fun b hb h => by omega).trans n8.keeps
  have hmL : 281474976710656 ≤ maxLen := by decide
  let oS : Sl := ⟨some ⟨bo, 0, none⟩, svs.length, svs.length⟩
  -- what holds at a round's head
  let Hd : World → Sl → List Nat → Sl → List LSt → Prop := fun w' fr fs ml ms =>
    Keeps No wk w' ∧ w'.heap[b1]? = some (lObj ml oS) ∧ w'.heap[bo]? = some (rowObj (.int .i64) T.int (rowG svs.length fun _ => 0)) ∧
    MapAt P T.int (.int .i64) (.int .i64) (V No w') m2 (KeyL kd fs) ∧ Own w' b3 T.int 1 fr ((fs.map fun (n : Nat) => (n : Int)).map (Ty.int .i64).enc) ∧ Own w' w8.heap.size T.least_state 257 ml (ms.map LSt.cells).flatten ∧
    (∀ b, fr.blk b → ¬ ml.blk b) ∧ FsOK svs lv kd fs ∧ w8.heap.size ≤ w'.heap.size
  have frLen : ∀ {w' : World} {fr : Sl} {fs : List Nat}, Own w' b3 T.int 1 fr ((fs.map fun (n : Nat) => (n : Int)).map (Ty.int .i64).enc) → fr.n = fs.length := fun h => by
    have := h.len; simpa using this.symm
  have hfs0 : FsOK svs lv kd [0] := ⟨fun n hn => by simp at hn; omega, by simp, rfl, fun x n hx h0 => by
    cases x with
    | zero => omega
    | succ x => simp at hx⟩
  refine Loop.mk (fun (s : Sl × Int) w' => ∃ (i : Nat) (fs : List Nat) (ml : Sl) (ms : List LSt), Hd w' s.1 fs ml ms ∧ s.2 = (i : Int) ∧ ms.length = i ∧ i ≤ fs.length ∧ MsOK svs lv kd fs ms) (fun s => svs.length - s.2.toNat)
    ⟨0, [0], ⟨none, 0, 0⟩, [], ⟨k08, ob8, o8, ?_, ?_, Own.nil _ _ _ _, fun b _ h => ?_, hfs0, Nat.le_refl _⟩, rfl, rfl, by simp, ⟨fun j m hj => by simp at hj, by simp [goTop]⟩⟩ ?_
  · refine MapAt.congr (MapAt.mono hm7 (V.keeps0 n8.keeps)) fun k v => ?_
    constructor
    · rintro (⟨rfl, rfl⟩ | ⟨_, h⟩)
      · exact ⟨0, 0, rfl, rfl, rfl⟩
      · exact h.elim
    · rintro ⟨x, n, hx, rfl, rfl⟩
      cases x with
      | zero => simp at hx; subst hx; exact .inl ⟨rfl, rfl⟩
      | succ x => simp at hx
  · exact ⟨by simp, .inr ⟨b3, 1, _, rfl, Nat.le_refl _, n8.at_, Nat.le_refl _, by omega, by simp, by simp [Ty.enc]⟩⟩
  · obtain ⟨a, ha, _⟩ := h; cases ha
  rintro ⟨fr, ii⟩ w9 ⟨i, fs, ml, ms, ⟨k9, ob9, o9, hm9, of9, om9, dj9, hfs9, z9⟩, hii, hmsl, hil, hms⟩ R hR
  dsimp only at hii ob9 of9 dj9 ⊢
  subst hii
  have hfrn := frLen of9
  have hle9 := hfs9.le
  refine Br.mk (fun ht => ?_) (fun hf => ?_)
  · have ht : i < fs.length := by have := of_decide_eq_true ht; omega
    have hn : fs[i]? = some fs[i] := List.getElem?_eq_getElem ht
    generalize hgn : fs[i] = n at hn
    have hnN := hfs9.lt n (List.mem_of_getElem? hn)
    have getN : ∀ {w' : World} {fr' : Sl} {fs' : List Nat} {k : Int → Prop}, Own w' b3 T.int 1 fr' ((fs'.map fun (n : Nat) => (n : Int)).map (Ty.int .i64).enc) → fs'[i]? = some n → k n → IdxS fr' (i : Int) 1 fun p => Ld (.int .i64) p w' k := by
      intro w' fr' fs' k ho hx hk
      refine IdxS.get (t := .int .i64) (ho.reads (M := No) fun _ _ h => h) (by omega) (by rw [List.length_map]; exact Int.ofNat_lt.2 (List.getElem?_eq_some_iff.1 hx).1) fun x hx' => ?_
      rw [Int.toNat_natCast, List.getElem?_map, hx] at hx'
      cases hx'
      exact hk
    refine getN of9 hn ?_
    refine dfa_Accept_spec (hdk.mono (V.keeps0 k9)) ?_
    refine App.buildG (buildLs _) (Al.mk fun b6 w12 n12 => ?_)
    rw [rCells_zero] at n12
    refine StA.gen sizeLs n12.at_ (by rw [List.size_toArray, rCells_len]) (by rw [List.size_toArray, rCells_len]) (fun u hu => rCells_one u (by simpa using hu)) fun w13 u13 => ?_
    have e12 := n12.eq
    have k13 : Keeps No w9 w13 := u13.keeps0 n12.keeps (by omega)
    have z13 := k13.size
    have hb6 : w9.heap.size ≤ b6 := by omega
    have lt9 : ∀ b, fr.blk b → b < w9.heap.size := fun b hb => (of9.ge hb).2
    have ltm9 : ∀ b, ml.blk b → b < w9.heap.size := fun b hb => (om9.ge hb).2
    refine Loop.mk (fun (s : Sl × Int) w' => ∃ (b : Nat) (fs' : List Nat) (g : Nat → Int), Hd w' s.1 fs' ml ms ∧ s.2 = (b : Int) ∧ b ≤ 256 ∧ (∃ l, fs' = fs ++ l) ∧ w'.heap[b6]? = some (.cells (rCells g (ac svs n)).toArray T.least_state (0, 0)) ∧
        (∀ j, j < b → GoodL svs lv kd fs' n j (g j)) ∧ goTop ((ms.flatMap fun m => rowL m.nx) ++ (List.range b).map g) 0 = some ((fs'.length : Int) - 1) ∧ ¬ s.1.blk b6 ∧ b6 < w'.heap.size) (fun s => 256 - s.2.toNat)
      ⟨0, fs, fun _ => 0, ⟨k9.trans k13, k13.blk0 ob9, k13.blk0 o9, MapAt.mono hm9 (V.keeps0 k13), of9.keep0 k13, om9.keep0 k13, dj9, hfs9, by omega⟩, rfl, by omega, ⟨[], by simp⟩, u13.at_, fun j hj => by omega, by simpa using hms.top, fun h => by have := lt9 _ h; omega, lt_of_some u13.at_⟩ ?_
    rintro ⟨fr', bb⟩ w14 ⟨b, fs', g, ⟨k14, ob14, o14, hm14, of14, om14, dj14, hfs14, z14⟩, hbb, hb, hext, o6, hg, htop, hn6, hl6⟩ R2 hR2
    dsimp only at hbb ob14 of14 dj14 hn6 ⊢
    subst hbb
    obtain ⟨lx, rfl⟩ := hext
    have hfrn' := frLen of14
    have hle14 := hfs14.le
    have hn' : (fs ++ lx)[i]? = some n := by rw [List.getElem?_append_left ht]; exact hn
    have hmblk : ∀ c, ml.blk c → w8.heap.size ≤ c := fun c hc => (om14.ge hc).1
    have hfblk : ∀ c, fr'.blk c → b3 ≤ c := fun c hc => (of14.ge hc).1
    refine Br.mk (fun ht2 => ?_) (fun hf2 => ?_)
    · have ht2 : b < 256 := by have := of_decide_eq_true ht2; omega
      have e4' : w64 ((b : Int) + 1) = ((b + 1 : Nat) : Int) := by rw [w64_eq (by omega)]; omega
      rw [e4']
      have wr : ∀ {w' : World} {g : Nat → Int} {v : Int} {k : World → Prop}, w'.heap[b6]? = some (.cells (rCells g (ac svs n)).toArray T.least_state (0, 0)) → (∀ w'', Upd b6 (.cells (rCells (fun j => if j = b then v else g j) (ac svs n)).toArray T.least_state (0, 0)) w' w'' → k w'') → IdxA 256 ⟨b6, 0, none⟩ (b : Int) 1 fun p => St p (.int .i64 v) w' k := by
        intro w' g v k hw hk
        refine ⟨⟨by omega, by omega⟩, ?_⟩
        rw [add_eq, Nat.mul_one, Int.toNat_natCast, Nat.zero_add]
        refine St.blk hw (by rw [List.size_toArray, rCells_len]; omega) fun w'' u => hk w'' ?_
        rw [rCells_set ht2] at u
        exact u
      -- a write to the row keeps all else
      have keepHd : ∀ {w' w'' : World} {fr'' : Sl} {fs'' : List Nat}, Hd w' fr'' fs'' ml ms → Keeps (· = b6) w' w'' → ¬ fr''.blk b6 → Hd w'' fr'' fs'' ml ms := by
        rintro w' w'' fr'' fs'' ⟨h1, h2, h3, h4, h5, h6, h7, h8, h9⟩ k hnb
        refine ⟨h1.then k fun c hc h => by have := k9.size; omega, k.blk h2 (by have := z9; omega), k.blk h3 (by omega), MapAt.keep h4 k (by omega) id, h5.keep k fun c hc h => by subst hc; exact hnb h, h6.keep k fun c hc h => by subst hc; have := ltm9 _ h; omega, h7, h8, by have := k.size; omega⟩
      refine wr o6 fun w15 u15 => ?_
      have hd15 : Hd w15 fr' (fs ++ lx) ml ms := keepHd ⟨k14, ob14, o14, hm14, of14, om14, dj14, hfs14, z14⟩ u15.keeps hn6
      obtain ⟨k15, ob15, o15, hm15, of15, om15, dj15, hfs15, z15⟩ := hd15
      refine getN of15 hn' ?_
      rw [u8_small ht2]
      refine dfa_Next_spec (hdk.mono (V.keeps0 k15)) ht2 ?_
      rw [A.next ht2]
      have goStep : ∀ (g' : Nat → Int), (∀ j, j < b → g' j = g j) → goTop ((ms.flatMap fun m => rowL m.nx) ++ (List.range (b + 1)).map g') 0 = goTop [g' b] (((fs ++ lx).length : Int) - 1) := fun g' hg' => by
        rw [List.range_succ, List.map_append, ← List.append_assoc, goTop_append, List.map_congr_left fun j hj => hg' j (by simpa using hj), htop]
        rfl
      have skip : (∀ k, nxt svs n b = some k → lv k = false) → R2 (fr', ((b + 1 : Nat) : Int)) w15 := fun hno => by
        refine hR2 _ _ ⟨b + 1, fs ++ lx, _, ⟨k15, ob15, o15, hm15, of15, om15, dj15, hfs15, z15⟩, rfl, by omega, ⟨lx, rfl⟩, u15.at_, fun j hj => ?_, ?_, hn6, by rw [u15.size]; exact hl6⟩ (by dsimp only; omega)
        · by_cases e : j = b
          · subst e; exact .inl ⟨by simp, hno⟩
          · show GoodL _ _ _ _ _ _ (if j = b then _ else g j)
            rw [if_neg e]; exact hg j (by omega)
        · rw [goStep _ fun j hj => if_neg (by omega)]
          simp [goTop]
      cases hx : nxt svs n b with
      | none =>
        simp only [Join, Bool.not_false, Br_true]
        exact skip fun k hk => by rw [hx] at hk; cases hk
      | some k =>
        have hkl := (A.nxt_lt ht2 hx).1
        simp only [Join, Bool.not_true, Br_false]
        refine IdxS.getG (t := .bool) (hllk.mono (V.keeps0 k15)) hkl ?_
        refine Br.mk (fun hlk => skip fun k' hk' => ?_) (fun hlk => ?_)
        · rw [hx] at hk'; cases hk'; simpa using hlk
        have hlk : lv k = true := by simpa using hlk
        refine IdxS.getG (t := .int .i64) (hkk.mono (V.keeps0 k15)) hkl ?_
        have hkr := hkin.rng k hkl
        refine App.look2 (kt := .int .i64) (vt := .int .i64) (x := kd k) (z := 0) intIntTy (run_zeroInt w15) (mo := some m2) hm15 (intKey (by omega)) (fun y hy => ?_) (fun hno => ?_)
        · obtain ⟨x, m, hxm, hkm, rfl⟩ := hy
          have hxl := (List.getElem?_eq_some_iff.1 hxm).1
          simp only [Bool.not_true, Br_false]
          refine wr u15.at_ fun w16 u16 => ?_
          have hd16 : Hd w16 fr' (fs ++ lx) ml ms := keepHd ⟨k15, ob15, o15, hm15, of15, om15, dj15, hfs15, z15⟩ u16.keeps hn6
          refine hR2 _ _ ⟨b + 1, fs ++ lx, _, hd16, rfl, by omega, ⟨lx, rfl⟩, u16.at_, fun j hj => ?_, ?_, hn6, by rw [u16.size, u15.size]; exact hl6⟩ (by dsimp only; omega)
          · by_cases e : j = b
            · subst e; exact .inr ⟨k, x, m, hx, hlk, by simp, hxm, hkm.symm⟩
            · show GoodL _ _ _ _ _ _ (if j = b then _ else (if j = b then _ else g j))
              rw [if_neg e, if_neg e]; exact hg j (by omega)
          · rw [goStep _ fun j hj => by rw [if_neg (by omega), if_neg (by omega)]]
            simp only [goTop, if_true]
            rw [if_neg (by omega), if_neg (by omega), if_neg (by omega)]
        · simp only [Bool.not_false, Br_true]
          refine IdxS.getG (t := .int .i64) (hkk.mono (V.keeps0 k15)) hkl ?_
          refine App0.put (kt := .int .i64) (vt := .int .i64) (x := kd k) (y := (fr'.n : Int)) intIntTy hm15 (intKey (by omega)) fun w16 k16 z16 hm16 => ?_
          have of16 := of15.keep k16 fun c hc h => by subst hc; have := hfblk _ h; omega
          have om16 := om15.keep k16 fun c hc h => by subst hc; have := hmblk _ h; omega
          have hle15 := hfs15.le
          have hz15 := u15.size
          have hb316 : b3 ≤ w16.heap.size := by omega
          refine append1 (t := .int .i64) (x := (k : Int)) elIntM of16 rfl (by omega) (by omega) hb316 fun fr2 w17 of17 n17 k17 g17 => ?_
          have of17' : Own w17 b3 T.int 1 fr2 (((fs ++ (lx ++ [k])).map fun (n : Nat) => (n : Int)).map (Ty.int .i64).enc) := by
            have : ((fs ++ (lx ++ [k])).map fun (n : Nat) => (n : Int)) = ((fs ++ lx).map fun (n : Nat) => (n : Int)) ++ [(k : Int)] := by simp
            rw [this]; exact of17
          obtain ⟨gb, hgb, hgb2⟩ := g17
          have hfr2 : ∀ c, fr2.blk c → fr'.blk c ∨ w16.heap.size ≤ c := fun c hc => by
            obtain ⟨a, ha, rfl⟩ := hc
            rw [hgb] at ha; cases ha
            exact hgb2
          have nb6 : ¬ fr2.blk b6 := fun h => (hfr2 _ h).elim hn6 fun h' => by omega
          have hfs17 : FsOK svs lv kd (fs ++ (lx ++ [k])) := by
            rw [← List.append_assoc]
            refine ⟨fun q hq => ?_, ?_, ?_, fun x q hq h0 => ?_⟩
            · rcases List.mem_append.1 hq with h | h
              · exact hfs15.lt q h
              · simp at h; omega
            · refine List.pairwise_append.2 ⟨hfs15.ne, by simp, fun a ha c hc e => ?_⟩
              simp only [List.mem_singleton] at hc
              subst hc
              obtain ⟨x, hx'⟩ := List.getElem?_of_mem ha
              exact hno _ ⟨x, a, hx', e.symm, rfl⟩
            · have := hfs15.zero
              rw [List.getElem?_append_left (List.getElem?_eq_some_iff.1 this).1]; exact this
            · by_cases hxl : x < (fs ++ lx).length
              · rw [List.getElem?_append_left hxl] at hq; exact hfs15.live x q hq h0
              · rw [List.getElem?_append_right (by omega)] at hq
                have : q = k := by
                  have h1 := List.mem_of_getElem? hq
                  simpa using h1
                rw [this]; exact hlk
          have hd17 : Hd w17 fr2 (fs ++ (lx ++ [k])) ml ms := by
            refine ⟨(k15.then k16 fun c hc h => by omega).then k17 fun c hc h => by have := hfblk c h; omega, k17.blk (k16.blk ob15 (by omega)) (fun h => by have := hfblk _ h; omega), k17.blk (k16.blk o15 (by omega)) (fun h => by have := hfblk _ h; omega), ?_, of17', om16.keep k17 fun c hc h => dj15 c hc h, fun c hc hm => ?_, hfs17, by have := k17.size; omega⟩
            · refine MapAt.congr (MapAt.keep hm16 k17 (fun h => by have := hfblk _ h; omega) id) fun kk' v => ?_
              constructor
              · rintro (⟨rfl, rfl⟩ | ⟨hne, x, m, hxm, rfl, rfl⟩)
                · refine ⟨(fs ++ lx).length, k, by rw [← List.append_assoc]; simp, rfl, by rw [hfrn']⟩
                · refine ⟨x, m, ?_, rfl, rfl⟩
                  rw [← List.append_assoc, List.getElem?_append_left (List.getElem?_eq_some_iff.1 hxm).1]; exact hxm
              · rintro ⟨x, m, hxm, rfl, rfl⟩
                rw [← List.append_assoc] at hxm
                by_cases hxl : x < (fs ++ lx).length
                · rw [List.getElem?_append_left hxl] at hxm
                  exact .inr ⟨fun e => hno _ ⟨x, m, hxm, e.symm, rfl⟩, x, m, hxm, rfl, rfl⟩
                · rw [List.getElem?_append_right (by omega)] at hxm
                  have h1 : m = k := by have h1 := List.mem_of_getElem? hxm; simpa using h1
                  have h2 := (List.getElem?_eq_some_iff.1 hxm).1
                  simp only [List.length_cons, List.length_nil] at h2
                  have h3 : x = (fs ++ lx).length := by omega
                  exact .inl ⟨by rw [h1], by rw [hfrn', h3]⟩
            · exact (hfr2 c hc).elim (fun h => dj15 c h hm) fun h => by have := (om15.ge hm).2; omega
          have o6' : w17.heap[b6]? = _ := k17.blk (k16.blk u15.at_ (by omega)) hn6
          refine wr o6' fun w18 u18 => ?_
          have hd18 := keepHd hd17 u18.keeps nb6
          refine hR2 _ _ ⟨b + 1, fs ++ (lx ++ [k]), _, hd18, rfl, by omega, ⟨_, rfl⟩, u18.at_, fun j hj => ?_, ?_, nb6, lt_of_some u18.at_⟩ (by dsimp only; omega)
          · by_cases e : j = b
            · subst e
              refine .inr ⟨k, (fs ++ lx).length, k, hx, hlk, ?_, by rw [← List.append_assoc]; simp, rfl⟩
              simp [hfrn']
            · show GoodL _ _ _ _ _ _ (if j = b then _ else (if j = b then _ else g j))
              rw [if_neg e, if_neg e, ← List.append_assoc]; exact (hg j (by omega)).mono
          · rw [goStep _ fun j hj => by rw [if_neg (by omega), if_neg (by omega)]]
            simp only [goTop, if_true]
            rw [hfrn', if_neg (by omega), if_neg (by omega), if_pos (by omega)]
            simp
            omega
    · have hf2 : b = 256 := by have := of_decide_eq_false hf2; omega
      subst hf2
      refine DrawN.mk fun w24 h24 k24 => ?_
      have hmln : ml.n = ms.length := by
        have := om14.len
        rw [flatten_len LSt.lens, List.length_map] at this
        omega
      have ob24 := k24.blk0 ob14
      have o624 := k24.blk0 o6
      have z24 := k24.size
      have tail : ∀ {w' : World} {bn : Nat}, Keeps No w24 w' → w'.heap[bn]? = some (.cells (rCells g (ac svs n)).toArray T.least_state (0, 0)) →
          App P (Builtin.append_ #[T.sl_least_state, T.sl_least_state] T.sl_least_state #[.slice ml.a ml.n ml.c, .slice (some ⟨bn, 0, none⟩) 1 1]) (.one .sl) w' fun x111 w26 => (True ∧ St ⟨b1, 0, none⟩ (.slice x111.a x111.n x111.c) w26 fun w27 => (True ∧ R (fr', w64 ((i : Int) + 1)) w27)) := by
        intro w' bn k' hbn
        have z' := k'.size
        refine appendC (c := rCells g (ac svs n)) (xs := ms.map LSt.cells) elLs ((om14.keep0 k24).keep0 k') rCells_len hbn rCells_one (by omega) (by omega) (by omega) fun ml2 w26 om26 n26 k26 g26 => ⟨trivial, ?_⟩
        obtain ⟨gb, hgb, hgb2⟩ := g26
        have hml2 : ∀ c, ml2.blk c → ml.blk c ∨ w'.heap.size ≤ c := fun c hc => by
          obtain ⟨a, ha, rfl⟩ := hc
          rw [hgb] at ha; cases ha
          exact hgb2
        have ob26 := k26.blk (k'.blk0 ob24) (fun h => by have := hmblk _ h; omega)
        refine St.blk ob26 (by show 0 < 2; omega) fun w27 u27 => ⟨trivial, ?_⟩
        have e4' : w64 ((i : Int) + 1) = ((i + 1 : Nat) : Int) := by rw [w64_eq (by omega)]; omega
        rw [e4']
        have om26' : Own w26 w8.heap.size T.least_state 257 ml2 ((ms ++ [(⟨g, ac svs n⟩ : LSt)]).map LSt.cells).flatten := by rw [List.map_append]; exact om26
        refine hR _ _ ⟨i + 1, fs ++ lx, ml2, ms ++ [(⟨g, ac svs n⟩ : LSt)], ⟨?_, u27.at_, ?_, ?_, ?_, om26'.keep u27.keeps fun c hc h => ?_, fun c hc h => ?_, hfs14, ?_⟩, rfl, by simp [hmsl], by simp; omega, ⟨fun j m hj => ?_, ?_⟩⟩ (by dsimp only; omega)
        · exact (((k14.then0 k24).then0 k').then k26 fun c hc h => by have := hmblk c h; omega).then u27.keeps fun c hc h => by omega
        · exact u27.keeps.blk (k26.blk (k'.blk0 (k24.blk0 o14)) fun h => by have := hmblk _ h; omega) (by omega)
        · exact MapAt.keep (MapAt.keep (MapAt.mono hm14 (V.keeps0 (k24.trans k'))) k26 (fun h => by have := hmblk _ h; omega) (M' := No) id) u27.keeps (by omega) id
        · exact (((of14.keep0 k24).keep0 k').keep k26 fun c hc h => dj14 c h hc).keep u27.keeps fun c hc h => by subst hc; have := hfblk _ h; omega
        · subst hc
          rcases hml2 _ h with h | h
          · have := hmblk _ h; omega
          · omega
        · rcases hml2 _ h with h | h
          · exact dj14 c hc h
          · have := (of14.ge hc).2; omega
        · have := k26.size; have := u27.keeps.size; omega
        · by_cases hjl : j < ms.length
          · rw [List.getElem?_append_left hjl] at hj
            obtain ⟨q, h1, h2, h3⟩ := hms.each j m hj
            exact ⟨q, by rw [List.getElem?_append_left (List.getElem?_eq_some_iff.1 h1).1]; exact h1, h2, fun b' hb' => (h3 b' hb').mono⟩
          · have hlen := (List.getElem?_eq_some_iff.1 hj).1
            simp only [List.length_append, List.length_cons, List.length_nil] at hlen
            have hji : j = i := by omega
            subst hji
            rw [List.getElem?_append_right (by omega)] at hj
            have hm : m = (⟨g, ac svs n⟩ : LSt) := by have h1 := List.mem_of_getElem? hj; simpa using h1
            subst hm
            exact ⟨n, hn', rfl, hg⟩
        · rw [List.flatMap_append]
          simp only [List.flatMap_cons, List.flatMap_nil, List.append_nil]
          exact htop
      refine ⟨Ld.slv (l := ml) (cell_of ob24 rfl) ⟨trivial, LdA.gen (c := rCells g (ac svs n)) rCells_len (fun j u hu => cell_of o624 (by simpa using hu)) ⟨trivial, App.slice1G elLs (by simp [rCells_len]) (by omega) (by omega) fun bn w25 n25 => ⟨trivial, tail n25.keeps n25.at_⟩⟩⟩,
        LdA.gen (c := rCells g (ac svs n)) rCells_len (fun j u hu => cell_of o624 (by simpa using hu)) ⟨trivial, Ld.slv (l := ml) (cell_of ob24 rfl) ⟨trivial, App.slice1G elLs (by simp [rCells_len]) (by omega) (by omega) fun bn w25 n25 => ⟨trivial, tail n25.keeps n25.at_⟩⟩,
          App.slice1G elLs (by simp [rCells_len]) (by omega) (by omega) fun bn w25 n25 => ⟨trivial, Ld.slv (l := ml) (cell_of (n25.keeps.blk0 ob24) rfl) ⟨trivial, tail n25.keeps n25.at_⟩⟩⟩⟩
  · have hf : i = fs.length := by have := of_decide_eq_false hf; omega
    refine Ld.slv (l := oS) (cell_of ob9 rfl) ?_
    have hmblk : ∀ c, ml.blk c → w8.heap.size ≤ c := fun c hc => (om9.ge hc).1
    refine Loop.mk (fun (s : Int) w' => Keeps (· = bo) w9 w' ∧ ∃ (q : Nat) (of_ : Nat → Int), q ≤ svs.length ∧ s = (q : Int) ∧ w'.heap[bo]? = some (rowObj (.int .i64) T.int (rowG svs.length of_)) ∧ ∀ n, n < q → OfOK lv kd fs n (of_ n)) (fun s => svs.length - s.toNat)
      ⟨.refl, 0, _, by omega, rfl, o9, fun n hn => by omega⟩ ?_
    rintro s w10 ⟨k10, q, of_, hq, rfl, o10, hof⟩ R3 hR3
    have ob10 := k10.blk ob9 (by omega)
    have kw10 : Keeps No wk w10 := k9.then k10 fun c hc h => by omega
    refine Br.mk (fun ht => ?_) (fun hf3 => ?_)
    · have ht : q < svs.length := by have h9 : (_ : Int) < (svs.length : Int) := of_decide_eq_true ht; omega
      have e4' : w64 ((q : Int) + 1) = ((q + 1 : Nat) : Int) := by rw [w64_eq (by omega)]; omega
      rw [e4']
      refine Ld.slv (l := oS) (cell_of ob10 rfl) ?_
      refine IdxS.putG (t := .int .i64) (v := (-1 : Int)) o10 ht fun w11 u11 => ?_
      have kw11 : Keeps No wk w11 := kw10.then u11.keeps fun c hc h => by omega
      have k911 : Keeps (· = bo) w9 w11 := k10.trans u11.keeps
      have ob11 := u11.keeps.blk ob10 (by omega)
      refine IdxS.getG (t := .int .i64) (hkk.mono (V.keeps0 kw11)) ht ?_
      have hkr := hkin.rng q ht
      have hm11 : MapAt P T.int (.int .i64) (.int .i64) (V No w11) m2 (KeyL kd fs) := MapAt.keep hm9 k911 (by omega) id
      have keepOf : ∀ {v : Int} {w' : World} {f : Nat → Int}, Keeps (· = bo) w9 w' → w'.heap[bo]? = some (rowObj (.int .i64) T.int (rowG svs.length f)) → (∀ n, n < q → f n = of_ n) → OfOK lv kd fs q (f q) → R3 ((q + 1 : Nat) : Int) w' := fun {v w' f} k h hold hnew => by
        refine hR3 _ _ ⟨k, q + 1, f, by omega, rfl, h, fun n hn => ?_⟩ (by omega)
        by_cases e : n = q
        · subst e; exact hnew
        · rw [hold n (by omega)]; exact hof n (by omega)
      refine App.look2 (kt := .int .i64) (vt := .int .i64) (x := kd q) (z := 0) intIntTy (run_zeroInt w11) (mo := some m2) hm11 (intKey (by omega)) (fun y hy => ?_) (fun hno => ?_)
      · obtain ⟨x, m, hxm, hkm, rfl⟩ := hy
        refine Join.cut (fun (s17 : Bool) w' => w' = w11 ∧ (s17 = true ↔ lv q = true ∨ q = 0)) ?_ ?_
        · rintro s17 w' ⟨rfl, h17⟩
          refine Br.mk (fun h => ?_) (fun h => ?_)
          · refine Ld.slv (l := oS) (cell_of ob11 rfl) ?_
            refine IdxS.putG (t := .int .i64) (v := (x : Int)) u11.at_ ht fun w12 u12 => ?_
            refine keepOf (v := 0) (k911.trans u12.keeps) u12.at_ (fun n hn => by rw [if_neg (by omega), if_neg (by omega)]) (.inl ⟨x, m, hxm, hkm.symm, h17.1 h, by simp⟩)
          · refine keepOf (v := 0) k911 u11.at_ (fun n hn => if_neg (by omega)) (.inr ⟨by simp, fun hh => ?_⟩)
            rw [h17.2 hh.1] at h; cases h
        · intro j hj
          simp only [Br_true]
          refine IdxS.getG (t := .bool) (hllk.mono (V.keeps0 kw11)) ht ?_
          refine Br.mk (fun h => hj _ _ ⟨rfl, by simp [h]⟩) (fun h => hj _ _ ⟨rfl, ?_⟩)
          simp [h]
      · simp only [Join, Br_false]
        refine keepOf (v := 0) k911 u11.at_ (fun n hn => if_neg (by omega)) (.inr ⟨by simp, fun hh => ?_⟩)
        obtain ⟨_, x, m, hxm, hkm⟩ := hh
        exact hno _ ⟨x, m, hxm, hkm.symm, rfl⟩
    · have hf3 : q = svs.length := by have h9 : ¬ (_ : Int) < (svs.length : Int) := of_decide_eq_false hf3; omega
      subst hf3
      refine hK _ lv kd fs ms of_ w10 (kwk.trans kw10) ⟨b1, ml, oS, rfl, ⟨id, ob10⟩, (om9.keep k10 fun c hc h => by subst hc; have := hmblk _ h; omega).readsC (by omega) LSt.lens fun _ _ h => h, Row.sl o10 (fun h => h) rowG_len.symm⟩ ⟨hlv, hkin, hstab, hfs9, hms, by omega, hof⟩
end Go.Fk
end

section
set_option linter.unusedVariables false
namespace Go.Fk
open Go Go.MapKept

/-! ## What is asked of a least automaton -/

def LeastO (H : View) (p : Option Addr) (N : Nat) (ms : List LSt) (of_ : Nat → Int) : Prop := (p = none ∧ ms = [] ∧ N = 0) ∨ LeastV H p N ms of_
theorem LeastO.mono {H H' : View} {p : Option Addr} {N : Nat} {ms : List LSt} {of_ : Nat → Int} (h : LeastO H p N ms of_) (hv : Vle H H') : LeastO H' p N ms of_ := h.imp id fun h => h.mono hv

def mAt (ms : List LSt) (n : Int) : Option LSt := if 0 ≤ n then ms[n.toNat]? else none
def mNext (ms : List LSt) (n : Int) (b : Nat) : Int × Bool := match mAt ms n with
  | some m => if m.nx b = -1 then (0, false) else (m.nx b, true)
  | none => (0, false)
def mAcc (ms : List LSt) (n : Int) : Int := ((mAt ms n).map LSt.acc).getD (-1)
def mRun (ms : List LSt) (s : List UInt8) : Int × Bool → Int × Bool
  | st => s.foldl (fun (st : Int × Bool) c => if st.2 = true then mNext ms st.1 c.toNat else st) st
def mOf (N : Nat) (of_ : Nat → Int) (n : Int) : Int × Bool := if 0 ≤ n ∧ n < N then (if of_ n.toNat = -1 then (0, false) else (of_ n.toNat, true)) else (0, false)
def mLong (ms : List LSt) : List UInt8 → Int × Int × Int × Nat → Int × Int × Int
  | [], st => (st.1, st.2.1, st.2.2.2)
  | c :: l, st => if (mNext ms st.2.2.1 c.toNat).2 = true then
      (if mAcc ms (mNext ms st.2.2.1 c.toNat).1 = -1 then mLong ms l (st.1, st.2.1, (mNext ms st.2.2.1 c.toNat).1, st.2.2.2 + 1)
       else mLong ms l (mAcc ms (mNext ms st.2.2.1 c.toNat).1, ((st.2.2.2 + 1 : Nat) : Int), (mNext ms st.2.2.1 c.toNat).1, st.2.2.2 + 1))
    else (st.1, st.2.1, ((st.2.2.2 + 1 : Nat) : Int))

section
variable {w : World} {p : Option Addr} {N : Nat} {ms : List LSt} {of_ : Nat → Int}

theorem mAt_in {n : Int} {m : LSt} (h0 : 0 ≤ n) (h : ms[n.toNat]? = some m) : mAt ms n = some m := by simp [mAt, h0, h]
theorem mAt_out {n : Int} (h : ¬ (0 ≤ n ∧ n < ms.length)) : mAt ms n = none := by
  unfold mAt
  split
  · exact List.getElem?_eq_none (by omega)
  · rfl

theorem least_States_spec (h : LeastO (V No w) p N ms of_) {K : Int → World → Prop} (hK : K ms.length w) : least_Least_States.C p w K := by
  refine least_Least_States.ok _ _ _ ?_
  simp only [least_Least_States.M]
  rcases h with ⟨rfl, rfl, _⟩ | ⟨b, l, o, rfl, h2, h3, h4⟩
  · exact hK
  · show Ld _ _ _ _
    refine Ld.slv (l := l) (cell_of h2.2 rfl) ?_
    have := h3.1
    simp only [List.length_map] at this
    rw [this]; exact hK

theorem least_has_spec (h : LeastO (V No w) p N ms of_) {n : Int} {K : Bool → World → Prop} (hK : K (decide (0 ≤ n ∧ n < ms.length)) w) : least_Least_has.C p n w K := by
  refine least_Least_has.ok _ _ _ _ ?_
  simp only [least_Least_has.M]
  refine Br.mk (fun h0 => least_States_spec h ?_) (fun h0 => ?_)
  · have h0 := of_decide_eq_true h0
    have : decide (n < (ms.length : Int)) = decide (0 ≤ n ∧ n < ms.length) := by rw [decide_eq_decide]; omega
    rw [this]; exact hK
  · have h0 := of_decide_eq_false h0
    rwa [decide_eq_false (by omega)] at hK

theorem least_Next_spec (h : LeastO (V No w) p N ms of_) {n : Int} {b : Nat} (hb : b < 256) {K : (Int × Bool) → World → Prop} (hK : K (mNext ms n b) w) : least_Least_Next.C p n b w K := by
  refine least_Least_Next.ok _ _ _ _ _ ?_
  simp only [least_Least_Next.M]
  have cellN : ∀ {l : Sl} {m : LSt} {k : Int → Prop}, SlC (V No w) l 257 (ms.map LSt.cells) → 0 ≤ n → n < ms.length → ms[n.toNat]? = some m → k (m.nx b) → IdxS l n 257 fun p19 => IdxA 256 p19 b 1 fun p21 => Ld (.int .i64) p21 w k := by
    intro l m k h3 h0 h1 hm hk
    refine IdxS.recd h3 h0 (by simpa using h1) fun g off cs hcs hcell => ?_
    simp only [List.getElem?_map, hm, Option.map_some, Option.some.injEq] at hcs
    subst hcs
    refine ⟨⟨by omega, by omega⟩, ?_⟩
    rw [add_eq, Nat.mul_one, Int.toNat_natCast]
    exact Ld.int (hcell b _ (rCells_get hb)) hk
  refine Join.cut (fun s w' => w' = w ∧ (s = true → mNext ms n b = (0, false)) ∧ (s = false → ∃ m, 0 ≤ n ∧ n < ms.length ∧ ms[n.toNat]? = some m ∧ m.nx b ≠ -1)) ?_ ?_
  · rintro s w' ⟨rfl, g1, g2⟩
    refine Br.mk (fun ht => ?_) (fun hf => ?_)
    · rw [g1 ht] at hK; exact hK
    · obtain ⟨m, h0, h1, hm, hne⟩ := g2 hf
      rcases h with ⟨_, rfl, _⟩ | ⟨bl, l, o, rfl, h2, h3, h4⟩
      · simp at h1; omega
      · simp only [NilC_some]
        refine Ld.slv (l := l) (cell_of h2.2 rfl) ?_
        refine cellN h3 h0 h1 hm ?_
        have : mNext ms n b = (m.nx b, true) := by simp [mNext, mAt_in h0 hm, hne]
        rw [this] at hK; exact hK
  · intro j hj
    refine least_has_spec h ?_
    refine Br.mk (fun hn => ?_) (fun hn => ?_)
    · have hn : ¬ (0 ≤ n ∧ n < ms.length) := of_decide_eq_false ((Bool.not_eq_true' _).mp hn)
      exact hj _ _ ⟨rfl, fun _ => by simp [mNext, mAt_out hn], fun e => by cases e⟩
    · have hn : 0 ≤ n ∧ n < ms.length := by simpa using hn
      have hm : ms[n.toNat]? = some ms[n.toNat] := List.getElem?_eq_getElem (by omega)
      generalize ms[n.toNat] = m at hm
      rcases h with ⟨_, rfl, _⟩ | ⟨bl, l, o, rfl, h2, h3, h4⟩
      · simp at hn; omega
      · simp only [NilC_some]
        refine Ld.slv (l := l) (cell_of h2.2 rfl) ?_
        refine cellN h3 hn.1 hn.2 hm ?_
        refine hj _ _ ⟨rfl, fun e => ?_, fun e => ⟨m, hn.1, hn.2, hm, by simpa using e⟩⟩
        have : m.nx b = -1 := by simpa using e
        simp [mNext, mAt_in hn.1 hm, this]

theorem least_Accept_spec (h : LeastO (V No w) p N ms of_) {n : Int} {K : Int → World → Prop} (hK : K (mAcc ms n) w) : least_Least_Accept.C p n w K := by
  refine least_Least_Accept.ok _ _ _ _ ?_
  simp only [least_Least_Accept.M]
  refine least_has_spec h ?_
  refine Br.mk (fun hn => ?_) (fun hn => ?_)
  · have hn : ¬ (0 ≤ n ∧ n < ms.length) := of_decide_eq_false ((Bool.not_eq_true' _).mp hn)
    have : mAcc ms n = -1 := by simp [mAcc, mAt_out hn]
    rw [this] at hK; exact hK
  · have hn : 0 ≤ n ∧ n < ms.length := by simpa using hn
    have hm : ms[n.toNat]? = some ms[n.toNat] := List.getElem?_eq_getElem (by omega)
    generalize ms[n.toNat] = m at hm
    rcases h with ⟨_, rfl, _⟩ | ⟨bl, l, o, rfl, h2, h3, h4⟩
    · simp at hn; omega
    · simp only [NilC_some]
      refine Ld.slv (l := l) (cell_of h2.2 rfl) ?_
      refine IdxS.recd h3 hn.1 (by simpa using hn.2) fun g off cs hcs hcell => ?_
      simp only [List.getElem?_map, hm, Option.map_some, Option.some.injEq] at hcs
      subst hcs
      rw [add_eq]
      refine Ld.int (hcell 256 _ rCells_own) ?_
      have : mAcc ms n = m.acc := by simp [mAcc, mAt_in hn.1 hm]
      rw [this] at hK; exact hK

theorem least_Run_spec (h : LeastO (V No w) p N ms of_) {s : ByteArray} (hs : s.size ≤ 1000000) {K : (Int × Bool) → World → Prop} (hK : K (mRun ms (bs s) (0, !p.isNone)) w) : least_Least_Run.C p s w K := by
  have hsz := size_bs s
  refine least_Least_Run.ok _ _ _ _ ?_
  simp only [least_Least_Run.M]
  refine Loop.mk (fun t w' => w' = w ∧ ∃ j : Nat, j ≤ s.size ∧ t.2.2 = (j : Int) ∧ mRun ms ((bs s).drop j) (t.1, t.2.1) = mRun ms (bs s) (0, !p.isNone)) (fun t => s.size - t.2.2.toNat) ⟨rfl, 0, by omega, rfl, by simp⟩ ?_
  rintro ⟨n, ok, jj⟩ w' ⟨rfl, j, hj, hjj, hrun⟩ R hR
  dsimp only at hjj hrun ⊢
  subst hjj
  refine Join.cut (fun (b : Bool) w'' => w'' = w' ∧ (b = true → j < s.size ∧ ok = true) ∧ (b = false → ¬ (j < s.size ∧ ok = true))) ?_ ?_
  · rintro b w'' ⟨rfl, g1, g2⟩
    refine Br.mk (fun hb => ?_) (fun hb => ?_)
    · obtain ⟨h1, rfl⟩ := g1 hb
      refine IdxStr.get (by omega) (by omega) fun c hc => ?_
      simp only [Int.toNat_natCast] at hc
      refine least_Next_spec h (by have := c.toNat_lt; omega) ?_
      rw [w64_eq (by omega)]
      refine hR _ _ ⟨rfl, j + 1, by omega, by simp, ?_⟩ (by dsimp only; omega)
      rw [← hrun]
      have hd : (bs s).drop j = c :: (bs s).drop (j + 1) := by
        obtain ⟨hl, he⟩ := List.getElem?_eq_some_iff.1 hc
        rw [List.drop_eq_getElem_cons hl, he]
      rw [hd]
      simp [mRun]
    · have hno := g2 hb
      have : mRun ms ((bs s).drop j) (n, ok) = (n, ok) := by
        by_cases h1 : j < s.size
        · have hok : ok = false := by cases ok with | false => rfl | true => exact absurd ⟨h1, rfl⟩ hno
          subst hok
          have : ∀ l : List UInt8, mRun ms l (n, false) = (n, false) := by
            intro l
            induction l with
            | nil => rfl
            | cons c l ih => simpa [mRun] using ih
          exact this _
        · rw [List.drop_of_length_le (by omega)]; rfl
      rw [← hrun, this] at hK
      exact hK
  · intro jk hjk
    refine Br.mk (fun hlt => ?_) (fun hlt => ?_)
    · have hlt : j < s.size := by have := of_decide_eq_true hlt; omega
      exact hjk _ _ ⟨rfl, fun e => ⟨hlt, e⟩, fun e h => by rw [h.2] at e; cases e⟩
    · have hlt : ¬ j < s.size := by have := of_decide_eq_false hlt; omega
      exact hjk _ _ ⟨rfl, (fun e => by cases e), fun _ h => hlt h.1⟩

theorem least_Of_spec (h : LeastO (V No w) p N ms of_) {n : Int} {K : (Int × Bool) → World → Prop} (hK : K (mOf N of_ n) w) : least_Least_Of.C p n w K := by
  refine least_Least_Of.ok _ _ _ _ ?_
  simp only [least_Least_Of.M]
  refine Join.cut (fun s w' => w' = w ∧ (s = true → mOf N of_ n = (0, false)) ∧ (s = false → 0 ≤ n ∧ n < N ∧ of_ n.toNat ≠ -1)) ?_ ?_
  · rintro s w' ⟨rfl, g1, g2⟩
    refine Br.mk (fun ht => ?_) (fun hf => ?_)
    · rw [g1 ht] at hK; exact hK
    · obtain ⟨h0, h1, hne⟩ := g2 hf
      rcases h with ⟨_, _, rfl⟩ | ⟨bl, l, o, rfl, h2, h3, h4⟩
      · omega
      · simp only [NilC_some, add_eq]
        refine Ld.slv (l := o) (cell_of h2.2 rfl) ?_
        refine IdxS.get (t := .int .i64) h4 h0 (by rw [rowG_len]; exact h1) fun x hx => ?_
        rw [rowG_get (by omega)] at hx
        cases hx
        have : mOf N of_ n = (of_ n.toNat, true) := by simp [mOf, h0, h1, hne]
        rw [this] at hK; exact hK
  · intro j hj
    rcases h with ⟨rfl, _, rfl⟩ | ⟨bl, l, o, rfl, h2, h3, h4⟩
    · exact hj _ _ ⟨rfl, fun _ => by simp only [mOf]; rw [if_neg (by omega)], fun e => by cases e⟩
    · simp only [Option.isNone_some, Br_false, NilC_some, add_eq]
      refine Br.mk (fun hn => ?_) (fun hn => ?_)
      · have hn := of_decide_eq_true hn
        exact hj _ _ ⟨rfl, fun _ => by simp only [mOf]; rw [if_neg (by omega)], fun e => by cases e⟩
      · have hn := of_decide_eq_false hn
        refine Ld.slv (l := o) (cell_of h2.2 rfl) ?_
        have ho := h4.1
        rw [rowG_len] at ho
        refine Br.mk (fun hn2 => ?_) (fun hn2 => ?_)
        · have hn2 := of_decide_eq_true hn2
          exact hj _ _ ⟨rfl, fun _ => by simp only [mOf]; rw [if_neg (by omega)], fun e => by cases e⟩
        · have hn2 := of_decide_eq_false hn2
          refine Ld.slv (l := o) (cell_of h2.2 rfl) ?_
          refine IdxS.get (t := .int .i64) h4 (by omega) (by rw [rowG_len]; omega) fun x hx => ?_
          rw [rowG_get (by omega)] at hx
          cases hx
          refine hj _ _ ⟨rfl, fun e => ?_, fun e => ⟨by omega, by omega, by simpa using e⟩⟩
          have : of_ n.toNat = -1 := by simpa using e
          simp only [mOf]
          rw [if_pos (by omega), if_pos this]

theorem least_Longest_spec (h : LeastO (V No w) p N ms of_) {s : ByteArray} (hs : s.size ≤ 1000000) {K : (Int × Int × Int) → World → Prop} (hK : K (mLong ms (bs s) (-1, 0, 0, 0)) w) : least_Least_Longest.C p s w K := by
  have hsz := size_bs s
  refine least_Least_Longest.ok _ _ _ _ ?_
  simp only [least_Least_Longest.M]
  refine Loop.mk (fun t w' => w' = w ∧ ∃ j : Nat, j ≤ s.size ∧ t.2.2.2 = (j : Int) ∧ mLong ms ((bs s).drop j) (t.1, t.2.1, t.2.2.1, j) = mLong ms (bs s) (-1, 0, 0, 0)) (fun t => s.size - t.2.2.2.toNat) ⟨rfl, 0, by omega, rfl, by simp⟩ ?_
  rintro ⟨r, z, n, jj⟩ w' ⟨rfl, j, hj, hjj, hrun⟩ R hR
  dsimp only at hjj hrun ⊢
  subst hjj
  refine Br.mk (fun hlt => ?_) (fun hlt => ?_)
  · have hlt : j < s.size := by have := of_decide_eq_true hlt; omega
    have e4 : w64 ((j : Int) + 1) = ((j + 1 : Nat) : Int) := by rw [w64_eq (by omega)]; omega
    rw [e4]
    refine IdxStr.get (by omega) (by omega) fun c hc => ?_
    simp only [Int.toNat_natCast] at hc
    have hd : (bs s).drop j = c :: (bs s).drop (j + 1) := by
      obtain ⟨hl, he⟩ := List.getElem?_eq_some_iff.1 hc
      rw [List.drop_eq_getElem_cons hl, he]
    rw [hd, mLong] at hrun
    dsimp only at hrun
    refine least_Next_spec h (by have := c.toNat_lt; omega) ?_
    refine Br.mk (fun hx => ?_) (fun hx => ?_)
    · have hx : (mNext ms n c.toNat).2 = false := by simpa using hx
      rw [hx] at hrun
      simp only [Bool.false_eq_true, if_false] at hrun
      rw [← hrun] at hK
      exact hK
    · have hx : (mNext ms n c.toNat).2 = true := by simpa using hx
      rw [if_pos hx] at hrun
      refine least_Accept_spec h ?_
      refine Br.mk (fun ha => least_Accept_spec h ?_) (fun ha => ?_)
      · have ha : mAcc ms (mNext ms n c.toNat).1 ≠ -1 := by simpa using ha
        rw [if_neg ha] at hrun
        exact hR _ _ ⟨rfl, j + 1, by omega, rfl, hrun⟩ (by dsimp only; omega)
      · have ha : mAcc ms (mNext ms n c.toNat).1 = -1 := by simpa using ha
        rw [if_pos ha] at hrun
        exact hR _ _ ⟨rfl, j + 1, by omega, rfl, hrun⟩ (by dsimp only; omega)
  · have hlt : j = s.size := by have := of_decide_eq_false hlt; omega
    rw [List.drop_of_length_le (by omega), mLong] at hrun
    dsimp only at hrun
    rw [← hrun, hlt] at hK
    exact hK
end
end Go.Fk
end
