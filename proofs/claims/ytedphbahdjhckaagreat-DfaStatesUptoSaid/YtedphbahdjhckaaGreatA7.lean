/-
  A part of the proof: what the functions of the program come to, read off the model: no premise of its own, no axiom. By an AI agent.
-/
import Derived.Test.YtedphbahdjhckaaGreatA6
set_option linter.all false
section
set_option linter.unusedVariables false
namespace Go.Fk
open Go

theorem goTop_take {l : List Int} {t r u : Int} {c : Nat} {k : Int} (h : goTop l t = some r) (hc : l[c]? = some k) (hp : goTop (l.take c) t = some u) : (k < 0 ∨ k ≤ u + 1) ∧ goTop (l.take (c + 1)) t = some (if k < 0 then u else if u < k then k else u) := by
  have hlt := (List.getElem?_eq_some_iff.1 hc).1
  have hl : l = l.take c ++ k :: l.drop (c + 1) := by
    have h1 := (List.take_append_drop c l).symm
    have h2 : l.drop c = k :: l.drop (c + 1) := by
      rw [List.drop_eq_getElem_cons hlt]
      rw [List.getElem?_eq_getElem hlt] at hc
      rw [Option.some.inj hc]
    rw [h2] at h1
    exact h1
  have hk : k < 0 ∨ k ≤ u + 1 := by
    rw [hl, goTop_append, hp] at h
    simp only [Option.bind_some, goTop] at h
    by_cases h0 : k < 0
    · exact .inl h0
    · rw [if_neg h0] at h
      by_cases h1 : u + 1 < k
      · rw [if_pos h1] at h; cases h
      · exact .inr (by omega)
  refine ⟨hk, ?_⟩
  have ht : l.take (c + 1) = l.take c ++ [k] := by rw [List.take_add_one, hc]; rfl
  rw [ht, goTop_append, hp]
  simp only [Option.bind_some, goTop]
  by_cases h0 : k < 0
  · simp [h0]
  · rw [if_neg h0, if_neg (by omega), if_neg h0]

theorem rowL_get {f : Nat → Int} {c : Nat} (h : c < 256) : (rowL f)[c]? = some (f c) := by simp [rowL, h]
theorem rowL_len {f : Nat → Int} : (rowL f).length = 256 := by simp [rowL]

theorem u8_small {c : Nat} (h : c < 256) : IntKind.wrap .u8 (c : Int) = (c : Int) := IntWalk.u8_in _ (by omega)

set_option maxRecDepth 20000 in
theorem DfaClasses_spec {M : Nat → Prop} {w : World} {l : Sl} {ss : List ByteArray} {a b : Nat} {K : Bool → World → Prop} (hl : SlT .str (V M w) l ss) (ha : a < 256) (hb : b < 256) (hlen : ss.length ≤ 1048576) (hsz : ∀ s ∈ ss, s.size ≤ 1048576) (hK : ∀ w', Keeps No w w' → K true w') : frisketlaw07_DfaClasses.C l a b w K := by
  refine frisketlaw07_DfaClasses.ok _ _ _ _ _ ?_
  simp only [frisketlaw07_DfaClasses.M]
  refine Join.cut (fun b w1 => Keeps No w w1 ∧ (b = false → (ss.length ≤ 6 ∧ ∀ s ∈ ss, s.size ≤ 40))) ?_ ?_
  · rintro b' w1 ⟨k1, hb'⟩
    refine Br.mk (fun _ => awake7_spec fun w2 k2 => hK w2 (k1.trans k2)) (fun hbf => ?_)
    obtain ⟨h6, h40⟩ := hb' hbf
    refine Make_spec (hl.mono (V.keeps0 k1)) (fun s hs => by have := h40 s hs; unfold Small; omega) (by omega) (fun w2 k2 _ => ?_) fun d bb xs vs svs cl nc w2 k2 hm => ?_
    · exact hK w2 (k1.trans k2)
    · have hsome : d.isNone = false := by have := hm.dv.some; simpa using this
      dsimp only
      rw [hsome]
      have hd : DfaO (V No w2) d svs cl nc := .inr hm.dv
      have hfew := hm.ok.few
      have hcl := hm.ok.cls
      show Loop _ _ _
      refine Loop.mk (fun t w' => w' = w2 ∧ ∃ n : Nat, n ≤ svs.length ∧ t.2 = (n : Int) ∧ (t.1 = true ↔ ∀ j, j < n → nextOf svs (j : Nat) a = nextOf svs (j : Nat) b)) (fun t => svs.length - t.2.toNat) ⟨rfl, 0, by omega, rfl, by simp⟩ ?_
      rintro ⟨is, nn⟩ w3 ⟨rfl, n, hn, hnn, his⟩ R hR
      dsimp only at hnn his ⊢
      subst hnn
      refine dfa_States_spec hd ?_
      refine Br.mk (fun ht => ?_) (fun hf => ?_)
      · have ht : n < svs.length := by have := of_decide_eq_true ht; omega
        have e4 : w64 ((n : Int) + 1) = ((n + 1 : Nat) : Int) := by rw [w64_eq (by omega)]; omega
        rw [e4]
        refine dfa_Next_spec hd ha (dfa_Next_spec hd hb ?_)
        have split : (∀ j, j < n + 1 → nextOf svs (j : Nat) a = nextOf svs (j : Nat) b) ↔ (∀ j, j < n → nextOf svs (j : Nat) a = nextOf svs (j : Nat) b) ∧ nextOf svs (n : Nat) a = nextOf svs (n : Nat) b := by
          constructor
          · intro h; exact ⟨fun j hj => h j (by omega), h n (by omega)⟩
          · rintro ⟨h1, h2⟩ j hj
            by_cases e : j = n
            · subst e; exact h2
            · exact h1 j (by omega)
        refine Br.mk (fun hi => Br.mk (fun he => ?_) (fun he => ?_)) (fun hi => ?_)
        · have he : (nextOf svs (n : Nat) a).1 = (nextOf svs (n : Nat) b).1 := by simpa using he
          refine hR _ _ ⟨rfl, n + 1, by omega, rfl, ?_⟩ (by dsimp only; omega)
          dsimp only
          rw [split]
          have h1 := his.1 hi
          constructor
          · intro h
            have h : (nextOf svs (n : Nat) a).2 = (nextOf svs (n : Nat) b).2 := by simpa using h
            exact ⟨h1, Prod.ext he h⟩
          · rintro ⟨_, h⟩; rw [h]; simp
        · have he : ¬ (nextOf svs (n : Nat) a).1 = (nextOf svs (n : Nat) b).1 := by simpa using he
          refine hR _ _ ⟨rfl, n + 1, by omega, rfl, ?_⟩ (by dsimp only; omega)
          dsimp only
          rw [split]
          exact ⟨(fun h => by cases h), fun h => absurd (congrArg Prod.fst h.2) he⟩
        · refine hR _ _ ⟨rfl, n + 1, by omega, rfl, ?_⟩ (by dsimp only; omega)
          dsimp only
          rw [split]
          exact ⟨(fun h => by cases h), fun h => by rw [his.2 h.1] at hi; cases hi⟩
      · have hf : n = svs.length := by have := of_decide_eq_false hf; omega
        subst hf
        have hisc : is = true ↔ cl a = cl b := by
          rw [his, hcl.iff a b ha hb]
          unfold colOf
          constructor
          · intro h
            refine List.map_congr_left fun sv hs => ?_
            obtain ⟨j, hj⟩ := List.getElem?_of_mem hs
            have hlt := (List.getElem?_eq_some_iff.1 hj).1
            have := h j hlt
            have hat : stAt svs ((j : Nat) : Int) = some sv := stAt_in (by omega) (by simpa using hj)
            simp only [nextOf, hat] at this
            by_cases e1 : sv.nx a = -1 <;> by_cases e2 : sv.nx b = -1
            · rw [e1, e2]
            · simp [e1, e2] at this
            · simp [e1, e2] at this
            · simp [e1, e2] at this; rw [this]
          · intro h j hj
            have hx : svs[j]? = some svs[j] := List.getElem?_eq_getElem hj
            have hat : stAt svs ((j : Nat) : Int) = some svs[j] := stAt_in (by omega) (by simpa using hx)
            have h2 := congrArg (fun l => l[j]?) h
            simp only [List.getElem?_map, hx, Option.map_some, Option.some.injEq] at h2
            have h3 : (svs[j]).nx a = (svs[j]).nx b := by omega
            simp only [nextOf, hat, h3]
        refine Loop.mk (fun t w' => w' = w3 ∧ ∃ c : Nat, c ≤ 256 ∧ t.2 = (c : Int) ∧ goTop ((rowL cl).take c) (-1) = some t.1 ∧ -1 ≤ t.1 ∧ t.1 < c) (fun t => 256 - t.2.toNat) ⟨rfl, 0, by omega, rfl, by simp [goTop], by simp, by simp⟩ ?_
        rintro ⟨top, cc⟩ w4 ⟨rfl, c, hc, hcc, htop, ht0, ht1⟩ R2 hR2
        dsimp only at hcc htop ht0 ht1 ⊢
        subst hcc
        refine Br.mk (fun ht => ?_) (fun hf => ?_)
        · have ht : c < 256 := by have := of_decide_eq_true ht; omega
          rw [u8_small ht]
          refine dfa_Class_spec hd ht ?_
          obtain ⟨g1, g2⟩ := goTop_take hcl.top (rowL_get ht) htop
          have g0 := hcl.pos c ht
          refine Join.cut (fun (s6 : Bool) w' => w' = w4 ∧ s6 = false) ?_ ?_
          · rintro s6 w' ⟨rfl, rfl⟩
            refine App.max2 ?_
            have e4 : w64 ((c : Int) + 1) = ((c + 1 : Nat) : Int) := by rw [w64_eq (by omega)]; omega
            rw [e4]
            have e5 : (if cl c < 0 then top else if top < cl c then cl c else top) = (if cl c > top then cl c else top) := by
              rw [if_neg (by omega)]
            rw [e5] at g2
            refine hR2 _ _ ⟨rfl, c + 1, by omega, rfl, g2, ?_, ?_⟩ (by dsimp only; omega)
            · dsimp only; split <;> omega
            · dsimp only; split <;> omega
          · intro j hj
            refine Br.mk (fun h => absurd (of_decide_eq_true h) (by omega)) (fun _ => hj _ _ ⟨rfl, ?_⟩)
            rw [w64_eq (by omega)]
            exact decide_eq_false (by omega)
        · have hf : c = 256 := by have := of_decide_eq_false hf; omega
          subst hf
          rw [List.take_of_length_le (by rw [rowL_len]; omega), hcl.top] at htop
          have htop : nc - 1 = top := Option.some.inj htop
          refine dfa_Classes_spec hd ?_
          rw [w64_eq (by omega), htop]
          simp only [beq_self_eq_true, Br_true]
          refine dfa_Class_spec hd ha (dfa_Class_spec hd hb ?_)
          have : ((cl a == cl b) == is) = true := by
            by_cases e : cl a = cl b
            · rw [hisc.2 e]; simp [e]
            · have : is = false := by cases h : is with | false => rfl | true => exact absurd (hisc.1 h) e
              rw [this]; simp [e]
          rw [this]
          exact hK w4 (k1.trans k2)
  · intro j hj
    refine Great_spec hl hlen hsz fun n hn => ?_
    refine Br.mk (fun _ => hj _ _ ⟨.refl, fun e => by cases e⟩) (fun hf => ?_)
    exact awake7_spec fun w1 k1 => hj _ _ ⟨k1, fun _ => hn (of_decide_eq_false hf)⟩
end Go.Fk
end

section
set_option linter.unusedVariables false
namespace Go.Fk
open Go

theorem same_spec {M : Nat → Prop} {w : World} {a b : Sl} {xs ys : List Int} {K : Bool → World → Prop} (ha : SlT (.int .i64) (V M w) a xs) (hb : SlT (.int .i64) (V M w) b ys) (hlen : xs.length < 1000000000)
    (hK : ∀ w', Keeps No w w' → K (decide (xs = ys)) w') : frisketlaw07_same.C a b w K := by
  refine frisketlaw07_same.ok _ _ _ _ ?_
  simp only [frisketlaw07_same.M]
  have h1 := ha.1; have h2 := hb.1
  refine Br.mk (fun ht => ?_) (fun hf => ?_)
  · have hne : xs ≠ ys := fun e => by subst e; simp [h1, h2] at ht
    have := hK w Keeps.refl
    rwa [decide_eq_false hne] at this
  · have hl : xs.length = ys.length := by
      have : (a.n : Int) = b.n := by simpa using hf
      omega
    refine Loop.mk (fun s w' => Keeps No w w' ∧ 0 ≤ s ∧ s ≤ xs.length ∧ ∀ i : Nat, i < s → xs[i]? = ys[i]?) (fun s => (xs.length : Nat) - s.toNat) ⟨Keeps.refl, by omega, by omega, fun i hi => by omega⟩ ?_
    rintro s w1 ⟨k1, g0, g1, g2⟩ R hR
    refine Br.mk (fun ht => ?_) (fun hf => ?_)
    · have ht : s < xs.length := by simpa [h1] using ht
      refine Draw.mk fun w2 e2 k2 => ?_
      have hS : ∀ w', w' = w2 → Vle (V M w) (V No w') := fun w' e => e ▸ (V.keeps0 (k1.trans k2)).trans (V.sub fun _ _ h => h.elim)
      refine IdxS.getS ha hS g0 ht fun x hx => IdxS.getS hb hS g0 (by omega) fun y hy => ?_
      refine Br.mk (fun he => ?_) (fun he => ?_)
      · have hne : x ≠ y := by simpa using he
        have hne2 : xs ≠ ys := fun e => by subst e; rw [hx] at hy; cases hy; exact hne rfl
        have := hK w2 (k1.trans k2)
        rwa [decide_eq_false hne2] at this
      · have heq : x = y := by simpa using he
        rw [w64_eq (by omega)]
        refine hR _ w2 ⟨k1.trans k2, by omega, by omega, fun i hi => ?_⟩ (by omega)
        by_cases e : (i : Int) = s
        · have : s.toNat = i := by omega
          rw [this] at hx hy
          rw [hx, hy, heq]
        · exact g2 i (by omega)
    · have hf : (xs.length : Int) ≤ s := by have := of_decide_eq_false hf; omega
      have he : xs = ys := by
        refine List.ext_getElem? fun i => ?_
        by_cases hi : i < xs.length
        · exact g2 i (by omega)
        · rw [List.getElem?_eq_none (by omega), List.getElem?_eq_none (by omega)]
      have := hK w1 k1
      rwa [decide_eq_true he] at this

theorem has_spec {M : Nat → Prop} {w : World} {l : Sl} {xs : List Int} {v : Int} {K : Bool → World → Prop} (hl : SlT (.int .i64) (V M w) l xs) (hlen : xs.length ≤ 1000000000) (hK : K (decide (v ∈ xs)) w) : frisketlaw07_has.C l v w K := by
  have hn := hl.1
  refine frisketlaw07_has.ok _ _ _ _ ?_
  simp only [frisketlaw07_has.M]
  refine Loop.mk (fun s w' => w' = w ∧ 0 ≤ s ∧ s ≤ xs.length ∧ ∀ i : Nat, i < s → xs[i]? ≠ some v) (fun s => (xs.length : Nat) - s.toNat) ⟨rfl, by omega, by omega, fun i hi => by omega⟩ ?_
  rintro s w1 ⟨rfl, h0, h1, h2⟩ R hR
  refine Br.mk (fun ht => ?_) (fun hf => ?_)
  · have ht : s < xs.length := by simpa [hn] using ht
    refine IdxS.get (M := M) hl h0 ht fun q hq => ?_
    refine Br.mk (fun hz => ?_) (fun hz => ?_)
    · have : q = v := by simpa using hz
      subst this
      rwa [decide_eq_true (List.mem_of_getElem? hq)] at hK
    · have hne : q ≠ v := by simpa using hz
      rw [w64_eq (by omega)]
      refine hR _ _ ⟨rfl, by omega, by omega, fun i hi => ?_⟩ (by omega)
      by_cases e : (i : Int) = s
      · have : s.toNat = i := by omega
        rw [this] at hq
        rw [hq]
        rintro ⟨⟩
        exact hne rfl
      · exact h2 i (by omega)
  · have hf : (xs.length : Int) ≤ s := by have := of_decide_eq_false hf; omega
    have hno : v ∉ xs := fun h => by
      obtain ⟨i, hi⟩ := List.getElem?_of_mem h
      have := (List.getElem?_eq_some_iff.1 hi).1
      exact absurd hi (h2 i (by omega))
    rwa [decide_eq_false hno] at hK

/-- All that is met, one behind the other. -/
def allSeq (svs : List DSt) : List Int := seqOf svs.length 0 svs
theorem allSeq_get {svs : List DSt} {n : Nat} {sv : DSt} {b : Nat} (h : svs[n]? = some sv) (hb : b < 256) : (allSeq svs)[n * 256 + b]? = some (sv.nx b) := by
  unfold allSeq seqOf
  simp only [List.range_zero, List.map_nil, List.append_nil]
  rw [List.flatMap_def]
  have hlt := (List.getElem?_eq_some_iff.1 h).1
  refine flatten_get (sz := 256) (fun c hc => ?_) (i := n) (c := rowL (nxAt svs n)) ?_ ?_
  · obtain ⟨i, _, rfl⟩ := List.mem_map.1 hc
    exact rowL_len
  · rw [List.getElem?_map]
    simp [hlt]
  · rw [rowL_get hb]
    simp [nxAt, h]
theorem allSeq_len {svs : List DSt} : (allSeq svs).length = svs.length * 256 := by
  unfold allSeq seqOf
  simp only [List.range_zero, List.map_nil, List.append_nil]
  rw [List.flatMap_def, flatten_len (sz := 256) (fun c hc => by obtain ⟨i, _, rfl⟩ := List.mem_map.1 hc; exact rowL_len)]
  simp

/-- By the machine: what may stand behind a state's positions and has the byte, found as the law finds it. -/
theorem step_law {fs : List ((Nat → Bool) × Int)} {F : Int → Int → Prop} {ks : List Kn} {xs : List Int} {c : Nat} {q : Int} (hown : ∀ (r : Nat), (knAt ks r).first q → ruleAt fs q = r) :
    stepS fs F ks xs c q ↔ ((xs = [] ∧ (knAt ks (ruleAt fs q)).first q) ∨ ∃ p ∈ xs, F p q) ∧ hasAt fs q c = true := by
  unfold stepS nextSet
  constructor
  · rintro ⟨⟨h0, r, hr, hf⟩ | h, hh⟩
    · exact ⟨.inl ⟨h0, by rw [hown r hf]; exact hf⟩, hh⟩
    · exact ⟨.inr h, hh⟩
  · rintro ⟨⟨h0, hf⟩ | h, hh⟩
    · refine ⟨.inl ⟨h0, ?_⟩, hh⟩
      by_cases hi : 0 ≤ ruleAt fs q ∧ ruleAt fs q < ks.length
      · refine ⟨(ruleAt fs q).toNat, by omega, ?_⟩
        have : (((ruleAt fs q).toNat : Nat) : Int) = ruleAt fs q := by omega
        rw [this]; exact hf
      · rw [knAt_out hi] at hf; exact hf.elim
    · exact ⟨.inr h, hh⟩

set_option maxRecDepth 20000 in
theorem DfaStates_spec {M : Nat → Prop} {w : World} {l : Sl} {ss : List ByteArray} {c : Nat} {K : Bool → World → Prop} (hl : SlT .str (V M w) l ss) (hc : c < 256) (hlen : ss.length ≤ 1048576) (hsz : ∀ s ∈ ss, s.size ≤ 1048576) (hK : ∀ w', Keeps No w w' → K true w') : frisketlaw07_DfaStates.C l c w K := by
  refine frisketlaw07_DfaStates.ok _ _ _ _ ?_
  simp only [frisketlaw07_DfaStates.M]
  refine Join.cut (fun b w1 => Keeps No w w1 ∧ (b = false → (ss.length ≤ 6 ∧ ∀ s ∈ ss, s.size ≤ 40))) ?_ ?_
  · rintro b' w1 ⟨k1, hb'⟩
    refine Br.mk (fun _ => awake7_spec fun w2 k2 => hK w2 (k1.trans k2)) (fun hbf => ?_)
    obtain ⟨h6, h40⟩ := hb' hbf
    refine Rules_spec (hl.mono (V.keeps0 k1)) (fun s hs => by have := h40 s hs; unfold Small; omega) (by omega) fun a b bad ps ys vs xs w4 k4 tw hnorm hyl hys hyr => ?_
    have k04 := k1.trans k4
    have hal := tw.na.length
    have hsa : SlT .ptr (V No w4) a ps := tw.oa.reads fun _ _ h => h
    by_cases hps : ps = []
    · exact nfa_New_none hsa (by rw [hal]; omega) (.inl hps) (dfa_New_nil (hK w4 k04))
    have hna : All2 (Nd (V No w4)) ps ys := tw.na.mono fun _ _ x => x.mono (V.sub fun _ _ h => h.elim)
    refine nfa_New_spec (fun _ h => h.elim) hsa hna hps (by omega) (fun y hy => by have := hys y hy; omega) fun m e w5 k5 g1 g2 => ?_
    have k05 := k04.trans k5
    by_cases hcm : mCnt ys ≤ 2000
    case neg =>
      obtain ⟨rfl, rfl⟩ := g2 (by omega)
      exact dfa_New_nil (hK w5 k05)
    obtain ⟨rfl, hm⟩ := g1 hcm
    have hmo : MachO (V No w5) m _ _ _ := .inr hm
    have hmn : m ≠ none := by
      obtain ⟨bm, _, _, _, _, rfl, _⟩ := hm.ex
      simp
    have hmi : m.isNone = false := by cases m with | none => exact absurd rfl hmn | some a => rfl
    refine dfa_New_spec hmo hmn (by rw [mKs_len]; omega) (fun d svs cl nc w6 k6 hdv hok => ?_) (fun w6 k6 hg => ?_)
    case refine_2 =>
      dsimp only
      rw [hmi]
      exact hK w6 (k05.trans k6)
    dsimp only
    rw [hmi, Br_false]
    have k06 := k05.trans k6
    have hsome : d.isNone = false := by have := hdv.some; simpa using this
    have hm6 : MachO (V No w6) m _ _ _ := hmo.mono (V.keeps0 k6)
    have hd6 : DfaO (V No w6) d svs cl nc := .inr hdv
    refine Join.cut (fun (s2 : Bool) w' => w' = w6 ∧ (s2 = false → svs.length ≤ 200)) ?_ ?_
    case refine_2 =>
      intro j hj
      refine Br.mk (fun h => by cases h) (fun _ => ?_)
      refine dfa_States_spec hd6 (hj _ _ ⟨rfl, fun e => ?_⟩)
      have := of_decide_eq_false e
      omega
    rintro s2 w' ⟨rfl, h200⟩
    refine Br.mk (fun _ => ?_) (fun hs2 => ?_)
    · rw [hsome]
      exact hK w' k06
    have h200 := h200 hs2
    have hxl : ∀ sv ∈ svs, sv.xs.length ≤ 2000 := fun sv hs => by
      have hr := hok.sts.rise sv hs
      have hfew := hm6.few
      exact nodup_bound 2000 sv.xs (hr.1.imp fun {a b} h e => by omega) fun q hq => by have := hr.2 q hq; omega
    have hwhole : goTop (allSeq svs) 0 = some ((svs.length : Int) - 1) := hok.done.top
    -- the states
    refine Loop.mk (fun t w7 => Keeps No w' w7 ∧ ∃ n : Nat, n ≤ svs.length ∧ t.2 = (n : Int) ∧ goTop ((allSeq svs).take (n * 256)) 0 = some t.1 ∧ 0 ≤ t.1 ∧ t.1 ≤ 200) (fun t => svs.length - t.2.toNat) ⟨.refl, 0, by omega, rfl, by simp [goTop], by simp, by simp⟩ ?_
    rintro ⟨top, nn⟩ w7 ⟨k7, n, hn, hnn, htop, ht0, ht1⟩ R hR
    dsimp only at hnn htop ht0 ht1 ⊢
    subst hnn
    have hd7 := hd6.mono (V.keeps0 k7)
    have hm7 := hm6.mono (V.keeps0 k7)
    refine dfa_States_spec hd7 ?_
    refine Br.mk (fun ht => ?_) (fun hf => ?_)
    case refine_2 =>
      have hf : n = svs.length := by have := of_decide_eq_false hf; omega
      subst hf
      rw [List.take_of_length_le (by rw [allSeq_len]; omega), hwhole] at htop
      have htop : (svs.length : Int) - 1 = top := Option.some.inj htop
      refine dfa_States_spec hd7 ?_
      rw [w64_eq (by omega), htop]
      simpa using hK w7 (k06.trans k7)
    have ht : n < svs.length := by have := of_decide_eq_true ht; omega
    have hsv : svs[n]? = some svs[n] := List.getElem?_eq_getElem ht
    generalize svs[n] = sv at hsv
    have hsm := List.mem_of_getElem? hsv
    have hat : stAt svs (n : Int) = some sv := stAt_in (by omega) (by simpa using hsv)
    have hxr := hok.sts.rise sv hsm
    refine dfa_Positions_spec hd7 hxl fun p w8 k8 hp => ?_
    rw [hat] at hp
    have hp : SlT (.int .i64) (V No w8) p sv.xs := hp
    have hpn := hp.1
    have hxl1 := hxl sv hsm
    have hx0 : sv.xs = [] ↔ n = 0 := by
      constructor
      · intro h
        refine Decidable.byContradiction fun h0 => hok.sts.ne n sv hsv (by omega) h
      · rintro rfl
        obtain ⟨sv0, q1, q2⟩ := hok.sts.zero
        rw [hsv] at q1; cases q1; exact q2
    refine Join.cut (fun (s5 : Bool) w' => w' = w8 ∧ s5 = false) ?_ ?_
    case refine_2 =>
      intro j hj
      by_cases h0 : n = 0
      · have hp0 : p.n = 0 := by rw [hpn, hx0.2 h0]; rfl
        subst h0
        rw [hp0]
        exact hj false w8 ⟨rfl, rfl⟩
      · have hp1 : ¬ p.n = 0 := by rw [hpn]; intro e; exact h0 (hx0.1 (List.eq_nil_of_length_eq_zero e))
        have e1 : decide ((0 : Int) < (n : Int)) = true := decide_eq_true (by omega)
        have e2 : ((p.n : Int) == 0) = false := by simp; omega
        have e3 : ((n : Int) == 0) = false := by simp; omega
        rw [e1, e2, e3]
        exact hj false w8 ⟨rfl, rfl⟩
    rintro s5 w8' ⟨rfl, rfl⟩
    show Loop _ _ _
    have k78 := k7.trans k8
    -- what is wanted
    refine Loop.mk (fun t w9 => Keeps No w8' w9 ∧ ∃ (q : Nat) (zs : List Int), q ≤ (mFs 0 ys).length ∧ t.2 = (q : Int) ∧ Own w9 w8'.heap.size T.int 1 t.1 (zs.map (Ty.int .i64).enc) ∧ zs.Pairwise (· < ·) ∧ ∀ x, x ∈ zs ↔ (0 ≤ x ∧ x < q) ∧ stepS (mFs 0 ys) (mFol 0 ys) (mKs 0 ys) sv.xs c x) (fun t => (mFs 0 ys).length - t.2.toNat) ⟨.refl, 0, [], by omega, rfl, Own.nil _ _ _ _, .nil, fun x => by simp; omega⟩ ?_
    rintro ⟨o, qq⟩ w9 ⟨k9, q, zs, hq, hqq, ho, hz1, hz2⟩ R2 hR2
    dsimp only at hqq ho ⊢
    subst hqq
    have hm9 := hm7.mono (V.keeps0 (k8.trans k9))
    have hd9 := hd7.mono (V.keeps0 (k8.trans k9))
    have hfew := hm9.few
    have hzl : zs.length ≤ 2000 := nodup_bound 2000 zs (hz1.imp fun {a b} h e => by omega) fun x hx => by have := ((hz2 x).1 hx).1; omega
    refine nfa_Machine_Len_spec hm9 ?_
    refine Br.mk (fun htq => ?_) (fun hfq => ?_)
    · -- one position
      have htq : q < (mFs 0 ys).length := by have := of_decide_eq_true htq; omega
      have e4 : w64 ((q : Int) + 1) = ((q + 1 : Nat) : Int) := by rw [w64_eq (by omega)]; omega
      refine Loop.mk (fun t w10 => Keeps No w9 w10 ∧ ∃ i : Nat, i ≤ sv.xs.length ∧ t.2 = (i : Int) ∧ (t.1 = true ↔ ∃ x ∈ sv.xs.take i, mFol 0 ys x q)) (fun t => sv.xs.length - t.2.toNat) ⟨.refl, 0, by omega, rfl, by simp⟩ ?_
      rintro ⟨is, ii⟩ w10 ⟨k10, i, hi, hii, his⟩ R3 hR3
      dsimp only at hii his ⊢
      subst hii
      refine Br.mk (fun hti => ?_) (fun hfi => ?_)
      · have hti : i < sv.xs.length := by have := of_decide_eq_true hti; omega
        have e5 : w64 ((i : Int) + 1) = ((i + 1 : Nat) : Int) := by rw [w64_eq (by omega)]; omega
        rw [e5]
        have hx : sv.xs[i]? = some sv.xs[i] := List.getElem?_eq_getElem hti
        have htk : sv.xs.take (i + 1) = sv.xs.take i ++ [sv.xs[i]] := by rw [List.take_add_one, hx]; rfl
        refine Br.mk (fun hist => ?_) (fun hisf => ?_)
        · refine hR3 _ w10 ⟨k10, i + 1, by omega, rfl, ?_⟩ (by dsimp only; omega)
          dsimp only
          rw [htk]
          obtain ⟨x, hx1, hx2⟩ := his.1 hist
          exact ⟨fun _ => ⟨x, List.mem_append_left _ hx1, hx2⟩, fun _ => rfl⟩
        · refine IdxS.get (M := No) (hp.mono (V.keeps0 (k9.trans k10))) (by omega) (by omega) fun x hx' => ?_
          simp only [Int.toNat_natCast] at hx'
          rw [hx] at hx'
          cases hx'
          refine nfa_Machine_Follow_spec (hm9.mono (V.keeps0 k10)) fun lf us w11 k11 o11 r11 => ?_
          have hul : us.length ≤ 2000 := nodup_bound 2000 us (r11.1.imp fun {a b} h e => by omega) fun y hy => by
            have h1 := (r11.2 y).1 hy
            have := hm9.fin h1.1 h1.2; omega
          refine has_spec (M := No) (o11.reads fun _ _ h => h) (by omega) ?_
          refine hR3 _ w11 ⟨k10.trans k11, i + 1, by omega, rfl, ?_⟩ (by dsimp only; omega)
          have hxin := hxr.2 sv.xs[i] (List.getElem_mem hti)
          have hno : ¬ ∃ x ∈ sv.xs.take i, mFol 0 ys x q := fun h => by rw [his.2 h] at hisf; cases hisf
          show decide ((q : Int) ∈ us) = true ↔ _
          rw [decide_eq_true_iff, r11.2, htk]
          constructor
          · rintro ⟨_, h⟩; exact ⟨sv.xs[i], List.mem_append_right _ (List.mem_singleton.2 rfl), h⟩
          · rintro ⟨x, h1, h2⟩
            rcases List.mem_append.1 h1 with h1 | h1
            · exact absurd ⟨x, h1, h2⟩ hno
            · simp only [List.mem_singleton] at h1
              subst h1; exact ⟨hxin, h2⟩
      · have hfi : i = sv.xs.length := by have := of_decide_eq_false hfi; omega
        subst hfi
        rw [List.take_length] at his
        have hm10 := hm9.mono (V.keeps0 k10)
        have hstep := step_law (fs := mFs 0 ys) (F := mFol 0 ys) (ks := mKs 0 ys) (xs := sv.xs) (c := c) (q := (q : Int)) (fun r hf => ruleAt_first (.inl hf))
        refine Join.cut (fun (s10 : Bool) w11 => Keeps No w9 w11 ∧ (s10 = true ↔ ((sv.xs = [] ∧ (knAt (mKs 0 ys) (ruleAt (mFs 0 ys) q)).first q) ∨ ∃ p ∈ sv.xs, mFol 0 ys p q))) ?_ ?_
        case refine_2 =>
          intro j hj
          refine Br.mk (fun h0 => ?_) (fun h0 => ?_)
          · have h0 : n = 0 := by have : (n : Int) = 0 := by simpa using h0
                                  omega
            have hxe := hx0.2 h0
            refine nfa_Machine_Rule_spec hm10 fun w11 k11 => ?_
            refine nfa_Machine_First_spec (hm10.mono (V.keeps0 k11)) fun lf us w12 k12 o12 r12 => ?_
            have hul : us.length ≤ 2000 := nodup_bound 2000 us (r12.1.imp fun {a b} h e => by omega) fun y hy => by
              have := hm10.kin _ y (.inl ((r12.2 y).1 hy)); omega
            refine has_spec (M := No) (o12.reads fun _ _ h => h) (by omega) (hj _ _ ⟨(k10.trans k11).trans k12, ?_⟩)
            rw [decide_eq_true_iff, r12.2]
            simp [hxe]
          · have h0 : ¬ n = 0 := by have : ¬ (n : Int) = 0 := by simpa using h0
                                    omega
            have hxe : sv.xs ≠ [] := fun e => h0 (hx0.1 e)
            refine hj _ _ ⟨k10, ?_⟩
            rw [his]
            simp [hxe]
        rintro s10 w11 ⟨k11, hs10⟩
        have hm11 := hm9.mono (V.keeps0 k11)
        refine Join.cut (fun (s11 : Bool) w12 => Keeps No w9 w12 ∧ (s11 = true ↔ stepS (mFs 0 ys) (mFol 0 ys) (mKs 0 ys) sv.xs c q)) ?_ ?_
        case refine_2 =>
          intro j hj
          refine Br.mk (fun h0 => ?_) (fun h0 => ?_)
          · refine nfa_Machine_Has_spec hm11 hc fun w12 k12 => hj _ _ ⟨k11.trans k12, ?_⟩
            rw [hstep]
            exact ⟨fun h => ⟨hs10.1 h0, h⟩, fun h => h.2⟩
          · refine hj _ _ ⟨k11, ?_⟩
            rw [hstep]
            exact ⟨(fun h => by cases h), fun h => by rw [hs10.2 h.1] at h0; cases h0⟩
        rintro s11 w12 ⟨k12, hs11⟩
        rw [e4]
        have ho12 := ho.keep0 k12
        have hol := ho12.len
        simp at hol
        refine Br.mk (fun h0 => ?_) (fun h0 => ?_)
        · have z12 := (k9.trans k12).size
          refine append1 (t := .int .i64) (x := (q : Int)) elInt ho12 rfl (by omega) (by omega) z12 fun o' w13 o13 m13 k13 g13 => ?_
          refine hR2 _ w13 ⟨((k9.trans k12).no (M := No)).then k13 fun b hb hbl => by have := (ho12.ge hbl).1; have : b < w8'.heap.size := hb; omega, q + 1, zs ++ [(q : Int)], by omega, rfl, o13, ?_, fun x => ?_⟩ (by dsimp only; omega)
          · rw [List.pairwise_append]
            exact ⟨hz1, by simp, fun a ha b hb => by simp at hb; subst hb; exact ((hz2 a).1 ha).1.2⟩
          · rw [List.mem_append, hz2]
            constructor
            · rintro (⟨h1, h2⟩ | h)
              · exact ⟨by omega, h2⟩
              · simp at h; subst h; exact ⟨by omega, hs11.1 h0⟩
            · rintro ⟨h1, h2⟩
              by_cases e : x = q
              · exact .inr (by simp [e])
              · exact .inl ⟨by omega, h2⟩
        · refine hR2 _ w12 ⟨k9.trans k12, q + 1, zs, by omega, rfl, ho12, hz1, fun x => ?_⟩ (by dsimp only; omega)
          rw [hz2]
          constructor
          · rintro ⟨h1, h2⟩; exact ⟨by omega, h2⟩
          · rintro ⟨h1, h2⟩
            by_cases e : x = q
            · subst e; rw [hs11.2 h2] at h0; cases h0
            · exact ⟨by omega, h2⟩
    · -- all positions
      have hfq : q = (mFs 0 ys).length := by have := of_decide_eq_false hfq; omega
      subst hfq
      have hz3 : ∀ x, x ∈ zs ↔ stepS (mFs 0 ys) (mFol 0 ys) (mKs 0 ys) sv.xs c x := fun x => by
        rw [hz2]
        refine ⟨fun h => h.2, fun h => ⟨?_, h⟩⟩
        rcases h.1 with ⟨_, r, _, hf⟩ | ⟨p', hp', hf⟩
        · exact hm9.kin r x (.inl hf)
        · exact hm9.fin (hxr.2 p' hp') hf
      have hon : o.n = zs.length := by have := ho.len; simpa using this.symm
      have hso : SlT (.int .i64) (V No w9) o zs := ho.reads fun _ _ h => h
      refine dfa_Next_spec hd9 hc ?_
      have hgood := hok.good hsm hc
      refine Join.cut (fun (s15 : Bool) w10 => Keeps No w9 w10 ∧ s15 = false) ?_ ?_
      case refine_2 =>
        intro j hj
        rcases hgood with ⟨h1, h2⟩ | ⟨k, sv', hk0, hk1, hk2, hk3⟩
        · have hze : zs = [] := by
            cases zs with
            | nil => rfl
            | cons x l => exact absurd ((hz3 x).1 (by simp)) (h2 x)
          have en : nextOf svs (n : Int) c = (0, false) := by simp [nextOf, hat, h1]
          have eo : o.n = 0 := by rw [hon, hze]; rfl
          rw [en, eo]
          exact hj false w9 ⟨.refl, rfl⟩
        · have hne : ¬ sv.nx c = -1 := by omega
          have en : nextOf svs (n : Int) c = ((k : Int), true) := by simp [nextOf, hat, hk1]
          have hzx : sv'.xs = zs := sorted_unique (hok.sts.rise sv' (List.mem_of_getElem? hk2)).1 hz1 fun x => by rw [hk3, hz3]
          have hzne : zs ≠ [] := by rw [← hzx]; exact hok.sts.ne k sv' hk2 hk0
          have eo : decide ((0 : Int) < (o.n : Int)) = true := decide_eq_true (by
            have : 0 < zs.length := List.length_pos_iff.2 hzne
            omega)
          rw [en, eo]
          show dfa_Dfa_Positions.C _ _ _ _
          refine dfa_Positions_spec hd9 hxl fun p2 w10 k10 hp2 => ?_
          have hat2 : stAt svs (k : Int) = some sv' := stAt_in (by omega) (by simpa using hk2)
          rw [hat2] at hp2
          have hp2 : SlT (.int .i64) (V No w10) p2 sv'.xs := hp2
          refine same_spec hp2 (hso.mono (V.keeps0 k10)) (by have := hxl sv' (List.mem_of_getElem? hk2); omega) fun w11 k11 => ?_
          rw [decide_eq_true hzx]
          exact hj false w11 ⟨k10.trans k11, rfl⟩
      rintro s15 w10 ⟨k10, rfl⟩
      show Loop _ _ _
      have hd10 := hd9.mono (V.keeps0 k10)
      have k710 := (k78.trans k9).trans k10
      -- the bytes
      refine Loop.mk (fun t w11 => w11 = w10 ∧ ∃ b : Nat, b ≤ 256 ∧ t.2 = (b : Int) ∧ goTop ((allSeq svs).take (n * 256 + b)) 0 = some t.1 ∧ 0 ≤ t.1 ∧ t.1 ≤ 200) (fun t => 256 - t.2.toNat) ⟨rfl, 0, by omega, rfl, htop, ht0, ht1⟩ ?_
      rintro ⟨tp, bb⟩ w11 ⟨rfl, b2, hb2, hbb, htp, htp0, htp1⟩ R4 hR4
      dsimp only at hbb htp htp0 htp1 ⊢
      subst hbb
      refine Br.mk (fun htb => ?_) (fun hfb => ?_)
      · have htb : b2 < 256 := by have := of_decide_eq_true htb; omega
        rw [u8_small htb]
        refine dfa_Next_spec hd10 htb ?_
        obtain ⟨q1, q2⟩ := goTop_take hwhole (allSeq_get hsv htb) htp
        have hrange := (hok.good hsm htb).range
        have e4 : w64 ((b2 : Int) + 1) = ((b2 + 1 : Nat) : Int) := by rw [w64_eq (by omega)]; omega
        rw [e4]
        by_cases hnx : sv.nx b2 = -1
        · have en : nextOf svs (n : Int) b2 = (0, false) := by simp [nextOf, hat, hnx]
          rw [en]
          rw [if_pos (by omega)] at q2
          exact hR4 _ _ ⟨rfl, b2 + 1, by omega, rfl, q2, htp0, htp1⟩ (by dsimp only; omega)
        · have en : nextOf svs (n : Int) b2 = (sv.nx b2, true) := by simp [nextOf, hat, hnx]
          rw [en]
          have hk0 : ¬ sv.nx b2 < 0 := by omega
          have hlt : decide (w64 (tp + 1) < sv.nx b2) = false := by
            rw [w64_eq (by omega)]; exact decide_eq_false (by omega)
          show Join _ _
          refine Join.cut (fun (s18 : Bool) w' => w' = w11 ∧ s18 = false) ?_ (fun j hj => hj _ _ ⟨rfl, hlt⟩)
          rintro s18 w' ⟨rfl, rfl⟩
          show App _ _ _ _ _
          refine App.max2 ?_
          rw [if_neg hk0] at q2
          refine hR4 _ _ ⟨rfl, b2 + 1, by omega, rfl, q2, ?_, ?_⟩ (by dsimp only; omega)
          · dsimp only; split <;> omega
          · dsimp only; split <;> omega
      · have hfb : b2 = 256 := by have := of_decide_eq_false hfb; omega
        subst hfb
        -- none before is the same
        refine Loop.mk (fun t w12 => Keeps No w11 w12 ∧ ∃ k : Nat, 1 ≤ k ∧ t = (k : Int)) (fun t => svs.length - t.toNat) ⟨.refl, 1, by omega, rfl⟩ ?_
        rintro t w12 ⟨k12, k, hk1, rfl⟩ R5 hR5
        have hd12 := hd10.mono (V.keeps0 k12)
        refine Br.mk (fun htk => ?_) (fun hfk => ?_)
        · have htk : k < n := by have := of_decide_eq_true htk; omega
          have hsk : svs[k]? = some svs[k] := List.getElem?_eq_getElem (by omega)
          generalize svs[k] = sk at hsk
          refine dfa_Positions_spec hd12 hxl fun p2 w13 k13 hp2 => ?_
          have hat2 : stAt svs (k : Int) = some sk := stAt_in (by omega) (by simpa using hsk)
          rw [hat2] at hp2
          have hp2 : SlT (.int .i64) (V No w13) p2 sk.xs := hp2
          refine same_spec hp2 (hp.mono (V.keeps0 (((k9.trans k10).trans k12).trans k13))) (by have := hxl sk (List.mem_of_getElem? hsk); omega) fun w14 k14 => ?_
          have hne : ¬ sk.xs = sv.xs := fun e => by have := hok.sts.inj k n sk sv hsk hsv e; omega
          rw [decide_eq_false hne]
          have e4 : w64 ((k : Int) + 1) = ((k + 1 : Nat) : Int) := by rw [w64_eq (by omega)]; omega
          rw [e4]
          exact hR5 _ w14 ⟨(k12.trans k13).trans k14, k + 1, by omega, rfl⟩ (by omega)
        · have e4 : w64 ((n : Int) + 1) = ((n + 1 : Nat) : Int) := by rw [w64_eq (by omega)]; omega
          rw [e4]
          refine hR _ w12 ⟨k710.trans k12, n + 1, by omega, rfl, ?_, htp0, htp1⟩ (by dsimp only; omega)
          rw [show (n + 1) * 256 = n * 256 + 256 by omega]
          exact htp
  · intro j hj
    refine Great_spec hl hlen hsz fun n hn => ?_
    refine Br.mk (fun _ => hj _ _ ⟨.refl, fun e => by cases e⟩) (fun hf => ?_)
    exact awake7_spec fun w1 k1 => hj _ _ ⟨k1, fun _ => hn (of_decide_eq_false hf)⟩
end Go.Fk
end
