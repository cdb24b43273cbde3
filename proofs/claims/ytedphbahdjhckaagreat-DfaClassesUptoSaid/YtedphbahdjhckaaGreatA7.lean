/-
  A part of the proof: what the functions of the program come to, read off the model: no premise of its own, no axiom. By an AI agent.
-/
import Derived.Test.YtedphbahdjhckaaGreatA6
set_option linter.all false
set_option linter.unusedVariables false
namespace Go.Fk
open Go

theorem goTop_take {l : List Int} {t r u : Int} {c : Nat} {k : Int} (h : goTop l t = some r) (hc : l[c]? = some k) (hp : goTop (l.take c) t = some u) : (k < 0 ∨ k ≤ u + 1) ∧ goTop (l.take (c + 1)) t = some (if k < 0 then u else if u < k then k else u) := by
  have hlt := (List.getElem?_eq_some_iff.1 hc).1
  have hl : l = l.take c ++ k :: l.drop (c + 1) := by
    have h1 := (List.take_append_drop c l).symm
    have h2 : l.drop c = k :: l.drop (c + 1) := by
      rw [List.drop_eq_getElem_cons hlt]
      rw [List.getElem?_eq_getElem hlt] at hc
      rw [Option.some.inj hc]
    rw [h2] at h1
    exact h1
  have hk : k < 0 ∨ k ≤ u + 1 := by
    rw [hl, goTop_append, hp] at h
    simp only [Option.bind_some, goTop] at h
    by_cases h0 : k < 0
    · exact .inl h0
    · rw [if_neg h0] at h
      by_cases h1 : u + 1 < k
      · rw [if_pos h1] at h; cases h
      · exact .inr (by omega)
  refine ⟨hk, ?_⟩
  have ht : l.take (c + 1) = l.take c ++ [k] := by rw [List.take_add_one, hc]; rfl
  rw [ht, goTop_append, hp]
  simp only [Option.bind_some, goTop]
  by_cases h0 : k < 0
  · simp [h0]
  · rw [if_neg h0, if_neg (by omega), if_neg h0]

theorem rowL_get {f : Nat → Int} {c : Nat} (h : c < 256) : (rowL f)[c]? = some (f c) := by simp [rowL, h]
theorem rowL_len {f : Nat → Int} : (rowL f).length = 256 := by simp [rowL]

theorem u8_small {c : Nat} (h : c < 256) : IntKind.wrap .u8 (c : Int) = (c : Int) := IntWalk.u8_in _ (by omega)

set_option maxRecDepth 20000 in
theorem DfaClasses_spec {M : Nat → Prop} {w : World} {l : Sl} {ss : List ByteArray} {a b : Nat} {K : Bool → World → Prop} (hl : SlT .str (V M w) l ss) (ha : a < 256) (hb : b < 256) (hlen : ss.length ≤ 1048576) (hsz : ∀ s ∈ ss, s.size ≤ 1048576) (hK : ∀ w', Keeps No w w' → K true w') : frisketlaw07_DfaClasses.C l a b w K := by
  refine frisketlaw07_DfaClasses.ok _ _ _ _ _ ?_
  simp only [frisketlaw07_DfaClasses.M]
  refine Join.cut (fun b w1 => Keeps No w w1 ∧ (b = false → (ss.length ≤ 6 ∧ ∀ s ∈ ss, s.size ≤ 40))) ?_ ?_
  · rintro b' w1 ⟨k1, hb'⟩
    refine Br.mk (fun _ => awake7_spec fun w2 k2 => hK w2 (k1.trans k2)) (fun hbf => ?_)
    obtain ⟨h6, h40⟩ := hb' hbf
    refine Make_spec (hl.mono (V.keeps0 k1)) (fun s hs => by have := h40 s hs; unfold Small; omega) (by omega) (fun w2 k2 _ => ?_) fun d bb xs vs svs cl nc w2 k2 hm => ?_
    · exact hK w2 (k1.trans k2)
    · have hsome : d.isNone = false := by have := hm.dv.some; simpa using this
      dsimp only
      rw [hsome]
      have hd : DfaO (V No w2) d svs cl nc := .inr hm.dv
      have hfew := hm.ok.few
      have hcl := hm.ok.cls
      show Loop _ _ _
      refine Loop.mk (fun t w' => w' = w2 ∧ ∃ n : Nat, n ≤ svs.length ∧ t.2 = (n : Int) ∧ (t.1 = true ↔ ∀ j, j < n → nextOf svs (j : Nat) a = nextOf svs (j : Nat) b)) (fun t => svs.length - t.2.toNat) ⟨rfl, 0, by omega, rfl, by simp⟩ ?_
      rintro ⟨is, nn⟩ w3 ⟨rfl, n, hn, hnn, his⟩ R hR
      dsimp only at hnn his ⊢
      subst hnn
      refine dfa_States_spec hd ?_
      refine Br.mk (fun ht => ?_) (fun hf => ?_)
      · have ht : n < svs.length := by have := of_decide_eq_true ht; omega
        have e4 : w64 ((n : Int) + 1) = ((n + 1 : Nat) : Int) := by rw [w64_eq (by omega)]; omega
        rw [e4]
        refine dfa_Next_spec hd ha (dfa_Next_spec hd hb ?_)
        have split : (∀ j, j < n + 1 → nextOf svs (j : Nat) a = nextOf svs (j : Nat) b) ↔ (∀ j, j < n → nextOf svs (j : Nat) a = nextOf svs (j : Nat) b) ∧ nextOf svs (n : Nat) a = nextOf svs (n : Nat) b := by
          constructor
          · intro h; exact ⟨fun j hj => h j (by omega), h n (by omega)⟩
          · rintro ⟨h1, h2⟩ j hj
            by_cases e : j = n
            · subst e; exact h2
            · exact h1 j (by omega)
        refine Br.mk (fun hi => Br.mk (fun he => ?_) (fun he => ?_)) (fun hi => ?_)
        · have he : (nextOf svs (n : Nat) a).1 = (nextOf svs (n : Nat) b).1 := by simpa using he
          refine hR _ _ ⟨rfl, n + 1, by omega, rfl, ?_⟩ (by dsimp only; omega)
          dsimp only
          rw [split]
          have h1 := his.1 hi
          constructor
          · intro h
            have h : (nextOf svs (n : Nat) a).2 = (nextOf svs (n : Nat) b).2 := by simpa using h
            exact ⟨h1, Prod.ext he h⟩
          · rintro ⟨_, h⟩; rw [h]; simp
        · have he : ¬ (nextOf svs (n : Nat) a).1 = (nextOf svs (n : Nat) b).1 := by simpa using he
          refine hR _ _ ⟨rfl, n + 1, by omega, rfl, ?_⟩ (by dsimp only; omega)
          dsimp only
          rw [split]
          exact ⟨(fun h => by cases h), fun h => absurd (congrArg Prod.fst h.2) he⟩
        · refine hR _ _ ⟨rfl, n + 1, by omega, rfl, ?_⟩ (by dsimp only; omega)
          dsimp only
          rw [split]
          exact ⟨(fun h => by cases h), fun h => by rw [his.2 h.1] at hi; cases hi⟩
      · have hf : n = svs.length := by have := of_decide_eq_false hf; omega
        subst hf
        have hisc : is = true ↔ cl a = cl b := by
          rw [his, hcl.iff a b ha hb]
          unfold colOf
          constructor
          · intro h
            refine List.map_congr_left fun sv hs => ?_
            obtain ⟨j, hj⟩ := List.getElem?_of_mem hs
            have hlt := (List.getElem?_eq_some_iff.1 hj).1
            have := h j hlt
            have hat : stAt svs ((j : Nat) : Int) = some sv := stAt_in (by omega) (by simpa using hj)
            simp only [nextOf, hat] at this
            by_cases e1 : sv.nx a = -1 <;> by_cases e2 : sv.nx b = -1
            · rw [e1, e2]
            · simp [e1, e2] at this
            · simp [e1, e2] at this
            · simp [e1, e2] at this; rw [this]
          · intro h j hj
            have hx : svs[j]? = some svs[j] := List.getElem?_eq_getElem hj
            have hat : stAt svs ((j : Nat) : Int) = some svs[j] := stAt_in (by omega) (by simpa using hx)
            have h2 := congrArg (fun l => l[j]?) h
            simp only [List.getElem?_map, hx, Option.map_some, Option.some.injEq] at h2
            have h3 : (svs[j]).nx a = (svs[j]).nx b := by omega
            simp only [nextOf, hat, h3]
        refine Loop.mk (fun t w' => w' = w3 ∧ ∃ c : Nat, c ≤ 256 ∧ t.2 = (c : Int) ∧ goTop ((rowL cl).take c) (-1) = some t.1 ∧ -1 ≤ t.1 ∧ t.1 < c) (fun t => 256 - t.2.toNat) ⟨rfl, 0, by omega, rfl, by simp [goTop], by simp, by simp⟩ ?_
        rintro ⟨top, cc⟩ w4 ⟨rfl, c, hc, hcc, htop, ht0, ht1⟩ R2 hR2
        dsimp only at hcc htop ht0 ht1 ⊢
        subst hcc
        refine Br.mk (fun ht => ?_) (fun hf => ?_)
        · have ht : c < 256 := by have := of_decide_eq_true ht; omega
          rw [u8_small ht]
          refine dfa_Class_spec hd ht ?_
          obtain ⟨g1, g2⟩ := goTop_take hcl.top (rowL_get ht) htop
          have g0 := hcl.pos c ht
          refine Join.cut (fun (s6 : Bool) w' => w' = w4 ∧ s6 = false) ?_ ?_
          · rintro s6 w' ⟨rfl, rfl⟩
            refine App.max2 ?_
            have e4 : w64 ((c : Int) + 1) = ((c + 1 : Nat) : Int) := by rw [w64_eq (by omega)]; omega
            rw [e4]
            have e5 : (if cl c < 0 then top else if top < cl c then cl c else top) = (if cl c > top then cl c else top) := by
              rw [if_neg (by omega)]
            rw [e5] at g2
            refine hR2 _ _ ⟨rfl, c + 1, by omega, rfl, g2, ?_, ?_⟩ (by dsimp only; omega)
            · dsimp only; split <;> omega
            · dsimp only; split <;> omega
          · intro j hj
            refine Br.mk (fun h => absurd (of_decide_eq_true h) (by omega)) (fun _ => hj _ _ ⟨rfl, ?_⟩)
            rw [w64_eq (by omega)]
            exact decide_eq_false (by omega)
        · have hf : c = 256 := by have := of_decide_eq_false hf; omega
          subst hf
          rw [List.take_of_length_le (by rw [rowL_len]; omega), hcl.top] at htop
          have htop : nc - 1 = top := Option.some.inj htop
          refine dfa_Classes_spec hd ?_
          rw [w64_eq (by omega), htop]
          simp only [beq_self_eq_true, Br_true]
          refine dfa_Class_spec hd ha (dfa_Class_spec hd hb ?_)
          have : ((cl a == cl b) == is) = true := by
            by_cases e : cl a = cl b
            · rw [hisc.2 e]; simp [e]
            · have : is = false := by cases h : is with | false => rfl | true => exact absurd (hisc.1 h) e
              rw [this]; simp [e]
          rw [this]
          exact hK w4 (k1.trans k2)
  · intro j hj
    refine Great_spec hl hlen hsz fun n hn => ?_
    refine Br.mk (fun _ => hj _ _ ⟨.refl, fun e => by cases e⟩) (fun hf => ?_)
    exact awake7_spec fun w1 k1 => hj _ _ ⟨k1, fun _ => hn (of_decide_eq_false hf)⟩
end Go.Fk
