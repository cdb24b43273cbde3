/-
  A part of the proof: what the functions of the program come to, read off the model: no premise of its own, no axiom. By an AI agent.
-/
import Derived.Test.YtjcelcnlndahpaaGreatDoorA9
set_option linter.all false
section
set_option linter.unusedVariables false
namespace Go.Fk
open Go

def cnt (gs : List Gp) : Nat := (gs.map fun g => g.cm.length).sum
theorem cnt_take {gs : List Gp} (i : Nat) : cnt (gs.take i) ≤ cnt gs := by
  have : cnt gs = cnt (gs.take i) + cnt (gs.drop i) := by unfold cnt; rw [← List.sum_append, ← List.map_append, List.take_append_drop]
  omega
theorem cnt_snoc {gs : List Gp} {i : Nat} {g : Gp} (h : gs[i]? = some g) : cnt (gs.take (i + 1)) = cnt (gs.take i) + g.cm.length := by
  unfold cnt
  rw [List.take_add_one, h]; simp

theorem Count_spec {M : Nat → Prop} {w : World} {l : Sl} {gs : List Gp} (hl : SlGap (V M w) l gs) (hlen : gs.length ≤ 1000000) (hc : cnt gs ≤ 1000000) {K : Int → World → Prop} (hK : ∀ w', Keeps No w w' → K (cnt gs : Int) w') : trivia_Count.C l w K := by
  have hn := hl.n
  refine trivia_Count.ok _ _ _ ?_
  simp only [trivia_Count.M]
  refine Loop.mk (fun t w' => Keeps No w w' ∧ ∃ i : Nat, t.2 = i ∧ i ≤ gs.length ∧ t.1 = (cnt (gs.take i) : Nat)) (fun t => gs.length - t.2.toNat) ⟨.refl, 0, rfl, by omega, rfl⟩ ?_
  rintro ⟨n, t⟩ w1 ⟨k1, i, hi0, hi, hn0⟩ R hR
  dsimp only at hi0 hn0 ⊢
  subst hi0; subst hn0
  refine Br.mk (fun e => ?_) (fun e => ?_)
  · have hlt : i < gs.length := by have := of_decide_eq_true e; omega
    refine IdxS.gap (hl.mono (V.keeps0 k1)) (by omega) (by omega) fun g c p hg hp => ?_
    rw [Int.toNat_natCast] at hg
    refine Ld.int hp.f (Ld.int hp.t (Ld.sl hp.c (Ld.int hp.ln ?_)))
    refine AlSt4 fun b w6 n6 => Ld.sl (cell_of n6.at_ rfl) ?_
    have hs := cnt_snoc hg
    have := cnt_take (gs := gs) (i + 1)
    have hcn := hp.cn
    dsimp only
    rw [w64_eq (by omega), w64_eq (by omega)]
    exact hR _ _ ⟨k1.trans n6.keeps, i + 1, by dsimp only; omega, by omega, by dsimp only; omega⟩ (by dsimp only; omega)
  · have hge : i = gs.length := by have := of_decide_eq_false e; omega
    subst hge
    rw [List.take_length]
    exact hK w1 k1
theorem Bare_spec {M : Nat → Prop} {w : World} {l : Sl} {gs : List Gp} (hl : SlGap (V M w) l gs) (hlen : gs.length ≤ 1000000) (hc : cnt gs ≤ 1000000) {K : Bool → World → Prop} (hK : ∀ w', Keeps No w w' → K ((cnt gs : Int) == 0) w') : trivia_Bare.C l w K := by
  refine trivia_Bare.ok _ _ _ ?_
  simp only [trivia_Bare.M]
  exact Count_spec hl hlen hc hK
theorem SlGap.nil {H : View} : SlGap H ⟨none, 0, 0⟩ [] := ⟨[], SlC.nil, .nil⟩

/-- Two lists of gaps that are the same are found so. -/
theorem same28_spec {w : World} {l m : Sl} {gs : List Gp} (hl : SlGap (V No w) l gs) (hm : SlGap (V No w) m gs) (hlen : gs.length ≤ 1000000) (hcl : ∀ g ∈ gs, g.cm.length ≤ 1000000) {K : Int → World → Prop} (hK : ∀ w', Keeps No w w' → K 0 w') : frisketlaw28_same.C l m w K := by
  have hln := hl.n
  have hmn := hm.n
  refine frisketlaw28_same.ok _ _ _ _ ?_
  simp only [frisketlaw28_same.M]
  rw [hln, hmn, bne_self_eq_false, Br_false]
  refine Loop.mk (fun t w' => Keeps No w w' ∧ t.1 = 0 ∧ ∃ i : Nat, t.2 = i ∧ i ≤ gs.length) (fun t => gs.length - t.2.toNat) ⟨.refl, rfl, 0, rfl, by omega⟩ ?_
  rintro ⟨z, t⟩ w1 ⟨k1, hz, i, hi0, hi⟩ R hR
  dsimp only at hi0 hz ⊢
  subst hi0; subst hz
  refine Br.mk (fun e => ?_) (fun e => hK w1 k1)
  have hlt : i < gs.length := by have := of_decide_eq_true e; omega
  have hgi : gs[i]? = some gs[i] := List.getElem?_eq_getElem hlt
  generalize gs[i] = g at hgi
  have hgl := hcl g (List.mem_of_getElem? hgi)
  have ew : w64 ((i : Int) + 1) = ((i + 1 : Nat) : Int) := by rw [w64_eq (by omega)]; omega
  have gl : ∀ {w' : World} {Q : Addr → Prop}, Keeps No w w' → (∀ c p, GapC No w' p g c → Q p) → IdxS l (i : Int) 4 Q := fun {w' Q} k hq => IdxS.gap (hl.mono (V.keeps0 k)) (by omega) (by omega) fun g' c p hg' hp => by
    rw [Int.toNat_natCast, hgi] at hg'; cases hg'; exact hq c p hp
  have gm : ∀ {w' : World} {Q : Addr → Prop}, Keeps No w w' → (∀ c p, GapC No w' p g c → Q p) → IdxS m (i : Int) 4 Q := fun {w' Q} k hq => IdxS.gap (hm.mono (V.keeps0 k)) (by omega) (by omega) fun g' c p hg' hp => by
    rw [Int.toNat_natCast, hgi] at hg'; cases hg'; exact hq c p hp
  refine Join.cut (fun b w' => Keeps No w w' ∧ b = false) ?_ ?_
  · rintro _ w2 ⟨k2, rfl⟩
    rw [Br_false]
    refine Loop.mk (fun t w' => Keeps No w w' ∧ t.1 = 0 ∧ ∃ j : Nat, t.2 = j ∧ j ≤ g.cm.length) (fun t => g.cm.length - t.2.toNat) ⟨k2, rfl, 0, rfl, by omega⟩ ?_
    rintro ⟨z, t⟩ w3 ⟨k3, hz, j, hj0, hj⟩ R3 hR3
    dsimp only at hj0 hz ⊢
    subst hj0; subst hz
    refine gm k3 fun c p hp => Ld.sl hp.c ?_
    have hcn := hp.cn
    dsimp only
    refine Br.mk (fun e2 => ?_) (fun e2 => by rw [ew]; exact hR _ _ ⟨k3, rfl, i + 1, rfl, by omega⟩ (by dsimp only; omega))
    have hjl : j < g.cm.length := by have := of_decide_eq_true e2; omega
    have ej : w64 ((j : Int) + 1) = ((j + 1 : Nat) : Int) := by rw [w64_eq (by omega)]; omega
    refine gm k3 fun c2 p2 hp2 => Ld.sl hp2.c ?_
    refine IdxS.cm hp2.cm (by omega) (by omega) fun x q hx hq => Ld.str hq.s (Ld.bool hq.tr (Ld.int hq.a ?_))
    rw [Int.toNat_natCast] at hx
    refine AlSt3 fun b6 w7 n7 => Draw.kp fun w8 e8 k8 => ?_
    have k38 := n7.keeps.trans k8
    have hb6 := k8.blk0 n7.at_
    refine gl (k3.trans k38) fun c3 p3 hp3 => LdK.sl hp3.c ?_
    refine IdxS.cm hp3.cm (by omega) (by omega) fun y q2 hy hq2 => ?_
    rw [Int.toNat_natCast, hx] at hy; cases hy
    refine LdK.str hq2.s (LdK.bool hq2.tr (LdK.int hq2.a (LdK.str (cell_of hb6 rfl) (LdK.bool (cell_of hb6 rfl) (LdK.int (cell_of hb6 rfl) ?_)))))
    simp only [beq_self_eq_true, Bool.and_self, Bool.not_true, Br_false]
    rw [ej]
    exact hR3 _ _ ⟨k3.trans k38, rfl, j + 1, rfl, by omega⟩ (by dsimp only; omega)
  · intro jj hjj
    refine Draw.kp fun w9 e9 k9 => ?_
    have k19 := k1.trans k9
    refine gl k19 fun c p hp => LdK.int hp.f (LdK.int hp.t (gm k19 fun c2 q hq => LdK.int hq.f (gm k19 fun c3 q3 hq3 => LdK.int hq3.t ?_)))
    simp only [beq_self_eq_true, Bool.and_self, Bool.not_true, Br_false]
    refine gl k19 fun c p hp => LdK.int hp.ln (gm k19 fun c2 q hq => LdK.int hq.ln ?_)
    rw [bne_self_eq_false, Br_false]
    refine gl k19 fun c p hp => LdK.sl hp.c (gm k19 fun c2 q hq => LdK.sl hq.c (hjj _ _ ⟨k19, ?_⟩))
    rw [hp.cn, hq.cn, bne_self_eq_false]

/-! ## The document's answer -/

theorem elRCm : Elem P T.sl_frisketref28_Comment T.frisketref28_Comment (.agg #[.string ⟨#[]⟩, .bool false, .int .i64 0]) 3 32 := ⟨by kernel_rfl, by kernel_rfl, rfl, by decide⟩
theorem elRGap : Elem P T.sl_frisketref28_Gap T.frisketref28_Gap (.agg #[.int .i64 0, .int .i64 0, .slice none 0 0, .int .i64 0]) 4 48 := ⟨by kernel_rfl, by kernel_rfl, rfl, by decide⟩

abbrev rgObj (f t : Int) (C : Sl) (ln : Nat) : Obj := .cells #[.int .i64 f, .int .i64 t, .slice C.a C.n C.c, .int .i64 ln] T.frisketref28_Gap (0, 0)

theorem foldL_le {text : ByteArray} {b : Bool} : ∀ (ls : List Tok) (pos : Int), 0 ≤ pos → Srt text.size pos ls → (foldL text b ls).1.length ≤ ls.length ∧ (foldL text b ls).2 ≤ text.size := by
  have key : ∀ (ls : List Tok) (pos : Int) (cm : List Cm) (ln : Nat), 0 ≤ pos → Srt text.size pos ls → (ls.foldl (stepL text b) (cm, ln)).1.length ≤ cm.length + ls.length ∧ ((ls.foldl (stepL text b) (cm, ln)).2 : Int) ≤ ln + (text.size - pos) := by
    intro ls
    induction ls with
    | nil => intro pos cm ln h0 h; have : pos ≤ text.size := h; exact ⟨by simp, by show (ln : Int) ≤ _; omega⟩
    | cons x ls ih =>
      rintro pos cm ln h0 ⟨h1, h2, h3⟩
      have hs := stepL_le (text := text) (b := b) (cm := cm) (ln := ln) (x := x)
      have h4 := h3.le.1
      rw [List.foldl_cons]
      generalize stepL text b (cm, ln) x = st at hs ⊢
      obtain ⟨cm', ln'⟩ := st
      have := ih x.t cm' ln' (by omega) h3
      dsimp only at hs
      exact ⟨by simp only [List.length_cons]; omega, by omega⟩
  intro ls pos h0 h
  have := key ls pos [] 0 h0 h
  refine ⟨by simpa [foldL] using this.1, ?_⟩
  have h2 : ((foldL text b ls).2 : Int) ≤ (0 : Nat) + (text.size - pos) := this.2
  omega
theorem Srt.sub {len : Int} : ∀ {ts : List Tok} {st : Int} (p : Tok → Bool), Srt len st ts → Srt len st (ts.filter p)
  | [], st, p, h => h
  | x :: ts, st, p, h => by
    obtain ⟨h1, h2, h3⟩ := h
    have ih := Srt.sub p h3
    rw [List.filter_cons]
    split
    · exact ⟨h1, h2, ih⟩
    · cases hf : ts.filter p with
      | nil => have := h3.le.1; show st ≤ len; omega
      | cons y l => rw [hf] at ih; exact ⟨by have := ih.1; omega, ih.2⟩
theorem Srt.take {len : Int} : ∀ {ts : List Tok} {st : Int} (i : Nat), Srt len st ts → Srt len st (ts.take i)
  | [], st, i, h => by simpa using h
  | x :: ts, st, 0, h => h.le.1
  | x :: ts, st, i + 1, h => ⟨h.1, h.2.1, h.2.2.take i⟩

section
variable {cs : List Cls} {text : ByteArray} {ts : List Tok}
theorem gapsOf_law (hsrt : Srt text.size 0 ts) : (gapsOf (layF cs) text ts).length = (ts.filter fun x => !layF cs x).length + 1 ∧
    ∀ k, k ≤ (ts.filter fun x => !layF cs x).length → (gapsOf (layF cs) text ts)[k]? = some (Rg.gap text ⟨fromK (ts.filter fun x => !layF cs x) 0 k, toK (ts.filter fun x => !layF cs x) text.size k, decide (0 < k), ts.filter (inGap (layF cs) (fromK (ts.filter fun x => !layF cs x) 0 k) (toK (ts.filter fun x => !layF cs x) text.size k))⟩) := by
  obtain ⟨h1, h2⟩ := rgs_law (layF cs) text.size ts 0 false [] hsrt
  refine ⟨by unfold gapsOf; rw [List.length_map, h1], fun k hk => ?_⟩
  unfold gapsOf
  rw [List.getElem?_map, h2 k hk]
  have e1 : (if k = 0 then false else true) = decide (0 < k) := by by_cases h : k = 0 <;> simp [h]; omega
  rw [e1]
  simp
end
end Go.Fk
end

section
set_option linter.unusedVariables false
namespace Go.Fk
open Go

/-! ## The document's answer: its gaps are those by the rule -/

theorem IdxS.cellT {t : Ty} {M : Nat → Prop} {w : World} {l : Sl} {xs : List t.T} {i : Int} {K : Addr → Prop} (h : SlT t (V M w) l xs) (h0 : 0 ≤ i) (h1 : i < xs.length)
    (hk : ∀ x p, xs[i.toNat]? = some x → w.cell? p = some (t.enc x) → K p) : IdxS l i 1 K := by
  obtain ⟨e1, e2⟩ := h
  have hlt : i.toNat < xs.length := by omega
  have hx : xs[i.toNat]? = some xs[i.toNat] := List.getElem?_eq_getElem hlt
  rcases e2 with rfl | ⟨b, off, cs, E, fr, e3, e4, e5⟩
  · simp at hlt
  · refine ⟨_, e3, ⟨h0, by omega⟩, hk _ _ hx ?_⟩
    rw [add_eq, Nat.mul_one]
    exact cell_of e4.2 (e5 _ _ hx)

theorem rcNum {l : Sl} {w : World} {base : Nat} {xs : List Tok} (h : Own w base T.frisketref09_Token 3 l (xs.map Tok.rc).flatten) : l.n = xs.length := by
  have := h.len; rw [flatten_len Tok.rlens] at this; simp at this; omega
theorem gvNum {l : Sl} {w : World} {base E : Nat} {xs : List GV} (h : Own w base E 4 l (xs.map GV.cells).flatten) : l.n = xs.length := by
  have := h.len; rw [flatten_len GV.lens] at this; simp at this; omega
theorem cmNum {l : Sl} {w : World} {base E : Nat} {xs : List Cm} (h : Own w base E 3 l (xs.map Cm.cells).flatten) : l.n = xs.length := by
  have := h.len; rw [flatten_len Cm.lens] at this; simp at this; omega
theorem Tok.rc_one (x : Tok) : ∀ u ∈ x.rc, u.oneCell' = true := fun u hu => by
  simp only [Tok.rc, List.mem_cons, List.not_mem_nil, or_false] at hu
  rcases hu with rfl | rfl | rfl <;> rfl

theorem layF_neg {cs : List Cls} {x : Tok} (h : x.c < 0) : layF cs x = false := by unfold layF; rw [if_neg (by omega)]
theorem layF_at {cs : List Cls} {x : Tok} {c : Cls} (h : 0 ≤ x.c) (hc : cs[x.c.toNat]? = some c) : layF cs x = c.lay := by unfold layF; rw [if_pos (by omega), hc]; rfl

set_option maxRecDepth 20000 in
theorem refFind_spec {w : World} {l lay : Sl} {text : ByteArray} {cs : List Cls} {ts : List Tok} (hl : SlC (V No w) l 3 (ts.map Tok.rc)) (hlay : SlT .bool (V No w) lay (cs.map Cls.lay)) (hc : ∀ x ∈ ts, x.c = -1 ∨ (0 ≤ x.c ∧ x.c < cs.length)) (hsrt : Srt text.size 0 ts) (hs : text.size ≤ 1000000) (hts : ts.length ≤ 1000000) {K : Sl → World → Prop}
    (hK : ∀ l' w', Keeps No w w' → SlGap (V No w') l' (gapsOf (layF cs) text ts) → K l' w') : frisketref28_Find.C l lay text w K := by
  have hln : l.n = ts.length := by have := hl.1; simpa using this
  obtain ⟨hg1, hg2⟩ := gapsOf_law (cs := cs) (text := text) hsrt
  refine frisketref28_Find.ok _ _ _ _ _ ?_
  simp only [frisketref28_Find.M]
  refine Loop.mk (fun t w' => Keeps No w w' ∧ ∃ i : Nat, t.2 = i ∧ i ≤ ts.length ∧ Own w' w.heap.size T.frisketref09_Token 3 t.1 (((ts.take i).filter fun x => !layF cs x).map Tok.rc).flatten) (fun t => ts.length - t.2.toNat) ⟨.refl, 0, rfl, by omega, Own.nil _ _ _ _⟩ ?_
  rintro ⟨sl, t⟩ w1 ⟨k1, i, hti, hi, ho⟩ R hR
  dsimp only at hti ho ⊢
  subst hti
  refine Br.mk (fun e => ?_) (fun e => ?_)
  · have hlt : i < ts.length := by have := of_decide_eq_true e; omega
    have hxi : ts[i]? = some ts[i] := List.getElem?_eq_getElem hlt
    generalize ts[i] = x at hxi
    have hcx := hc x (List.mem_of_getElem? hxi)
    have htk : ts.take (i + 1) = ts.take i ++ [x] := by rw [List.take_add_one, hxi]; rfl
    have ew : w64 ((i : Int) + 1) = ((i + 1 : Nat) : Int) := by rw [w64_eq (by omega)]; omega
    have hlen : ((ts.take i).filter fun x => !layF cs x).length ≤ i := Nat.le_trans (List.length_filter_le _ _) (List.length_take_le _ _)
    have gt : ∀ {Q : Addr → Prop}, (∀ p, (w1.cell? p = some (.int .i64 x.c) ∧ w1.cell? (p.add 1) = some (.int .i64 x.f) ∧ w1.cell? (p.add 2) = some (.int .i64 x.t)) → Q p) → IdxS l (i : Int) 3 Q := fun {Q} hq => IdxS.rtok (hl.mono (V.keeps0 k1)) (by omega) (by omega) fun y p hy hp => by
      rw [Int.toNat_natCast, hxi] at hy; cases hy; exact hq p hp
    refine Join.cut (fun b w' => w' = w1 ∧ b = !layF cs x) ?_ ?_
    · rintro b w1 ⟨rfl, rfl⟩
      rw [ew]
      refine Br.mk (fun e2 => ?_) (fun e2 => ?_)
      · refine gt fun p hp => Ld.int hp.1 (Ld.int hp.2.1 (Ld.int hp.2.2 (Al.mk fun b4 w3 n3 => ?_)))
        have s1 := k1.size; have s3 := n3.size
        have hn := rcNum ho
        refine appendC (c := x.rc) elRTok (ho.keep0 n3.keeps) rfl n3.at_ x.rc_one (by omega) (by omega) (by omega) fun l' w4 ho' _ k4 _ => ?_
        refine hR _ _ ⟨((k1.trans n3.keeps).no (M := No)).then k4 (fun q hq hb => by have := (ho.ge hb).1; omega), i + 1, rfl, by omega, ?_⟩ (by dsimp only; omega)
        rw [htk, List.filter_append]
        have e3 : [x].filter (fun x => !layF cs x) = [x] := by simp only [List.filter_cons, e2, if_true, List.filter_nil]
        rw [e3, List.map_append]; exact ho'
      · refine hR _ _ ⟨k1, i + 1, rfl, by omega, ?_⟩ (by dsimp only; omega)
        rw [htk, List.filter_append]
        have e3 : [x].filter (fun x => !layF cs x) = [] := by simp only [List.filter_cons, e2, Bool.false_eq_true, if_false, List.filter_nil]
        rw [e3, List.append_nil]; exact ho
    · intro j hj
      refine gt fun p hp => Ld.int hp.1 (Br.mk (fun e2 => hj _ _ ⟨rfl, ?_⟩) (fun e2 => ?_))
      · rw [layF_neg (of_decide_eq_true e2)]; rfl
      · have e2 : ¬ x.c < 0 := of_decide_eq_false e2
        refine gt fun p hp => Ld.int hp.1 (IdxS.get (hlay.mono (V.keeps0 k1)) (by omega) (by rw [List.length_map]; omega) fun y hy => hj _ _ ⟨rfl, ?_⟩)
        rw [List.getElem?_map] at hy
        obtain ⟨c, hcc, rfl⟩ := Option.map_eq_some_iff.1 hy
        rw [layF_at (by omega) hcc]
  · have hge : i = ts.length := by have := of_decide_eq_false e; omega
    subst hge
    rw [List.take_length] at ho
    generalize hss : (ts.filter fun x => !layF cs x) = ss at ho hg1 hg2
    have hsn := rcNum ho
    have hsl : ss.length ≤ ts.length := by rw [← hss]; exact List.length_filter_le _ _
    have hso : SlC (V No w1) sl 3 (ss.map Tok.rc) := ho.readsC (by omega) Tok.rlens fun _ _ h => h
    generalize hG : gapsOf (layF cs) text ts = G at hK hg1 hg2
    refine Loop.mk (fun t w' => Keeps No w1 w' ∧ ∃ (k : Nat) (vs : List GV), t.2 = k ∧ k ≤ ss.length + 1 ∧ Own w' w1.heap.size T.frisketref28_Gap 4 t.1 (vs.map GV.cells).flatten ∧ All2 (GapR (V t.1.blk w')) vs (G.take k)) (fun t => ss.length + 1 - t.2.toNat) ⟨.refl, 0, [], rfl, by omega, Own.nil _ _ _ _, .nil⟩ ?_
    rintro ⟨gl, t⟩ w5 ⟨k5, k, vs, htk, hk, hgo, hall⟩ R2 hR2
    dsimp only at htk hgo hall ⊢
    subst htk
    have hvl := hall.length
    rw [List.length_take] at hvl
    have hgn := gvNum hgo
    refine Br.mk (fun e2 => ?_) (fun e2 => ?_)
    · have hkl : k ≤ ss.length := by have := of_decide_eq_true e2; omega
      have hgk := hg2 k hkl
      have ekw : w64 ((k : Int) + 1) = ((k + 1 : Nat) : Int) := by rw [w64_eq (by omega)]; omega
      generalize hF : fromK ss 0 k = F at hgk
      generalize hT : toK ss text.size k = TT at hgk
      have gs : ∀ {w' : World} {j : Nat} {y : Tok} {Q : Addr → Prop}, Keeps No w1 w' → ss[j]? = some y → (∀ p, (w'.cell? p = some (.int .i64 y.c) ∧ w'.cell? (p.add 1) = some (.int .i64 y.f) ∧ w'.cell? (p.add 2) = some (.int .i64 y.t)) → Q p) → IdxS sl (j : Int) 3 Q := fun {w' j y Q} kk hy hq => IdxS.rtok (hso.mono (V.keeps0 kk)) (by omega) (by have := (List.getElem?_eq_some_iff.1 hy).1; omega) fun y' p hy' hp => by
        rw [Int.toNat_natCast, hy] at hy'; cases hy'; exact hq p hp
      refine AlSt4 fun b8 w10 n8 => ?_
      have e8 := n8.eq
      have s8 := n8.size
      refine Join.cut (fun (_ : Unit) w' => Keeps No w5 w' ∧ w5.heap.size + 1 ≤ w'.heap.size ∧ w'.heap[b8]? = some (rgObj F text.size ⟨none, 0, 0⟩ 0)) ?_ ?_
      · rintro _ w11 ⟨k11, z11, hat11⟩
        refine Join.cut (fun (_ : Unit) w' => Keeps No w5 w' ∧ w5.heap.size + 1 ≤ w'.heap.size ∧ w'.heap[b8]? = some (rgObj F TT ⟨none, 0, 0⟩ 0)) ?_ ?_
        · rintro _ w12 ⟨k12, z12, hat12⟩
          refine Loop.mk (fun t w' => Keeps No w5 w' ∧ w5.heap.size + 1 ≤ w'.heap.size ∧ ∃ (i : Nat) (C : Sl), t = i ∧ i ≤ ts.length ∧ w'.heap[b8]? = some (rgObj F TT C (foldL text (decide (0 < k)) ((ts.take i).filter (inGap (layF cs) F TT))).2) ∧ Own w' (b8 + 1) T.frisketref28_Comment 3 C ((foldL text (decide (0 < k)) ((ts.take i).filter (inGap (layF cs) F TT))).1.map Cm.cells).flatten) (fun t => ts.length - t.toNat)
            ⟨k12, z12, 0, ⟨none, 0, 0⟩, rfl, by omega, hat12, Own.nil _ _ _ _⟩ ?_
          rintro t w13 ⟨k13, z13, i, C, rfl, hi, hat, hC⟩ R3 hR3
          have hle := foldL_le (text := text) (b := decide (0 < k)) ((ts.take i).filter (inGap (layF cs) F TT)) 0 (by omega) ((hsrt.take i).sub _)
          have hle2 : ((ts.take i).filter (inGap (layF cs) F TT)).length ≤ i := Nat.le_trans (List.length_filter_le _ _) (List.length_take_le _ _)
          have hfold : ∀ x, ts[i]? = some x → inGap (layF cs) F TT x = true → foldL text (decide (0 < k)) ((ts.take (i + 1)).filter (inGap (layF cs) F TT)) = stepL text (decide (0 < k)) (foldL text (decide (0 < k)) ((ts.take i).filter (inGap (layF cs) F TT))) x := fun x hx hin => by
            rw [List.take_add_one, hx, List.filter_append, show (some x).toList.filter (inGap (layF cs) F TT) = [x] from by simp [hin], foldL_snoc]
          have hskip : ∀ x, ts[i]? = some x → inGap (layF cs) F TT x = false → (ts.take (i + 1)).filter (inGap (layF cs) F TT) = (ts.take i).filter (inGap (layF cs) F TT) := fun x hx hin => by
            rw [List.take_add_one, hx, List.filter_append, show (some x).toList.filter (inGap (layF cs) F TT) = [] from by simp [hin], List.append_nil]
          generalize hf0 : foldL text (decide (0 < k)) ((ts.take i).filter (inGap (layF cs) F TT)) = f0 at hat hC hle hfold
          obtain ⟨cm, ln⟩ := f0
          dsimp only at hat hC hle
          have hCn := cmNum hC
          have k113 := k5.trans k13
          have hb8 := lt_of_some hat
          refine Br.mk (fun e3 => ?_) (fun e3 => ?_)
          · have hlt : i < ts.length := by have := of_decide_eq_true e3; omega
            have hxi : ts[i]? = some ts[i] := List.getElem?_eq_getElem hlt
            generalize ts[i] = x at hxi
            have hcx := hc x (List.mem_of_getElem? hxi)
            have hxb := (hsrt.le).2 x (List.mem_of_getElem? hxi)
            have ew : w64 ((i : Int) + 1) = ((i + 1 : Nat) : Int) := by rw [w64_eq (by omega)]; omega
            have gt : ∀ {w' : World} {Q : Addr → Prop}, Keeps No w1 w' → (∀ p, (w'.cell? p = some (.int .i64 x.c) ∧ w'.cell? (p.add 1) = some (.int .i64 x.f) ∧ w'.cell? (p.add 2) = some (.int .i64 x.t)) → Q p) → IdxS l (i : Int) 3 Q := fun {w' Q} kk hq => IdxS.rtok (hl.mono (V.keeps0 (k1.trans kk))) (by omega) (by omega) fun y p hy hp => by
              rw [Int.toNat_natCast, hxi] at hy; cases hy; exact hq p hp
            refine Join.cut (fun b w' => Keeps No w13 w' ∧ b = !inGap (layF cs) F TT x) ?_ ?_
            · rintro b w14 ⟨k14, rfl⟩
              rw [ew]
              have hat14 := k14.blk0 hat
              have hC14 := hC.keep0 k14
              have z14 := k14.size
              have k514 := k13.trans k14
              refine Br.mk (fun e4 => ?_) (fun e4 => ?_)
              · have e4 : inGap (layF cs) F TT x = false := by simpa using e4
                refine hR3 _ _ ⟨k514, by omega, i + 1, C, rfl, by omega, ?_, ?_⟩ (by omega)
                · rw [hskip x hxi e4, hf0]; exact hat14
                · rw [hskip x hxi e4, hf0]; exact hC14
              · have e4 : inGap (layF cs) F TT x = true := by simpa using e4
                have hstep := hfold x hxi e4
                refine Draw.kp fun w15 e15 k15 => ?_
                have k115 := (k113.trans k14).trans k15
                refine gt k115 fun p hp => LdK.int hp.2.1 (gt k115 fun q hq => LdK.int hq.2.2 (App.midI (by omega) (by omega) (by omega) ⟨.refl, ?_⟩))
                have hcut : (cutT text x).size ≤ 1000000 := by
                  have := size_bs (cutT text x)
                  unfold cutT at this
                  rw [bs_cut, List.length_take] at this
                  unfold cutT; omega
                have hnl := nls_le text x
                refine ref28_Blank_spec (s := cutT text x) (by omega) ?_
                have hat15 := k15.blk0 hat14
                have hC15 := hC14.keep0 k15
                have z15 := k15.size
                refine Br.mk (fun e5 => ?_) (fun e5 => ?_)
                · have hst : stepL text (decide (0 < k)) (cm, ln) x = (cm, ln + nls (cutT text x)) := by unfold stepL; rw [e5]; rfl
                  rw [hst] at hstep
                  refine DrawN.mk fun w18 e18 k18 => ?_
                  have hat18 := k18.blk0 hat15
                  have ew2 : w64 ((ln : Int) + (nls (cutT text x) : Int)) = ((ln + nls (cutT text x) : Nat) : Int) := by rw [w64_eq (by omega)]; omega
                  have fin : St (⟨b8, 3, none⟩) (.int .i64 (w64 ((ln : Int) + (nls (cutT text x) : Int)))) w18 fun w20 => (True ∧ R3 (((i + 1 : Nat) : Int)) w20) := by
                    rw [ew2]
                    refine St.blk hat18 (by simp) fun w20 u20 => ⟨trivial, hR3 _ _ ⟨u20.keeps0 ((k514.trans k15).trans k18) (by omega), by have := u20.size; have := k18.size; omega, i + 1, C, rfl, by omega, ?_, ?_⟩ (by omega)⟩
                    · rw [hstep]; exact u20.at_
                    · rw [hstep]; exact (hC15.keep0 k18).keep u20.keeps (fun q hq hb => by subst hq; have := (hC.ge hb).1; omega)
                  have hcs : ∀ {w' : World} {Q : Int → World → Prop}, Q (nls (cutT text x) : Int) w' → frisketref28_count.C (text.extract x.f.toNat x.t.toNat) w' Q := fun hq => ref28_count_spec (s := cutT text x) (by omega) hq
                  exact ⟨Ld.int (cell_of hat18 rfl) ⟨trivial, hcs ⟨trivial, fin⟩⟩, hcs ⟨trivial, Ld.int (cell_of hat18 rfl) ⟨trivial, fin⟩⟩⟩
                · have hst : stepL text (decide (0 < k)) (cm, ln) x = (cm ++ [⟨cutT text x, decide (0 < k) && (ln == 0), x.f⟩], ln) := by unfold stepL; rw [e5]; rfl
                  rw [hst] at hstep
                  refine DrawN.mk fun w23 e23 k23 => ?_
                  have hat23 := k23.blk0 hat15
                  have hC23 := hC15.keep0 k23
                  have k123 := k115.trans k23
                  have z23 := k23.size
                  have k523 := (k514.trans k15).trans k23
                  have tail : ∀ {tr : Bool} {b' : Nat} {w9 : World}, tr = (decide (0 < k) && (ln == 0)) → New b' (.cells #[.string (cutT text x), .bool tr, .int .i64 x.f] T.frisketref28_Comment (0, 0)) w23 w9 →
                      App P (Builtin.append_ #[T.sl_frisketref28_Comment, T.sl_frisketref28_Comment] T.sl_frisketref28_Comment #[.slice C.a C.n C.c, .slice (some ⟨b', 0, none⟩) 1 1]) (.one .sl) w9 fun x152 w25 => (True ∧ St (⟨b8, 2, none⟩) (.slice x152.a x152.n x152.c) w25 fun w26 => (True ∧ R3 (((i + 1 : Nat) : Int)) w26)) := by
                    intro tr b' w9 htr n9
                    have z9 := n9.size
                    have h9 := hC23.keep0 n9.keeps
                    refine appendC (c := Cm.cells ⟨cutT text x, tr, x.f⟩) elRCm h9 rfl n9.at_ (Cm.one _) (by omega) (by omega) (by omega) fun C' w25 hC' _ k25 _ => ⟨trivial, ?_⟩
                    have hat25 := k25.blk (n9.keeps.blk0 hat23) (fun hq => by have := (hC.ge hq).1; omega)
                    refine St.blk hat25 (by simp) fun w26 u26 => ⟨trivial, hR3 _ _ ⟨?_, by have := u26.size; have := k25.size; omega, i + 1, C', rfl, by omega, ?_, ?_⟩ (by omega)⟩
                    · exact u26.keeps0 (((k523.trans n9.keeps).no (M := No)).then k25 fun q hq hb => by have := (hC.ge hb).1; omega) (by omega)
                    · rw [hstep]; exact u26.at_
                    · rw [hstep]
                      have := hC'.keep u26.keeps (fun q hq hb => by subst hq; have := (hC'.ge hb).1; omega)
                      rw [htr] at this
                      simpa using this
                  have LC : ∀ {y : World} {Q : Sl → Prop}, y.heap[b8]? = some (rgObj F TT C ln) → Q C → Ld .sl (⟨b8, 2, none⟩) y Q := fun hy hq => Ld.sl (cell_of hy rfl) hq
                  have LN : ∀ {Q : Int → Prop}, Q (ln : Int) → Ld (.int .i64) (⟨b8, 3, none⟩) w23 Q := fun hq => Ld.int (cell_of hat23 rfl) hq
                  have eln : ((ln : Int) == 0) = (ln == 0) := by rw [Bool.eq_iff_iff, beq_iff_eq, beq_iff_eq]; omega
                  refine Br.mk (fun e6 => ?_) (fun e6 => ?_)
                  · have hk0 : decide (0 < k) = true := decide_eq_true (by have := of_decide_eq_true e6; omega)
                    have htr : ((ln : Int) == 0) = (decide (0 < k) && (ln == 0)) := by rw [hk0, eln]; rfl
                    refine gt k123 fun p hp => ?_
                    have LF : ∀ {Q : Int → Prop}, Q x.f → Ld (.int .i64) (p.add 1) w23 Q := fun hq => Ld.int hp.2.1 hq
                    refine ⟨LC hat23 ⟨trivial, LN ⟨trivial, LF ⟨trivial, Al.mk fun b' w9 n9 => ⟨trivial, tail htr n9⟩⟩⟩, LF ⟨trivial, LN ⟨trivial, Al.mk fun b' w9 n9 => ⟨trivial, tail htr n9⟩⟩⟩⟩,
                      LN ⟨trivial, LC hat23 ⟨trivial, LF ⟨trivial, Al.mk fun b' w9 n9 => ⟨trivial, tail htr n9⟩⟩⟩, LF ⟨trivial, LC hat23 ⟨trivial, Al.mk fun b' w9 n9 => ⟨trivial, tail htr n9⟩⟩, Al.mk fun b' w9 n9 => ⟨trivial, LC (n9.keeps.blk0 hat23) ⟨trivial, tail htr n9⟩⟩⟩⟩,
                      LF ⟨trivial, LC hat23 ⟨trivial, LN ⟨trivial, Al.mk fun b' w9 n9 => ⟨trivial, tail htr n9⟩⟩⟩, LN ⟨trivial, LC hat23 ⟨trivial, Al.mk fun b' w9 n9 => ⟨trivial, tail htr n9⟩⟩, Al.mk fun b' w9 n9 => ⟨trivial, LC (n9.keeps.blk0 hat23) ⟨trivial, tail htr n9⟩⟩⟩⟩⟩
                  · have hk0 : decide (0 < k) = false := decide_eq_false (by have := of_decide_eq_false e6; omega)
                    have htr : false = (decide (0 < k) && (ln == 0)) := by rw [hk0]; rfl
                    refine gt k123 fun p hp => ?_
                    have LF : ∀ {Q : Int → Prop}, Q x.f → Ld (.int .i64) (p.add 1) w23 Q := fun hq => Ld.int hp.2.1 hq
                    refine ⟨LC hat23 ⟨trivial, LF ⟨trivial, Al.mk fun b' w9 n9 => ⟨trivial, tail htr n9⟩⟩, LF ⟨trivial, Al.mk fun b' w9 n9 => ⟨trivial, tail htr n9⟩⟩⟩,
                      ⟨LC hat23 ⟨trivial, LF ⟨trivial, Al.mk fun b' w9 n9 => ⟨trivial, tail htr n9⟩⟩⟩, LF ⟨trivial, LC hat23 ⟨trivial, Al.mk fun b' w9 n9 => ⟨trivial, tail htr n9⟩⟩, Al.mk fun b' w9 n9 => ⟨trivial, LC (n9.keeps.blk0 hat23) ⟨trivial, tail htr n9⟩⟩⟩⟩,
                      LF ⟨trivial, LC hat23 ⟨trivial, Al.mk fun b' w9 n9 => ⟨trivial, tail htr n9⟩⟩, LC hat23 ⟨trivial, Al.mk fun b' w9 n9 => ⟨trivial, tail htr n9⟩⟩, Al.mk fun b' w9 n9 => ⟨trivial, LC (n9.keeps.blk0 hat23) ⟨trivial, tail htr n9⟩⟩⟩⟩
            · intro j hj
              refine Draw.kp fun w72 e72 k72 => ?_
              have k172 := k113.trans k72
              have hat72 := k72.blk0 hat
              refine gt k172 fun p hp => LdK.int hp.2.1 (LdK.int (cell_of hat72 rfl) (Br.mk (fun c1 => hj _ _ ⟨k72, ?_⟩) (fun c1 => ?_)))
              · have c1 : x.f < F := of_decide_eq_true c1
                unfold inGap; rw [decide_eq_false (by omega)]; rfl
              have c1 : ¬ x.f < F := of_decide_eq_false c1
              refine gt k172 fun p hp => LdK.int hp.2.2 (LdK.int (cell_of hat72 rfl) (Br.mk (fun c2 => hj _ _ ⟨k72, ?_⟩) (fun c2 => ?_)))
              · have c2 : TT < x.t := of_decide_eq_true c2
                unfold inGap; rw [decide_eq_false (p := x.t ≤ TT) (by omega)]; simp
              have c2 : ¬ TT < x.t := of_decide_eq_false c2
              have hin : inGap (layF cs) F TT x = layF cs x := by unfold inGap; rw [decide_eq_true (by omega), decide_eq_true (by omega)]; rfl
              refine gt k172 fun p hp => LdK.int hp.1 (Br.mk (fun c3 => hj _ _ ⟨k72, ?_⟩) (fun c3 => ?_))
              · rw [hin, layF_neg (of_decide_eq_true c3)]; rfl
              have c3 : ¬ x.c < 0 := of_decide_eq_false c3
              refine gt k172 fun p hp => LdK.int hp.1 (IdxS.cellT (hlay.mono (V.keeps0 (k1.trans k172))) (by omega) (by rw [List.length_map]; omega) fun y q hy hq => LdK.bool hq (hj _ _ ⟨k72, ?_⟩))
              rw [List.getElem?_map] at hy
              obtain ⟨c, hcc, rfl⟩ := Option.map_eq_some_iff.1 hy
              rw [hin, layF_at (by omega) hcc]
          · have hge : i = ts.length := by have := of_decide_eq_false e3; omega
            subst hge
            rw [List.take_length] at hf0
            have hgk' : G[k]? = some ⟨F, TT, cm, ln⟩ := by
              rw [hgk]
              unfold Rg.gap
              rw [hf0]
            refine Ld.int (cell_of hat rfl) (Ld.int (cell_of hat rfl) (Ld.sl (cell_of hat rfl) (Ld.int (cell_of hat rfl) (Al.mk fun b35 w73 n35 => ?_))))
            have z35 := n35.size
            have k573 := k13.trans n35.keeps
            have hg73 := hgo.keep0 k573
            have hgb : ∀ q, gl.blk q → w1.heap.size ≤ q ∧ q < w5.heap.size := fun q hq => hgo.ge hq
            refine appendC (c := GV.cells ⟨F, TT, C, ln⟩) elRGap hg73 rfl n35.at_ (GV.one _) (by omega) (by omega) (by have := k5.size; omega) fun l' w74 hl' _ k74 hg' => ?_
            have hl'b : ∀ q, l'.blk q → gl.blk q ∨ w73.heap.size ≤ q := by
              rintro q ⟨a, ha, rfl⟩
              obtain ⟨g, hg, h6⟩ := hg'
              rw [hg] at ha; cases ha; exact h6
            rw [ekw]
            have hv : Vle (V gl.blk w73) (V l'.blk w74) := V.move k74 (fun q _ hq => hq) fun q hq hm => (hl'b q hm).resolve_right (by omega)
            refine hR2 _ _ ⟨((k5.trans k573).no (M := No)).then k74 (fun q hq hb => by have := (hgb q hb).1; omega), k + 1, vs ++ [⟨F, TT, C, ln⟩], rfl, by omega, by simpa using hl', ?_⟩ (by dsimp only; omega)
            dsimp only
            rw [List.take_add_one, hgk']
            refine All2.append (hall.mono fun _ _ y => (y.mono (V.keeps0 k573)).mono hv) (.cons ?_ .nil)
            refine ⟨rfl, rfl, rfl, ((hC.keep0 n35.keeps).readsC (by omega) Cm.lens fun q hq hm => ?_).mono hv⟩
            have h1 := (hC.ge hq).1
            have h2 := (hgb q hm).2
            omega
        · intro j hj
          refine Br.mk (fun e3 => ?_) (fun e3 => ?_)
          · have hlt : k < ss.length := by have := of_decide_eq_true e3; omega
            have hy := List.getElem?_eq_getElem hlt
            refine gs (k5.trans k11) hy fun p hp => Ld.int hp.2.1 (St.blk hat11 (by simp) fun w75 u75 => hj _ _ ⟨u75.keeps0 k11 (by omega), by have := u75.size; omega, ?_⟩)
            have eT : TT = (ss[k]).f := by rw [← hT]; unfold toK; rw [hy]; rfl
            rw [eT]
            exact u75.at_
          · have hge : ss.length ≤ k := by have := of_decide_eq_false e3; omega
            have eT : TT = text.size := by rw [← hT]; unfold toK; rw [List.getElem?_eq_none hge]; rfl
            exact hj _ _ ⟨k11, z11, by rw [eT]; exact hat11⟩
      · intro j hj
        refine Br.mk (fun e3 => ?_) (fun e3 => ?_)
        · have hk0 : 0 < k := by have := of_decide_eq_true e3; omega
          have ek : w64 ((k : Int) - 1) = ((k - 1 : Nat) : Int) := by rw [w64_eq (by omega)]; omega
          rw [ek]
          have hy := List.getElem?_eq_getElem (l := ss) (i := k - 1) (by omega)
          refine gs (k5.trans n8.keeps) hy fun p hp => Ld.int hp.2.2 (St.blk n8.at_ (by simp) fun w76 u76 => hj _ _ ⟨u76.keeps0 n8.keeps (by omega), by have := u76.size; omega, ?_⟩)
          have eF : F = (ss[k - 1]).t := by rw [← hF]; unfold fromK; rw [if_neg (by omega), hy]; rfl
          rw [eF]
          exact u76.at_
        · have hk0 : k = 0 := by have := of_decide_eq_false e3; omega
          have eF : F = 0 := by rw [← hF]; unfold fromK; rw [if_pos hk0]
          exact hj _ _ ⟨n8.keeps, by omega, by rw [eF]; exact n8.at_⟩
    · have hge : k = ss.length + 1 := by have := of_decide_eq_false e2; omega
      subst hge
      rw [List.take_of_length_le (by omega)] at hall
      exact hK gl w5 (k1.trans k5) ⟨vs, hgo.readsC (by omega) GV.lens (fun _ _ h => h), hall.mono fun _ _ y => y.mono (V.sub fun _ _ h => h.elim)⟩
end Go.Fk
end

section
set_option linter.unusedVariables false
namespace Go.Fk
open Go

/-! ## Expressions of the form xy* -/

def cpR (f g : Nat → Bool) : Re := .cat (.set f) (.star (.set g))
def pk (f g : Nat → Bool) (k : Nat) : Nat → Bool := if k = 0 then f else g
theorem cp_m {f g : Nat → Bool} {s : List UInt8} {t : Nat} : (cpR f g).m s 0 t ↔ 1 ≤ t ∧ ∀ k, k < t → ∃ c, s[k]? = some c ∧ pk f g k c.toNat = true := by
  constructor
  · rintro ⟨k, ⟨rfl, c, hc, hf⟩, h⟩
    obtain ⟨h1, h2⟩ := star_m.1 h
    refine ⟨h1, fun k hk => ?_⟩
    by_cases h0 : k = 0
    · subst h0; exact ⟨c, hc, hf⟩
    · obtain ⟨d, h3, h4⟩ := h2 k (by omega) hk
      exact ⟨d, h3, by unfold pk; rw [if_neg h0]; exact h4⟩
  · rintro ⟨h1, h2⟩
    obtain ⟨c, hc, hf⟩ := h2 0 (by omega)
    refine ⟨1, ⟨rfl, c, hc, hf⟩, star_m.2 ⟨h1, fun k hk0 hk => ?_⟩⟩
    obtain ⟨d, h3, h4⟩ := h2 k hk
    exact ⟨d, h3, by unfold pk at h4; rwa [if_neg (by omega)] at h4⟩
def cpB (f g : Nat → Bool) (s : List UInt8) (t : Nat) : Bool := decide (1 ≤ t) && (List.range t).all fun k => match s[k]? with | some c => pk f g k c.toNat | none => false
theorem cp_B {f g f' g' : Nat → Bool} (h : ∀ c, c < 256 → f c = f' c) (h' : ∀ c, c < 256 → g c = g' c) {s : List UInt8} {t : Nat} : (cpR f g).m s 0 t ↔ cpB f' g' s t = true := by
  rw [cp_m]
  unfold cpB
  simp only [Bool.and_eq_true, decide_eq_true_eq, List.all_eq_true, List.mem_range]
  refine and_congr_right fun _ => forall_congr' fun k => imp_congr_right fun _ => ?_
  have e : ∀ c : UInt8, pk f g k c.toNat = pk f' g' k c.toNat := fun c => by unfold pk; split; exact h _ c.toNat_lt; exact h' _ c.toNat_lt
  cases s[k]? with
  | none => simp
  | some c => simp [e c]
def cpAt (gs : List ((Nat → Bool) × (Nat → Bool))) (s : List UInt8) (t i : Nat) : Bool := match gs[i]? with
  | some g => cpB g.1 g.2 s t
  | none => false
def CpOf (y : Re) (g : (Nat → Bool) × (Nat → Bool)) : Prop := ∃ f f', y = cpR f f' ∧ (∀ c, c < 256 → f c = g.1 c) ∧ ∀ c, c < 256 → f' c = g.2 c
theorem means_cp {ys : List Re} {gs : List ((Nat → Bool) × (Nat → Bool))} (h : All2 CpOf ys gs) {s : List UInt8} {t i : Nat} : Means ys s t i ↔ cpAt gs s t i = true := by
  unfold cpAt
  constructor
  · rintro ⟨y, hy, hm⟩
    obtain ⟨g, hg, f, f', rfl, hf, hf'⟩ := h.get _ _ hy
    rw [hg]
    exact (cp_B hf hf').1 hm
  · intro hp
    cases hg : gs[i]? with
    | none => rw [hg] at hp; cases hp
    | some g =>
      rw [hg] at hp
      obtain ⟨y, hy, f, f', rfl, hf, hf'⟩ := h.get2 _ _ hg
      exact ⟨_, hy, (cp_B hf hf').2 hp⟩
theorem rule_cp {cs : List Cls} {i : Nat} {c : Cls} (hc : cs[i]? = some c) (hname : NameOK (bs c.n)) (hd : ∀ (j : Nat) c', j < i → cs[j]? = some c' → c'.n ≠ c.n) {f g : Nat → Bool} (hp : parseF (bs c.rx) = (cpR f g, 0, 0)) {b : UInt8} (hf : f b.toNat = true) : RuleOK cs i := by
  refine ⟨c, hc, hname, hd, by rw [hp], by unfold reOf; rw [hp]; rfl, ?_⟩
  unfold reOf; rw [hp]
  refine ⟨[b], by simp, cp_m.2 ⟨by simp, fun k hk => ?_⟩⟩
  have : k = 0 := by simpa using hk
  subst this
  exact ⟨b, rfl, hf⟩

/-! ## The document's example: letters, blanks, comments -/

def cW2 : Cls := ⟨⟨#[119, 115]⟩, ⟨#[91, 92, 115, 92, 110, 93, 43]⟩, true⟩
def cCm : Cls := ⟨⟨#[99]⟩, ⟨#[35, 91, 97, 45, 122, 92, 115, 93, 42]⟩, true⟩
def cs28 : List Cls := [cId, cW2, cCm]
def gW2 (c : Nat) : Bool := decide (c = 32) || decide (c = 10)
def gHash (c : Nat) : Bool := decide (c = 35)
def gCm (c : Nat) : Bool := gId c || decide (c = 32)
theorem q0 : ∃ f g, parseF (bs cId.rx) = (cpR f g, 0, 0) ∧ (∀ c, c < 256 → f c = gId c) ∧ ∀ c, c < 256 → g c = gId c := ⟨_, _, rfl, by decide +kernel, by decide +kernel⟩
theorem q1 : ∃ f g, parseF (bs cW2.rx) = (cpR f g, 0, 0) ∧ (∀ c, c < 256 → f c = gW2 c) ∧ ∀ c, c < 256 → g c = gW2 c := ⟨_, _, rfl, by decide +kernel, by decide +kernel⟩
theorem q2 : ∃ f g, parseF (bs cCm.rx) = (cpR f g, 0, 0) ∧ (∀ c, c < 256 → f c = gHash c) ∧ ∀ c, c < 256 → g c = gCm c := ⟨_, _, rfl, by decide +kernel, by decide +kernel⟩
def gs28 : List ((Nat → Bool) × (Nat → Bool)) := [(gId, gId), (gW2, gW2), (gHash, gCm)]

theorem rules28 : ∀ i, i < cs28.length → RuleOK cs28 i := by
  obtain ⟨f0, g0, p0, h0, _⟩ := q0
  obtain ⟨f1, g1, p1, h1, _⟩ := q1
  obtain ⟨f2, g2, p2, h2, _⟩ := q2
  intro i hi
  rcases i with _ | _ | _ | i
  · exact rule_cp (c := cId) rfl (nameOK_of (by decide) (by decide) (by decide)) (fun j c' hj => by omega) p0 (b := 97) (h0 97 (by omega))
  · refine rule_cp (c := cW2) rfl (nameOK_of (by decide) (by decide) (by decide)) (fun j c' hj hc' => ?_) p1 (b := 32) (h1 32 (by omega))
    rcases j with _ | j
    · cases hc'; decide
    · omega
  · refine rule_cp (c := cCm) rfl (nameOK_of (by decide) (by decide) (by decide)) (fun j c' hj hc' => ?_) p2 (b := 35) (h2 35 (by omega))
    rcases j with _ | _ | j
    · cases hc'; decide
    · cases hc'; decide
    · omega
  · simp [cs28] at hi; omega
theorem ys28 : All2 CpOf (ysOf cs28) gs28 := by
  obtain ⟨f0, g0, p0, h0, h0'⟩ := q0
  obtain ⟨f1, g1, p1, h1, h1'⟩ := q1
  obtain ⟨f2, g2, p2, h2, h2'⟩ := q2
  refine .cons ⟨f0, g0, ?_, h0, h0'⟩ (.cons ⟨f1, g1, ?_, h1, h1'⟩ (.cons ⟨f2, g2, ?_, h2, h2'⟩ .nil))
  · unfold reOf; rw [p0]
  · unfold reOf; rw [p1]
  · unfold reOf; rw [p2]
theorem cnt_cp {ys : List Re} {gs : List ((Nat → Bool) × (Nat → Bool))} (h : All2 CpOf ys gs) : mCnt ys = 2 * gs.length := by
  induction h with
  | nil => rfl
  | cons h _ ih =>
    obtain ⟨f, f', rfl, _⟩ := h
    simp only [mCnt, List.map_cons, List.sum_cons, List.length_cons] at ih ⊢
    rw [ih]
    simp [cpR, Re.cnt]; omega
theorem small28 : ∀ c ∈ cs28, Small c.rx ∧ c.n.size ≤ maxLen := by
  intro c hc
  simp only [cs28, List.mem_cons, List.not_mem_nil, or_false] at hc
  rcases hc with rfl | rfl | rfl <;> exact ⟨by unfold Small; decide, by decide⟩

theorem New28 {w : World} {K : (Option Addr × Int × Int) → World → Prop} (hok : ∀ s ms w', Keeps No w w' → ScanW (V No w') s cs28 ms → Sound cs28 ms → K (s, 3, 0) w') : frisketlaw28_classes.C w fun x w1 => scan_New.C x w1 K := by
  refine frisketlaw28_classes.ok _ _ ?_
  simp only [frisketlaw28_classes.M]
  refine Al.mk fun b w1 n1 => ?_
  exact New_ok (M := No) (cs := cs28) (cells_cls rfl ⟨id, n1.at_⟩) (by decide) (by simp [cs28]) small28 rules28 (by rw [cnt_cp ys28]; decide) fun s ms w' k hs hS => hok s ms w' (n1.keeps.trans k) hs hS

def ex28 : ByteArray := ⟨#[97, 32, 35, 120, 10, 98]⟩
def ex28s : List UInt8 := [97, 32, 35, 120, 10, 98]
theorem tokF_f {ms : List LSt} {s : List UInt8} {i : Nat} : (tokF ms s i).f = i := rfl
theorem tok28 {ms : List LSt} (h : Sound cs28 ms) : ((tokF ms ex28s 0).c = 0 ∧ (tokF ms ex28s 0).t = 1) ∧ ((tokF ms ex28s 1).c = 1 ∧ (tokF ms ex28s 1).t = 2) ∧ ((tokF ms ex28s 2).c = 2 ∧ (tokF ms ex28s 2).t = 4) ∧ ((tokF ms ex28s 4).c = 1 ∧ (tokF ms ex28s 4).t = 5) ∧ ((tokF ms ex28s 5).c = 0 ∧ (tokF ms ex28s 5).t = 6) := by
  have hm : ∀ s t i, Means (ysOf cs28) s t i ↔ cpAt gs28 s t i = true := fun s t i => means_cp ys28
  refine ⟨h.tok_is (i := 0) (by decide) (r := 0) (z := 1) (LawBest.of (t := 1) (i := 0) (hm _) (by decide) (by decide) (by decide)),
    h.tok_is (i := 1) (by decide) (r := 1) (z := 1) (LawBest.of (t := 1) (i := 1) (hm _) (by decide) (by decide) (by decide)),
    h.tok_is (i := 2) (by decide) (r := 2) (z := 2) (LawBest.of (t := 2) (i := 2) (hm _) (by decide) (by decide) (by decide)),
    h.tok_is (i := 4) (by decide) (r := 1) (z := 1) (LawBest.of (t := 1) (i := 1) (hm _) (by decide) (by decide) (by decide)),
    h.tok_is (i := 5) (by decide) (r := 0) (z := 1) (LawBest.of (t := 1) (i := 0) (hm _) (by decide) (by decide) (by decide))⟩
theorem toks28 {ms : List LSt} (h : Sound cs28 ms) : ∃ l0 l1 l2 l3 l4, toksOf ms ex28s = [⟨0, 0, 1, l0⟩, ⟨1, 1, 2, l1⟩, ⟨2, 2, 4, l2⟩, ⟨1, 4, 5, l3⟩, ⟨0, 5, 6, l4⟩] := by
  obtain ⟨⟨a0, b0⟩, ⟨a1, b1⟩, ⟨a2, b2⟩, ⟨a3, b3⟩, a4, b4⟩ := tok28 h
  have g := goes_tok (ms := ms) (s := ex28s)
  have mk : ∀ {x : Tok} {c f t : Int}, x.c = c → x.f = f → x.t = t → x = ⟨c, f, t, x.l⟩ := by rintro ⟨c, f, t, l⟩ _ _ _ rfl rfl rfl; rfl
  refine ⟨(tokF ms ex28s 0).l, (tokF ms ex28s 1).l, (tokF ms ex28s 2).l, (tokF ms ex28s 4).l, (tokF ms ex28s 5).l, ?_⟩
  have e0 : tokF ms ex28s 0 = ⟨0, 0, 1, (tokF ms ex28s 0).l⟩ := mk a0 rfl b0
  have e1 : tokF ms ex28s 1 = ⟨1, 1, 2, (tokF ms ex28s 1).l⟩ := mk a1 rfl b1
  have e2 : tokF ms ex28s 2 = ⟨2, 2, 4, (tokF ms ex28s 2).l⟩ := mk a2 rfl b2
  have e3 : tokF ms ex28s 4 = ⟨1, 4, 5, (tokF ms ex28s 4).l⟩ := mk a3 rfl b3
  have e4 : tokF ms ex28s 5 = ⟨0, 5, 6, (tokF ms ex28s 5).l⟩ := mk a4 rfl b4
  rw [← e0, ← e1, ← e2, ← e3, ← e4]
  unfold toksOf
  rw [toks_step g (by decide), b0, show ((1 : Int)).toNat = 1 from rfl, toks_step g (by decide), b1, show ((2 : Int)).toNat = 2 from rfl, toks_step g (by decide), b2, show ((4 : Int)).toNat = 4 from rfl, toks_step g (by decide), b3, show ((5 : Int)).toNat = 5 from rfl, toks_step g (by decide), b4, toks_end (by decide)]
theorem gaps28 {ms : List LSt} (h : Sound cs28 ms) : gapsOf (layF cs28) ex28 (toksOf ms ex28s) = [⟨0, 0, [], 0⟩, ⟨1, 5, [⟨ex28.extract 2 4, true, 2⟩], 1⟩, ⟨6, 6, [], 0⟩] := by
  obtain ⟨l0, l1, l2, l3, l4, e⟩ := toks28 h
  rw [e]
  rfl

theorem awake28_spec {w : World} {K : Bool → World → Prop} (hK : ∀ w', Keeps No w w' → K true w') : frisketlaw28_awake.C w K := by
  refine frisketlaw28_awake.ok _ _ ?_
  simp only [frisketlaw28_awake.M]
  refine New28 fun s ms w2 k2 ⟨N, of_, hs⟩ hS => ?_
  refine Find_spec (text := ex28) hs hS (by decide) (by decide) fun l w3 k3 hl => ?_
  rw [show bs ex28 = ex28s from rfl, gaps28 hS] at hl
  have hn : l.n = 3 := hl.n
  dsimp only
  rw [hn]
  simp only [beq_self_eq_true, Br_true, show (((3 : Nat) : Int) == 3) = true from rfl]
  refine Count_spec hl (by decide) (by decide) fun w4 k4 => ?_
  refine Br.mk (fun _ => ?_) (fun e => (by cases e))
  have hl4 := hl.mono (V.keeps0 k4)
  have gg : ∀ {Q : Addr → Prop}, (∀ c p, GapC No w4 p ⟨1, 5, [⟨ex28.extract 2 4, true, 2⟩], 1⟩ c → Q p) → IdxS l 1 4 Q := fun {Q} hq => IdxS.gap hl4 (by omega) (by decide) fun g c p hg hp => by
    cases hg; exact hq c p hp
  refine gg fun c p hp => Ld.sl hp.c ?_
  have hcn : c.n = 1 := hp.cn
  dsimp only
  rw [hcn]
  refine Br.mk (fun _ => ?_) (fun e => (by cases e))
  refine gg fun c2 p2 hp2 => Ld.sl hp2.c (IdxS.cm hp2.cm (by omega) (by decide) fun x q hx hq => ?_)
  cases hx
  refine Ld.bool hq.tr ?_
  rw [Br_true]
  refine gg fun c3 p3 hp3 => Ld.sl hp3.c (IdxS.cm hp3.cm (by omega) (by decide) fun x q hx hq => ?_)
  cases hx
  refine Ld.str hq.s ?_
  have e : ((ex28.extract 2 4).toList == (⟨#[35, 120]⟩ : ByteArray).toList) = true := strEq_bs.2 rfl
  dsimp only
  rw [e]
  exact hK w4 ((k2.trans k3).trans k4)
end Go.Fk
end

section
set_option linter.unusedVariables false
namespace Go.Fk
open Go

theorem foldL_len {s : ByteArray} {b : Bool} : ∀ ls : List Tok, (foldL s b ls).1.length ≤ ls.length := by
  have key : ∀ (ls : List Tok) (st : List Cm × Nat), (ls.foldl (stepL s b) st).1.length ≤ st.1.length + ls.length := by
    intro ls
    induction ls with
    | nil => intro st; simp
    | cons x ls ih =>
      intro st
      have h := ih (stepL s b st x)
      have h2 := (stepL_le (text := s) (b := b) (cm := st.1) (ln := st.2) (x := x)).1
      rw [List.foldl_cons]
      have e : stepL s b (st.1, st.2) x = stepL s b st x := rfl
      rw [e] at h2
      simp only [List.length_cons]; omega
  intro ls
  simpa [foldL] using key ls ([], 0)
theorem rgs_cnt {lay : Tok → Bool} {len : Int} {s : ByteArray} : ∀ (ts : List Tok) (st : Int) (b : Bool) (cur : List Tok), cnt ((rgs lay len st b cur ts).map (Rg.gap s)) ≤ cur.length + ts.length
  | [], st, b, cur => by
    have := foldL_len (s := s) (b := b) cur
    simpa [rgs, cnt, Rg.gap] using this
  | x :: ts, st, b, cur => by
    simp only [rgs]
    split
    · have := rgs_cnt (lay := lay) (len := len) (s := s) ts st b (cur ++ [x])
      simp only [List.length_append, List.length_cons, List.length_nil] at this ⊢; omega
    · have := rgs_cnt (lay := lay) (len := len) (s := s) ts x.t true []
      have h2 := foldL_len (s := s) (b := b) cur
      simp only [cnt, List.map_cons, List.sum_cons, List.length_cons, List.length_nil, Rg.gap] at this ⊢; omega
theorem cnt_gaps {lay : Tok → Bool} {s : ByteArray} {ts : List Tok} : cnt (gapsOf lay s ts) ≤ ts.length := by
  have := rgs_cnt (lay := lay) (len := s.size) (s := s) ts 0 false []
  simpa [gapsOf] using this
theorem cnt_one {gs : List Gp} {g : Gp} (h : g ∈ gs) : g.cm.length ≤ cnt gs := by
  unfold cnt
  induction gs with
  | nil => cases h
  | cons x gs ih =>
    simp only [List.map_cons, List.sum_cons]
    rcases List.mem_cons.1 h with rfl | h
    · omega
    · have := ih h; omega

set_option maxRecDepth 20000 in
theorem TriviaFinds_spec {M : Nat → Prop} {w : World} {l : Sl} {cs : List Cls} {text : ByteArray} {K : Bool → World → Prop} (hl : SlCls (V M w) l cs) (hlen : cs.length ≤ 1048576) (hsz : ∀ c ∈ cs, c.rx.size ≤ 1048576 ∧ c.n.size ≤ 1048576) (hK : ∀ w', Keeps No w w' → K true w') : frisketlaw28_TriviaFinds.C l text w K := by
  have hbs := size_bs text
  refine frisketlaw28_TriviaFinds.ok _ _ _ _ ?_
  simp only [frisketlaw28_TriviaFinds.M]
  refine Join.cut (fun b w1 => Keeps No w w1 ∧ (b = false → Few cs ∧ text.size ≤ 24)) ?_ ?_
  · rintro b w1 ⟨k1, hb⟩
    refine Br.mk (fun _ => awake28_spec fun w2 k2 => hK w2 (k1.trans k2)) (fun hbf => ?_)
    obtain ⟨hfew, h24⟩ := hb hbf
    have hfl := hfew.1
    refine Rules09_spec (hl.mono (V.keeps0 k1)) (by omega) hfew.small (fun a n no w3 k3 hno hbad => ?_) (fun a vs xs w3 k3 hvs hxs hnorm hrules hne => ?_)
    · dsimp only
      have hnz : (no != (0 : Int)) = true := by simpa using hno
      refine scan_New_spec (hl.mono (V.keeps0 (k1.trans k3))) (by omega) hfew.small (fun _ => ?_) (fun i e w4 k4 _ _ _ => ?_) (fun w4 k4 _ _ _ => ?_) (fun s ms w4 k4 _ hS => ?_)
      · refine Find_none ?_
        dsimp only; simp only [hnz, Br_true]
        refine Join.cut (fun b w' => w' = w3 ∧ b = true) ?_ fun j hj => hj _ _ ⟨rfl, rfl⟩
        rintro _ w' ⟨rfl, rfl⟩
        exact hK w' (k1.trans k3)
      · refine Find_none ?_
        dsimp only; simp only [hnz, Br_true]
        refine Join.cut (fun b w' => w' = w4 ∧ b = true) ?_ fun j hj => hj _ _ ⟨rfl, rfl⟩
        rintro _ w' ⟨rfl, rfl⟩
        exact hK w' ((k1.trans k3).trans k4)
      · refine Find_none ?_
        dsimp only; simp only [hnz, Br_true]
        refine Join.cut (fun b w' => w' = w4 ∧ b = true) ?_ fun j hj => hj _ _ ⟨rfl, rfl⟩
        rintro _ w' ⟨rfl, rfl⟩
        exact hK w' ((k1.trans k3).trans k4)
      · exfalso
        rcases hbad with h | ⟨i, hi, h⟩
        · exact hS.ne h
        · exact h (hS.rule i hi)
    · dsimp only
      simp only [bne_self_eq_false, Br_false]
      have k13 := k1.trans k3
      refine scan_New_spec (hl.mono (V.keeps0 k13)) (by omega) hfew.small (fun h => absurd h hne) (fun i e w4 k4 hi _ hb' => ?_) (fun w4 k4 _ _ _ => ?_) (fun s ms w4 k4 ⟨N, of_, hs⟩ hS => ?_)
      · exact ((hrules i hi).ok.notBad hb').elim
      · refine Find_none ?_
        refine Join.cut (fun b w' => w' = w4 ∧ b = true) ?_ fun j hj => hj _ _ ⟨rfl, rfl⟩
        rintro _ w' ⟨rfl, rfl⟩
        exact hK w' (k13.trans k4)
      · have hxl : xs.length = cs.length := by have := congrArg List.length hnorm; simpa [ysOf] using this
        have hvx := hxs.length
        refine Find_spec hs hS (by omega) (by omega) fun fl w5 k5 hfl5 => ?_
        refine Join.cut (fun b w' => w' = w5 ∧ b = false) ?_ fun j hj => hj _ _ ⟨rfl, rfl⟩
        rintro _ w5 ⟨rfl, rfl⟩
        rw [Br_false]
        have k05 := (k13.trans k4).trans k5
        have hln : l.n = cs.length := by have := hl.1; simpa using this
        refine Loop.mk (fun t w' => Keeps No w5 w' ∧ ∃ i : Nat, t.2 = i ∧ i ≤ cs.length ∧ Own w' w5.heap.size T.bool 1 t.1 (((cs.take i).map Cls.lay).map Ty.bool.enc)) (fun t => cs.length - t.2.toNat) ⟨.refl, 0, rfl, by omega, Own.nil _ _ _ _⟩ ?_
        rintro ⟨la, t⟩ w7 ⟨k7, i, hti, hi, hla⟩ R hR
        dsimp only at hti hla ⊢
        subst hti
        refine Br.mk (fun e => ?_) (fun e => ?_)
        · have hlt : i < cs.length := by have := of_decide_eq_true e; omega
          refine IdxS.cls (hl.mono (V.keeps0 (k05.trans k7))) (by omega) (by omega) fun c p hc hp => Ld.bool hp.lay ?_
          rw [Int.toNat_natCast] at hc
          have hlan : la.n = i := by have := hla.len; simp at this; omega
          have s7 := k7.size
          refine append1 (t := .bool) (x := c.lay) elBool hla rfl (by omega) (by omega) (by omega) fun l' w9 hl' _ k9 _ => ?_
          rw [w64_eq (by omega)]
          refine hR _ _ ⟨(k7.no (M := No)).then k9 (fun q hq hb => by have := (hla.ge hb).1; omega), i + 1, by dsimp only; omega, by omega, ?_⟩ (by dsimp only; omega)
          rw [List.take_add_one, hc]
          simpa using hl'
        · have hge : i = cs.length := by have := of_decide_eq_false e; omega
          subst hge
          rw [List.take_length] at hla
          have k07 := k05.trans k7
          have k47 := (k4.trans k5).trans k7
          refine refScan_spec (hvs.mono (V.keeps0 k47)) (hxs.mono fun _ _ x => x.mono (V.keeps0 k47)) (by omega) (by omega) hS hnorm fun rl w10 k10 hrl => ?_
          have hsrt := srt_all (ms := ms) (s := bs text)
          have hcin : ∀ x ∈ toksOf ms (bs text), x.c = -1 ∨ (0 ≤ x.c ∧ x.c < cs.length) := fun x hx => by
            obtain ⟨i, hi⟩ := List.getElem?_of_mem hx
            obtain ⟨b, hb, e⟩ := toks_get hi
            have := hS.cls_in (s := bs text) (i := b) (by omega)
            rwa [← e] at this
          have htl : (toksOf ms (bs text)).length ≤ text.size := by rw [hbs]; exact toks_len
          have hcg := cnt_gaps (lay := layF cs) (s := text) (ts := toksOf ms (bs text))
          have hgl := (gapsOf_law (cs := cs) (text := text) (ts := toksOf ms (bs text)) (by rw [hbs]; exact hsrt)).1
          have hfl2 := List.length_filter_le (fun x => !layF cs x) (toksOf ms (bs text))
          refine refFind_spec hrl ((hla.keep0 k10).reads fun _ _ h => h) hcin (by rw [hbs]; exact hsrt) (by omega) (by omega) fun m w11 k11 hm => ?_
          generalize gapsOf (layF cs) text (toksOf ms (bs text)) = G at hfl5 hm hcg hgl
          have k511 := (k7.trans k10).trans k11
          have hmn := hm.n
          refine Loop.mk (fun t w' => w' = w11 ∧ ∃ i : Nat, t.2 = i ∧ i ≤ G.length ∧ t.1 = (cnt (G.take i) : Nat)) (fun t => G.length - t.2.toNat) ⟨rfl, 0, rfl, by omega, rfl⟩ ?_
          rintro ⟨n, t⟩ w12 ⟨rfl, i, hi0, hi, hn0⟩ R2 hR2
          dsimp only at hi0 hn0 ⊢
          subst hi0; subst hn0
          refine Br.mk (fun e => ?_) (fun e => ?_)
          · have hlt : i < G.length := by have := of_decide_eq_true e; omega
            refine IdxS.gap hm (by omega) (by omega) fun g c p hg hp => Ld.sl hp.c ?_
            rw [Int.toNat_natCast] at hg
            have hs := cnt_snoc hg
            have := cnt_take (gs := G) (i + 1)
            have hcn := hp.cn
            dsimp only
            rw [w64_eq (by omega), w64_eq (by omega)]
            exact hR2 _ _ ⟨rfl, i + 1, by dsimp only; omega, by omega, by dsimp only; omega⟩ (by dsimp only; omega)
          · have hge : i = G.length := by have := of_decide_eq_false e; omega
            subst hge
            rw [List.take_length]
            have k011 := k05.trans k511
            have hf11 := hfl5.mono (V.keeps0 k511)
            rw [beq_self_eq_true, Br_true]
            refine same28_spec hf11 hm (by omega) (fun g hg => by have := cnt_one hg; omega) fun w13 k14 => ?_
            rw [beq_self_eq_true, Br_true]
            refine Count_spec (hf11.mono (V.keeps0 k14)) (by omega) (by omega) fun w14 k15 => ?_
            rw [beq_self_eq_true, Br_true]
            refine Bare_spec (hf11.mono (V.keeps0 (k14.trans k15))) (by omega) (by omega) fun w15 k16 => ?_
            rw [beq_self_eq_true]
            exact hK w15 (((k011.trans k14).trans k15).trans k16)
  · intro j hj
    refine Great09_spec hl hlen hsz fun n w1 k1 hn => ?_
    refine Br.mk (fun _ => hj _ _ ⟨k1, fun e => (by cases e)⟩) (fun hf => Br.mk (fun _ => hj _ _ ⟨k1, fun e => (by cases e)⟩) (fun hf2 => ?_))
    refine awake28_spec fun w2 k2 => hj _ _ ⟨k1.trans k2, fun _ => ⟨hn (of_decide_eq_false hf), ?_⟩⟩
    have := of_decide_eq_false hf2
    omega

theorem TriviaCovers_spec {M : Nat → Prop} {w : World} {l : Sl} {cs : List Cls} {text : ByteArray} {K : Bool → World → Prop} (hl : SlCls (V M w) l cs) (hlen : cs.length ≤ 1048576) (hsz : ∀ c ∈ cs, c.rx.size ≤ 1048576 ∧ c.n.size ≤ 1048576) (hK : ∀ w', Keeps No w w' → K true w') : frisketlaw28_TriviaCovers.C l text w K := by
  have hbs := size_bs text
  refine frisketlaw28_TriviaCovers.ok _ _ _ _ ?_
  simp only [frisketlaw28_TriviaCovers.M]
  refine Join.cut (fun b w1 => Keeps No w w1 ∧ (b = false → Few cs ∧ text.size ≤ 100)) ?_ ?_
  · rintro b w1 ⟨k1, hb⟩
    refine Br.mk (fun _ => awake28_spec fun w2 k2 => hK w2 (k1.trans k2)) (fun hbf => ?_)
    obtain ⟨hfew, h100⟩ := hb hbf
    have hfl := hfew.1
    have bad : ∀ (e : Int) (n : Int) w4, Keeps No w1 w4 → e ≠ 0 → Br (((none : Option Addr), n, e).2.2 != (0 : Int)) (K true w4) (trivia_Find.C none text w4 fun x40 w4 => False) := fun e n w4 k4 he => by
      refine Br.mk (fun _ => hK w4 (k1.trans k4)) (fun h => ?_)
      exact absurd (by simpa using h) he
    refine scan_New_spec (hl.mono (V.keeps0 k1)) (by omega) hfew.small (fun _ => ?_) (fun i e w4 k4 _ _ hb' => ?_) (fun w4 k4 _ _ _ => ?_) (fun s ms w4 k4 ⟨N, of_, hs⟩ hS => ?_)
    · exact Br.mk (fun _ => hK w1 k1) (fun h => by cases h)
    · have he : e ≠ 0 := by
        obtain ⟨c, _, h⟩ := hb'
        rcases h with ⟨h, _⟩ | ⟨h1, h2⟩ | ⟨h, _⟩
        · omega
        · omega
        · omega
      exact Br.mk (fun _ => hK w4 (k1.trans k4)) (fun h => absurd (by simpa using h) he)
    · exact Br.mk (fun _ => hK w4 (k1.trans k4)) (fun h => by cases h)
    · dsimp only
      rw [bne_self_eq_false, Br_false]
      refine Find_spec hs hS (by omega) (by omega) fun fl w5 k5 hfl5 => ?_
      refine scan_Scan_spec (hs.keep k5) (by omega) fun tl w6 k6 hto => ?_
      have hsrt := srt_all (ms := ms) (s := bs text)
      have htl : (toksOf ms (bs text)).length ≤ text.size := by rw [hbs]; exact toks_len
      obtain ⟨hg1, hg2⟩ := gapsOf_law (cs := cs) (text := text) (ts := toksOf ms (bs text)) (by rw [hbs]; exact hsrt)
      have hfl2 := List.length_filter_le (fun x => !layF cs x) (toksOf ms (bs text))
      have htl6 : SlTok (V No w6) tl (toksOf ms (bs text)) := hto.readsC (by omega) Tok.lens fun _ _ h => h
      refine scan_Solid_spec (hs.keep (k5.trans k6)) htl6 (by omega) fun sl w7 k7 hso => ?_
      generalize ((toksOf ms (bs text)).filter fun x => !layF cs x) = ss at hso hg1 hg2 hfl2
      generalize gapsOf (layF cs) text (toksOf ms (bs text)) = G at hfl5 hg1 hg2
      have hsl : SlTok (V No w7) sl ss := hso.readsC (by omega) Tok.lens fun _ _ h => h
      have hsn : sl.n = ss.length := by have := hsl.1; simpa using this
      have hf7 := hfl5.mono (V.keeps0 (k6.trans k7))
      have hfn := hf7.n
      have k07 := (((k1.trans k4).trans k5).trans k6).trans k7
      dsimp only
      have hfr : ∀ (k : Nat), k ≤ ss.length → ∃ g, G[k]? = some g ∧ g.f = fromK ss 0 k ∧ g.t = toK ss text.size k := fun k hk => ⟨_, hg2 k hk, rfl, rfl⟩
      have gg : ∀ {w' : World} {k : Nat} {z : Int} {Q : Addr → Prop}, Keeps No w7 w' → z = (k : Int) → k ≤ ss.length → (∀ g c p, g.f = fromK ss 0 k → g.t = toK ss text.size k → GapC No w' p g c → Q p) → IdxS fl z 4 Q := fun {w' k z Q} kk hz hk hq => by
        subst hz
        obtain ⟨g, h1, h2, h3⟩ := hfr k hk
        refine IdxS.gap (hf7.mono (V.keeps0 kk)) (by omega) (by omega) fun g' c p hg' hp => ?_
        rw [Int.toNat_natCast, h1] at hg'; cases hg'
        exact hq g c p h2 h3 hp
      refine Join.cut (fun b w' => w' = w7 ∧ b = false) ?_ ?_
      · rintro _ w7 ⟨rfl, rfl⟩
        rw [Br_false]
        refine Loop.mk (fun t w' => Keeps No w7 w' ∧ ∃ i : Nat, t = i ∧ i ≤ ss.length) (fun t => ss.length - t.toNat) ⟨.refl, 0, rfl, by omega⟩ ?_
        rintro t w8 ⟨k8, i, rfl, hi⟩ R hR
        refine Br.mk (fun e => ?_) (fun e => hK w8 (k07.trans k8))
        have hlt : i < ss.length := by have := of_decide_eq_true e; omega
        have hy : ss[i]? = some ss[i] := List.getElem?_eq_getElem hlt
        generalize ss[i] = y at hy
        have e1 : w64 ((i : Int) + 1) = ((i + 1 : Nat) : Int) := by rw [w64_eq (by omega)]; omega
        have eT : toK ss text.size i = y.f := by unfold toK; rw [hy]; rfl
        have eF : fromK ss 0 (i + 1) = y.t := by unfold fromK; rw [if_neg (by omega), Nat.add_sub_cancel, hy]; rfl
        refine Join.cut (fun b w' => Keeps No w8 w' ∧ b = false) ?_ ?_
        · rintro _ w9 ⟨k9, rfl⟩
          rw [Br_false, e1]
          exact hR _ _ ⟨k8.trans k9, i + 1, rfl, by omega⟩ (by omega)
        · intro j hj
          refine Draw.kp fun w10 e10 k10 => ?_
          have k710 := k8.trans k10
          have gs : ∀ {Q : Addr → Prop}, (∀ p, TokC w10 p y → Q p) → IdxS sl (i : Int) 4 Q := fun {Q} hq => IdxS.tok (hsl.mono (V.keeps0 k710)) (by omega) (by omega) fun y' p hy' hp => by
            rw [Int.toNat_natCast, hy] at hy'; cases hy'; exact hq p hp
          refine gg k710 rfl (by omega) fun g c p hf ht hp => LdK.int hp.t (gs fun q hq => LdK.int hq.f ?_)
          rw [ht, eT, bne_self_eq_false, Br_false]
          refine gg (k := i + 1) k710 e1 (by omega) fun g c p hf ht hp => LdK.int hp.f (gs fun q hq => LdK.int hq.t (hj _ _ ⟨k10, ?_⟩))
          rw [hf, eF, bne_self_eq_false]
      · intro j hj
        have en : ((fl.n : Int) != w64 ((sl.n : Int) + 1)) = false := by rw [w64_eq (by omega), hfn, hg1, hsn, bne_eq_false_iff_eq]; omega
        rw [en, Br_false]
        refine gg (k := 0) .refl rfl (by omega) fun g c p hf ht hp => Ld.int hp.f ?_
        have ef : (g.f != 0) = false := by rw [hf, bne_eq_false_iff_eq]; unfold fromK; rw [if_pos rfl]
        rw [ef, Br_false]
        refine gg (k := ss.length) .refl (by omega) (Nat.le_refl _) fun g c p hf ht hp => Ld.int hp.t (hj _ _ ⟨rfl, ?_⟩)
        rw [ht, bne_eq_false_iff_eq]
        unfold toK
        rw [List.getElem?_eq_none (Nat.le_refl _)]; rfl
  · intro j hj
    refine Great09_spec hl hlen hsz fun n w1 k1 hn => ?_
    refine Br.mk (fun _ => hj _ _ ⟨k1, fun e => (by cases e)⟩) (fun hf => Br.mk (fun _ => hj _ _ ⟨k1, fun e => (by cases e)⟩) (fun hf2 => ?_))
    refine awake28_spec fun w2 k2 => hj _ _ ⟨k1.trans k2, fun _ => ⟨hn (of_decide_eq_false hf), ?_⟩⟩
    have := of_decide_eq_false hf2
    omega

theorem TriviaNone_spec {w : World} {text : ByteArray} {K : Bool → World → Prop} (hK : ∀ w', Keeps No w w' → K true w') : frisketlaw28_TriviaNone.C text w K := by
  refine frisketlaw28_TriviaNone.ok _ _ _ ?_
  simp only [frisketlaw28_TriviaNone.M]
  refine Join.cut (fun b w1 => Keeps No w w1) ?_ ?_
  · rintro b w1 k1
    refine Br.mk (fun _ => awake28_spec fun w2 k2 => hK w2 (k1.trans k2)) (fun _ => ?_)
    refine Find_none (New28 fun s ms w5 k5 ⟨N, of_, hs⟩ hS => ?_)
    refine App.make1 (n := 1048577) (t := .int .u8) (z := (0 : Int)) elU8 rfl (by omega) (by omega) fun b6 w6 n6 => ?_
    refine ⟨strOfNums (List.replicate 1048577 (0 : Int)), w6, ?_, ?_⟩
    · refine run_convert_bytes_arg (P := P) w6 T.sl_uint8 T.uint8 elU8.sl u8Ty b6 0 1048577 1048577 (List.replicate 1048577 (0 : Int)) (by rw [List.length_replicate]) (fun i hi => ?_) T.string strTy
      have hg : (List.replicate 1048577 (0 : Int))[i]? = some 0 := by rw [List.getElem?_replicate, if_pos hi]
      rw [List.getD_eq_getElem?_getD, hg]
      refine cell_of n6.at_ ?_
      rw [List.getElem?_toArray, List.getElem?_map, Nat.zero_add, List.getElem?_replicate, if_pos hi]
      rfl
    refine Find_long hs.some_ (by rw [strOfNums_size, List.length_replicate]; omega) ?_
    refine Count_spec (M := No) SlGap.nil (by simp) (by decide) fun w7 k7 => ?_
    refine Bare_spec (M := No) SlGap.nil (by simp) (by decide) fun w8 k8 => ?_
    exact hK w8 ((((k1.trans k5).trans n6.keeps).trans k7).trans k8)
  · intro j hj
    exact Br.mk (fun _ => hj _ _ .refl) (fun _ => awake28_spec fun w1 k1 => hj _ _ k1)
end Go.Fk
end
