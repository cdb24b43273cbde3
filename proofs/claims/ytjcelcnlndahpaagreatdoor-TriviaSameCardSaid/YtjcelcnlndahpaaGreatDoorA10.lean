/-
  A part of the proof: what the functions of the program come to, read off the model: no premise of its own, no axiom. By an AI agent.
-/
import Derived.Test.YtjcelcnlndahpaaGreatDoorA9
set_option linter.all false
section
set_option linter.unusedVariables false
namespace Go.Fk
open Go

theorem close_spec {w : World} {b1 : Nat} {s : Option Addr} {text : ByteArray} {cl L C : Sl} {vs : List GV} {gs : List Gp} {f t : Int} {cm : List Cm} {ln : Nat} (h : FinAt w b1 s text cl L C vs gs f t cm ln) {at_ next : Int} (hvs : vs.length ≤ 10000000) {K : Unit → World → Prop}
    (hK : ∀ L' v w', FinAt w' b1 s text cl L' ⟨none, 0, 0⟩ (vs ++ [v]) (gs ++ [⟨f, at_, cm, ln⟩]) next next [] 0 → Keeps (fun b => b1 ≤ b) w w' → K () w') :
    trivia_finder_close.C (some ⟨b1, 0, none⟩) at_ next w K := by
  have hb1 := lt_of_some h.at_
  have hLn := h.ln_
  have hCge : ∀ q, C.blk q → b1 + 1 ≤ q ∧ q < w.heap.size := fun q hq => h.ownC.ge hq
  have hLge : ∀ q, L.blk q → b1 + 1 ≤ q ∧ q < w.heap.size := fun q hq => h.ownL.ge hq
  refine trivia_finder_close.ok _ _ _ _ _ ?_
  simp only [trivia_finder_close.M, NilC_some]
  rw [add_add]
  refine St.blk h.at_ (by simp) fun w1 u1 => ?_
  have hLb : ∀ q, q = b1 → ¬ L.blk q := fun q hq hl => by have := (hLge _ hl).1; omega
  have hCb : ∀ q, q = b1 → ¬ C.blk q := fun q hq hl => by have := (hCge _ hl).1; omega
  have h1 : FinAt w1 b1 s text cl L C vs gs f at_ cm ln := ⟨u1.at_, h.ownL.keep u1.keeps hLb, h.ownC.keep u1.keeps hCb, h.sep, h.old.mono fun _ _ y => y.mono (V.move u1.keeps (fun q _ hq => .inl (by omega)) fun q _ hm => hm)⟩
  have s1 := u1.size
  generalize hv : (⟨f, at_, C, ln⟩ : GV) = v
  refine Join.cut (fun (_ : Unit) w' => ∃ L', Keeps (fun b => b1 ≤ b) w w' ∧ w'.heap[b1]? = some (finObj s text cl L' f at_ C ln) ∧ Own w' (b1 + 1) T.trivia_Gap 4 L' ((vs ++ [v]).map GV.cells).flatten ∧ All2 (GapR (V (fun b => b ≤ b1 ∨ L'.blk b) w')) (vs ++ [v]) (gs ++ [⟨f, at_, cm, ln⟩])) ?_ ?_
  · rintro _ w2 ⟨L', k2, hat, ho, hall⟩
    rw [add_eq, Nat.zero_add]
    refine St.blk hat (by simp) fun w3 u3 => ?_
    rw [add_eq]
    refine St.blk u3.at_ (by simp) fun w4 u4 => ?_
    rw [add_eq]
    refine St.blk u4.at_ (by simp) fun w5 u5 => ?_
    rw [add_eq]
    refine St.blk u5.at_ (by simp) fun w6 u6 => ?_
    refine St.blk u6.at_ (by simp) fun w7 u7 => ?_
    have u := (((u3.trans u4).trans u5).trans u6).trans u7
    refine hK L' v w7 ⟨u.at_, ho.keep u.keeps (fun q hq hl => by subst hq; have := (ho.ge hl).1; omega), Own.nil _ _ _ _, (fun q hq => by obtain ⟨a, ha, _⟩ := hq; cases ha), hall.mono fun _ _ y => y.mono (V.move u.keeps (fun q _ hq => .inl (by omega)) fun q _ hm => ?_)⟩ (k2.trans (u.keeps.mono fun q _ hq => Nat.le_of_eq hq.symm))
    rcases hm with hm | hm | hm
    · exact .inl hm
    · exact .inr hm
    · obtain ⟨a, ha, _⟩ := hm; cases ha
  · intro j hj
    have tail : ∀ {b' w8 w9}, Keeps No w1 w8 → New b' (.cells #[.int .i64 f, .int .i64 at_, .slice C.a C.n C.c, .int .i64 ln] T.trivia_Gap (0, 0)) w8 w9 →
        App P (Builtin.append_ #[T.sl_trivia_Gap, T.sl_trivia_Gap] T.sl_trivia_Gap #[.slice L.a L.n L.c, .slice (some ⟨b', 0, none⟩) 1 1]) (.one .sl) w9 fun x22 w10 => (True ∧ St ((⟨b1, 0, none⟩ : Addr).add 3) (.slice x22.a x22.n x22.c) w10 fun w11 => (True ∧ j () w11)) := by
      intro b' w8 w9 k8 n9
      have k19 := k8.trans n9.keeps
      have h9 := h1.keep k19
      have s8 := k8.size
      have s9 := n9.size
      have hve : v.cells = [.int .i64 f, .int .i64 at_, .slice C.a C.n C.c, .int .i64 ln] := by rw [← hv]; rfl
      refine appendC (c := v.cells) elGap h9.ownL rfl (by rw [hve]; exact n9.at_) (GV.one _) (by omega) (by omega) (by omega) fun L' w10 hL' hn' k10 hg' => ⟨trivial, ?_⟩
      have hL'b : ∀ q, L'.blk q → L.blk q ∨ w9.heap.size ≤ q := by
        rintro q ⟨a, ha, rfl⟩
        obtain ⟨g, hg, h6⟩ := hg'
        rw [hg] at ha; cases ha; exact h6
      have h10at := k10.blk h9.at_ (fun hq => hLb _ rfl hq)
      rw [add_eq]
      refine St.blk h10at (by simp) fun w11 u11 => ⟨trivial, hj _ _ ⟨L', ?_, u11.at_, ?_, ?_⟩⟩
      · refine ((u1.keeps.mono (M := fun b => b1 ≤ b) fun q _ hq => Nat.le_of_eq hq.symm).trans k19.no).trans ((k10.mono fun q _ hq => ?_).trans (u11.keeps.mono fun q _ hq => Nat.le_of_eq hq.symm))
        have := (hLge _ hq).1; show b1 ≤ q; omega
      · have := hL'.keep u11.keeps (fun q hq hl => by subst hq; have := (hL'.ge hl).1; omega)
        simpa using this
      · have hvw : Vle (V (fun b => b ≤ b1 ∨ L.blk b) w9) (V (fun b => b ≤ b1 ∨ L'.blk b) w11) := by
          refine (V.move (M := fun b => b ≤ b1 ∨ L.blk b) (M' := fun b => b ≤ b1 ∨ L'.blk b) k10 (fun q _ hq => .inr hq) fun q hq hm => ?_).trans (V.move u11.keeps (fun q _ hq => .inl (by omega)) fun q _ hm => hm)
          rcases hm with hm | hm
          · exact .inl hm
          · exact (hL'b q hm).elim .inr fun e => by omega
        refine All2.append (h9.old.mono fun _ _ y => (y.mono (V.sub fun q _ (hm : q ≤ b1 ∨ L.blk q) => hm.elim .inl fun e => .inr (.inl e))).mono hvw) (.cons ?_ .nil)
        · rw [← hv]
          refine ⟨rfl, rfl, rfl, (Own.readsC h9.ownC (by omega) Cm.lens fun q hq hm => ?_).mono hvw⟩
          rcases hm with hm | hm
          · have := (hCge _ hq).1; omega
          · exact h.sep _ hq hm
    refine DrawN.mk fun w8 e8 k8 => ?_
    have h8 := h1.keep k8
    have gL : ∀ {y : World} {Q : Sl → Prop}, y.heap[b1]? = some (finObj s text cl L f at_ C ln) → Q L → Ld .sl ((⟨b1, 0, none⟩ : Addr).add 3) y Q :=
      fun hy hq => Ld.sl (by rw [add_eq]; exact cell_of hy rfl) hq
    have gG : ∀ {Q : Int → Int → Sl → Int → Prop}, Q f at_ C ln → Ld (.int .i64) ((⟨b1, 0, none⟩ : Addr).add 4) w8 fun x0 => Ld (.int .i64) (((⟨b1, 0, none⟩ : Addr).add 4).add 1) w8 fun x1 => Ld .sl (((⟨b1, 0, none⟩ : Addr).add 4).add 2) w8 fun x2 => Ld (.int .i64) (((⟨b1, 0, none⟩ : Addr).add 4).add 3) w8 fun x3 => Q x0 x1 x2 x3 := by
      intro Q hq
      simp only [add_add, add_eq]
      exact Ld.int (cell_of h8.at_ rfl) (Ld.int (cell_of h8.at_ rfl) (Ld.sl (cell_of h8.at_ rfl) (Ld.int (cell_of h8.at_ rfl) hq)))
    refine ⟨gL h8.at_ ⟨trivial, gG ⟨trivial, Al.mk fun b' w9 n9 => ⟨trivial, tail k8 n9⟩⟩⟩, gG ⟨trivial, gL h8.at_ ⟨trivial, Al.mk fun b' w9 n9 => ⟨trivial, tail k8 n9⟩⟩, Al.mk fun b' w9 n9 => ⟨trivial, gL (n9.keeps.blk0 h8.at_) ⟨trivial, tail k8 n9⟩⟩⟩⟩

theorem stepL_le {text : ByteArray} {b : Bool} {cm : List Cm} {ln : Nat} {x : Tok} : (stepL text b (cm, ln) x).1.length ≤ cm.length + 1 ∧ (stepL text b (cm, ln) x).2 ≤ ln + (x.t.toNat - x.f.toNat) := by
  unfold stepL
  have := nls_le text x
  split
  · exact ⟨by dsimp only; omega, by dsimp only; omega⟩
  · exact ⟨by simp, by dsimp only; omega⟩

theorem Find_none {w : World} {text : ByteArray} {K : (Sl × Int) → World → Prop} (hK : K (⟨none, 0, 0⟩, 1) w) : trivia_Find.C none text w K := by
  refine trivia_Find.ok _ _ _ _ ?_
  simp only [trivia_Find.M]
  exact scan_Scan_none hK
theorem Find_long {w : World} {s : Option Addr} {text : ByteArray} (h : s.isNone = false) (hs : 1048576 < text.size) {K : (Sl × Int) → World → Prop} (hK : K (⟨none, 0, 0⟩, 3) w) : trivia_Find.C s text w K := by
  refine trivia_Find.ok _ _ _ _ ?_
  simp only [trivia_Find.M]
  exact scan_Scan_long h hs hK

theorem Find_spec {w : World} {s : Option Addr} {cs : List Cls} {ms : List LSt} {N : Nat} {of_ : Nat → Int} {text : ByteArray} (hsc : ScanV (V No w) s cs N ms of_) (hS : Sound cs ms) (hcl : cs.length ≤ 1000) (hs : text.size ≤ 1000000) {K : (Sl × Int) → World → Prop}
    (hK : ∀ l w', Keeps No w w' → SlGap (V No w') l (gapsOf (layF cs) text (toksOf ms (bs text))) → K (l, 0) w') : trivia_Find.C s text w K := by
  have hbs := size_bs text
  refine trivia_Find.ok _ _ _ _ ?_
  simp only [trivia_Find.M]
  refine scan_Scan_spec hsc hs fun l w1 k1 ho1 => ?_
  dsimp only
  rw [bne_self_eq_false, Br_false]
  refine scan_Classes_spec (hsc.keep k1) hcl fun cl w2 k2 ho2 => ?_
  refine Al.mk fun b1 w3 n3 => ?_
  have e3 := n3.eq
  have s3 := n3.size
  have hsrt := srt_all (ms := ms) (s := bs text)
  have htl : (toksOf ms (bs text)).length ≤ text.size := by rw [hbs]; exact toks_len
  have hget : ∀ {i x}, (toksOf ms (bs text))[i]? = some x → ∃ b, b < (bs text).length ∧ x = tokF ms (bs text) b := fun h => toks_get h
  generalize toksOf ms (bs text) = ts at *
  have hl3 : SlTok (V (fun b => b1 ≤ b) w3) l ts := ((ho1.keep0 (k2.trans n3.keeps)).readsC (M := fun b => b1 ≤ b) (by omega) Tok.lens fun b hb hge => by have := (ho1.ge hb).2; have := k2.size; have : b1 ≤ b := hge; omega)
  have hc3 : SlCls (V (fun b => b1 ≤ b) w3) cl cs := ((ho2.keep0 n3.keeps).readsC (M := fun b => b1 ≤ b) (by omega) Cls.lens fun b hb hge => by have := (ho2.ge hb).2; have : b1 ≤ b := hge; omega)
  have hln : l.n = ts.length := by have := hl3.1; simpa using this
  refine Loop.mk (fun t w' => Keeps (fun b => b1 ≤ b) w3 w' ∧ ∃ (i : Nat) (pos : Int) (L C : Sl) (vs : List GV) (gs : List Gp) (f tt : Int) (cur : List Tok), t = i ∧ i ≤ ts.length ∧ FinAt w' b1 s text cl L C vs gs f tt (foldL text (decide (0 < gs.length)) cur).1 (foldL text (decide (0 < gs.length)) cur).2 ∧ gs.length ≤ i ∧ (foldL text (decide (0 < gs.length)) cur).1.length ≤ i ∧ 0 ≤ pos ∧ pos ≤ text.size ∧ ((foldL text (decide (0 < gs.length)) cur).2 : Int) ≤ pos ∧ Srt text.size pos (ts.drop i) ∧
      gs ++ (rgs (layF cs) text.size f (decide (0 < gs.length)) cur (ts.drop i)).map (Rg.gap text) = gapsOf (layF cs) text ts)
    (fun t => ts.length - t.toNat) ⟨.refl, 0, 0, ⟨none, 0, 0⟩, ⟨none, 0, 0⟩, [], [], 0, 0, [], rfl, by omega, ⟨n3.at_, Own.nil _ _ _ _, Own.nil _ _ _ _, (fun c hc => by obtain ⟨a, ha, _⟩ := hc; cases ha), .nil⟩, by simp, by simp [foldL], by omega, by omega, by simp [foldL], by rw [hbs]; exact hsrt, rfl⟩ ?_
  rintro t w4 ⟨k4, i, pos, L, C, vs, gs, f, tt, cur, rfl, hi, hF, hgi, hci, hp0, hp1, hlp, hsr, hG⟩ R hR
  have hvg := hF.old.length
  refine Br.mk (fun e => ?_) (fun e => ?_)
  · have hlt : i < ts.length := by have := of_decide_eq_true e; omega
    have hl4 := hl3.mono (V.keeps k4)
    refine IdxS.tok hl4 (by omega) (by omega) fun x p hx hp => hp.ld ?_
    rw [Int.toNat_natCast] at hx
    have hdrop : ts.drop i = x :: ts.drop (i + 1) := by
      obtain ⟨hi', hxe⟩ := List.getElem?_eq_some_iff.1 hx
      rw [List.drop_eq_getElem_cons hi', hxe]
    rw [hdrop] at hsr hG
    obtain ⟨hx1, hx2, hx3⟩ := hsr
    have hx4 := hx3.le.1
    have ew : w64 ((i : Int) + 1) = ((i + 1 : Nat) : Int) := by rw [w64_eq (by omega)]; omega
    refine AlSt4 fun b4 w9 n9 => ?_
    have h9 := hF.keep n9.keeps
    refine Join.cut (fun b w' => Keeps No w9 w' ∧ b = layF cs x) ?_ ?_
    · rintro b w10 ⟨k10, rfl⟩
      have h10 := h9.keep k10
      have hb4 := k10.blk0 n9.at_
      have k410 : Keeps (fun b => b1 ≤ b) w4 w10 := (n9.keeps.trans k10).no
      refine Br.mk (fun e2 => ?_) (fun e2 => ?_)
      · refine Ld4i hb4 ?_
        refine layout_spec h10 (x := x) ⟨by omega, by omega, hx4⟩ hs (by omega) (by omega) fun C' w11 h11 k11 => ?_
        have hst := stepL_le (text := text) (b := decide (0 < gs.length)) (cm := (foldL text (decide (0 < gs.length)) cur).1) (ln := (foldL text (decide (0 < gs.length)) cur).2) (x := x)
        have hfs : foldL text (decide (0 < gs.length)) (cur ++ [x]) = stepL text (decide (0 < gs.length)) ((foldL text (decide (0 < gs.length)) cur).1, (foldL text (decide (0 < gs.length)) cur).2) x := foldL_snoc
        rw [← hfs] at h11 hst
        rw [ew]
        refine hR _ _ ⟨(k4.trans k410).trans k11, i + 1, x.t, L, C', vs, gs, f, tt, cur ++ [x], rfl, by omega, h11, by omega, by omega, by omega, hx4, by omega, hx3, ?_⟩ (by omega)
        rw [← hG]
        simp only [rgs, e2, if_true]
      · refine Ld.int (cell_of hb4 rfl) (Ld.int (cell_of hb4 rfl) ?_)
        refine close_spec h10 (by omega) fun L' v w12 h12 k12 => ?_
        rw [ew]
        have hb' : decide (0 < (gs ++ [(⟨f, x.f, (foldL text (decide (0 < gs.length)) cur).1, (foldL text (decide (0 < gs.length)) cur).2⟩ : Gp)]).length) = true := by simp
        refine hR _ _ ⟨(k4.trans k410).trans k12, i + 1, x.t, L', ⟨none, 0, 0⟩, vs ++ [v], gs ++ [⟨f, x.f, (foldL text (decide (0 < gs.length)) cur).1, (foldL text (decide (0 < gs.length)) cur).2⟩], x.t, x.t, [], rfl, by omega, h12, by simp; omega, by simp [foldL], by omega, hx4, by simp [foldL]; omega, hx3, ?_⟩ (by omega)
        rw [← hG, hb']
        have e2 : layF cs x = false := e2
        simp only [rgs, e2, Bool.false_eq_true, if_false, List.map_cons, List.append_assoc, List.cons_append, List.nil_append]
        rfl
    · intro j hj
      refine Draw.kp fun w13 e13 k13 => ?_
      have h13 := h9.keep k13
      have hb4 := k13.blk0 n9.at_
      obtain ⟨bt, hbt, hxb⟩ := hget hx
      have hcin := hS.cls_in (s := bs text) (i := bt) (by omega)
      rw [← hxb] at hcin
      refine LdK.int (cell_of hb4 rfl) (Br.mk (fun e2 => ?_) (fun e2 => ?_))
      · have e2 : 0 ≤ x.c := of_decide_eq_true e2
        refine LdK.sl (cell_of h13.at_ rfl) (LdK.int (cell_of hb4 rfl) ?_)
        refine IdxS.cls (hc3.mono ((V.keeps k4).trans (V.keeps0 (n9.keeps.trans k13)))) (by omega) (by omega) fun c q hc hq => LdK.bool hq.lay (hj _ _ ⟨k13, ?_⟩)
        unfold layF
        rw [if_pos (by omega), hc]; rfl
      · have e2 : ¬ 0 ≤ x.c := of_decide_eq_false e2
        refine hj _ _ ⟨k13, ?_⟩
        unfold layF
        rw [if_neg e2]
  · have hge : i = ts.length := by have := of_decide_eq_false e; omega
    subst hge
    rw [List.drop_length] at hG
    refine close_spec hF (by omega) fun L' v w14 h14 k14 => ?_
    refine Ld.sl (cell_of h14.at_ rfl) ?_
    have k03 : Keeps No w w3 := (k1.trans k2).trans n3.keeps
    have hbig : b1 ≥ w.heap.size := by have := (k1.trans k2).size; omega
    have k014 : Keeps No w w14 := (k03.no (M := No)).then (k4.trans k14) fun q hq (hge : b1 ≤ q) => by omega
    refine hK L' w14 k014 ⟨vs ++ [v], Own.readsC h14.ownL (by omega) GV.lens fun _ _ h => h, ?_⟩
    have hg2 : gs ++ [⟨f, (text.size : Int), (foldL text (decide (0 < gs.length)) cur).1, (foldL text (decide (0 < gs.length)) cur).2⟩] = gapsOf (layF cs) text ts := by rw [← hG]; rfl
    rw [← hg2]
    exact h14.old.mono fun _ _ y => y.mono (V.sub fun _ _ h => h.elim)
end Go.Fk
end

section
set_option linter.unusedVariables false
namespace Go.Fk
open Go

def cnt (gs : List Gp) : Nat := (gs.map fun g => g.cm.length).sum
theorem cnt_take {gs : List Gp} (i : Nat) : cnt (gs.take i) ≤ cnt gs := by
  have : cnt gs = cnt (gs.take i) + cnt (gs.drop i) := by unfold cnt; rw [← List.sum_append, ← List.map_append, List.take_append_drop]
  omega
theorem cnt_snoc {gs : List Gp} {i : Nat} {g : Gp} (h : gs[i]? = some g) : cnt (gs.take (i + 1)) = cnt (gs.take i) + g.cm.length := by
  unfold cnt
  rw [List.take_add_one, h]; simp

theorem Count_spec {M : Nat → Prop} {w : World} {l : Sl} {gs : List Gp} (hl : SlGap (V M w) l gs) (hlen : gs.length ≤ 1000000) (hc : cnt gs ≤ 1000000) {K : Int → World → Prop} (hK : ∀ w', Keeps No w w' → K (cnt gs : Int) w') : trivia_Count.C l w K := by
  have hn := hl.n
  refine trivia_Count.ok _ _ _ ?_
  simp only [trivia_Count.M]
  refine Loop.mk (fun t w' => Keeps No w w' ∧ ∃ i : Nat, t.2 = i ∧ i ≤ gs.length ∧ t.1 = (cnt (gs.take i) : Nat)) (fun t => gs.length - t.2.toNat) ⟨.refl, 0, rfl, by omega, rfl⟩ ?_
  rintro ⟨n, t⟩ w1 ⟨k1, i, hi0, hi, hn0⟩ R hR
  dsimp only at hi0 hn0 ⊢
  subst hi0; subst hn0
  refine Br.mk (fun e => ?_) (fun e => ?_)
  · have hlt : i < gs.length := by have := of_decide_eq_true e; omega
    refine IdxS.gap (hl.mono (V.keeps0 k1)) (by omega) (by omega) fun g c p hg hp => ?_
    rw [Int.toNat_natCast] at hg
    refine Ld.int hp.f (Ld.int hp.t (Ld.sl hp.c (Ld.int hp.ln ?_)))
    refine AlSt4 fun b w6 n6 => Ld.sl (cell_of n6.at_ rfl) ?_
    have hs := cnt_snoc hg
    have := cnt_take (gs := gs) (i + 1)
    have hcn := hp.cn
    dsimp only
    rw [w64_eq (by omega), w64_eq (by omega)]
    exact hR _ _ ⟨k1.trans n6.keeps, i + 1, by dsimp only; omega, by omega, by dsimp only; omega⟩ (by dsimp only; omega)
  · have hge : i = gs.length := by have := of_decide_eq_false e; omega
    subst hge
    rw [List.take_length]
    exact hK w1 k1
theorem Bare_spec {M : Nat → Prop} {w : World} {l : Sl} {gs : List Gp} (hl : SlGap (V M w) l gs) (hlen : gs.length ≤ 1000000) (hc : cnt gs ≤ 1000000) {K : Bool → World → Prop} (hK : ∀ w', Keeps No w w' → K ((cnt gs : Int) == 0) w') : trivia_Bare.C l w K := by
  refine trivia_Bare.ok _ _ _ ?_
  simp only [trivia_Bare.M]
  exact Count_spec hl hlen hc hK
theorem SlGap.nil {H : View} : SlGap H ⟨none, 0, 0⟩ [] := ⟨[], SlC.nil, .nil⟩

/-- Two lists of gaps that are the same are found so. -/
theorem same28_spec {w : World} {l m : Sl} {gs : List Gp} (hl : SlGap (V No w) l gs) (hm : SlGap (V No w) m gs) (hlen : gs.length ≤ 1000000) (hcl : ∀ g ∈ gs, g.cm.length ≤ 1000000) {K : Int → World → Prop} (hK : ∀ w', Keeps No w w' → K 0 w') : frisketlaw28_same.C l m w K := by
  have hln := hl.n
  have hmn := hm.n
  refine frisketlaw28_same.ok _ _ _ _ ?_
  simp only [frisketlaw28_same.M]
  rw [hln, hmn, bne_self_eq_false, Br_false]
  refine Loop.mk (fun t w' => Keeps No w w' ∧ t.1 = 0 ∧ ∃ i : Nat, t.2 = i ∧ i ≤ gs.length) (fun t => gs.length - t.2.toNat) ⟨.refl, rfl, 0, rfl, by omega⟩ ?_
  rintro ⟨z, t⟩ w1 ⟨k1, hz, i, hi0, hi⟩ R hR
  dsimp only at hi0 hz ⊢
  subst hi0; subst hz
  refine Br.mk (fun e => ?_) (fun e => hK w1 k1)
  have hlt : i < gs.length := by have := of_decide_eq_true e; omega
  have hgi : gs[i]? = some gs[i] := List.getElem?_eq_getElem hlt
  generalize gs[i] = g at hgi
  have hgl := hcl g (List.mem_of_getElem? hgi)
  have ew : w64 ((i : Int) + 1) = ((i + 1 : Nat) : Int) := by rw [w64_eq (by omega)]; omega
  have gl : ∀ {w' : World} {Q : Addr → Prop}, Keeps No w w' → (∀ c p, GapC No w' p g c → Q p) → IdxS l (i : Int) 4 Q := fun {w' Q} k hq => IdxS.gap (hl.mono (V.keeps0 k)) (by omega) (by omega) fun g' c p hg' hp => by
    rw [Int.toNat_natCast, hgi] at hg'; cases hg'; exact hq c p hp
  have gm : ∀ {w' : World} {Q : Addr → Prop}, Keeps No w w' → (∀ c p, GapC No w' p g c → Q p) → IdxS m (i : Int) 4 Q := fun {w' Q} k hq => IdxS.gap (hm.mono (V.keeps0 k)) (by omega) (by omega) fun g' c p hg' hp => by
    rw [Int.toNat_natCast, hgi] at hg'; cases hg'; exact hq c p hp
  refine Join.cut (fun b w' => Keeps No w w' ∧ b = false) ?_ ?_
  · rintro _ w2 ⟨k2, rfl⟩
    rw [Br_false]
    refine Loop.mk (fun t w' => Keeps No w w' ∧ t.1 = 0 ∧ ∃ j : Nat, t.2 = j ∧ j ≤ g.cm.length) (fun t => g.cm.length - t.2.toNat) ⟨k2, rfl, 0, rfl, by omega⟩ ?_
    rintro ⟨z, t⟩ w3 ⟨k3, hz, j, hj0, hj⟩ R3 hR3
    dsimp only at hj0 hz ⊢
    subst hj0; subst hz
    refine gm k3 fun c p hp => Ld.sl hp.c ?_
    have hcn := hp.cn
    dsimp only
    refine Br.mk (fun e2 => ?_) (fun e2 => by rw [ew]; exact hR _ _ ⟨k3, rfl, i + 1, rfl, by omega⟩ (by dsimp only; omega))
    have hjl : j < g.cm.length := by have := of_decide_eq_true e2; omega
    have ej : w64 ((j : Int) + 1) = ((j + 1 : Nat) : Int) := by rw [w64_eq (by omega)]; omega
    refine gm k3 fun c2 p2 hp2 => Ld.sl hp2.c ?_
    refine IdxS.cm hp2.cm (by omega) (by omega) fun x q hx hq => Ld.str hq.s (Ld.bool hq.tr (Ld.int hq.a ?_))
    rw [Int.toNat_natCast] at hx
    refine AlSt3 fun b6 w7 n7 => Draw.kp fun w8 e8 k8 => ?_
    have k38 := n7.keeps.trans k8
    have hb6 := k8.blk0 n7.at_
    refine gl (k3.trans k38) fun c3 p3 hp3 => LdK.sl hp3.c ?_
    refine IdxS.cm hp3.cm (by omega) (by omega) fun y q2 hy hq2 => ?_
    rw [Int.toNat_natCast, hx] at hy; cases hy
    refine LdK.str hq2.s (LdK.bool hq2.tr (LdK.int hq2.a (LdK.str (cell_of hb6 rfl) (LdK.bool (cell_of hb6 rfl) (LdK.int (cell_of hb6 rfl) ?_)))))
    simp only [beq_self_eq_true, Bool.and_self, Bool.not_true, Br_false]
    rw [ej]
    exact hR3 _ _ ⟨k3.trans k38, rfl, j + 1, rfl, by omega⟩ (by dsimp only; omega)
  · intro jj hjj
    refine Draw.kp fun w9 e9 k9 => ?_
    have k19 := k1.trans k9
    refine gl k19 fun c p hp => LdK.int hp.f (LdK.int hp.t (gm k19 fun c2 q hq => LdK.int hq.f (gm k19 fun c3 q3 hq3 => LdK.int hq3.t ?_)))
    simp only [beq_self_eq_true, Bool.and_self, Bool.not_true, Br_false]
    refine gl k19 fun c p hp => LdK.int hp.ln (gm k19 fun c2 q hq => LdK.int hq.ln ?_)
    rw [bne_self_eq_false, Br_false]
    refine gl k19 fun c p hp => LdK.sl hp.c (gm k19 fun c2 q hq => LdK.sl hq.c (hjj _ _ ⟨k19, ?_⟩))
    rw [hp.cn, hq.cn, bne_self_eq_false]

/-! ## The document's answer -/

theorem elRCm : Elem P T.sl_frisketref28_Comment T.frisketref28_Comment (.agg #[.string ⟨#[]⟩, .bool false, .int .i64 0]) 3 32 := ⟨by kernel_rfl, by kernel_rfl, rfl, by decide⟩
theorem elRGap : Elem P T.sl_frisketref28_Gap T.frisketref28_Gap (.agg #[.int .i64 0, .int .i64 0, .slice none 0 0, .int .i64 0]) 4 48 := ⟨by kernel_rfl, by kernel_rfl, rfl, by decide⟩

abbrev rgObj (f t : Int) (C : Sl) (ln : Nat) : Obj := .cells #[.int .i64 f, .int .i64 t, .slice C.a C.n C.c, .int .i64 ln] T.frisketref28_Gap (0, 0)

theorem foldL_le {text : ByteArray} {b : Bool} : ∀ (ls : List Tok) (pos : Int), 0 ≤ pos → Srt text.size pos ls → (foldL text b ls).1.length ≤ ls.length ∧ (foldL text b ls).2 ≤ text.size := by
  have key : ∀ (ls : List Tok) (pos : Int) (cm : List Cm) (ln : Nat), 0 ≤ pos → Srt text.size pos ls → (ls.foldl (stepL text b) (cm, ln)).1.length ≤ cm.length + ls.length ∧ ((ls.foldl (stepL text b) (cm, ln)).2 : Int) ≤ ln + (text.size - pos) := by
    intro ls
    induction ls with
    | nil => intro pos cm ln h0 h; have : pos ≤ text.size := h; exact ⟨by simp, by show (ln : Int) ≤ _; omega⟩
    | cons x ls ih =>
      rintro pos cm ln h0 ⟨h1, h2, h3⟩
      have hs := stepL_le (text := text) (b := b) (cm := cm) (ln := ln) (x := x)
      have h4 := h3.le.1
      rw [List.foldl_cons]
      generalize stepL text b (cm, ln) x = st at hs ⊢
      obtain ⟨cm', ln'⟩ := st
      have := ih x.t cm' ln' (by omega) h3
      dsimp only at hs
      exact ⟨by simp only [List.length_cons]; omega, by omega⟩
  intro ls pos h0 h
  have := key ls pos [] 0 h0 h
  refine ⟨by simpa [foldL] using this.1, ?_⟩
  have h2 : ((foldL text b ls).2 : Int) ≤ (0 : Nat) + (text.size - pos) := this.2
  omega
theorem Srt.sub {len : Int} : ∀ {ts : List Tok} {st : Int} (p : Tok → Bool), Srt len st ts → Srt len st (ts.filter p)
  | [], st, p, h => h
  | x :: ts, st, p, h => by
    obtain ⟨h1, h2, h3⟩ := h
    have ih := Srt.sub p h3
    rw [List.filter_cons]
    split
    · exact ⟨h1, h2, ih⟩
    · cases hf : ts.filter p with
      | nil => have := h3.le.1; show st ≤ len; omega
      | cons y l => rw [hf] at ih; exact ⟨by have := ih.1; omega, ih.2⟩
theorem Srt.take {len : Int} : ∀ {ts : List Tok} {st : Int} (i : Nat), Srt len st ts → Srt len st (ts.take i)
  | [], st, i, h => by simpa using h
  | x :: ts, st, 0, h => h.le.1
  | x :: ts, st, i + 1, h => ⟨h.1, h.2.1, h.2.2.take i⟩

section
variable {cs : List Cls} {text : ByteArray} {ts : List Tok}
theorem gapsOf_law (hsrt : Srt text.size 0 ts) : (gapsOf (layF cs) text ts).length = (ts.filter fun x => !layF cs x).length + 1 ∧
    ∀ k, k ≤ (ts.filter fun x => !layF cs x).length → (gapsOf (layF cs) text ts)[k]? = some (Rg.gap text ⟨fromK (ts.filter fun x => !layF cs x) 0 k, toK (ts.filter fun x => !layF cs x) text.size k, decide (0 < k), ts.filter (inGap (layF cs) (fromK (ts.filter fun x => !layF cs x) 0 k) (toK (ts.filter fun x => !layF cs x) text.size k))⟩) := by
  obtain ⟨h1, h2⟩ := rgs_law (layF cs) text.size ts 0 false [] hsrt
  refine ⟨by unfold gapsOf; rw [List.length_map, h1], fun k hk => ?_⟩
  unfold gapsOf
  rw [List.getElem?_map, h2 k hk]
  have e1 : (if k = 0 then false else true) = decide (0 < k) := by by_cases h : k = 0 <;> simp [h]; omega
  rw [e1]
  simp
end
end Go.Fk
end

section
set_option linter.unusedVariables false
namespace Go.Fk
open Go

/-! ## The document's answer: its gaps are those by the rule -/

theorem IdxS.cellT {t : Ty} {M : Nat → Prop} {w : World} {l : Sl} {xs : List t.T} {i : Int} {K : Addr → Prop} (h : SlT t (V M w) l xs) (h0 : 0 ≤ i) (h1 : i < xs.length)
    (hk : ∀ x p, xs[i.toNat]? = some x → w.cell? p = some (t.enc x) → K p) : IdxS l i 1 K := by
  obtain ⟨e1, e2⟩ := h
  have hlt : i.toNat < xs.length := by omega
  have hx : xs[i.toNat]? = some xs[i.toNat] := List.getElem?_eq_getElem hlt
  rcases e2 with rfl | ⟨b, off, cs, E, fr, e3, e4, e5⟩
  · simp at hlt
  · refine ⟨_, e3, ⟨h0, by omega⟩, hk _ _ hx ?_⟩
    rw [add_eq, Nat.mul_one]
    exact cell_of e4.2 (e5 _ _ hx)

theorem rcNum {l : Sl} {w : World} {base : Nat} {xs : List Tok} (h : Own w base T.frisketref09_Token 3 l (xs.map Tok.rc).flatten) : l.n = xs.length := by
  have := h.len; rw [flatten_len Tok.rlens] at this; simp at this; omega
theorem gvNum {l : Sl} {w : World} {base E : Nat} {xs : List GV} (h : Own w base E 4 l (xs.map GV.cells).flatten) : l.n = xs.length := by
  have := h.len; rw [flatten_len GV.lens] at this; simp at this; omega
theorem cmNum {l : Sl} {w : World} {base E : Nat} {xs : List Cm} (h : Own w base E 3 l (xs.map Cm.cells).flatten) : l.n = xs.length := by
  have := h.len; rw [flatten_len Cm.lens] at this; simp at this; omega
theorem Tok.rc_one (x : Tok) : ∀ u ∈ x.rc, u.oneCell' = true := fun u hu => by
  simp only [Tok.rc, List.mem_cons, List.not_mem_nil, or_false] at hu
  rcases hu with rfl | rfl | rfl <;> rfl

theorem layF_neg {cs : List Cls} {x : Tok} (h : x.c < 0) : layF cs x = false := by unfold layF; rw [if_neg (by omega)]
theorem layF_at {cs : List Cls} {x : Tok} {c : Cls} (h : 0 ≤ x.c) (hc : cs[x.c.toNat]? = some c) : layF cs x = c.lay := by unfold layF; rw [if_pos (by omega), hc]; rfl

set_option maxRecDepth 20000 in
theorem refFind_spec {w : World} {l lay : Sl} {text : ByteArray} {cs : List Cls} {ts : List Tok} (hl : SlC (V No w) l 3 (ts.map Tok.rc)) (hlay : SlT .bool (V No w) lay (cs.map Cls.lay)) (hc : ∀ x ∈ ts, x.c = -1 ∨ (0 ≤ x.c ∧ x.c < cs.length)) (hsrt : Srt text.size 0 ts) (hs : text.size ≤ 1000000) (hts : ts.length ≤ 1000000) {K : Sl → World → Prop}
    (hK : ∀ l' w', Keeps No w w' → SlGap (V No w') l' (gapsOf (layF cs) text ts) → K l' w') : frisketref28_Find.C l lay text w K := by
  have hln : l.n = ts.length := by have := hl.1; simpa using this
  obtain ⟨hg1, hg2⟩ := gapsOf_law (cs := cs) (text := text) hsrt
  refine frisketref28_Find.ok _ _ _ _ _ ?_
  simp only [frisketref28_Find.M]
  refine Loop.mk (fun t w' => Keeps No w w' ∧ ∃ i : Nat, t.2 = i ∧ i ≤ ts.length ∧ Own w' w.heap.size T.frisketref09_Token 3 t.1 (((ts.take i).filter fun x => !layF cs x).map Tok.rc).flatten) (fun t => ts.length - t.2.toNat) ⟨.refl, 0, rfl, by omega, Own.nil _ _ _ _⟩ ?_
  rintro ⟨sl, t⟩ w1 ⟨k1, i, hti, hi, ho⟩ R hR
  dsimp only at hti ho ⊢
  subst hti
  refine Br.mk (fun e => ?_) (fun e => ?_)
  · have hlt : i < ts.length := by have := of_decide_eq_true e; omega
    have hxi : ts[i]? = some ts[i] := List.getElem?_eq_getElem hlt
    generalize ts[i] = x at hxi
    have hcx := hc x (List.mem_of_getElem? hxi)
    have htk : ts.take (i + 1) = ts.take i ++ [x] := by rw [List.take_add_one, hxi]; rfl
    have ew : w64 ((i : Int) + 1) = ((i + 1 : Nat) : Int) := by rw [w64_eq (by omega)]; omega
    have hlen : ((ts.take i).filter fun x => !layF cs x).length ≤ i := Nat.le_trans (List.length_filter_le _ _) (List.length_take_le _ _)
    have gt : ∀ {Q : Addr → Prop}, (∀ p, (w1.cell? p = some (.int .i64 x.c) ∧ w1.cell? (p.add 1) = some (.int .i64 x.f) ∧ w1.cell? (p.add 2) = some (.int .i64 x.t)) → Q p) → IdxS l (i : Int) 3 Q := fun {Q} hq => IdxS.rtok (hl.mono (V.keeps0 k1)) (by omega) (by omega) fun y p hy hp => by
      rw [Int.toNat_natCast, hxi] at hy; cases hy; exact hq p hp
    refine Join.cut (fun b w' => w' = w1 ∧ b = !layF cs x) ?_ ?_
    · rintro b w1 ⟨rfl, rfl⟩
      rw [ew]
      refine Br.mk (fun e2 => ?_) (fun e2 => ?_)
      · refine gt fun p hp => Ld.int hp.1 (Ld.int hp.2.1 (Ld.int hp.2.2 (Al.mk fun b4 w3 n3 => ?_)))
        have s1 := k1.size; have s3 := n3.size
        have hn := rcNum ho
        refine appendC (c := x.rc) elRTok (ho.keep0 n3.keeps) rfl n3.at_ x.rc_one (by omega) (by omega) (by omega) fun l' w4 ho' _ k4 _ => ?_
        refine hR _ _ ⟨((k1.trans n3.keeps).no (M := No)).then k4 (fun q hq hb => by have := (ho.ge hb).1; omega), i + 1, rfl, by omega, ?_⟩ (by dsimp only; omega)
        rw [htk, List.filter_append]
        have e3 : [x].filter (fun x => !layF cs x) = [x] := by simp only [List.filter_cons, e2, if_true, List.filter_nil]
        rw [e3, List.map_append]; exact ho'
      · refine hR _ _ ⟨k1, i + 1, rfl, by omega, ?_⟩ (by dsimp only; omega)
        rw [htk, List.filter_append]
        have e3 : [x].filter (fun x => !layF cs x) = [] := by simp only [List.filter_cons, e2, Bool.false_eq_true, if_false, List.filter_nil]
        rw [e3, List.append_nil]; exact ho
    · intro j hj
      refine gt fun p hp => Ld.int hp.1 (Br.mk (fun e2 => hj _ _ ⟨rfl, ?_⟩) (fun e2 => ?_))
      · rw [layF_neg (of_decide_eq_true e2)]; rfl
      · have e2 : ¬ x.c < 0 := of_decide_eq_false e2
        refine gt fun p hp => Ld.int hp.1 (IdxS.get (hlay.mono (V.keeps0 k1)) (by omega) (by rw [List.length_map]; omega) fun y hy => hj _ _ ⟨rfl, ?_⟩)
        rw [List.getElem?_map] at hy
        obtain ⟨c, hcc, rfl⟩ := Option.map_eq_some_iff.1 hy
        rw [layF_at (by omega) hcc]
  · have hge : i = ts.length := by have := of_decide_eq_false e; omega
    subst hge
    rw [List.take_length] at ho
    generalize hss : (ts.filter fun x => !layF cs x) = ss at ho hg1 hg2
    have hsn := rcNum ho
    have hsl : ss.length ≤ ts.length := by rw [← hss]; exact List.length_filter_le _ _
    have hso : SlC (V No w1) sl 3 (ss.map Tok.rc) := ho.readsC (by omega) Tok.rlens fun _ _ h => h
    generalize hG : gapsOf (layF cs) text ts = G at hK hg1 hg2
    refine Loop.mk (fun t w' => Keeps No w1 w' ∧ ∃ (k : Nat) (vs : List GV), t.2 = k ∧ k ≤ ss.length + 1 ∧ Own w' w1.heap.size T.frisketref28_Gap 4 t.1 (vs.map GV.cells).flatten ∧ All2 (GapR (V t.1.blk w')) vs (G.take k)) (fun t => ss.length + 1 - t.2.toNat) ⟨.refl, 0, [], rfl, by omega, Own.nil _ _ _ _, .nil⟩ ?_
    rintro ⟨gl, t⟩ w5 ⟨k5, k, vs, htk, hk, hgo, hall⟩ R2 hR2
    dsimp only at htk hgo hall ⊢
    subst htk
    have hvl := hall.length
    rw [List.length_take] at hvl
    have hgn := gvNum hgo
    refine Br.mk (fun e2 => ?_) (fun e2 => ?_)
    · have hkl : k ≤ ss.length := by have := of_decide_eq_true e2; omega
      have hgk := hg2 k hkl
      have ekw : w64 ((k : Int) + 1) = ((k + 1 : Nat) : Int) := by rw [w64_eq (by omega)]; omega
      generalize hF : fromK ss 0 k = F at hgk
      generalize hT : toK ss text.size k = TT at hgk
      have gs : ∀ {w' : World} {j : Nat} {y : Tok} {Q : Addr → Prop}, Keeps No w1 w' → ss[j]? = some y → (∀ p, (w'.cell? p = some (.int .i64 y.c) ∧ w'.cell? (p.add 1) = some (.int .i64 y.f) ∧ w'.cell? (p.add 2) = some (.int .i64 y.t)) → Q p) → IdxS sl (j : Int) 3 Q := fun {w' j y Q} kk hy hq => IdxS.rtok (hso.mono (V.keeps0 kk)) (by omega) (by have := (List.getElem?_eq_some_iff.1 hy).1; omega) fun y' p hy' hp => by
        rw [Int.toNat_natCast, hy] at hy'; cases hy'; exact hq p hp
      refine AlSt4 fun b8 w10 n8 => ?_
      have e8 := n8.eq
      have s8 := n8.size
      refine Join.cut (fun (_ : Unit) w' => Keeps No w5 w' ∧ w5.heap.size + 1 ≤ w'.heap.size ∧ w'.heap[b8]? = some (rgObj F text.size ⟨none, 0, 0⟩ 0)) ?_ ?_
      · rintro _ w11 ⟨k11, z11, hat11⟩
        refine Join.cut (fun (_ : Unit) w' => Keeps No w5 w' ∧ w5.heap.size + 1 ≤ w'.heap.size ∧ w'.heap[b8]? = some (rgObj F TT ⟨none, 0, 0⟩ 0)) ?_ ?_
        · rintro _ w12 ⟨k12, z12, hat12⟩
          refine Loop.mk (fun t w' => Keeps No w5 w' ∧ w5.heap.size + 1 ≤ w'.heap.size ∧ ∃ (i : Nat) (C : Sl), t = i ∧ i ≤ ts.length ∧ w'.heap[b8]? = some (rgObj F TT C (foldL text (decide (0 < k)) ((ts.take i).filter (inGap (layF cs) F TT))).2) ∧ Own w' (b8 + 1) T.frisketref28_Comment 3 C ((foldL text (decide (0 < k)) ((ts.take i).filter (inGap (layF cs) F TT))).1.map Cm.cells).flatten) (fun t => ts.length - t.toNat)
            ⟨k12, z12, 0, ⟨none, 0, 0⟩, rfl, by omega, hat12, Own.nil _ _ _ _⟩ ?_
          rintro t w13 ⟨k13, z13, i, C, rfl, hi, hat, hC⟩ R3 hR3
          have hle := foldL_le (text := text) (b := decide (0 < k)) ((ts.take i).filter (inGap (layF cs) F TT)) 0 (by omega) ((hsrt.take i).sub _)
          have hle2 : ((ts.take i).filter (inGap (layF cs) F TT)).length ≤ i := Nat.le_trans (List.length_filter_le _ _) (List.length_take_le _ _)
          have hfold : ∀ x, ts[i]? = some x → inGap (layF cs) F TT x = true → foldL text (decide (0 < k)) ((ts.take (i + 1)).filter (inGap (layF cs) F TT)) = stepL text (decide (0 < k)) (foldL text (decide (0 < k)) ((ts.take i).filter (inGap (layF cs) F TT))) x := fun x hx hin => by
            rw [List.take_add_one, hx, List.filter_append, show (some x).toList.filter (inGap (layF cs) F TT) = [x] from by simp [hin], foldL_snoc]
          have hskip : ∀ x, ts[i]? = some x → inGap (layF cs) F TT x = false → (ts.take (i + 1)).filter (inGap (layF cs) F TT) = (ts.take i).filter (inGap (layF cs) F TT) := fun x hx hin => by
            rw [List.take_add_one, hx, List.filter_append, show (some x).toList.filter (inGap (layF cs) F TT) = [] from by simp [hin], List.append_nil]
          generalize hf0 : foldL text (decide (0 < k)) ((ts.take i).filter (inGap (layF cs) F TT)) = f0 at hat hC hle hfold
          obtain ⟨cm, ln⟩ := f0
          dsimp only at hat hC hle
          have hCn := cmNum hC
          have k113 := k5.trans k13
          have hb8 := lt_of_some hat
          refine Br.mk (fun e3 => ?_) (fun e3 => ?_)
          · have hlt : i < ts.length := by have := of_decide_eq_true e3; omega
            have hxi : ts[i]? = some ts[i] := List.getElem?_eq_getElem hlt
            generalize ts[i] = x at hxi
            have hcx := hc x (List.mem_of_getElem? hxi)
            have hxb := (hsrt.le).2 x (List.mem_of_getElem? hxi)
            have ew : w64 ((i : Int) + 1) = ((i + 1 : Nat) : Int) := by rw [w64_eq (by omega)]; omega
            have gt : ∀ {w' : World} {Q : Addr → Prop}, Keeps No w1 w' → (∀ p, (w'.cell? p = some (.int .i64 x.c) ∧ w'.cell? (p.add 1) = some (.int .i64 x.f) ∧ w'.cell? (p.add 2) = some (.int .i64 x.t)) → Q p) → IdxS l (i : Int) 3 Q := fun {w' Q} kk hq => IdxS.rtok (hl.mono (V.keeps0 (k1.trans kk))) (by omega) (by omega) fun y p hy hp => by
              rw [Int.toNat_natCast, hxi] at hy; cases hy; exact hq p hp
            refine Join.cut (fun b w' => Keeps No w13 w' ∧ b = !inGap (layF cs) F TT x) ?_ ?_
            · rintro b w14 ⟨k14, rfl⟩
              rw [ew]
              have hat14 := k14.blk0 hat
              have hC14 := hC.keep0 k14
              have z14 := k14.size
              have k514 := k13.trans k14
              refine Br.mk (fun e4 => ?_) (fun e4 => ?_)
              · have e4 : inGap (layF cs) F TT x = false := by simpa using e4
                refine hR3 _ _ ⟨k514, by omega, i + 1, C, rfl, by omega, ?_, ?_⟩ (by omega)
                · rw [hskip x hxi e4, hf0]; exact hat14
                · rw [hskip x hxi e4, hf0]; exact hC14
              · have e4 : inGap (layF cs) F TT x = true := by simpa using e4
                have hstep := hfold x hxi e4
                refine Draw.kp fun w15 e15 k15 => ?_
                have k115 := (k113.trans k14).trans k15
                refine gt k115 fun p hp => LdK.int hp.2.1 (gt k115 fun q hq => LdK.int hq.2.2 (App.midI (by omega) (by omega) (by omega) ⟨.refl, ?_⟩))
                have hcut : (cutT text x).size ≤ 1000000 := by
                  have := size_bs (cutT text x)
                  unfold cutT at this
                  rw [bs_cut, List.length_take] at this
                  unfold cutT; omega
                have hnl := nls_le text x
                refine ref28_Blank_spec (s := cutT text x) (by omega) ?_
                have hat15 := k15.blk0 hat14
                have hC15 := hC14.keep0 k15
                have z15 := k15.size
                refine Br.mk (fun e5 => ?_) (fun e5 => ?_)
                · have hst : stepL text (decide (0 < k)) (cm, ln) x = (cm, ln + nls (cutT text x)) := by unfold stepL; rw [e5]; rfl
                  rw [hst] at hstep
                  refine DrawN.mk fun w18 e18 k18 => ?_
                  have hat18 := k18.blk0 hat15
                  have ew2 : w64 ((ln : Int) + (nls (cutT text x) : Int)) = ((ln + nls (cutT text x) : Nat) : Int) := by rw [w64_eq (by omega)]; omega
                  have fin : St (⟨b8, 3, none⟩) (.int .i64 (w64 ((ln : Int) + (nls (cutT text x) : Int)))) w18 fun w20 => (True ∧ R3 (((i + 1 : Nat) : Int)) w20) := by
                    rw [ew2]
                    refine St.blk hat18 (by simp) fun w20 u20 => ⟨trivial, hR3 _ _ ⟨u20.keeps0 ((k514.trans k15).trans k18) (by omega), by have := u20.size; have := k18.size; omega, i + 1, C, rfl, by omega, ?_, ?_⟩ (by omega)⟩
                    · rw [hstep]; exact u20.at_
                    · rw [hstep]; exact (hC15.keep0 k18).keep u20.keeps (fun q hq hb => by subst hq; have := (hC.ge hb).1; omega)
                  have hcs : ∀ {w' : World} {Q : Int → World → Prop}, Q (nls (cutT text x) : Int) w' → frisketref28_count.C (text.extract x.f.toNat x.t.toNat) w' Q := fun hq => ref28_count_spec (s := cutT text x) (by omega) hq
                  exact ⟨Ld.int (cell_of hat18 rfl) ⟨trivial, hcs ⟨trivial, fin⟩⟩, hcs ⟨trivial, Ld.int (cell_of hat18 rfl) ⟨trivial, fin⟩⟩⟩
                · have hst : stepL text (decide (0 < k)) (cm, ln) x = (cm ++ [⟨cutT text x, decide (0 < k) && (ln == 0), x.f⟩], ln) := by unfold stepL; rw [e5]; rfl
                  rw [hst] at hstep
                  refine DrawN.mk fun w23 e23 k23 => ?_
                  have hat23 := k23.blk0 hat15
                  have hC23 := hC15.keep0 k23
                  have k123 := k115.trans k23
                  have z23 := k23.size
                  have k523 := (k514.trans k15).trans k23
                  have tail : ∀ {tr : Bool} {b' : Nat} {w9 : World}, tr = (decide (0 < k) && (ln == 0)) → New b' (.cells #[.string (cutT text x), .bool tr, .int .i64 x.f] T.frisketref28_Comment (0, 0)) w23 w9 →
                      App P (Builtin.append_ #[T.sl_frisketref28_Comment, T.sl_frisketref28_Comment] T.sl_frisketref28_Comment #[.slice C.a C.n C.c, .slice (some ⟨b', 0, none⟩) 1 1]) (.one .sl) w9 fun x152 w25 => (True ∧ St (⟨b8, 2, none⟩) (.slice x152.a x152.n x152.c) w25 fun w26 => (True ∧ R3 (((i + 1 : Nat) : Int)) w26)) := by
                    intro tr b' w9 htr n9
                    have z9 := n9.size
                    have h9 := hC23.keep0 n9.keeps
                    refine appendC (c := Cm.cells ⟨cutT text x, tr, x.f⟩) elRCm h9 rfl n9.at_ (Cm.one _) (by omega) (by omega) (by omega) fun C' w25 hC' _ k25 _ => ⟨trivial, ?_⟩
                    have hat25 := k25.blk (n9.keeps.blk0 hat23) (fun hq => by have := (hC.ge hq).1; omega)
                    refine St.blk hat25 (by simp) fun w26 u26 => ⟨trivial, hR3 _ _ ⟨?_, by have := u26.size; have := k25.size; omega, i + 1, C', rfl, by omega, ?_, ?_⟩ (by omega)⟩
                    · exact u26.keeps0 (((k523.trans n9.keeps).no (M := No)).then k25 fun q hq hb => by have := (hC.ge hb).1; omega) (by omega)
                    · rw [hstep]; exact u26.at_
                    · rw [hstep]
                      have := hC'.keep u26.keeps (fun q hq hb => by subst hq; have := (hC'.ge hb).1; omega)
                      rw [htr] at this
                      simpa using this
                  have LC : ∀ {y : World} {Q : Sl → Prop}, y.heap[b8]? = some (rgObj F TT C ln) → Q C → Ld .sl (⟨b8, 2, none⟩) y Q := fun hy hq => Ld.sl (cell_of hy rfl) hq
                  have LN : ∀ {Q : Int → Prop}, Q (ln : Int) → Ld (.int .i64) (⟨b8, 3, none⟩) w23 Q := fun hq => Ld.int (cell_of hat23 rfl) hq
                  have eln : ((ln : Int) == 0) = (ln == 0) := by rw [Bool.eq_iff_iff, beq_iff_eq, beq_iff_eq]; omega
                  refine Br.mk (fun e6 => ?_) (fun e6 => ?_)
                  · have hk0 : decide (0 < k) = true := decide_eq_true (by have := of_decide_eq_true e6; omega)
                    have htr : ((ln : Int) == 0) = (decide (0 < k) && (ln == 0)) := by rw [hk0, eln]; rfl
                    refine gt k123 fun p hp => ?_
                    have LF : ∀ {Q : Int → Prop}, Q x.f → Ld (.int .i64) (p.add 1) w23 Q := fun hq => Ld.int hp.2.1 hq
                    refine ⟨LC hat23 ⟨trivial, LN ⟨trivial, LF ⟨trivial, Al.mk fun b' w9 n9 => ⟨trivial, tail htr n9⟩⟩⟩, LF ⟨trivial, LN ⟨trivial, Al.mk fun b' w9 n9 => ⟨trivial, tail htr n9⟩⟩⟩⟩,
                      LN ⟨trivial, LC hat23 ⟨trivial, LF ⟨trivial, Al.mk fun b' w9 n9 => ⟨trivial, tail htr n9⟩⟩⟩, LF ⟨trivial, LC hat23 ⟨trivial, Al.mk fun b' w9 n9 => ⟨trivial, tail htr n9⟩⟩, Al.mk fun b' w9 n9 => ⟨trivial, LC (n9.keeps.blk0 hat23) ⟨trivial, tail htr n9⟩⟩⟩⟩,
                      LF ⟨trivial, LC hat23 ⟨trivial, LN ⟨trivial, Al.mk fun b' w9 n9 => ⟨trivial, tail htr n9⟩⟩⟩, LN ⟨trivial, LC hat23 ⟨trivial, Al.mk fun b' w9 n9 => ⟨trivial, tail htr n9⟩⟩, Al.mk fun b' w9 n9 => ⟨trivial, LC (n9.keeps.blk0 hat23) ⟨trivial, tail htr n9⟩⟩⟩⟩⟩
                  · have hk0 : decide (0 < k) = false := decide_eq_false (by have := of_decide_eq_false e6; omega)
                    have htr : false = (decide (0 < k) && (ln == 0)) := by rw [hk0]; rfl
                    refine gt k123 fun p hp => ?_
                    have LF : ∀ {Q : Int → Prop}, Q x.f → Ld (.int .i64) (p.add 1) w23 Q := fun hq => Ld.int hp.2.1 hq
                    refine ⟨LC hat23 ⟨trivial, LF ⟨trivial, Al.mk fun b' w9 n9 => ⟨trivial, tail htr n9⟩⟩, LF ⟨trivial, Al.mk fun b' w9 n9 => ⟨trivial, tail htr n9⟩⟩⟩,
                      ⟨LC hat23 ⟨trivial, LF ⟨trivial, Al.mk fun b' w9 n9 => ⟨trivial, tail htr n9⟩⟩⟩, LF ⟨trivial, LC hat23 ⟨trivial, Al.mk fun b' w9 n9 => ⟨trivial, tail htr n9⟩⟩, Al.mk fun b' w9 n9 => ⟨trivial, LC (n9.keeps.blk0 hat23) ⟨trivial, tail htr n9⟩⟩⟩⟩,
                      LF ⟨trivial, LC hat23 ⟨trivial, Al.mk fun b' w9 n9 => ⟨trivial, tail htr n9⟩⟩, LC hat23 ⟨trivial, Al.mk fun b' w9 n9 => ⟨trivial, tail htr n9⟩⟩, Al.mk fun b' w9 n9 => ⟨trivial, LC (n9.keeps.blk0 hat23) ⟨trivial, tail htr n9⟩⟩⟩⟩
            · intro j hj
              refine Draw.kp fun w72 e72 k72 => ?_
              have k172 := k113.trans k72
              have hat72 := k72.blk0 hat
              refine gt k172 fun p hp => LdK.int hp.2.1 (LdK.int (cell_of hat72 rfl) (Br.mk (fun c1 => hj _ _ ⟨k72, ?_⟩) (fun c1 => ?_)))
              · have c1 : x.f < F := of_decide_eq_true c1
                unfold inGap; rw [decide_eq_false (by omega)]; rfl
              have c1 : ¬ x.f < F := of_decide_eq_false c1
              refine gt k172 fun p hp => LdK.int hp.2.2 (LdK.int (cell_of hat72 rfl) (Br.mk (fun c2 => hj _ _ ⟨k72, ?_⟩) (fun c2 => ?_)))
              · have c2 : TT < x.t := of_decide_eq_true c2
                unfold inGap; rw [decide_eq_false (p := x.t ≤ TT) (by omega)]; simp
              have c2 : ¬ TT < x.t := of_decide_eq_false c2
              have hin : inGap (layF cs) F TT x = layF cs x := by unfold inGap; rw [decide_eq_true (by omega), decide_eq_true (by omega)]; rfl
              refine gt k172 fun p hp => LdK.int hp.1 (Br.mk (fun c3 => hj _ _ ⟨k72, ?_⟩) (fun c3 => ?_))
              · rw [hin, layF_neg (of_decide_eq_true c3)]; rfl
              have c3 : ¬ x.c < 0 := of_decide_eq_false c3
              refine gt k172 fun p hp => LdK.int hp.1 (IdxS.cellT (hlay.mono (V.keeps0 (k1.trans k172))) (by omega) (by rw [List.length_map]; omega) fun y q hy hq => LdK.bool hq (hj _ _ ⟨k72, ?_⟩))
              rw [List.getElem?_map] at hy
              obtain ⟨c, hcc, rfl⟩ := Option.map_eq_some_iff.1 hy
              rw [hin, layF_at (by omega) hcc]
          · have hge : i = ts.length := by have := of_decide_eq_false e3; omega
            subst hge
            rw [List.take_length] at hf0
            have hgk' : G[k]? = some ⟨F, TT, cm, ln⟩ := by
              rw [hgk]
              unfold Rg.gap
              rw [hf0]
            refine Ld.int (cell_of hat rfl) (Ld.int (cell_of hat rfl) (Ld.sl (cell_of hat rfl) (Ld.int (cell_of hat rfl) (Al.mk fun b35 w73 n35 => ?_))))
            have z35 := n35.size
            have k573 := k13.trans n35.keeps
            have hg73 := hgo.keep0 k573
            have hgb : ∀ q, gl.blk q → w1.heap.size ≤ q ∧ q < w5.heap.size := fun q hq => hgo.ge hq
            refine appendC (c := GV.cells ⟨F, TT, C, ln⟩) elRGap hg73 rfl n35.at_ (GV.one _) (by omega) (by omega) (by have := k5.size; omega) fun l' w74 hl' _ k74 hg' => ?_
            have hl'b : ∀ q, l'.blk q → gl.blk q ∨ w73.heap.size ≤ q := by
              rintro q ⟨a, ha, rfl⟩
              obtain ⟨g, hg, h6⟩ := hg'
              rw [hg] at ha; cases ha; exact h6
            rw [ekw]
            have hv : Vle (V gl.blk w73) (V l'.blk w74) := V.move k74 (fun q _ hq => hq) fun q hq hm => (hl'b q hm).resolve_right (by omega)
            refine hR2 _ _ ⟨((k5.trans k573).no (M := No)).then k74 (fun q hq hb => by have := (hgb q hb).1; omega), k + 1, vs ++ [⟨F, TT, C, ln⟩], rfl, by omega, by simpa using hl', ?_⟩ (by dsimp only; omega)
            dsimp only
            rw [List.take_add_one, hgk']
            refine All2.append (hall.mono fun _ _ y => (y.mono (V.keeps0 k573)).mono hv) (.cons ?_ .nil)
            refine ⟨rfl, rfl, rfl, ((hC.keep0 n35.keeps).readsC (by omega) Cm.lens fun q hq hm => ?_).mono hv⟩
            have h1 := (hC.ge hq).1
            have h2 := (hgb q hm).2
            omega
        · intro j hj
          refine Br.mk (fun e3 => ?_) (fun e3 => ?_)
          · have hlt : k < ss.length := by have := of_decide_eq_true e3; omega
            have hy := List.getElem?_eq_getElem hlt
            refine gs (k5.trans k11) hy fun p hp => Ld.int hp.2.1 (St.blk hat11 (by simp) fun w75 u75 => hj _ _ ⟨u75.keeps0 k11 (by omega), by have := u75.size; omega, ?_⟩)
            have eT : TT = (ss[k]).f := by rw [← hT]; unfold toK; rw [hy]; rfl
            rw [eT]
            exact u75.at_
          · have hge : ss.length ≤ k := by have := of_decide_eq_false e3; omega
            have eT : TT = text.size := by rw [← hT]; unfold toK; rw [List.getElem?_eq_none hge]; rfl
            exact hj _ _ ⟨k11, z11, by rw [eT]; exact hat11⟩
      · intro j hj
        refine Br.mk (fun e3 => ?_) (fun e3 => ?_)
        · have hk0 : 0 < k := by have := of_decide_eq_true e3; omega
          have ek : w64 ((k : Int) - 1) = ((k - 1 : Nat) : Int) := by rw [w64_eq (by omega)]; omega
          rw [ek]
          have hy := List.getElem?_eq_getElem (l := ss) (i := k - 1) (by omega)
          refine gs (k5.trans n8.keeps) hy fun p hp => Ld.int hp.2.2 (St.blk n8.at_ (by simp) fun w76 u76 => hj _ _ ⟨u76.keeps0 n8.keeps (by omega), by have := u76.size; omega, ?_⟩)
          have eF : F = (ss[k - 1]).t := by rw [← hF]; unfold fromK; rw [if_neg (by omega), hy]; rfl
          rw [eF]
          exact u76.at_
        · have hk0 : k = 0 := by have := of_decide_eq_false e3; omega
          have eF : F = 0 := by rw [← hF]; unfold fromK; rw [if_pos hk0]
          exact hj _ _ ⟨n8.keeps, by omega, by rw [eF]; exact n8.at_⟩
    · have hge : k = ss.length + 1 := by have := of_decide_eq_false e2; omega
      subst hge
      rw [List.take_of_length_le (by omega)] at hall
      exact hK gl w5 (k1.trans k5) ⟨vs, hgo.readsC (by omega) GV.lens (fun _ _ h => h), hall.mono fun _ _ y => y.mono (V.sub fun _ _ h => h.elim)⟩
end Go.Fk
end

section
set_option linter.unusedVariables false
namespace Go.Fk
open Go

/-! ## Expressions of the form xy* -/

def cpR (f g : Nat → Bool) : Re := .cat (.set f) (.star (.set g))
def pk (f g : Nat → Bool) (k : Nat) : Nat → Bool := if k = 0 then f else g
theorem cp_m {f g : Nat → Bool} {s : List UInt8} {t : Nat} : (cpR f g).m s 0 t ↔ 1 ≤ t ∧ ∀ k, k < t → ∃ c, s[k]? = some c ∧ pk f g k c.toNat = true := by
  constructor
  · rintro ⟨k, ⟨rfl, c, hc, hf⟩, h⟩
    obtain ⟨h1, h2⟩ := star_m.1 h
    refine ⟨h1, fun k hk => ?_⟩
    by_cases h0 : k = 0
    · subst h0; exact ⟨c, hc, hf⟩
    · obtain ⟨d, h3, h4⟩ := h2 k (by omega) hk
      exact ⟨d, h3, by unfold pk; rw [if_neg h0]; exact h4⟩
  · rintro ⟨h1, h2⟩
    obtain ⟨c, hc, hf⟩ := h2 0 (by omega)
    refine ⟨1, ⟨rfl, c, hc, hf⟩, star_m.2 ⟨h1, fun k hk0 hk => ?_⟩⟩
    obtain ⟨d, h3, h4⟩ := h2 k hk
    exact ⟨d, h3, by unfold pk at h4; rwa [if_neg (by omega)] at h4⟩
def cpB (f g : Nat → Bool) (s : List UInt8) (t : Nat) : Bool := decide (1 ≤ t) && (List.range t).all fun k => match s[k]? with | some c => pk f g k c.toNat | none => false
theorem cp_B {f g f' g' : Nat → Bool} (h : ∀ c, c < 256 → f c = f' c) (h' : ∀ c, c < 256 → g c = g' c) {s : List UInt8} {t : Nat} : (cpR f g).m s 0 t ↔ cpB f' g' s t = true := by
  rw [cp_m]
  unfold cpB
  simp only [Bool.and_eq_true, decide_eq_true_eq, List.all_eq_true, List.mem_range]
  refine and_congr_right fun _ => forall_congr' fun k => imp_congr_right fun _ => ?_
  have e : ∀ c : UInt8, pk f g k c.toNat = pk f' g' k c.toNat := fun c => by unfold pk; split; exact h _ c.toNat_lt; exact h' _ c.toNat_lt
  cases s[k]? with
  | none => simp
  | some c => simp [e c]
def cpAt (gs : List ((Nat → Bool) × (Nat → Bool))) (s : List UInt8) (t i : Nat) : Bool := match gs[i]? with
  | some g => cpB g.1 g.2 s t
  | none => false
def CpOf (y : Re) (g : (Nat → Bool) × (Nat → Bool)) : Prop := ∃ f f', y = cpR f f' ∧ (∀ c, c < 256 → f c = g.1 c) ∧ ∀ c, c < 256 → f' c = g.2 c
theorem means_cp {ys : List Re} {gs : List ((Nat → Bool) × (Nat → Bool))} (h : All2 CpOf ys gs) {s : List UInt8} {t i : Nat} : Means ys s t i ↔ cpAt gs s t i = true := by
  unfold cpAt
  constructor
  · rintro ⟨y, hy, hm⟩
    obtain ⟨g, hg, f, f', rfl, hf, hf'⟩ := h.get _ _ hy
    rw [hg]
    exact (cp_B hf hf').1 hm
  · intro hp
    cases hg : gs[i]? with
    | none => rw [hg] at hp; cases hp
    | some g =>
      rw [hg] at hp
      obtain ⟨y, hy, f, f', rfl, hf, hf'⟩ := h.get2 _ _ hg
      exact ⟨_, hy, (cp_B hf hf').2 hp⟩
theorem rule_cp {cs : List Cls} {i : Nat} {c : Cls} (hc : cs[i]? = some c) (hname : NameOK (bs c.n)) (hd : ∀ (j : Nat) c', j < i → cs[j]? = some c' → c'.n ≠ c.n) {f g : Nat → Bool} (hp : parseF (bs c.rx) = (cpR f g, 0, 0)) {b : UInt8} (hf : f b.toNat = true) : RuleOK cs i := by
  refine ⟨c, hc, hname, hd, by rw [hp], by unfold reOf; rw [hp]; rfl, ?_⟩
  unfold reOf; rw [hp]
  refine ⟨[b], by simp, cp_m.2 ⟨by simp, fun k hk => ?_⟩⟩
  have : k = 0 := by simpa using hk
  subst this
  exact ⟨b, rfl, hf⟩

/-! ## The document's example: letters, blanks, comments -/

def cW2 : Cls := ⟨⟨#[119, 115]⟩, ⟨#[91, 92, 115, 92, 110, 93, 43]⟩, true⟩
def cCm : Cls := ⟨⟨#[99]⟩, ⟨#[35, 91, 97, 45, 122, 92, 115, 93, 42]⟩, true⟩
def cs28 : List Cls := [cId, cW2, cCm]
def gW2 (c : Nat) : Bool := decide (c = 32) || decide (c = 10)
def gHash (c : Nat) : Bool := decide (c = 35)
def gCm (c : Nat) : Bool := gId c || decide (c = 32)
theorem q0 : ∃ f g, parseF (bs cId.rx) = (cpR f g, 0, 0) ∧ (∀ c, c < 256 → f c = gId c) ∧ ∀ c, c < 256 → g c = gId c := ⟨_, _, rfl, by decide +kernel, by decide +kernel⟩
theorem q1 : ∃ f g, parseF (bs cW2.rx) = (cpR f g, 0, 0) ∧ (∀ c, c < 256 → f c = gW2 c) ∧ ∀ c, c < 256 → g c = gW2 c := ⟨_, _, rfl, by decide +kernel, by decide +kernel⟩
theorem q2 : ∃ f g, parseF (bs cCm.rx) = (cpR f g, 0, 0) ∧ (∀ c, c < 256 → f c = gHash c) ∧ ∀ c, c < 256 → g c = gCm c := ⟨_, _, rfl, by decide +kernel, by decide +kernel⟩
def gs28 : List ((Nat → Bool) × (Nat → Bool)) := [(gId, gId), (gW2, gW2), (gHash, gCm)]

theorem rules28 : ∀ i, i < cs28.length → RuleOK cs28 i := by
  obtain ⟨f0, g0, p0, h0, _⟩ := q0
  obtain ⟨f1, g1, p1, h1, _⟩ := q1
  obtain ⟨f2, g2, p2, h2, _⟩ := q2
  intro i hi
  rcases i with _ | _ | _ | i
  · exact rule_cp (c := cId) rfl (nameOK_of (by decide) (by decide) (by decide)) (fun j c' hj => by omega) p0 (b := 97) (h0 97 (by omega))
  · refine rule_cp (c := cW2) rfl (nameOK_of (by decide) (by decide) (by decide)) (fun j c' hj hc' => ?_) p1 (b := 32) (h1 32 (by omega))
    rcases j with _ | j
    · cases hc'; decide
    · omega
  · refine rule_cp (c := cCm) rfl (nameOK_of (by decide) (by decide) (by decide)) (fun j c' hj hc' => ?_) p2 (b := 35) (h2 35 (by omega))
    rcases j with _ | _ | j
    · cases hc'; decide
    · cases hc'; decide
    · omega
  · simp [cs28] at hi; omega
theorem ys28 : All2 CpOf (ysOf cs28) gs28 := by
  obtain ⟨f0, g0, p0, h0, h0'⟩ := q0
  obtain ⟨f1, g1, p1, h1, h1'⟩ := q1
  obtain ⟨f2, g2, p2, h2, h2'⟩ := q2
  refine .cons ⟨f0, g0, ?_, h0, h0'⟩ (.cons ⟨f1, g1, ?_, h1, h1'⟩ (.cons ⟨f2, g2, ?_, h2, h2'⟩ .nil))
  · unfold reOf; rw [p0]
  · unfold reOf; rw [p1]
  · unfold reOf; rw [p2]
theorem cnt_cp {ys : List Re} {gs : List ((Nat → Bool) × (Nat → Bool))} (h : All2 CpOf ys gs) : mCnt ys = 2 * gs.length := by
  induction h with
  | nil => rfl
  | cons h _ ih =>
    obtain ⟨f, f', rfl, _⟩ := h
    simp only [mCnt, List.map_cons, List.sum_cons, List.length_cons] at ih ⊢
    rw [ih]
    simp [cpR, Re.cnt]; omega
theorem small28 : ∀ c ∈ cs28, Small c.rx ∧ c.n.size ≤ maxLen := by
  intro c hc
  simp only [cs28, List.mem_cons, List.not_mem_nil, or_false] at hc
  rcases hc with rfl | rfl | rfl <;> exact ⟨by unfold Small; decide, by decide⟩

theorem New28 {w : World} {K : (Option Addr × Int × Int) → World → Prop} (hok : ∀ s ms w', Keeps No w w' → ScanW (V No w') s cs28 ms → Sound cs28 ms → K (s, 3, 0) w') : frisketlaw28_classes.C w fun x w1 => scan_New.C x w1 K := by
  refine frisketlaw28_classes.ok _ _ ?_
  simp only [frisketlaw28_classes.M]
  refine Al.mk fun b w1 n1 => ?_
  exact New_ok (M := No) (cs := cs28) (cells_cls rfl ⟨id, n1.at_⟩) (by decide) (by simp [cs28]) small28 rules28 (by rw [cnt_cp ys28]; decide) fun s ms w' k hs hS => hok s ms w' (n1.keeps.trans k) hs hS

def ex28 : ByteArray := ⟨#[97, 32, 35, 120, 10, 98]⟩
def ex28s : List UInt8 := [97, 32, 35, 120, 10, 98]
theorem tokF_f {ms : List LSt} {s : List UInt8} {i : Nat} : (tokF ms s i).f = i := rfl
theorem tok28 {ms : List LSt} (h : Sound cs28 ms) : ((tokF ms ex28s 0).c = 0 ∧ (tokF ms ex28s 0).t = 1) ∧ ((tokF ms ex28s 1).c = 1 ∧ (tokF ms ex28s 1).t = 2) ∧ ((tokF ms ex28s 2).c = 2 ∧ (tokF ms ex28s 2).t = 4) ∧ ((tokF ms ex28s 4).c = 1 ∧ (tokF ms ex28s 4).t = 5) ∧ ((tokF ms ex28s 5).c = 0 ∧ (tokF ms ex28s 5).t = 6) := by
  have hm : ∀ s t i, Means (ysOf cs28) s t i ↔ cpAt gs28 s t i = true := fun s t i => means_cp ys28
  refine ⟨h.tok_is (i := 0) (by decide) (r := 0) (z := 1) (LawBest.of (t := 1) (i := 0) (hm _) (by decide) (by decide) (by decide)),
    h.tok_is (i := 1) (by decide) (r := 1) (z := 1) (LawBest.of (t := 1) (i := 1) (hm _) (by decide) (by decide) (by decide)),
    h.tok_is (i := 2) (by decide) (r := 2) (z := 2) (LawBest.of (t := 2) (i := 2) (hm _) (by decide) (by decide) (by decide)),
    h.tok_is (i := 4) (by decide) (r := 1) (z := 1) (LawBest.of (t := 1) (i := 1) (hm _) (by decide) (by decide) (by decide)),
    h.tok_is (i := 5) (by decide) (r := 0) (z := 1) (LawBest.of (t := 1) (i := 0) (hm _) (by decide) (by decide) (by decide))⟩
theorem toks28 {ms : List LSt} (h : Sound cs28 ms) : ∃ l0 l1 l2 l3 l4, toksOf ms ex28s = [⟨0, 0, 1, l0⟩, ⟨1, 1, 2, l1⟩, ⟨2, 2, 4, l2⟩, ⟨1, 4, 5, l3⟩, ⟨0, 5, 6, l4⟩] := by
  obtain ⟨⟨a0, b0⟩, ⟨a1, b1⟩, ⟨a2, b2⟩, ⟨a3, b3⟩, a4, b4⟩ := tok28 h
  have g := goes_tok (ms := ms) (s := ex28s)
  have mk : ∀ {x : Tok} {c f t : Int}, x.c = c → x.f = f → x.t = t → x = ⟨c, f, t, x.l⟩ := by rintro ⟨c, f, t, l⟩ _ _ _ rfl rfl rfl; rfl
  refine ⟨(tokF ms ex28s 0).l, (tokF ms ex28s 1).l, (tokF ms ex28s 2).l, (tokF ms ex28s 4).l, (tokF ms ex28s 5).l, ?_⟩
  have e0 : tokF ms ex28s 0 = ⟨0, 0, 1, (tokF ms ex28s 0).l⟩ := mk a0 rfl b0
  have e1 : tokF ms ex28s 1 = ⟨1, 1, 2, (tokF ms ex28s 1).l⟩ := mk a1 rfl b1
  have e2 : tokF ms ex28s 2 = ⟨2, 2, 4, (tokF ms ex28s 2).l⟩ := mk a2 rfl b2
  have e3 : tokF ms ex28s 4 = ⟨1, 4, 5, (tokF ms ex28s 4).l⟩ := mk a3 rfl b3
  have e4 : tokF ms ex28s 5 = ⟨0, 5, 6, (tokF ms ex28s 5).l⟩ := mk a4 rfl b4
  rw [← e0, ← e1, ← e2, ← e3, ← e4]
  unfold toksOf
  rw [toks_step g (by decide), b0, show ((1 : Int)).toNat = 1 from rfl, toks_step g (by decide), b1, show ((2 : Int)).toNat = 2 from rfl, toks_step g (by decide), b2, show ((4 : Int)).toNat = 4 from rfl, toks_step g (by decide), b3, show ((5 : Int)).toNat = 5 from rfl, toks_step g (by decide), b4, toks_end (by decide)]
theorem gaps28 {ms : List LSt} (h : Sound cs28 ms) : gapsOf (layF cs28) ex28 (toksOf ms ex28s) = [⟨0, 0, [], 0⟩, ⟨1, 5, [⟨ex28.extract 2 4, true, 2⟩], 1⟩, ⟨6, 6, [], 0⟩] := by
  obtain ⟨l0, l1, l2, l3, l4, e⟩ := toks28 h
  rw [e]
  rfl

theorem awake28_spec {w : World} {K : Bool → World → Prop} (hK : ∀ w', Keeps No w w' → K true w') : frisketlaw28_awake.C w K := by
  refine frisketlaw28_awake.ok _ _ ?_
  simp only [frisketlaw28_awake.M]
  refine New28 fun s ms w2 k2 ⟨N, of_, hs⟩ hS => ?_
  refine Find_spec (text := ex28) hs hS (by decide) (by decide) fun l w3 k3 hl => ?_
  rw [show bs ex28 = ex28s from rfl, gaps28 hS] at hl
  have hn : l.n = 3 := hl.n
  dsimp only
  rw [hn]
  simp only [beq_self_eq_true, Br_true, show (((3 : Nat) : Int) == 3) = true from rfl]
  refine Count_spec hl (by decide) (by decide) fun w4 k4 => ?_
  refine Br.mk (fun _ => ?_) (fun e => (by cases e))
  have hl4 := hl.mono (V.keeps0 k4)
  have gg : ∀ {Q : Addr → Prop}, (∀ c p, GapC No w4 p ⟨1, 5, [⟨ex28.extract 2 4, true, 2⟩], 1⟩ c → Q p) → IdxS l 1 4 Q := fun {Q} hq => IdxS.gap hl4 (by omega) (by decide) fun g c p hg hp => by
    cases hg; exact hq c p hp
  refine gg fun c p hp => Ld.sl hp.c ?_
  have hcn : c.n = 1 := hp.cn
  dsimp only
  rw [hcn]
  refine Br.mk (fun _ => ?_) (fun e => (by cases e))
  refine gg fun c2 p2 hp2 => Ld.sl hp2.c (IdxS.cm hp2.cm (by omega) (by decide) fun x q hx hq => ?_)
  cases hx
  refine Ld.bool hq.tr ?_
  rw [Br_true]
  refine gg fun c3 p3 hp3 => Ld.sl hp3.c (IdxS.cm hp3.cm (by omega) (by decide) fun x q hx hq => ?_)
  cases hx
  refine Ld.str hq.s ?_
  have e : ((ex28.extract 2 4).toList == (⟨#[35, 120]⟩ : ByteArray).toList) = true := strEq_bs.2 rfl
  dsimp only
  rw [e]
  exact hK w4 ((k2.trans k3).trans k4)
end Go.Fk
end

section
set_option linter.unusedVariables false
namespace Go.Fk
open Go

/-! ## Whether two lists are alike, element by element -/

def eqf {α : Type} (f : α → α → Bool) (xs ys : List α) : Bool := (xs.length == ys.length) && (xs.zip ys).all fun p => f p.1 p.2
section
variable {α : Type} {f : α → α → Bool} {xs ys : List α}
theorem zall_step {i : Nat} {x y : α} (hx : xs[i]? = some x) (hy : ys[i]? = some y) : ((xs.zip ys).take (i + 1)).all (fun p => f p.1 p.2) = (((xs.zip ys).take i).all (fun p => f p.1 p.2) && f x y) := by
  have : (xs.zip ys)[i]? = some (x, y) := List.getElem?_zip_eq_some.2 ⟨hx, hy⟩
  rw [List.take_add_one, this, List.all_append]; simp
theorem zall_end : ((xs.zip ys).take xs.length).all (fun p => f p.1 p.2) = (xs.zip ys).all (fun p => f p.1 p.2) := by
  rw [List.take_of_length_le (by rw [List.length_zip]; omega)]
theorem eqf_no {i : Nat} (h : ((xs.zip ys).take i).all (fun p => f p.1 p.2) = false) : eqf f xs ys = false := by
  rw [List.all_eq_false] at h
  obtain ⟨p, hp, hf⟩ := h
  unfold eqf
  rw [show (xs.zip ys).all (fun p => f p.1 p.2) = false from List.all_eq_false.2 ⟨p, List.mem_of_mem_take hp, hf⟩, Bool.and_false]
theorem eqf_end (hl : xs.length = ys.length) (h : ((xs.zip ys).take xs.length).all (fun p => f p.1 p.2) = true) : eqf f xs ys = true := by
  unfold eqf
  rw [← zall_end, h, hl]; simp
theorem eqf_len (hl : xs.length ≠ ys.length) : eqf f xs ys = false := by
  unfold eqf
  rw [beq_eq_false_iff_ne.2 hl]; rfl
theorem eqf_refl (hf : ∀ x, f x x = true) : eqf f xs xs = true := by
  unfold eqf
  simp only [beq_self_eq_true, Bool.true_and, List.all_eq_true]
  rintro ⟨a, b⟩ hp
  obtain ⟨i, hi⟩ := List.getElem?_of_mem hp
  obtain ⟨h1, h2⟩ := List.getElem?_zip_eq_some.1 hi
  have : a = b := by rw [h1] at h2; exact Option.some.inj h2
  subst this
  exact hf a
end

def eqC (x y : Cm) : Bool := (x.s.toList == y.s.toList) && (x.tr == y.tr)
def eqG (g h : AG) : Bool := eqf eqC g.cm h.cm
theorem eqC_refl (x : Cm) : eqC x x = true := by unfold eqC; simp
theorem eqG_refl (x : AG) : eqG x x = true := eqf_refl eqC_refl

structure ArgC (M : Nat → Prop) (w : World) (p : Addr) (g : AG) : Prop where
  f : w.cell? p = some (.int .i64 g.v.f)
  t : w.cell? (p.add 1) = some (.int .i64 g.v.t)
  c : w.cell? (p.add 2) = some (.slice g.v.l.a g.v.l.n g.v.l.c)
  ln : w.cell? (p.add 3) = some (.int .i64 g.v.ln)
  cm : SlC (V M w) g.v.l 3 (g.cm.map Cm.cells)
  le : g.cm.length ≤ maxLen
theorem ArgC.cn {M : Nat → Prop} {w : World} {p : Addr} {g : AG} (h : ArgC M w p g) : g.v.l.n = g.cm.length := by have := h.cm.1; simpa using this
theorem SlArg.n {H : View} {l : Sl} {gs : List AG} (h : SlArg H l gs) : l.n = gs.length := by have := h.1.1; simpa using this
theorem IdxS.arg {M : Nat → Prop} {w : World} {l : Sl} {gs : List AG} {i : Int} {K : Addr → Prop} (h : SlArg (V M w) l gs) (h0 : 0 ≤ i) (h1 : i < gs.length)
    (hk : ∀ g p, gs[i.toNat]? = some g → ArgC M w p g → K p) : IdxS l i 4 K := by
  refine IdxS.recd (M := M) h.1 h0 (by simpa using h1) fun b off c hc hcell => ?_
  rw [List.getElem?_map] at hc
  obtain ⟨g, hg, rfl⟩ := Option.map_eq_some_iff.1 hc
  have hh := h.2 g (List.mem_of_getElem? hg)
  refine hk g _ hg ⟨?_, ?_, ?_, ?_, hh.1, ?_⟩
  · exact hcell 0 _ rfl
  · rw [add_eq]; exact hcell 1 _ rfl
  · rw [add_eq]; exact hcell 2 _ rfl
  · rw [add_eq]; exact hcell 3 _ rfl
  · have := hh.1.1; have h2 := hh.2; simp only [List.length_map] at this; omega

theorem alike1_spec {w : World} {x y : Cm} {K : Bool → World → Prop} (hK : ∀ w', Keeps No w w' → K (eqC x y) w') : trivia_alike_S1.C (x.s, x.tr, x.a) (y.s, y.tr, y.a) w K := by
  refine trivia_alike_S1.ok _ _ _ _ ?_
  simp only [trivia_alike_S1.M]
  refine Al.mk fun b1 w1 n1 => Al.mk fun b2 w2 n2 => ?_
  have hb1 := n2.keeps.blk0 n1.at_
  have k := n1.keeps.trans n2.keeps
  refine Ld.str (cell_of hb1 rfl) (Ld.str (cell_of n2.at_ rfl) (Br.mk (fun e => Ld.bool (cell_of hb1 rfl) (Ld.bool (cell_of n2.at_ rfl) ?_)) (fun e => ?_)))
  · have := hK w2 k
    unfold eqC at this
    rw [e] at this
    exact this
  · have := hK w2 k
    unfold eqC at this
    rw [e] at this
    exact this

theorem EqualFunc_cm {w : World} {l m : Sl} {xs ys : List Cm} (hl : SlC (V No w) l 3 (xs.map Cm.cells)) (hm : SlC (V No w) m 3 (ys.map Cm.cells)) (hx : xs.length ≤ maxLen) {K : Bool → World → Prop} (hK : ∀ w', Keeps No w w' → K (eqf eqC xs ys) w') :
    slices_EqualFunc_trivia_Comment.C l m (.func (.func FN.trivia_alike_S1) #[] #[] : Value) w K := by
  have hmx : maxLen = 9223372036854775807 := rfl
  have hln : l.n = xs.length := by have := hl.1; simpa using this
  have hmn : m.n = ys.length := by have := hm.1; simpa using this
  refine slices_EqualFunc_trivia_Comment.ok _ _ _ _ _ ?_
  simp only [slices_EqualFunc_trivia_Comment.M]
  refine Br.mk (fun e => ?_) (fun e => ?_)
  · have : xs.length ≠ ys.length := fun h => by rw [hln, hmn, h] at e; simp at e
    have h := hK w .refl
    rw [eqf_len this] at h; exact h
  have hxy : xs.length = ys.length := by have := bne_eq_false_iff_eq.1 e; omega
  refine Loop.mk (fun t w' => Keeps No w w' ∧ ∃ i : Nat, t = i ∧ i ≤ xs.length ∧ ((xs.zip ys).take i).all (fun p => eqC p.1 p.2) = true) (fun t => xs.length - t.toNat) ⟨.refl, 0, rfl, by omega, rfl⟩ ?_
  rintro t w1 ⟨k1, i, rfl, hi, hall⟩ R hR
  refine Br.mk (fun e2 => ?_) (fun e2 => ?_)
  · have hlt : i < xs.length := by have := of_decide_eq_true e2; omega
    refine IdxS.cm (hl.mono (V.keeps0 k1)) (by omega) (by omega) fun x p hxx hp => Ld.str hp.s (Ld.bool hp.tr (Ld.int hp.a ?_))
    refine AlSt3 fun b3 w5 n5 => IdxS.cm (hm.mono (V.keeps0 (k1.trans n5.keeps))) (by omega) (by omega) fun y q hyy hq => Ld.str hq.s (Ld.bool hq.tr (Ld.int hq.a ?_))
    refine AlSt3 fun b4 w9 n9 => ?_
    have hb3 := n9.keeps.blk0 n5.at_
    rw [Int.toNat_natCast] at hxx hyy
    refine Ld.str (cell_of hb3 rfl) (Ld.bool (cell_of hb3 rfl) (Ld.int (cell_of hb3 rfl) (Ld.str (cell_of n9.at_ rfl) (Ld.bool (cell_of n9.at_ rfl) (Ld.int (cell_of n9.at_ rfl) ?_)))))
    refine ⟨FN.trivia_alike_S1, #[], #[], rfl, by kernel_rfl, ?_⟩
    have k19 := (k1.trans n5.keeps).trans n9.keeps
    refine alike1_spec (x := x) (y := y) fun w10 k10 => ?_
    have hst := zall_step (f := eqC) hxx hyy
    rw [hall, Bool.true_and] at hst
    refine Br.mk (fun e3 => ?_) (fun e3 => ?_)
    · have e3 : eqC x y = false := by simpa using e3
      have h := hK w10 (k19.trans k10)
      rw [eqf_no (hst.trans e3)] at h; exact h
    · have e3 : eqC x y = true := by simpa using e3
      rw [w64_eq (by omega)]
      exact hR _ _ ⟨k19.trans k10, i + 1, by omega, by omega, hst.trans e3⟩ (by omega)
  · have hge : i = xs.length := by have := of_decide_eq_false e2; omega
    subst hge
    have h := hK w1 k1
    rw [eqf_end hxy hall] at h; exact h

theorem alike_spec {w : World} {g h : AG} (hg : SlC (V No w) g.v.l 3 (g.cm.map Cm.cells)) (hh : SlC (V No w) h.v.l 3 (h.cm.map Cm.cells)) (hx : g.cm.length ≤ maxLen) {K : Bool → World → Prop} (hK : ∀ w', Keeps No w w' → K (eqG g h) w') :
    trivia_alike.C (g.v.f, g.v.t, g.v.l, g.v.ln) (h.v.f, h.v.t, h.v.l, h.v.ln) w K := by
  refine trivia_alike.ok _ _ _ _ ?_
  simp only [trivia_alike.M]
  refine Al.mk fun b1 w1 n1 => Al.mk fun b2 w2 n2 => ?_
  have k := n1.keeps.trans n2.keeps
  refine Ld.sl (cell_of (n2.keeps.blk0 n1.at_) rfl) (Ld.sl (cell_of n2.at_ rfl) ?_)
  exact EqualFunc_cm (hg.mono (V.keeps0 k)) (hh.mono (V.keeps0 k)) hx fun w' k' => hK w' (k.trans k')

theorem Same_spec {w : World} {l m : Sl} {xs ys : List AG} (hl : SlArg (V No w) l xs) (hm : SlArg (V No w) m ys) (hx : xs.length ≤ maxLen) {K : Bool → World → Prop} (hK : ∀ w', Keeps No w w' → K (eqf eqG xs ys) w') : trivia_Same.C l m w K := by
  have hmx : maxLen = 9223372036854775807 := rfl
  have hln := hl.n
  have hmn := hm.n
  refine trivia_Same.ok _ _ _ _ ?_
  simp only [trivia_Same.M]
  refine slices_EqualFunc_trivia_Gap.ok _ _ _ _ _ ?_
  simp only [slices_EqualFunc_trivia_Gap.M]
  refine Br.mk (fun e => ?_) (fun e => ?_)
  · have : xs.length ≠ ys.length := fun h => by rw [hln, hmn, h] at e; simp at e
    have h := hK w .refl
    rw [eqf_len this] at h; exact h
  have hxy : xs.length = ys.length := by have := bne_eq_false_iff_eq.1 e; omega
  refine Loop.mk (fun t w' => Keeps No w w' ∧ ∃ i : Nat, t = i ∧ i ≤ xs.length ∧ ((xs.zip ys).take i).all (fun p => eqG p.1 p.2) = true) (fun t => xs.length - t.toNat) ⟨.refl, 0, rfl, by omega, rfl⟩ ?_
  rintro t w1 ⟨k1, i, rfl, hi, hall⟩ R hR
  refine Br.mk (fun e2 => ?_) (fun e2 => ?_)
  · have hlt : i < xs.length := by have := of_decide_eq_true e2; omega
    refine IdxS.arg (hl.mono (V.keeps0 k1)) (by omega) (by omega) fun g p hgg hp => Ld.int hp.f (Ld.int hp.t (Ld.sl hp.c (Ld.int hp.ln ?_)))
    refine AlSt4 fun b3 w6 n6 => IdxS.arg (hm.mono (V.keeps0 (k1.trans n6.keeps))) (by omega) (by omega) fun h q hhh hq => Ld.int hq.f (Ld.int hq.t (Ld.sl hq.c (Ld.int hq.ln ?_)))
    refine AlSt4 fun b4 w11 n11 => ?_
    have hb3 := n11.keeps.blk0 n6.at_
    rw [Int.toNat_natCast] at hgg hhh
    refine Ld.int (cell_of hb3 rfl) (Ld.int (cell_of hb3 rfl) (Ld.sl (cell_of hb3 rfl) (Ld.int (cell_of hb3 rfl) (Ld.int (cell_of n11.at_ rfl) (Ld.int (cell_of n11.at_ rfl) (Ld.sl (cell_of n11.at_ rfl) (Ld.int (cell_of n11.at_ rfl) ?_)))))))
    refine ⟨FN.trivia_alike, #[], #[], rfl, by kernel_rfl, ?_⟩
    have k111 := (k1.trans n6.keeps).trans n11.keeps
    refine alike_spec (g := g) (h := h) (hp.cm.mono (V.keeps0 (n6.keeps.trans n11.keeps))) (hq.cm.mono (V.keeps0 n11.keeps)) hp.le fun w12 k12 => ?_
    have hst := zall_step (f := eqG) hgg hhh
    rw [hall, Bool.true_and] at hst
    refine Br.mk (fun e3 => ?_) (fun e3 => ?_)
    · have e3 : eqG g h = false := by simpa using e3
      have hh := hK w12 (k111.trans k12)
      rw [eqf_no (hst.trans e3)] at hh; exact hh
    · have e3 : eqG g h = true := by simpa using e3
      rw [w64_eq (by omega)]
      exact hR _ _ ⟨k111.trans k12, i + 1, by omega, by omega, hst.trans e3⟩ (by omega)
  · have hge : i = xs.length := by have := of_decide_eq_false e2; omega
    subst hge
    have h := hK w1 k1
    rw [eqf_end hxy hall] at h; exact h

theorem TriviaSame_spec {w : World} {l m : Sl} {xs ys : List AG} (hl : SlArg (V No w) l xs) (hm : SlArg (V No w) m ys) {K : Bool → World → Prop} (hK : ∀ w', Keeps No w w' → K true w') : frisketlaw28_TriviaSame.C l m w K := by
  have hmx : maxLen = 9223372036854775807 := rfl
  have hln := hl.n
  have hmn := hm.n
  refine frisketlaw28_TriviaSame.ok _ _ _ _ ?_
  simp only [frisketlaw28_TriviaSame.M]
  refine Join.cut (fun b w1 => w1 = w ∧ (b = false → xs.length ≤ 30 ∧ ys.length ≤ 30)) ?_ ?_
  · rintro b w ⟨rfl, hb⟩
    refine Br.mk (fun _ => awake28_spec hK) (fun hbf => ?_)
    obtain ⟨hx, hy⟩ := hb hbf
    -- the outer loop
    refine Loop.mk (fun t w' => Keeps No w w' ∧ ∃ i : Nat, t.2 = i ∧ i ≤ xs.length ∧ (t.1 = true → xs.length = ys.length ∧ ((xs.zip ys).take i).all (fun p => eqG p.1 p.2) = true) ∧ (t.1 = false → eqf eqG xs ys = false)) (fun t => xs.length - t.2.toNat) ⟨.refl, 0, rfl, by omega, fun h => ⟨by have := eq_of_beq h; omega, rfl⟩, fun h => eqf_len fun e => by have := beq_eq_false_iff_ne.1 h; omega⟩ ?_
    rintro ⟨is, t⟩ w3 ⟨k3, i, hti, hi, ht, hf⟩ R hR
    dsimp only at hti ht hf ⊢
    subst hti
    have e1 : w64 ((i : Int) + 1) = ((i + 1 : Nat) : Int) := by rw [w64_eq (by omega)]; omega
    refine Join.cut (fun b w' => w' = w3 ∧ b = (decide (i < xs.length) && is)) ?_ ?_
    · rintro b w3 ⟨rfl, rfl⟩
      refine Br.mk (fun e => ?_) (fun e => ?_)
      · obtain ⟨h1, h2⟩ := Bool.and_eq_true_iff.1 e
        have hlt : i < xs.length := of_decide_eq_true h1
        obtain ⟨hxy, hall⟩ := ht h2
        have hgx : xs[i]? = some xs[i] := List.getElem?_eq_getElem hlt
        have hgy : ys[i]? = some (ys[i]'(by omega)) := List.getElem?_eq_getElem (by omega)
        generalize xs[i] = g at hgx
        generalize (ys[i]'(by omega)) = h at hgy
        have hst := zall_step (f := eqG) hgx hgy
        rw [hall, Bool.true_and] at hst
        have ga : ∀ {w' : World} {Q : Addr → Prop}, Keeps No w w' → (∀ p, ArgC No w' p g → Q p) → IdxS l (i : Int) 4 Q := fun {w' Q} k hq => IdxS.arg (hl.mono (V.keeps0 k)) (by omega) (by omega) fun g' p hg' hp => by
          rw [Int.toNat_natCast, hgx] at hg'; cases hg'; exact hq p hp
        have gb : ∀ {w' : World} {Q : Addr → Prop}, Keeps No w w' → (∀ p, ArgC No w' p h → Q p) → IdxS m (i : Int) 4 Q := fun {w' Q} k hq => IdxS.arg (hm.mono (V.keeps0 k)) (by omega) (by omega) fun g' p hg' hp => by
          rw [Int.toNat_natCast, hgy] at hg'; cases hg'; exact hq p hp
        refine Draw.kp fun w5 e5 k5 => ?_
        refine ga (k3.trans k5) fun p hp => LdK.sl hp.c (gb (k3.trans k5) fun q hq => LdK.sl hq.c ?_)
        have hgn := hp.cn
        have hhn := hq.cn
        have hgl := hp.le
        rw [hgn, hhn]
        refine Loop.mk (fun t w' => Keeps No w w' ∧ ∃ k : Nat, t.2 = k ∧ k ≤ g.cm.length ∧ (t.1 = true → g.cm.length = h.cm.length ∧ ((g.cm.zip h.cm).take k).all (fun p => eqC p.1 p.2) = true) ∧ (t.1 = false → eqG g h = false)) (fun t => g.cm.length - t.2.toNat) ⟨k3.trans k5, 0, rfl, by omega, fun h => ⟨by have := eq_of_beq h; omega, rfl⟩, fun hh => eqf_len fun e => by have := beq_eq_false_iff_ne.1 hh; omega⟩ ?_
        rintro ⟨js, t⟩ w6 ⟨k6, k, htk, hk, ht6, hf6⟩ R6 hR6
        dsimp only at htk ht6 hf6 ⊢
        subst htk
        refine Join.cut (fun b w' => w' = w6 ∧ b = (decide (k < g.cm.length) && js)) ?_ ?_
        · rintro b w6 ⟨rfl, rfl⟩
          refine Br.mk (fun e6 => ?_) (fun e6 => ?_)
          · obtain ⟨h3, h4⟩ := Bool.and_eq_true_iff.1 e6
            have hkl : k < g.cm.length := of_decide_eq_true h3
            obtain ⟨hgh, hall6⟩ := ht6 h4
            have hcx : g.cm[k]? = some g.cm[k] := List.getElem?_eq_getElem hkl
            have hcy : h.cm[k]? = some (h.cm[k]'(by omega)) := List.getElem?_eq_getElem (by omega)
            generalize g.cm[k] = c at hcx
            generalize (h.cm[k]'(by omega)) = d at hcy
            have hst6 := zall_step (f := eqC) hcx hcy
            rw [hall6, Bool.true_and] at hst6
            have ek : w64 ((k : Int) + 1) = ((k + 1 : Nat) : Int) := by rw [w64_eq (by omega)]; omega
            refine Draw.kp fun w8 e8 k8 => ?_
            have k68 := k6.trans k8
            have gc : ∀ {Q : Addr → Prop}, (∀ p, CmC w8 p c → Q p) → (SlC (V No w8) g.v.l 3 (g.cm.map Cm.cells)) → IdxS g.v.l (k : Int) 3 Q := fun {Q} hq hs => IdxS.cm hs (by omega) (by omega) fun c' p hc' hp => by
              rw [Int.toNat_natCast, hcx] at hc'; cases hc'; exact hq p hp
            have gd : ∀ {Q : Addr → Prop}, (∀ p, CmC w8 p d → Q p) → (SlC (V No w8) h.v.l 3 (h.cm.map Cm.cells)) → IdxS h.v.l (k : Int) 3 Q := fun {Q} hq hs => IdxS.cm hs (by omega) (by omega) fun c' p hc' hp => by
              rw [Int.toNat_natCast, hcy] at hc'; cases hc'; exact hq p hp
            refine ga k68 fun p hp => LdK.sl hp.c (gc (fun p1 hp1 => LdK.str hp1.s (gb k68 fun q hq => LdK.sl hq.c (gd (fun q1 hq1 => LdK.str hq1.s ?_) hq.cm))) hp.cm)
            refine Br.mk (fun e9 => ?_) (fun e9 => ?_)
            · refine ga k68 fun p hp => LdK.sl hp.c (gc (fun p1 hp1 => LdK.bool hp1.tr (gb k68 fun q hq => LdK.sl hq.c (gd (fun q1 hq1 => LdK.bool hq1.tr ?_) hq.cm))) hp.cm)
              have hcd : eqC c d = (c.tr == d.tr) := by unfold eqC; rw [e9]; rfl
              rw [hcd] at hst6
              rw [ek]
              refine hR6 _ _ ⟨k68, k + 1, rfl, by omega, fun e => ⟨hgh, hst6.trans e⟩, fun e => eqf_no (hst6.trans e)⟩ (by dsimp only; omega)
            · have hcd : eqC c d = false := by unfold eqC; rw [e9]; rfl
              rw [hcd] at hst6
              rw [ek]
              exact hR6 _ _ ⟨k68, k + 1, rfl, by omega, fun e => (by cases e), fun e => eqf_no hst6⟩ (by dsimp only; omega)
          · -- the comments are compared
            have hjs : js = eqG g h := by
              cases js with
              | false => exact (hf6 rfl).symm
              | true =>
                obtain ⟨hgh, hall6⟩ := ht6 rfl
                have hkk : k = g.cm.length := by
                  have : ¬ k < g.cm.length := fun hh => by simp [hh] at e6
                  omega
                subst hkk
                exact (eqf_end hgh hall6).symm
            rw [e1]
            rw [← hjs] at hst
            exact hR _ _ ⟨k6, i + 1, rfl, by omega, fun e => ⟨hxy, hst.trans e⟩, fun e => eqf_no (hst.trans e)⟩ (by dsimp only; omega)
        · intro j hj
          refine ga k6 fun p hp => Ld.sl hp.c (Br.mk (fun e6 => hj _ _ ⟨rfl, ?_⟩) (fun e6 => hj _ _ ⟨rfl, ?_⟩))
          · have : k < g.cm.length := by have hcn := hp.cn; have := of_decide_eq_true e6; dsimp only at this; omega
            rw [decide_eq_true this]; rfl
          · have : ¬ k < g.cm.length := by have hcn := hp.cn; have := of_decide_eq_false e6; dsimp only at this; omega
            rw [decide_eq_false this]; rfl
      · have his : is = eqf eqG xs ys := by
          cases is with
          | false => exact (hf rfl).symm
          | true =>
            obtain ⟨hxy, hall⟩ := ht rfl
            have hkk : i = xs.length := by
              have : ¬ i < xs.length := fun hh => by simp [hh] at e
              omega
            subst hkk
            exact (eqf_end hxy hall).symm
        refine Same_spec (hl.mono (V.keeps0 k3)) (hm.mono (V.keeps0 k3)) (by omega) fun w9 k9 => ?_
        rw [his, beq_self_eq_true, Br_true]
        refine Same_spec (hl.mono (V.keeps0 (k3.trans k9))) (hl.mono (V.keeps0 (k3.trans k9))) (by omega) fun w10 k10 => ?_
        rw [eqf_refl eqG_refl, Br_true]
        exact awake28_spec fun w11 k11 => hK w11 (((k3.trans k9).trans k10).trans k11)
    · intro j hj
      refine Br.mk (fun e => hj _ _ ⟨rfl, ?_⟩) (fun e => hj _ _ ⟨rfl, ?_⟩)
      · have : i < xs.length := by have := of_decide_eq_true e; omega
        rw [decide_eq_true this]; rfl
      · have : ¬ i < xs.length := by have := of_decide_eq_false e; omega
        rw [decide_eq_false this]; rfl
  · intro j hj
    refine Br.mk (fun e => hj _ _ ⟨rfl, fun e2 => (by cases e2)⟩) (fun e => hj _ _ ⟨rfl, fun e2 => ?_⟩)
    have h1 := of_decide_eq_false e
    have h2 := of_decide_eq_false e2
    omega
end Go.Fk
end
