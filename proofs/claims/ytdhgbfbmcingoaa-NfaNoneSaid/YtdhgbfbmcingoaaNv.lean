/-
  A part of the proof: what the functions of the program come to, read off the model: no premise of its own, no axiom. By an AI agent.
-/
import Derived.Test.YtdhgbfbmcingoaaNu
import Derived.Test.YtdhgbfbmcingoaaRz
set_option linter.all false
set_option linter.unusedVariables false
namespace Go.Fk
open Go Go.MapKept

theorem nfa_New_none {M : Nat → Prop} {w : World} {l : Sl} {ps : List (Option Addr)} {K : (Option Addr × Int) → World → Prop} (hl : SlT .ptr (V M w) l ps) (hlen : ps.length < 1000000000) (h : ps = [] ∨ none ∈ ps) (hK : K (none, 1) w) : nfa_New.C l w K := by
  refine nfa_New.ok _ _ _ ?_
  simp only [nfa_New.M]
  have hn := hl.1
  refine Join.cut (fun s w' => s = true ∧ w' = w) ?_ ?_
  · rintro s w' ⟨rfl, rfl⟩
    exact hK
  · intro j hj
    refine Br.mk (fun _ => hj _ _ ⟨rfl, rfl⟩) fun hf => ?_
    refine slices_Contains_nil hl hlen fun b hb => hj _ _ ⟨?_, rfl⟩
    rcases h with rfl | h
    · simp at hn; simp [hn] at hf
    · exact hb.2 h

theorem Mach.rl {w w' : World} {bm base : Nat} {fs : List ((Nat → Bool) × Int)} {F : Int → Int → Prop} {l rl rl' : Sl} {vs : List PosV} {Ft : Nat → Prop} (h : MachAt w bm base fs F l rl vs Ft) 
    (u : Upd bm (.cells #[.slice l.a l.n l.c, .slice rl'.a rl'.n rl'.c] T.nfa_Machine (0, 0)) w w') : MachAt w' bm base fs F l rl' vs Ft where
  at_ := u.at_
  own := h.own.keep u.keeps fun b e hb => by
    subst e
    obtain ⟨a, ha, hab⟩ := hb
    rcases h.own.2 with ⟨hv, _⟩ | ⟨g, cap, cur, hv, _, hg, _⟩
    · simp [Sl.val, ha] at hv
    · simp [Sl.val, ha] at hv
      obtain ⟨rfl, _⟩ := hv
      have : g = b := hab
      subst this
      rw [h.at_] at hg
      cases hg
  pos := h.pos
  sets := fun i v hv => (h.sets i v hv).keep u.keeps (fun e => by
    obtain ⟨es, clock, ⟨_, h1⟩, _⟩ := h.sets i v hv
    rw [e, h.at_] at h1
    cases h1) id
  apart := h.apart
  foot := h.foot
  old := fun b hb => ⟨(h.old b hb).1, Nat.lt_of_lt_of_le (h.old b hb).2 u.keeps.size⟩
  fin := h.fin
  few := h.few

theorem mCnt_take_succ {xs : List Re} {i : Nat} {x : Re} (h : xs[i]? = some x) : mCnt (xs.take (i + 1)) = mCnt (xs.take i) + x.cnt := by
  rw [List.take_add_one, h]; simp [mCnt]
theorem mCnt_take_le (xs : List Re) (i : Nat) : mCnt (xs.take i) ≤ mCnt xs := by
  have := sum_take_le (xs.map Re.cnt) i
  simpa [mCnt, List.map_take] using this
theorem mFs_len' (xs : List Re) (r : Int) : ((mFs r xs).length : Int) = mCnt xs := by rw [mFs_len]

theorem mKs_in (xs : List Re) : ∀ (n : Int), ∀ k ∈ mKs n xs, ∀ p, (k.first p ∨ k.last p) → n ≤ p ∧ p < n + mCnt xs := by
  induction xs with
  | nil => intro n k hk; simp [mKs] at hk
  | cons y xs ih =>
    intro n k hk p hp
    have e : ((mCnt (y :: xs) : Nat) : Int) = y.cnt + mCnt xs := by simp [mCnt]
    rw [e]
    simp only [mKs, List.mem_cons] at hk
    rcases hk with rfl | hk
    · have : n ≤ p ∧ p < n + y.cnt := by rcases hp with h | h; { exact Re.first_in h }; { exact Re.last_in h }
      omega
    · have := ih _ k hk p hp
      omega

/-- The rules so far. -/
structure RulesAt (w : World) (base : Nat) (rl : Sl) (kvs : List KnV) (ks : List Kn) (Ft : Nat → Prop) : Prop where
  own : Own w base T.nfa_known 3 rl (kvs.map KnV.cells).flatten
  out : ∀ b, rl.blk b → ¬ Ft b
  sets : All2 (fun v k => SetAt (V Ft w) v.a k.first ∧ SetAt (V Ft w) v.b k.last ∧ v.e = k.emp) kvs ks

theorem All2.and_mem {α β : Type} {R : α → β → Prop} {l : List α} {m : List β} (x : All2 R l m) {S : α → β → Prop} (h : ∀ a b, a ∈ l → b ∈ m → R a b → S a b) : All2 S l m := by
  induction x with
  | nil => exact .nil
  | cons hd _ ih => exact .cons (h _ _ (by simp) (by simp) hd) (ih fun a b ha hb => h a b (by simp [ha]) (by simp [hb]))

theorem RulesAt.move {w w' : World} {base : Nat} {rl : Sl} {kvs : List KnV} {ks : List Kn} {Ft Ft' N : Nat → Prop} (h : RulesAt w base rl kvs ks Ft) (hk : Keeps N w w') (hN : ∀ b, b < w.heap.size → N b → Ft b) (hF : ∀ i, Ft' i → Ft i ∨ w.heap.size ≤ i) : RulesAt w' base rl kvs ks Ft' where
  own := by
    refine ⟨h.own.1, ?_⟩
    rcases h.own.2 with h2 | ⟨g, cap, cur, hv, hge, hg, h3⟩
    · exact .inl h2
    · refine .inr ⟨g, cap, cur, hv, hge, hk.blk hg (fun hm => h.out g ?_ (hN g (lt_of_some hg) hm)), h3⟩
      simp only [Sl.val, Value.slice.injEq] at hv
      exact ⟨_, hv.1, rfl⟩
  out := fun b hb hf => by
    rcases hF b hf with h1 | h1
    · exact h.out b hb h1
    · have := (h.own.ge hb).2; omega
  sets := h.sets.mono fun a b ⟨h1, h2, h3⟩ => by
    have hv : Vle (V Ft w) (V Ft' w') := V.move hk hN fun b hb hf => (hF b hf).resolve_right (by omega)
    exact ⟨h1.mono hv, h2.mono hv, h3⟩

theorem kcell_len {kvs : List KnV} : ∀ c ∈ kvs.map KnV.cells, c.length = 3 := fun c hc => by obtain ⟨v, _, rfl⟩ := List.mem_map.1 hc; rfl
theorem pcell_len {kvs : List PosV} : ∀ c ∈ kvs.map PosV.cells, c.length = 6 := fun c hc => by obtain ⟨v, _, rfl⟩ := List.mem_map.1 hc; rfl

theorem RulesAt.push {w wA : World} {bm base b : Nat} {fs : List ((Nat → Bool) × Int)} {F : Int → Int → Prop} {l rl : Sl} {vs : List PosV} {Ft : Nat → Prop} {kvs : List KnV} {ks : List Kn} {v : KnV} {kn : Kn} {k : World → Prop}
    (hm : MachAt w bm base fs F l rl vs Ft) (hr : RulesAt w base rl kvs ks Ft) (hbase : base ≤ w.heap.size) (hk : Keeps No w wA) (hb : wA.heap[b]? = some (.cells #[.map (some v.a), .map (some v.b), .bool v.e] T.nfa_known (0, 0)))
    (hv : SetAt (V Ft w) v.a kn.first ∧ SetAt (V Ft w) v.b kn.last ∧ v.e = kn.emp) (hfew : kvs.length ≤ 1000000)
    (hK : ∀ w' rl', Keeps (fun i => base ≤ i) w w' → w.heap.size ≤ w'.heap.size → MachAt w' bm base fs F l rl' vs Ft → RulesAt w' base rl' (kvs ++ [v]) (ks ++ [kn]) Ft → k w') :
    App P (Builtin.append_ #[T.sl_nfa_known, T.sl_nfa_known] T.sl_nfa_known #[.slice rl.a rl.n rl.c, .slice (some ⟨b, 0, none⟩) 1 1]) (.one .sl) wA fun x34 w16 =>
      St ⟨bm, 1, none⟩ (.slice x34.a x34.n x34.c) w16 fun w17 => k w17 := by
  have hmA := hm.keep hk fun _ h => h.elim
  have hrA := hr.move hk (fun _ _ h => h.elim) (fun i h => .inl h)
  have hn : rl.n = kvs.length := by
    have := hrA.own.len
    rw [flatten_len kcell_len, List.length_map] at this
    omega
  refine appendC (c := KnV.cells v) (base := base) elKnown hrA.own rfl hb ?_ (by omega) (by omega) (Nat.le_trans hbase hk.size) fun rl' w16 o16 e16 k16 g16 => ?_
  · intro u hu
    simp [KnV.cells] at hu
    rcases hu with rfl | rfl | rfl <;> rfl
  · have nbm : ¬ rl.blk bm := fun h => hrA.out _ h (hm.foot _ (.inl rfl))
    refine St.blk (k16.blk hmA.at_ nbm) (by simp) fun w17 u17 => ?_
    have hsz := hk.size; have hsz2 := k16.size; have hsz3 := u17.size
    have hbm := hm.old bm (hm.foot _ (.inl rfl))
    obtain ⟨g, hg1, hg2⟩ := g16
    have hgF : ¬ Ft g := by
      rcases hg2 with h | h
      · exact hrA.out _ h
      · intro hf
        have := (hmA.old g hf).2
        omega
    have nbm' : ¬ bm = g := fun e => hgF (e ▸ hm.foot _ (.inl rfl))
    have m16 := hmA.keep k16 fun b' h hf => hrA.out b' h hf
    refine hK w17 rl' ?_ (by omega) (Mach.rl m16 u17) ⟨?_, ?_, ?_⟩
    · refine ((hk.no (M := fun i => base ≤ i)).trans (k16.mono fun i _ hi => (hrA.own.ge hi).1)).then u17.keeps fun i _ e => e ▸ hbm.1
    · rw [List.map_append]
      refine o16.keep u17.keeps fun b' e h => ?_
      obtain ⟨a, ha, hab⟩ := h
      rw [hg1] at ha
      cases ha
      exact nbm' (e ▸ hab.symm)
    · rintro b' ⟨a, ha, hab⟩ hf
      rw [hg1] at ha
      cases ha
      have : g = b' := hab
      exact hgF (this ▸ hf)
    · have mv : ∀ {m : Nat} {S : Int → Prop}, SetAt (V Ft w) m S → SetAt (V Ft w17) m S := fun {m S} h => by
        have hA : SetAt (V Ft wA) m S := h.mono (V.keeps0 hk)
        have hA' := hA
        obtain ⟨es, clock, ⟨_, h1⟩, _⟩ := hA'
        refine MapAt.keep (MapAt.keep (M' := Ft) hA k16 (fun hb' => ?_) h.out) u17.keeps (fun e => ?_) h.out
        · obtain ⟨a, ha, hab⟩ := hb'
          rcases hrA.own.2 with ⟨hv, _⟩ | ⟨g', cap, cur, hv, _, hg', _⟩
          · simp [Sl.val, ha] at hv
          · simp [Sl.val, ha] at hv
            obtain ⟨rfl, _⟩ := hv
            have : g' = m := hab
            subst this
            rw [h1] at hg'
            cases hg'
        · subst e
          rw [hmA.at_] at h1
          cases h1
      refine All2.append (hr.sets.mono fun a b ⟨h1, h2, h3⟩ => ⟨mv h1, mv h2, h3⟩) (.cons ⟨mv hv.1, mv hv.2.1, hv.2.2⟩ .nil)

/-- New(l...) -/
theorem nfa_New_spec {M : Nat → Prop} {w : World} {l : Sl} {ps : List (Option Addr)} {xs : List Re} {K : (Option Addr × Int) → World → Prop} (hM : Old M w) (hl : SlT .ptr (V M w) l ps) (ha : All2 (Nd (V M w)) ps xs) (hne : ps ≠ []) (hlen : ps.length ≤ 1000000) (hsz : ∀ x ∈ xs, x.size < 1000000000000)
    (hK : ∀ p e w', Keeps No w w' → (mCnt xs ≤ 2000 → e = 0 ∧ MachV (V No w') p (mFs 0 xs) (mFol 0 xs) (mKs 0 xs)) → (2000 < mCnt xs → e = 3 ∧ p = none) → K (p, e) w') : nfa_New.C l w K := by
  refine nfa_New.ok _ _ _ ?_
  simp only [nfa_New.M]
  have hn := hl.1; have hal := ha.length
  have hpos : 0 < ps.length := by cases ps with | nil => exact absurd rfl hne | cons a l => simp
  have hnone : none ∉ ps := fun h => by
    obtain ⟨i, hi⟩ := List.getElem?_of_mem h
    obtain ⟨x, _, hx⟩ := ha.get _ _ hi
    obtain ⟨_, _, _, _, _, _, _, h, _⟩ := hx.out
    cases h
  refine Join.cut (fun s w' => s = false ∧ w' = w) ?_ ?_
  · rintro s w' ⟨rfl, rfl⟩
    show Loop _ _ _
    refine Loop.mk (fun s w1 => Keeps No w' w1 ∧ ∃ i : Nat, i ≤ ps.length ∧ s = (((mCnt (xs.take i) : Nat) : Int), (i : Int)) ∧ mCnt (xs.take i) ≤ 2000) (fun s => (ps.length : Nat) - s.2.toNat) ⟨Keeps.refl, 0, by omega, by simp [mCnt]⟩ ?_
    rintro s w1 ⟨k1, i, hi, rfl, hc⟩ R hR
    refine Br.mk (fun ht => ?_) (fun hf => ?_)
    · have ht : i < ps.length := by simpa [hn] using ht
      refine IdxS.get (M := M) (hl.mono (V.keeps0 k1)) (by simp) (by simp; omega) fun q hq => ?_
      simp at hq
      obtain ⟨x, hx, hN⟩ := ha.get _ _ hq
      have h4 := mCnt_take_succ hx
      have h5 := mCnt_take_le xs (i + 1)
      have hxs := hsz x (List.mem_of_getElem? hx)
      have hcs := x.cnt_size
      refine nfa_count_spec (by omega) (by omega) x.size x (Nat.le_refl _) (hM.keeps k1) hxs (hN.mono (V.keeps0 k1)) fun r w2 k2 r0 r1 r2 r3 => ?_
      dsimp only
      rw [w64_eq (by omega), w64_eq (by omega)]
      refine Br.mk (fun ht2 => ?_) (fun hf2 => ?_)
      · have ht2 := of_decide_eq_true ht2
        refine hK none 3 w2 (k1.trans k2) (fun h => by omega) (fun _ => ⟨rfl, rfl⟩)
      · have hf2 := of_decide_eq_false hf2
        refine hR _ _ ⟨k1.trans k2, i + 1, by omega, ?_, by omega⟩ (by dsimp only; omega)
        simp only [Prod.mk.injEq]; constructor <;> omega
    · have hf : ps.length ≤ i := by simpa [hn] using hf
      have e : xs.take i = xs := List.take_of_length_le (by omega)
      rw [e] at hc
      -- the machine is laid
      refine Al.mk fun bm w2 n2 => ?_
      have e2 := n2.eq; have s2 := n2.size; have s1 := k1.size
      have k02 : Keeps No w' w2 := k1.trans n2.keeps
      have m0 : MachAt w2 bm w'.heap.size [] (fun _ _ => False) ⟨none, 0, 0⟩ ⟨none, 0, 0⟩ [] (fun b => b = bm) := by
        refine ⟨n2.at_, by simpa using Own.nil _ _ _ _, .nil, by simp, by simp, ?_, ?_, by simp, by simp⟩
        · rintro b (h | ⟨a, h, _⟩ | ⟨v, h, _⟩)
          · exact h
          · cases h
          · cases h
        · rintro b rfl; omega
      have r0 : RulesAt w2 w'.heap.size ⟨none, 0, 0⟩ [] [] (fun b => b = bm) := ⟨by simpa using Own.nil _ _ _ _, (fun b ⟨a, h, _⟩ => by cases h), .nil⟩
      refine Loop.mk (fun s w3 => Keeps No w' w3 ∧ ∃ (i : Nat) (rl : Sl) (kvs : List KnV) (Ft : Nat → Prop), i ≤ ps.length ∧ s = (i : Int) ∧ Mach w3 bm w'.heap.size (mFs 0 (xs.take i)) (mFol 0 (xs.take i)) rl Ft ∧ RulesAt w3 w'.heap.size rl kvs (mKs 0 (xs.take i)) Ft)
        (fun s => (ps.length : Nat) - s.toNat) ⟨k02, 0, ⟨none, 0, 0⟩, [], (fun b => b = bm), by omega, by simp, ⟨⟨none, 0, 0⟩, [], m0⟩, r0⟩ ?_
      rintro s w3 ⟨k3, i, rl, kvs, Ft, hi, rfl, m3, r3⟩ R hR
      have s3 := k3.size
      refine Br.mk (fun ht => ?_) (fun hf => ?_)
      · have ht : i < ps.length := by simpa [hn] using ht
        refine IdxS.get (M := M) (hl.mono (V.keeps0 k3)) (by simp) (by simp; omega) fun q hq => ?_
        simp at hq
        obtain ⟨x, hx, hN⟩ := ha.get _ _ hq
        have h4 := mCnt_take_succ hx
        have h5 := mCnt_take_le xs (i + 1)
        have htk : xs.take (i + 1) = xs.take i ++ [x] := by rw [List.take_add_one, hx]; rfl
        have hli : (xs.take i).length = i := by rw [List.length_take]; omega
        have hlk : kvs.length = i := by have := r3.sets.length; rw [mKs_len, hli] at this; exact this
        have ge : ∀ {b : Nat}, Ft b → w'.heap.size ≤ b := fun {b} h => by obtain ⟨l3, vs3, m3⟩ := m3; exact (m3.old b h).1
        refine DrawN.mk fun w4 hh k4 => ?_
        simp only [true_and]
        have s34 : w4.heap.size = w3.heap.size := by rw [hh]
        have m4 := m3.keep0 k4
        have r4 := r3.move k4 (fun _ _ h => h.elim) (fun i h => .inl h) (Ft' := Ft)
        have hN4 : Nd (V Ft w4) q x := hN.mono (V.move (k3.trans k4) (fun _ _ h => h.elim) fun b hb h => absurd (ge h) (by omega))
        have cfs : (mFs 0 (xs.take i)).length = mCnt (xs.take i) := mFs_len _ _
        have addc : ∀ {K : (Option Nat × Option Nat × Bool) → World → Prop}, (∀ (a b : Nat) (w5 : World) (Ft' : Nat → Prop) , Keeps No w' w5 → Mach w5 bm w'.heap.size (mFs 0 (xs.take (i + 1))) (mFol 0 (xs.take (i + 1))) rl Ft' → RulesAt w5 w'.heap.size rl kvs (mKs 0 (xs.take i)) Ft' →
            SetAt (V Ft' w5) a (x.first (mCnt (xs.take i))) → SetAt (V Ft' w5) b (x.last (mCnt (xs.take i))) → K (some a, some b, x.emp) w5) → nfa_Machine_add.C (some ⟨bm, 0, none⟩) i q w4 K := by
          intro K hK'
          refine nfa_Machine_add_spec x.size x (Nat.le_refl _) m4 hN4 (by omega) (by omega) fun a b w5 Ft' k5 g5 m5 sa sb => ?_
          rw [cfs] at sa sb
          refine hK' a b w5 Ft' ?_ ?_ (r4.move k5 (fun _ _ h => h) g5) sa sb
          · exact ((k3.trans k4).no (M := No)).then k5 fun b hb h => absurd (ge h) (by omega)
          · rw [htk, mFs_snoc, hli]
            have e0 : (0 : Int) + (i : Int) = i := by omega
            rw [e0]
            refine m5.congr fun p q => ?_
            rw [mFol_snoc, cfs]
            have e1 : (0 : Int) + ((mCnt (xs.take i) : Nat) : Int) = (mCnt (xs.take i) : Nat) := by omega
            rw [e1]
        have tail : ∀ {w5 wA : World} {a b b8 : Nat} {Ft' : Nat → Prop}, Keeps No w' w5 → Mach w5 bm w'.heap.size (mFs 0 (xs.take (i + 1))) (mFol 0 (xs.take (i + 1))) rl Ft' → RulesAt w5 w'.heap.size rl kvs (mKs 0 (xs.take i)) Ft' → SetAt (V Ft' w5) a (x.first (mCnt (xs.take i))) → SetAt (V Ft' w5) b (x.last (mCnt (xs.take i))) →
            New b8 (.cells #[.map (some a), .map (some b), .bool x.emp] T.nfa_known (0, 0)) w5 wA → App P (Builtin.append_ #[T.sl_nfa_known, T.sl_nfa_known] T.sl_nfa_known #[.slice rl.a rl.n rl.c, .slice (some ⟨b8, 0, none⟩) 1 1]) (.one .sl) wA fun x34 w16 =>
              St ⟨bm, 1, none⟩ (.slice x34.a x34.n x34.c) w16 fun w17 => R (w64 ((i : Int) + (1 : Int))) w17 := by
          intro w5 wA a b b8 Ft' k5 m5 r5 sa sb n8
          obtain ⟨l5, vs5, m5⟩ := m5
          have s5 := k5.size
          refine RulesAt.push (v := ⟨a, b, x.emp⟩) (kn := ⟨x.first (mCnt (xs.take i)), x.last (mCnt (xs.take i)), x.emp⟩) m5 r5 (by omega) n8.keeps n8.at_ ⟨sa, sb, rfl⟩ (by omega) fun w9 rl9 k9 s9 m9 r9 => ?_
          rw [w64_eq (by omega)]
          refine hR _ w9 ⟨(k5.no (M := No)).then k9 fun b hb h => absurd h (by omega), i + 1, rl9, kvs ++ [⟨a, b, x.emp⟩], Ft', by omega, by omega, ⟨l5, vs5, m9⟩, ?_⟩ (by omega)
          rw [htk, mKs_snoc]
          have e1 : (0 : Int) + ((mCnt (xs.take i) : Nat) : Int) = (mCnt (xs.take i) : Nat) := by omega
          rw [e1]
          exact r9
        have ldr : ∀ {wA : World} {fs : List ((Nat → Bool) × Int)} {F : Int → Int → Prop} {Ft' : Nat → Prop} {k : Sl → Prop}, Mach wA bm w'.heap.size fs F rl Ft' → k rl → Ld .sl ⟨bm, 1, none⟩ wA k := by
          rintro wA fs F Ft' k ⟨l5, vs5, m5⟩ h
          exact Ld.sl (cell_of m5.at_ rfl) h
        refine ⟨ldr m4 (addc fun a b w5 Ft' k5 m5 r5 sa sb => Al.mk fun b8 w6 n8 => tail k5 m5 r5 sa sb n8), addc fun a b w5 Ft' k5 m5 r5 sa sb => ⟨ldr m5 (Al.mk fun b8 w6 n8 => tail k5 m5 r5 sa sb n8), Al.mk fun b8 w6 n8 => ldr (m5.keep0 n8.keeps) (tail k5 m5 r5 sa sb n8)⟩⟩
      · have hf : ps.length ≤ i := by simpa [hn] using hf
        have e : xs.take i = xs := List.take_of_length_le (by omega)
        rw [e] at m3 r3
        refine hK _ 0 w3 k3 (fun _ => ⟨rfl, ?_⟩) (fun h => by omega)
        obtain ⟨l3, vs3, m3⟩ := m3
        refine ⟨⟨bm, l3, rl, vs3, kvs, rfl, ⟨id, m3.at_⟩, m3.rows, m3.pos, m3.sets, Own.readsC r3.own (by omega) kcell_len fun _ _ h => h, r3.sets.mono fun a b ⟨h1, h2, h3⟩ => ⟨h1.mono (V.sub fun _ _ h => h.elim), h2.mono (V.sub fun _ _ h => h.elim), h3⟩⟩, m3.fin, ?_, m3.few, ?_⟩
        · rw [mFs_len]
          intro k hk p hp
          have := mKs_in xs 0 k hk p hp
          omega
        · rw [mKs_len]; omega
  · intro j hj
    refine Br.mk (fun ht => ?_) fun hf => ?_
    · exfalso
      have : l.n = 0 := by simpa using ht
      omega
    · refine slices_Contains_nil hl (by omega) fun b hb => hj _ _ ⟨?_, rfl⟩
      cases b with
      | false => rfl
      | true => exact absurd (hb.1 rfl) hnone
end Go.Fk
