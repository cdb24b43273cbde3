/-
  A part of the proof: what the functions of the program come to, read off the model: no premise of its own, no axiom. By an AI agent.
-/
import Derived.Test.YtdhgbfbmcingoaaNn
set_option linter.all false
set_option linter.unusedVariables false
namespace Go.Fk
open Go Go.MapKept

theorem Keeps.step {Ft Ft1 : Nat → Prop} {w a b : World} (h : Keeps Ft w a) (k : Keeps Ft1 a b) (hF : ∀ i, Ft1 i → Ft i ∨ w.heap.size ≤ i) : Keeps Ft w b := h.then k fun i hi h1 => (hF i h1).resolve_right (by omega)

theorem St4 {b : Nat} {x0 x1 x2 x3 v0 v1 v2 v3 : Value} {E : TypeId} {w : World} {k : World → Prop} (hb : w.heap[b]? = some (.cells #[x0, x1, x2, x3] E (0, 0))) (h : ∀ w', Upd b (.cells #[v0, v1, v2, v3] E (0, 0)) w w' → k w') :
    St ⟨b, 0, none⟩ v0 w fun w1 => St ⟨b, 1, none⟩ v1 w1 fun w2 => St ⟨b, 2, none⟩ v2 w2 fun w3 => St ⟨b, 3, none⟩ v3 w3 k :=
  St.blk hb (by simp) fun w1 u1 => St.blk u1.at_ (by simp) fun w2 u2 => St.blk u2.at_ (by simp) fun w3 u3 => St.blk u3.at_ (by simp) fun w4 u4 => h w4 (((u1.trans u2).trans u3).trans u4)

theorem Upd.keeps0 {b : Nat} {o : Obj} {w w1 w2 : World} (k : Keeps No w w1) (hb : w.heap.size ≤ b) (u : Upd b o w1 w2) : Keeps No w w2 := (k.no (M := No)).then u.keeps fun i hi e => by omega

theorem regex_Bytes_spec {M : Nat → Prop} {w : World} {p : Option Addr} {f : Nat → Bool} {K : (Int × Int × Int × Int) → World → Prop} (h : Nd (V M w) p (.set f))
    (hk : ∀ (n0 n1 n2 n3 : Nat) w', Words f n0 n1 n2 n3 → Keeps No w w' → K (n0, n1, n2, n3) w') : regex_Bytes.C p w K := by
  cases h with
  | set h hw =>
    rename_i b n0 n1 n2 n3
    refine regex_Bytes.ok _ _ _ ?_
    simp only [regex_Bytes.M, NilC_some]
    refine Al.mk fun b1 w1 h1 => ?_
    have hb := h1.keeps.blk0 h.2
    show Ld _ _ _ _
    refine Ld.int (cell_of hb rfl) (Ld.int (cell_of hb rfl) (Ld.int (cell_of hb rfl) (Ld.int (cell_of hb rfl) ?_)))
    refine St4 h1.at_ fun w2 u2 => ?_
    refine Ld.int (cell_of u2.at_ rfl) (Ld.int (cell_of u2.at_ rfl) (Ld.int (cell_of u2.at_ rfl) (Ld.int (cell_of u2.at_ rfl) ?_)))
    exact hk _ _ _ _ w2 hw (u2.keeps0 h1.keeps (Nat.le_of_eq h1.eq.symm))

theorem Mach.push {w wA : World} {bm base b m n0 n1 n2 n3 : Nat} {fs : List ((Nat → Bool) × Int)} {F : Int → Int → Prop} {l rl : Sl} {vs : List PosV} {Ft : Nat → Prop} {f : Nat → Bool} {rule : Int} {k : World → Prop}
    (hm : MachAt w bm base fs F l rl vs Ft) (hbase : base ≤ w.heap.size) (hk : Keeps No w wA) (hb : wA.heap[b]? = some (.cells #[.int .u64 n0, .int .u64 n1, .int .u64 n2, .int .u64 n3, .int .i64 rule, .map (some m)] T.nfa_position (0, 0)))
    (hmm : wA.heap[m]? = some (.map #[] 0)) (hge : w.heap.size ≤ m) (hfew : fs.length + 1 ≤ 2000) (hw : Words f n0 n1 n2 n3)
    (hK : ∀ w' Ft', Keeps Ft w w' → (∀ b, Ft' b → Ft b ∨ w.heap.size ≤ b) → Mach w' bm base (fs ++ [(f, rule)]) F rl Ft' → k w') :
    App P (Builtin.append_ #[T.sl_nfa_position, T.sl_nfa_position] T.sl_nfa_position #[.slice l.a l.n l.c, .slice (some ⟨b, 0, none⟩) 1 1]) (.one .sl) wA fun x34 w16 =>
      St ⟨bm, 0, none⟩ (.slice x34.a x34.n x34.c) w16 fun w17 => k w17 := by
  have hl := hm.len
  have hmA := hm.keep hk fun _ h => h.elim
  refine appendC (c := PosV.cells ⟨n0, n1, n2, n3, rule, m⟩) (base := base) elPos hmA.own rfl hb ?_ (by omega) (by omega) (Nat.le_trans hbase hk.size) fun l' w16 o16 e16 k16 g16 => ?_
  · intro u hu
    simp [PosV.cells] at hu
    rcases hu with rfl | rfl | rfl | rfl | rfl | rfl <;> rfl
  · have hbl : ∀ b', l.blk b' → Ft b' := fun b' h => hm.foot _ (.inr (.inl h))
    -- what lies in the row's block is a row
    have hrow : ∀ b', l.blk b' → ∃ cs, wA.heap[b']? = some (.cells cs T.nfa_position (0, 0)) := by
      rintro b' ⟨a, ha, rfl⟩
      rcases hmA.own.2 with ⟨hv, _⟩ | ⟨g, cap, cur, hv, _, hg, _⟩
      · simp [Sl.val, ha] at hv
      · simp [Sl.val, ha] at hv
        obtain ⟨rfl, _⟩ := hv
        exact ⟨cur, hg⟩
    have nbm : ¬ l.blk bm := fun h => by
      obtain ⟨cs, h⟩ := hrow _ h
      rw [hmA.at_] at h
      cases h
    have nmap : ∀ m', (∃ es clock, wA.heap[m']? = some (.map es clock)) → ¬ l.blk m' := fun m' ⟨es, clock, h1⟩ h => by
      obtain ⟨cs, h⟩ := hrow _ h
      rw [h1] at h
      cases h
    refine St.blk (k16.blk hmA.at_ nbm) (by simp) fun w17 u17 => ?_
    have hsz := hk.size; have hsz2 := k16.size; have hsz3 := u17.size
    have hbm := hm.old bm (hm.foot _ (.inl rfl))
    obtain ⟨g, hg1, hg2⟩ := g16
    have hblk' : ∀ b', l'.blk b' → Ft b' ∨ w.heap.size ≤ b' := by
      rintro b' ⟨a, ha, rfl⟩
      rw [hg1] at ha
      cases ha
      rcases hg2 with h | h
      · exact .inl (hbl _ h)
      · right; show w.heap.size ≤ g; omega
    have nbm' : ¬ l'.blk bm := by
      rintro ⟨a, ha, hab⟩
      rw [hg1] at ha
      cases ha
      simp at hab
      subst hab
      rcases hg2 with h | h
      · exact nbm h
      · omega
    have hkeep : Keeps Ft w w17 := ((hk.no (M := Ft)).then k16 fun i _ h => hbl i h).then u17.keeps fun i _ e => e ▸ hm.foot _ (.inl rfl)
    refine hK w17 (fun b' => Ft b' ∨ b' = m ∨ l'.blk b') hkeep ?_ ⟨l', vs ++ [⟨n0, n1, n2, n3, rule, m⟩], ?_⟩
    · rintro b' (h | rfl | h)
      · exact .inl h
      · exact .inr hge
      · exact hblk' b' h
    · have hkm : ∀ {m' : Nat} {S : Int → Prop}, SetAt (V No wA) m' S → SetAt (V No w17) m' S := fun {m' S} h => by
        have h' := h
        obtain ⟨es, clock, ⟨_, h1⟩, _⟩ := h'
        refine MapAt.keep (MapAt.keep (M' := No) h k16 (nmap m' ⟨es, clock, h1⟩) id) u17.keeps (fun e => ?_) id
        subst e
        rw [hmA.at_] at h1
        cases h1
      refine ⟨u17.at_, ?_, hm.pos.append (.cons ⟨hw, rfl⟩ .nil), ?_, ?_, ?_, ?_, ?_, ?_⟩
      · rw [List.map_append]
        exact o16.keep u17.keeps fun b' e h => nbm' (e ▸ h)
      · intro i v hv
        rw [List.getElem?_append] at hv
        split at hv
        · exact hkm (hmA.sets i v hv)
        · have : i = vs.length := by
            have := (List.getElem?_eq_some_iff.1 hv).1
            simp at this; omega
          subst this
          simp at hv
          subst hv
          refine hkm ((MapAt.empty (P := P) (kT := T.int) (kt := .int .i64) (vt := .bool) (H := V No wA) ⟨id, hmm⟩).congr fun x y => ?_)
          simp only [false_iff]
          rintro ⟨h, _⟩
          have := hm.fin _ _ h
          omega
      · intro i j v v' hv hv' he
        have lt : ∀ {i : Nat} {v : PosV}, vs[i]? = some v → v.m < w.heap.size := fun {i v} h => (hm.sets i v h).lt
        rw [List.getElem?_append] at hv hv'
        have last : ∀ {i : Nat} {v : PosV}, ¬ i < vs.length → [(⟨n0, n1, n2, n3, rule, m⟩ : PosV)][i - vs.length]? = some v → i = vs.length ∧ v.m = m := fun {i v} hi h => by
          have h1 := (List.getElem?_eq_some_iff.1 h).1
          simp at h1
          have : i - vs.length = 0 := by omega
          rw [this] at h
          simp at h
          subst h
          exact ⟨by omega, rfl⟩
        split at hv <;> split at hv'
        · exact hm.apart i j v v' hv hv' he
        · rename_i h1 h2
          have := lt hv; have := last h2 hv'; omega
        · rename_i h1 h2
          have := lt hv'; have := last h1 hv; omega
        · rename_i h1 h2
          have := last h1 hv; have := last h2 hv'; omega
      · rintro b' (h | h | ⟨v, hv, h⟩)
        · exact .inl (hm.foot _ (.inl h))
        · exact .inr (.inr h)
        · rcases List.mem_append.1 hv with hv | hv
          · exact .inl (hm.foot _ (.inr (.inr ⟨v, hv, h⟩)))
          · simp at hv; subst hv; exact .inr (.inl h.symm)
      · rintro b' (h | rfl | ⟨a, ha, rfl⟩)
        · have := hm.old _ h; omega
        · have := lt_of_some hmm; omega
        · rw [hg1] at ha
          cases ha
          have := o16.ge (b := g) ⟨_, hg1, rfl⟩
          show base ≤ g ∧ g < _
          omega
      · intro p q h
        have := hm.fin p q h
        simp; omega
      · simp; omega
end Go.Fk
