/-
  A part of the proof: what the functions of the program come to, read off the model: no premise of its own, no axiom. By an AI agent.
-/
import Derived.Test.YtjcelcnlndahpaaGreatA7
import Derived.Test.YtjcelcnlndahpaaGreatA3
set_option linter.all false
section
set_option linter.unusedVariables false
namespace Go.Fk
open Go Go.MapKept Go.Maps

/-! ## Kinds told apart once more -/

/-- There are m kinds among the first N. -/
structure Cnt (N : Nat) (f : Nat → Int) (reps : List Nat) : Prop where
  lt : ∀ r ∈ reps, r < N
  ne : reps.Pairwise fun a b => f a ≠ f b
  all : ∀ i, i < N → ∃ r ∈ reps, f r = f i

theorem Cnt.le {N : Nat} {f : Nat → Int} {reps : List Nat} (h : Cnt N f reps) : reps.length ≤ N := by
  have := nodup_le reps (List.range N) (h.ne.imp fun hne e => hne (by rw [e])) fun x hx => by simpa using h.lt x hx
  simpa using this

theorem Cnt.same {N : Nat} {f g : Nat → Int} {rf rg : List Nat} (hf : Cnt N f rf) (hg : Cnt N g rg) (href : ∀ i j, i < N → j < N → g i = g j → f i = f j) (hle : rg.length ≤ rf.length) {i j : Nat} (hi : i < N) (hj : j < N) (e : f i = f j) : g i = g j := by
  refine Classical.byContradiction fun hne => ?_
  obtain ⟨a, ha, ea⟩ := hg.all i hi
  obtain ⟨b, hb, eb⟩ := hg.all j hj
  have hab : b ≠ a := fun h => hne (by rw [← ea, ← eb, h])
  have hfa : f a = f i := href _ _ (hg.lt a ha) hi ea
  have hfb : f b = f j := href _ _ (hg.lt b hb) hj eb
  have hnd : (rf.map f).Nodup := by
    unfold List.Nodup
    rw [List.pairwise_map]
    exact hf.ne
  have := nodup_le (rf.map f) ((rg.erase a).map f) hnd fun x hx => by
    obtain ⟨r, hr, rfl⟩ := List.mem_map.1 hx
    obtain ⟨c, hc, ec⟩ := hg.all r (hf.lt r hr)
    have hfc : f c = f r := href _ _ (hg.lt c hc) (hf.lt r hr) ec
    by_cases h : c = a
    · subst h
      refine List.mem_map.2 ⟨b, ?_, ?_⟩
      · exact (List.mem_erase_of_ne hab).2 hb
      · rw [hfb, ← e, ← hfa, hfc]
    · exact List.mem_map.2 ⟨c, (List.mem_erase_of_ne h).2 hc, hfc⟩
  simp only [List.length_map] at this
  rw [List.length_erase_of_mem ha] at this
  have := List.length_pos_of_mem ha
  omega

variable {svs : List DSt} {cl : Nat → Int} {nc : Int}

def RowEq (svs : List DSt) (lv : Nat → Bool) (kd : Nat → Int) (i j : Nat) : Prop := (∀ b, b < 256 → kNext svs lv kd i b = kNext svs lv kd j b) ∧ kd i = kd j

theorem kNext_rng {lv : Nat → Bool} {kd : Nat → Int} (A : Aut svs) (hk : ∀ i, i < svs.length → 0 ≤ kd i ∧ kd i ≤ 200000) {n b : Nat} (hb : b < 256) : -1 ≤ kNext svs lv kd n b ∧ kNext svs lv kd n b ≤ 200000 := by
  unfold kNext
  cases hx : nxt svs n b with
  | none => simp
  | some k =>
    have := hk k (A.nxt_lt hb hx).1
    dsimp only
    split <;> omega

theorem elIntM : Elem P T.sl_int T.int ((Ty.int .i64).enc 0) 1 8 := elInt

set_option maxRecDepth 20000 in
theorem again_spec {w : World} {br : Nat} {d : Option Addr} {ll kk : Sl} {nn : Int} {lv : Nat → Bool} {kd : Nat → Int} (hobj : w.heap[br]? = some (rObj d ll kk nn)) (hd : DfaO (V (· = br) w) d svs cl nc) (hl : SlT .bool (V (· = br) w) ll (rowG svs.length lv))
    (hk : SlT (.int .i64) (V (· = br) w) kk (rowG svs.length kd)) (A : Aut svs) (hkr : ∀ i, i < svs.length → 0 ≤ kd i ∧ kd i ≤ 200000) {K : Bool → World → Prop}
    (hK : ∀ kk' nk reps w', Keeps (· = br) w w' → w'.heap[br]? = some (rObj d ll kk' (reps.length : Nat)) → SlT (.int .i64) (V (· = br) w') kk' (rowG svs.length nk) → (∀ i, i < svs.length → 0 ≤ nk i ∧ nk i < svs.length) →
      (∀ i j, i < svs.length → j < svs.length → (nk i = nk j ↔ RowEq svs lv kd i j)) → Cnt svs.length nk reps → K (decide (nn < (reps.length : Nat))) w') : least_rounds_again.C (some ⟨br, 0, none⟩) w K := by
  have hfew := A.few
  have hN := hk.1
  rw [rowG_len] at hN
  refine least_rounds_again.ok _ _ _ ?_
  simp only [least_rounds_again.M, NilC_some, add_eq, rCells_zero, Nat.zero_add]
  refine Al.mk fun m1 w1 n1 => ?_
  have e1 := n1.eq; have z1 := n1.size
  have hbl := lt_of_some hobj
  have hne : br ≠ m1 := by omega
  refine Ld.slv (cell_of (n1.keeps.blk0 hobj) rfl) ?_
  rw [hN]
  refine App.make1 (t := .int .i64) (z := 0) elIntM rfl (by omega) (by omega) fun bn w2 n2 => ?_
  have e2 := n2.eq; have z2 := n2.size
  have o2 := n2.at_
  rw [rowG_rep] at o2
  have hne2 : bn ≠ m1 := by omega
  have hne3 : bn ≠ br := by omega
  have k02 : Keeps No w w2 := n1.keeps.trans n2.keeps
  have hm2 : w2.heap[m1]? = some (.map #[] 0) := n2.keeps.blk0 n1.at_
  -- what stays through the loop
  let Ft : Nat → Prop := fun b => b = m1 ∨ b = bn
  have hmv : ∀ {w'}, Keeps Ft w2 w' → Vle (V (· = br) w) (V (· = br) w') := fun {w'} k => V.move (k02.then k fun b hb h => by rcases h with h | h <;> omega) (fun _ _ h => h.elim) (fun _ _ h => h)
  have hRn : ∀ {w'}, Keeps Ft w2 w' → Rn (V No w') br d ll kk nn svs cl nc lv kd := fun {w'} k =>
    ⟨⟨id, k.blk (k02.blk0 hobj) (by rintro (h | h) <;> omega)⟩, (hd.mono (hmv k)).mono (V.sub fun _ _ h => h.elim), (hl.mono (hmv k)).mono (V.sub fun _ _ h => h.elim), (hk.mono (hmv k)).mono (V.sub fun _ _ h => h.elim)⟩
  refine Loop.mk (fun s w' => Keeps Ft w2 w' ∧ ∃ (i : Nat) (nk : Nat → Int) (reps : List Nat), i ≤ svs.length ∧ s = (i : Int) ∧ w'.heap[bn]? = some (rowObj (.int .i64) T.int (rowG svs.length nk)) ∧
      MapAt P T.least_row .raw (.int .i64) (V No w') m1 (fun k v => ∃ j, j < i ∧ k = rowKey (kNext svs lv kd j) (kd j) ∧ v = nk j) ∧ MapSz w' m1 reps.length ∧ reps.length ≤ i ∧
      (∀ j, j < i → 0 ≤ nk j ∧ nk j < (reps.length : Nat)) ∧ (∀ a b, a < i → b < i → (nk a = nk b ↔ RowEq svs lv kd a b)) ∧ Cnt i nk reps) (fun s => svs.length - s.toNat)
    ⟨.refl, 0, fun _ => 0, [], by omega, rfl, o2, ?_, .empty hm2, by simp, fun j hj => by omega, fun a b ha => by omega, ⟨by simp, .nil, fun j hj => by omega⟩⟩ ?_
  · exact (MapAt.empty (kt := .raw) (vt := .int .i64) ⟨id, hm2⟩).congr fun x y => by simp
  rintro s w3 ⟨k3, i, nk, reps, hi, rfl, o3, hm3, hsz3, hri, hrg, hiff, hcnt⟩ R hR
  refine Br.mk (fun ht => ?_) (fun hf => ?_)
  · have ht : i < svs.length := by have h9 : (_ : Int) < (svs.length : Int) := of_decide_eq_true ht; omega
    have e4 : w64 ((i : Int) + 1) = ((i + 1 : Nat) : Int) := by rw [w64_eq (by omega)]; omega
    refine row_spec (hRn k3) A ht fun w4 k4 => ?_
    refine Al.mk fun b4 w5 n5 => StA.gen sizeRow n5.at_ (by rw [List.size_toArray, rCells_len]) (by rw [List.size_toArray, rCells_len]) (fun u hu => rCells_one u (by simpa using hu)) fun w6 u6 => ?_
    have e5 := n5.eq
    have k46 : Keeps No w4 w6 := u6.keeps0 n5.keeps (by omega)
    have k36 : Keeps No w3 w6 := k4.trans k46
    refine LdA.gen (c := rCells (kNext svs lv kd i) (kd i)) rCells_len (fun j u hu => cell_of u6.at_ (by simpa using hu)) ?_
    have hm6 := MapAt.mono hm3 (V.keeps0 k36)
    have hsz6 := hsz3.keep k36 id
    have o6 := k36.blk0 o3
    have k26 : Keeps Ft w2 w6 := k3.then0 k36
    have hkey : OkKey P T.least_row (Ty.raw.enc (rowKey (kNext svs lv kd i) (kd i))) := rowOk (fun b hb => by have := kNext_rng (lv := lv) A hkr (n := i) hb; omega) (by have := hkr i ht; omega)
    have keyEq : ∀ j, rowKey (kNext svs lv kd i) (kd i) = rowKey (kNext svs lv kd j) (kd j) ↔ RowEq svs lv kd i j := fun j => ⟨fun h => rowKey_inj h, fun h => by rw [h.2]; exact rowKey_congr h.1⟩
    refine App.look2 (kt := .raw) (vt := .int .i64) (x := rowKey (kNext svs lv kd i) (kd i)) (z := 0) rowIntTy (run_zeroInt w6) (mo := some m1) hm6 hkey (fun y hy => ?_) (fun hno => ?_)
    · obtain ⟨j0, hj0, hkk, rfl⟩ := hy
      have hre := (keyEq j0).1 hkk
      simp only [Join, Bool.not_true, Br_false]
      refine IdxS.putG (t := .int .i64) (v := nk j0) o6 ht fun w7 u7 => ?_
      rw [e4]
      have hold : ∀ j, j < i → (fun j => if j = i then nk j0 else nk j) j = nk j := fun j hj => by
        have : j ≠ i := by omega
        simp [this]
      have hold' : ∀ j, j < i → (if j = i then nk j0 else nk j) = nk j := hold
      have ei : ∀ a, a < i + 1 → ∃ a', a' < i ∧ (if a = i then nk j0 else nk a) = nk a' ∧ (∀ c, RowEq svs lv kd a c ↔ RowEq svs lv kd a' c) := fun a ha => by
        by_cases e : a = i
        · subst e
          refine ⟨j0, hj0, by simp, fun c => ⟨fun h => ⟨fun b hb => (hre.1 b hb).symm.trans (h.1 b hb), hre.2.symm.trans h.2⟩, fun h => ⟨fun b hb => (hre.1 b hb).trans (h.1 b hb), hre.2.trans h.2⟩⟩⟩
        · exact ⟨a, by omega, by simp [e], fun _ => Iff.rfl⟩
      have sym : ∀ a c, RowEq svs lv kd a c ↔ RowEq svs lv kd c a := fun a c => ⟨fun h => ⟨fun b hb => (h.1 b hb).symm, h.2.symm⟩, fun h => ⟨fun b hb => (h.1 b hb).symm, h.2.symm⟩⟩
      refine hR _ _ ⟨k26.then u7.keeps fun b hb h => .inr h, i + 1, fun j => if j = i then nk j0 else nk j, reps, by omega, rfl, u7.at_, ?_, hsz6.keep u7.keeps (by omega), by omega, fun j hj => ?_, fun a b ha hb => ?_, ⟨fun r hr => by have := hcnt.lt r hr; omega, ?_, fun j hj => ?_⟩⟩ (by omega)
      · refine MapAt.congr (MapAt.keep hm6 u7.keeps (by omega) id) fun k v => ?_
        constructor
        · rintro ⟨j, hj, rfl, rfl⟩; exact ⟨j, by omega, rfl, (hold j hj).symm⟩
        · rintro ⟨j, hj, rfl, rfl⟩
          by_cases e : j = i
          · subst e; exact ⟨j0, hj0, hkk, by simp⟩
          · exact ⟨j, by omega, rfl, hold j (by omega)⟩
      · obtain ⟨a', h1, h2, _⟩ := ei j hj
        show 0 ≤ (if j = i then nk j0 else nk j) ∧ (if j = i then nk j0 else nk j) < _
        rw [h2]; exact hrg a' h1
      · obtain ⟨a', h1, h2, h3⟩ := ei a ha
        obtain ⟨b', h4, h5, h6⟩ := ei b hb
        show (if a = i then nk j0 else nk a) = (if b = i then nk j0 else nk b) ↔ _
        rw [h2, h5, h3, sym a' b, h6, sym b' a']
        exact hiff a' b' h1 h4
      · refine hcnt.ne.imp_of_mem fun {a b} ha hb h => ?_
        rw [hold' a (hcnt.lt a ha), hold' b (hcnt.lt b hb)]; exact h
      · obtain ⟨a', h1, h2, _⟩ := ei j hj
        obtain ⟨r, hr, er⟩ := hcnt.all a' h1
        refine ⟨r, hr, ?_⟩
        rw [hold' r (hcnt.lt r hr)]
        show nk r = (if j = i then nk j0 else nk j)
        rw [h2, er]
    · have hnew : ∀ j, j < i → ¬ RowEq svs lv kd i j := fun j hj h => hno (nk j) ⟨j, hj, (keyEq j).2 h, rfl⟩
      simp only [Join, Bool.not_false, Br_true]
      refine App.len rowIntTy.ty hsz6 ?_
      refine LdA.gen (c := rCells (kNext svs lv kd i) (kd i)) rCells_len (fun j u hu => cell_of u6.at_ (by simpa using hu)) ?_
      refine App0.putNew (kt := .raw) (vt := .int .i64) (x := rowKey (kNext svs lv kd i) (kd i)) (y := ((reps.length : Nat) : Int)) rowIntTy hm6 hsz6 hkey (fun y hy => hno y hy) fun w7 k7 z7 hm7 hsz7 => ?_
      refine IdxS.putG (t := .int .i64) (v := ((reps.length : Nat) : Int)) (k7.blk o6 hne2) ht fun w8 u8 => ?_
      rw [e4]
      have hold : ∀ j, j < i → (fun j => if j = i then ((reps.length : Nat) : Int) else nk j) j = nk j := fun j hj => by
        have : j ≠ i := by omega
        simp [this]
      have hold' : ∀ j, j < i → (if j = i then ((reps.length : Nat) : Int) else nk j) = nk j := hold
      have sym : ∀ a c, RowEq svs lv kd a c ↔ RowEq svs lv kd c a := fun a c => ⟨fun h => ⟨fun b hb => (h.1 b hb).symm, h.2.symm⟩, fun h => ⟨fun b hb => (h.1 b hb).symm, h.2.symm⟩⟩
      refine hR _ _ ⟨(k26.then k7 fun b hb h => .inl h).then u8.keeps fun b hb h => .inr h, i + 1, fun j => if j = i then ((reps.length : Nat) : Int) else nk j, reps ++ [i], by omega, rfl, u8.at_, ?_, by rw [List.length_append]; exact hsz7.keep u8.keeps (by omega), by simp; omega, fun j hj => ?_, fun a b ha hb => ?_, ⟨fun r hr => ?_, ?_, fun j hj => ?_⟩⟩ (by omega)
      · refine MapAt.congr (MapAt.keep hm7 u8.keeps (by omega) id) fun k v => ?_
        constructor
        · rintro (⟨rfl, rfl⟩ | ⟨_, j, hj, rfl, rfl⟩)
          · exact ⟨i, by omega, rfl, by simp⟩
          · exact ⟨j, by omega, rfl, (hold j hj).symm⟩
        · rintro ⟨j, hj, rfl, rfl⟩
          by_cases e : j = i
          · subst e; exact .inl ⟨rfl, by simp⟩
          · exact .inr ⟨fun e2 => hnew j (by omega) ((keyEq j).1 e2.symm), j, by omega, rfl, hold j (by omega)⟩
      · by_cases e : j = i
        · subst e; simp; omega
        · have := hrg j (by omega)
          simp only [e, if_false, List.length_append, List.length_cons, List.length_nil]; omega
      · by_cases ea : a = i <;> by_cases eb : b = i
        · subst ea eb; simp [RowEq]
        · subst ea
          have := hrg b (by omega)
          simp only [if_true, eb, if_false]
          exact ⟨fun h => by omega, fun h => absurd h (hnew b (by omega))⟩
        · subst eb
          have := hrg a (by omega)
          simp only [if_true, ea, if_false]
          exact ⟨fun h => by omega, fun h => absurd ((sym _ _).1 h) (hnew a (by omega))⟩
        · simp only [ea, eb, if_false]
          exact hiff a b (by omega) (by omega)
      · rcases List.mem_append.1 hr with h | h
        · have := hcnt.lt r h; omega
        · simp at h; omega
      · refine List.pairwise_append.2 ⟨hcnt.ne.imp_of_mem fun {a b} ha hb h => ?_, by simp, fun a ha b hb => ?_⟩
        · rw [hold' a (hcnt.lt a ha), hold' b (hcnt.lt b hb)]; exact h
        · simp only [List.mem_singleton] at hb
          subst hb
          have h1 := hcnt.lt a ha
          have h2 := hrg a h1
          rw [hold' a h1]
          simp; omega
      · by_cases e : j = i
        · subst e; exact ⟨j, by simp, rfl⟩
        · obtain ⟨r, hr, er⟩ := hcnt.all j (by omega)
          refine ⟨r, by simp [hr], ?_⟩
          rw [hold' r (hcnt.lt r hr), hold' j (by omega)]; exact er
  · have hf : i = svs.length := by have h9 : ¬ (_ : Int) < (svs.length : Int) := of_decide_eq_false hf; omega
    subst hf
    refine Draw.mk fun w4 hh4 k4 => ?_
    have hsz4 : MapSz w4 m1 reps.length := hsz3.keep k4 id
    refine AppS.len rowIntTy.ty (fun w h => by rw [h]; exact hsz4) ?_
    have ob4 : w4.heap[br]? = some (rObj d ll kk nn) := k4.blk0 (k3.blk (k02.blk0 hobj) (by rintro (h | h) <;> omega))
    refine LdS.int (cell_of ob4 rfl) ?_
    refine App.len rowIntTy.ty hsz4 ?_
    refine St.blk ob4 (by show 2 < 4; omega) fun w5 u5 => ?_
    refine St.blk u5.at_ (by show 3 < 4; omega) fun w6 u6 => ?_
    have k46 : Keeps (· = br) w4 w6 := u5.keeps.trans u6.keeps
    have o4 := k4.blk0 o3
    refine hK ⟨some ⟨bn, 0, none⟩, svs.length, svs.length⟩ nk reps w6 ?_ u6.at_ (Row.sl (M := (· = br)) (k46.blk o4 hne3) hne3 rowG_len.symm) (fun i hi => ⟨(hrg i hi).1, Int.lt_of_lt_of_le (hrg i hi).2 (Int.ofNat_le.2 hri)⟩) hiff hcnt
    exact ((k02.then (k3.then0 k4) fun b hb h => by rcases h with h | h <;> omega).mono fun b _ h => h.elim).trans k46
end Go.Fk
end

section
set_option linter.unusedVariables false
namespace Go.Fk
open Go Go.MapKept Go.Maps
open Go.ChangeMaps (setBlock)

/-! ## Kinds of states -/

section
variable {P : Program} {T kT vT : TypeId} {kt vt : Ty} {m : Nat} {R : kt.T → vt.T → Prop}

/-- 'm[k] = v', k met. -/
theorem App0.putOld (hT : MapTy P T kT vT kt vt) {w : World} {x : kt.T} {y : vt.T} {K : World → Prop} {M : Nat → Prop} {n : Nat} (h : MapAt P kT kt vt (V M w) m R) (hsz : MapSz w m n) (hk : OkKey P kT (kt.enc x)) {y0 : vt.T} (hold : R x y0)
    (hK : ∀ w', Keeps (· = m) w w' → w'.heap.size = w.heap.size → MapAt P kT kt vt (V M w') m (fun a b => (a = x ∧ b = y) ∨ (a ≠ x ∧ R a b)) → MapSz w' m n → K w') :
    App0 P (Instr.mapUpdate T (.map (some m)) (kt.enc x) (vt.enc y)) w K := by
  obtain ⟨es, clock, ⟨hM, hb⟩, hs, h3, h4⟩ := h
  obtain ⟨es', clock', hb', hn⟩ := hsz
  rw [hb] at hb'
  cases hb'
  obtain ⟨lx, hlx⟩ := hk
  rcases hT.keyed.find w hlx es.toList (fun e he => (h3 e he).1) with ⟨h1, h2⟩ | ⟨j, e0, h1, h2, h5⟩
  · obtain ⟨e, he, hke, _⟩ := h4 x y0 hold
    exact absurd hke (h2 e he)
  · have hj : es[j]? = some e0 := by simpa using h2
    have hlist : (es.modify j (fun e' => { e' with key := kt.enc x, val := vt.enc y })).toList = es.toList.set j { e0 with key := kt.enc x, val := vt.enc y } := by rw [Array.toList_modify, Go.ChangeMaps.modify_eq_set _ _ _ _ h2]
    have hu := keepsSetBlock hb (.map (es.modify j (fun e' => { e' with key := kt.enc x, val := vt.enc y })) clock)
    refine ⟨setBlock w m (.map (es.modify j (fun e' => { e' with key := kt.enc x, val := vt.enc y })) clock), ?_, hK _ hu.keeps hu.size ?_ ⟨_, _, hu.at_, by simp [hn]⟩⟩
    · simp [Instr.mapUpdate, run_underlying hT.ty, MapKept.run_getObj_map hb, hT.keyed.check w false hlx, h1, hj, h5, hT.keyed.stays w hlx, MapKept.run_setObj_map _ hb, Result.andThen, setBlock]
    · have he0 : e0 ∈ es.toList := List.mem_of_getElem? h2
      have hset : ∀ e, e ∈ es.toList.set j { e0 with key := kt.enc x, val := vt.enc y } ↔ e = { e0 with key := kt.enc x, val := vt.enc y } ∨ (e ∈ es.toList ∧ e.key ≠ kt.enc x) := by
        intro e
        have hjl : j < es.toList.length := (List.getElem?_eq_some_iff.1 h2).1
        constructor
        · intro he
          obtain ⟨i, hi⟩ := List.getElem?_of_mem he
          rw [List.getElem?_set] at hi
          split at hi
          · simp at hi; exact .inl hi.symm
          · rename_i hne
            refine .inr ⟨List.mem_of_getElem? hi, fun e1 => ?_⟩
            have := key_once hs (List.mem_of_getElem? hi) he0 (e1.trans h5.symm)
            subst this
            have hb2 := hs.2.1
            rw [List.Nodup, List.pairwise_map, List.pairwise_iff_getElem] at hb2
            rw [List.getElem?_eq_some_iff] at hi h2
            obtain ⟨hi1, hi2⟩ := hi
            obtain ⟨hj1, hj2⟩ := h2
            rcases Nat.lt_trichotomy i j with h | h | h
            · exact hb2 i j hi1 hj1 h (by rw [hi2, hj2])
            · exact hne h.symm
            · exact hb2 j i hj1 hi1 h (by rw [hi2, hj2])
        · rintro (rfl | ⟨he, hk⟩)
          · exact List.mem_set hjl _
          · obtain ⟨i, hi⟩ := List.getElem?_of_mem he
            refine List.mem_of_getElem? (i := i) ?_
            rw [List.getElem?_set, if_neg, hi]
            rintro rfl
            rw [h2] at hi
            cases hi
            exact hk h5
      refine ⟨_, _, ⟨hM, hu.at_⟩, stamped_modify hs _ _ (fun _ _ => rfl) (fun e' _ he' => by rw [hj] at he'; cases he'; exact h5.symm), ?_, ?_⟩
      · intro e he
        rw [hlist, hset] at he
        rcases he with rfl | ⟨he, hk⟩
        · exact ⟨⟨lx, hlx⟩, x, y, rfl, rfl, .inl ⟨rfl, rfl⟩⟩
        · obtain ⟨h6, x', y', h7, h8, h9⟩ := h3 e he
          exact ⟨h6, x', y', h7, h8, .inr ⟨fun e1 => hk (by rw [h7, e1]), h9⟩⟩
      · rw [hlist]
        rintro a b (⟨rfl, rfl⟩ | ⟨ha, hr⟩)
        · exact ⟨_, (hset _).2 (.inl rfl), rfl, rfl⟩
        · obtain ⟨e, he, h6, h7⟩ := h4 a b hr
          exact ⟨e, (hset _).2 (.inr ⟨he, fun e1 => ha (Ty.enc_inj (h6.symm.trans e1))⟩), h6, h7⟩
end

theorem boolSetTy : MapTy P T.map_int_bool T.int T.bool (.int .i64) .bool := ⟨by kernel_rfl, int_keyed int_u⟩
theorem intIntTy : MapTy P T.map_int_int T.int T.int (.int .i64) (.int .i64) := ⟨by kernel_rfl, int_keyed int_u⟩
theorem intKey {n : Int} (h : -9223372036854775808 ≤ n ∧ n ≤ 9223372036854775807) : OkKey P T.int ((Ty.int .i64).enc n) := by
  have hm : IntKind.i64.min = -9223372036854775808 := by decide
  exact ⟨_, keyOf_int_mk int_u (by simp only [Lit.wf, decide_eq_true_eq, Bool.and_eq_true, hm]; exact h)⟩

variable {svs : List DSt} {cl : Nat → Int} {nc : Int}

def kd0 (svs : List DSt) (lv : Nat → Bool) (n : Nat) : Int := if lv n = true then ac svs n + 2 else 0

/-- A relation that the rounds cannot tell apart. -/
structure Bis (svs : List DSt) (lv : Nat → Bool) (E : Nat → Nat → Prop) : Prop where
  kd : ∀ i j, E i j → kd0 svs lv i = kd0 svs lv j
  next : ∀ i j b, E i j → b < 256 → match nxt svs i b, nxt svs j b with
    | some a, some c => (lv a = lv c) ∧ (lv a = true → E a c)
    | some a, none => lv a = false
    | none, some c => lv c = false
    | none, none => True

structure Kinds (svs : List DSt) (lv : Nat → Bool) (kd : Nat → Int) : Prop where
  rng : ∀ i, i < svs.length → 0 ≤ kd i ∧ kd i ≤ 200000
  zero : ∀ i j, i < svs.length → j < svs.length → kd i = kd j → kd0 svs lv i = kd0 svs lv j
  eqv : ∀ E, Bis svs lv E → ∀ i j, i < svs.length → j < svs.length → E i j → kd i = kd j

theorem Kinds.step {lv : Nat → Bool} {kd nk : Nat → Int} (A : Aut svs) (h : Kinds svs lv kd) (hr : ∀ i, i < svs.length → 0 ≤ nk i ∧ nk i < svs.length) (hiff : ∀ i j, i < svs.length → j < svs.length → (nk i = nk j ↔ RowEq svs lv kd i j)) : Kinds svs lv nk where
  rng i hi := by have := hr i hi; have := A.few; omega
  zero i j hi hj e := h.zero i j hi hj ((hiff i j hi hj).1 e).2
  eqv E hE i j hi hj e := by
    refine (hiff i j hi hj).2 ⟨fun b hb => ?_, h.eqv E hE i j hi hj e⟩
    have hn := hE.next i j b e hb
    unfold kNext
    cases h1 : nxt svs i b with
    | none =>
      cases h2 : nxt svs j b with
      | none => rfl
      | some c => rw [h1, h2] at hn; dsimp only at hn ⊢; rw [hn]; simp
    | some a =>
      cases h2 : nxt svs j b with
      | none => rw [h1, h2] at hn; dsimp only at hn ⊢; rw [hn]; simp
      | some c =>
        rw [h1, h2] at hn
        dsimp only at hn ⊢
        obtain ⟨g1, g2⟩ := hn
        rw [← g1]
        by_cases hl : lv a = true
        · rw [if_pos hl, if_pos hl]
          exact h.eqv E hE a c (A.nxt_lt hb h1).1 (A.nxt_lt hb h2).1 (g2 hl)
        · rw [if_neg hl, if_neg hl]

set_option maxRecDepth 20000 in
theorem kinds_spec {w : World} {d : Option Addr} {ll : Sl} {lv : Nat → Bool} (hd : DfaO (V No w) d svs cl nc) (hl : SlT .bool (V No w) ll (rowG svs.length lv)) (A : Aut svs) {K : Sl → World → Prop}
    (hK : ∀ kk kd w', Keeps No w w' → SlT (.int .i64) (V No w') kk (rowG svs.length kd) → Kinds svs lv kd → (∀ i j, i < svs.length → j < svs.length → kd i = kd j → ∀ b, b < 256 → kNext svs lv kd i b = kNext svs lv kd j b) → K kk w') : least_kinds.C d ll w K := by
  have hfew := A.few
  refine least_kinds.ok _ _ _ _ ?_
  simp only [least_kinds.M]
  refine dfa_States_spec hd ?_
  refine App.make1 (t := .int .i64) (z := 0) elIntM rfl (by omega) (by omega) fun bk w1 n1 => Al.mk fun b1 w2 n2 => Al.mk fun m2 w3 n3 => ?_
  have e1 := n1.eq; have z1 := n1.size; have e2 := n2.eq; have z2 := n2.size; have e3 := n3.eq; have z3 := n3.size
  have o1 := n1.at_
  rw [rowG_rep] at o1
  have ob3 : w3.heap[b1]? = some (rObj d ll ⟨some ⟨bk, 0, none⟩, svs.length, svs.length⟩ 0) := n3.keeps.blk0 n2.at_
  have k03 : Keeps No w w3 := (n1.keeps.trans n2.keeps).trans n3.keeps
  have g1 : w.heap.size ≤ bk := by omega
  have g2 : w.heap.size ≤ b1 := by omega
  have g3 : w.heap.size ≤ m2 := by omega
  have hmv : ∀ {w'}, Keeps No w w' → Vle (V No w) (V (· = b1) w') := fun {w'} k => V.move k (fun _ _ h => h.elim) (fun b hb h => by omega)
  have hmv0 : ∀ {w'}, Keeps No w w' → Vle (V No w) (V No w') := fun {w'} k => V.keeps0 k
  refine Ld.slv (l := ⟨some ⟨bk, 0, none⟩, svs.length, svs.length⟩) (cell_of ob3 rfl) ?_
  refine Loop.mk (fun s w' => Keeps No w w' ∧ ∃ (i : Nat) (reps : List Nat), i ≤ svs.length ∧ s = (i : Int) ∧ w'.heap[bk]? = some (rowObj (.int .i64) T.int (rowG svs.length fun j => if j < i then kd0 svs lv j else 0)) ∧
      w'.heap[b1]? = some (rObj d ll ⟨some ⟨bk, 0, none⟩, svs.length, svs.length⟩ 0) ∧ MapAt P T.int (.int .i64) .bool (V No w') m2 (fun k v => ∃ j, j < i ∧ k = kd0 svs lv j ∧ v = true) ∧ MapSz w' m2 reps.length ∧ Cnt i (kd0 svs lv) reps) (fun s => svs.length - s.toNat)
    ⟨k03, 0, [], by omega, rfl, by simpa using n3.keeps.blk0 (n2.keeps.blk0 o1), ob3, ?_, .empty n3.at_, ⟨by simp, .nil, fun j hj => by omega⟩⟩ ?_
  · exact (MapAt.empty (kt := .int .i64) (vt := .bool) ⟨id, n3.at_⟩).congr fun x y => by simp
  rintro s w4 ⟨k4, i, reps, hi, rfl, ok4, ob4, hm4, hsz4, hcnt⟩ R hR
  refine Br.mk (fun ht => ?_) (fun hf => ?_)
  · have ht : i < svs.length := by have h9 : (_ : Int) < (svs.length : Int) := of_decide_eq_true ht; omega
    have e4 : w64 ((i : Int) + 1) = ((i + 1 : Nat) : Int) := by rw [w64_eq (by omega)]; omega
    have hacr := A.ac_rng i
    refine Join.cut (fun (_ : Unit) w' => Keeps No w w' ∧ w'.heap[bk]? = some (rowObj (.int .i64) T.int (rowG svs.length fun j => if j < i + 1 then kd0 svs lv j else 0)) ∧
      w'.heap[b1]? = some (rObj d ll ⟨some ⟨bk, 0, none⟩, svs.length, svs.length⟩ 0) ∧ MapAt P T.int (.int .i64) .bool (V No w') m2 (fun k v => ∃ j, j < i ∧ k = kd0 svs lv j ∧ v = true) ∧ MapSz w' m2 reps.length) ?_ ?_
    · rintro _ w5 ⟨k5, ok5, ob5, hm5, hsz5⟩
      refine Ld.slv (l := ⟨some ⟨bk, 0, none⟩, svs.length, svs.length⟩) (cell_of ob5 rfl) ?_
      refine IdxS.getG (t := .int .i64) (Row.sl (M := No) ok5 (fun h => h.elim) rowG_len.symm) ht ?_
      rw [if_pos (by omega), e4]
      have hkey : OkKey P T.int ((Ty.int .i64).enc (kd0 svs lv i)) := intKey (by unfold kd0; split <;> omega)
      by_cases hex : ∃ j, j < i ∧ kd0 svs lv j = kd0 svs lv i
      · obtain ⟨j0, hj0, ej0⟩ := hex
        refine App0.putOld (kt := .int .i64) (vt := .bool) (x := kd0 svs lv i) (y := true) (y0 := true) boolSetTy hm5 hsz5 hkey ⟨j0, hj0, ej0.symm, rfl⟩ fun w6 k6 z6 hm6 hsz6 => ?_
        refine hR _ _ ⟨k5.then k6 fun b hb h => by omega, i + 1, reps, by omega, rfl, k6.blk ok5 (by omega), k6.blk ob5 (by omega), hm6.congr fun k v => ?_, hsz6, ⟨fun r hr => by have := hcnt.lt r hr; omega, hcnt.ne, fun j hj => ?_⟩⟩ (by omega)
        · constructor
          · rintro (⟨rfl, rfl⟩ | ⟨_, j, hj, rfl, rfl⟩)
            · exact ⟨i, by omega, rfl, rfl⟩
            · exact ⟨j, by omega, rfl, rfl⟩
          · rintro ⟨j, hj, rfl, rfl⟩
            by_cases e : kd0 svs lv j = kd0 svs lv i
            · exact .inl ⟨e, rfl⟩
            · refine .inr ⟨e, j, ?_, rfl, rfl⟩
              by_cases e2 : j = i
              · subst e2; exact absurd rfl e
              · omega
        · by_cases e : j = i
          · subst e
            obtain ⟨r, hr, er⟩ := hcnt.all j0 hj0
            exact ⟨r, hr, er.trans ej0⟩
          · exact hcnt.all j (by omega)
      · refine App0.putNew (kt := .int .i64) (vt := .bool) (x := kd0 svs lv i) (y := true) boolSetTy hm5 hsz5 hkey (fun y hy => ?_) fun w6 k6 z6 hm6 hsz6 => ?_
        · obtain ⟨j, hj, e, _⟩ := hy
          exact hex ⟨j, hj, e.symm⟩
        refine hR _ _ ⟨k5.then k6 fun b hb h => by omega, i + 1, reps ++ [i], by omega, rfl, k6.blk ok5 (by omega), k6.blk ob5 (by omega), hm6.congr fun k v => ?_, by rw [List.length_append]; exact hsz6, ⟨fun r hr => ?_, ?_, fun j hj => ?_⟩⟩ (by omega)
        · constructor
          · rintro (⟨rfl, rfl⟩ | ⟨_, j, hj, rfl, rfl⟩)
            · exact ⟨i, by omega, rfl, rfl⟩
            · exact ⟨j, by omega, rfl, rfl⟩
          · rintro ⟨j, hj, rfl, rfl⟩
            by_cases e : kd0 svs lv j = kd0 svs lv i
            · exact .inl ⟨e, rfl⟩
            · refine .inr ⟨e, j, ?_, rfl, rfl⟩
              by_cases e2 : j = i
              · subst e2; exact absurd rfl e
              · omega
        · rcases List.mem_append.1 hr with h | h
          · have := hcnt.lt r h; omega
          · simp at h; omega
        · refine List.pairwise_append.2 ⟨hcnt.ne, by simp, fun a ha b hb => ?_⟩
          simp only [List.mem_singleton] at hb
          subst hb
          exact fun e => hex ⟨a, hcnt.lt a ha, e⟩
        · by_cases e : j = i
          · subst e; exact ⟨j, by simp, rfl⟩
          · obtain ⟨r, hr, er⟩ := hcnt.all j (by omega)
            exact ⟨r, by simp [hr], er⟩
    · intro j6 hj6
      refine IdxS.getG (t := .bool) (hl.mono (hmv0 k4)) ht ?_
      refine Br.mk (fun hlv => ?_) (fun hlv => ?_)
      · refine ⟨fun x => x.heap[b1]? = some (rObj d ll ⟨some ⟨bk, 0, none⟩, svs.length, svs.length⟩ 0), ob4, ⟨⟨some ⟨bk, 0, none⟩, svs.length, svs.length⟩, fun x hx => cell_of hx rfl, ?_⟩⟩
        have kd5 : Keeps No w4 w4.drew := Keeps.drew
        refine dfa_Accept_spec (hd.mono (hmv0 (k4.then0 kd5))) ⟨ob4, ?_⟩
        refine IdxS.putG (t := .int .i64) (v := w64 (accOf svs i + 2)) (kd5.blk0 ok4) ht fun w5 u5 => ?_
        have ob5 := u5.keeps.blk (kd5.blk0 ob4) (by omega)
        refine ⟨ob5, hj6 () w5 ⟨(k4.then0 kd5).then u5.keeps fun b hb h => by omega, ?_, ob5, MapAt.keep (MapAt.mono hm4 (V.keeps0 kd5)) u5.keeps (by omega) id, (hsz4.keep kd5 id).keep u5.keeps (by omega)⟩⟩
        rw [u5.at_]
        congr 2
        refine rowG_congr fun j hj => ?_
        by_cases e : j = i
        · subst e
          rw [if_pos rfl, if_pos (by omega), kd0, if_pos hlv]
          exact w64_eq (by show -9223372036854775808 ≤ ac svs j + 2 ∧ ac svs j + 2 ≤ 9223372036854775807; omega)
        · have : (j < i + 1) ↔ j < i := by omega
          simp [e, this]
      · refine hj6 () w4 ⟨k4, ?_, ob4, hm4, hsz4⟩
        rw [ok4]
        congr 2
        refine rowG_congr fun j hj => ?_
        by_cases e : j = i
        · subst e; simp [kd0, hlv]
        · have : (j < i + 1) ↔ j < i := by omega
          simp [this]
  · have hf : i = svs.length := by have h9 : ¬ (_ : Int) < (svs.length : Int) := of_decide_eq_false hf; omega
    subst hf
    refine App.len boolSetTy.ty hsz4 ?_
    refine St.blk ob4 (by show 3 < 4; omega) fun w5 u5 => ?_
    have ok5 := u5.keeps.blk ok4 (by omega)
    have hk0 : Kinds svs lv (kd0 svs lv) := ⟨fun i hi => by have := A.ac_rng i; unfold kd0; split <;> omega, fun i j _ _ h => h, fun E hE i j _ _ h => hE.kd i j h⟩
    refine Loop.mkn (fun m (_ : Unit) w' => Keeps No w w' ∧ ∃ (kk : Sl) (kd : Nat → Int) (reps : List Nat), w'.heap[b1]? = some (rObj d ll kk (reps.length : Nat)) ∧ SlT (.int .i64) (V (· = b1) w') kk (rowG svs.length kd) ∧ Kinds svs lv kd ∧ Cnt svs.length kd reps ∧ m = svs.length - reps.length) _
      ⟨k4.then u5.keeps fun b hb h => by omega, ⟨some ⟨bk, 0, none⟩, svs.length, svs.length⟩, kd0 svs lv, reps, u5.at_, ?_, hk0, hcnt, rfl⟩ ?_
    · refine Row.sl (M := (· = b1)) (E := T.int) (b := bk) (n := svs.length) (c := svs.length) ?_ (by omega) rowG_len.symm
      rw [ok5]
      congr 2
      exact rowG_congr fun j hj => by rw [if_pos hj]
    rintro m _ w6 ⟨k6, kk, kd, reps6, ob6, hkk6, hkin, hcnt6, rfl⟩ R6 hR6
    refine again_spec ob6 (hd.mono (hmv k6)) (hl.mono (hmv k6)) hkk6 A hkin.rng fun kk' nk reps' w7 k7 ob7 hkk7 hnr hiff hcnt7 => ?_
    have k07 : Keeps No w w7 := k6.then k7 fun b hb h => by omega
    have hkin7 := hkin.step A hnr hiff
    have hl7 := hcnt7.le
    refine Br.mk (fun hm => ?_) (fun hm => ?_)
    · have hm := of_decide_eq_true hm
      exact hR6 _ _ _ (by omega) ⟨k07, kk', nk, reps', ob7, hkk7, hkin7, hcnt7, rfl⟩
    · have hm := of_decide_eq_false hm
      refine Ld.slv (l := kk') (cell_of ob7 rfl) ?_
      refine hK kk' nk w7 k07 (hkk7.mono (V.sub fun _ _ h => h.elim)) hkin7 fun i j hi hj e b hb => ?_
      have h1 := (hiff i j hi hj).1 e
      have h2 := h1.1 b hb
      have hsame : ∀ a c, a < svs.length → c < svs.length → kd a = kd c → nk a = nk c := fun a c ha hc h => hcnt6.same hcnt7 (fun x y hx hy h => ((hiff x y hx hy).1 h).2) (by omega) ha hc h
      unfold kNext at h2 ⊢
      cases x1 : nxt svs i b with
      | none =>
        cases x2 : nxt svs j b with
        | none => rfl
        | some c =>
          rw [x1, x2] at h2
          dsimp only at h2 ⊢
          have := hkin.rng c (A.nxt_lt hb x2).1
          by_cases hl : lv c = true
          · rw [if_pos hl] at h2; omega
          · rw [if_neg hl]
      | some a =>
        have ra := hkin.rng a (A.nxt_lt hb x1).1
        cases x2 : nxt svs j b with
        | none =>
          rw [x1, x2] at h2
          dsimp only at h2 ⊢
          by_cases hl : lv a = true
          · rw [if_pos hl] at h2; omega
          · rw [if_neg hl]
        | some c =>
          rw [x1, x2] at h2
          dsimp only at h2 ⊢
          have rc := hkin.rng c (A.nxt_lt hb x2).1
          by_cases hla : lv a = true <;> by_cases hlc : lv c = true
          · rw [if_pos hla, if_pos hlc] at h2 ⊢
            exact hsame a c (A.nxt_lt hb x1).1 (A.nxt_lt hb x2).1 h2
          · rw [if_pos hla, if_neg hlc] at h2; omega
          · rw [if_neg hla, if_pos hlc] at h2; omega
          · rw [if_neg hla, if_neg hlc]
end Go.Fk
end

section
set_option linter.unusedVariables false
namespace Go.Fk
open Go Go.MapKept Go.Maps

/-! ## The least automaton is made -/

structure LSt where
  nx : Nat → Int
  acc : Int
def LSt.cells (m : LSt) : List Value := rCells m.nx m.acc
theorem LSt.lens {ms : List LSt} : ∀ c ∈ ms.map LSt.cells, c.length = 257 := fun c hc => by obtain ⟨m, _, rfl⟩ := List.mem_map.1 hc; exact rCells_len

def LeastV (H : View) (p : Option Addr) (N : Nat) (ms : List LSt) (of_ : Nat → Int) : Prop :=
  ∃ b l o, p = some ⟨b, 0, none⟩ ∧ H b (.cells #[.slice l.a l.n l.c, .slice o.a o.n o.c] T.least_Least (0, 0)) ∧ SlC H l 257 (ms.map LSt.cells) ∧ SlT (.int .i64) H o (rowG N of_)
theorem LeastV.mono {H H' : View} {p : Option Addr} {N : Nat} {ms : List LSt} {of_ : Nat → Int} (h : LeastV H p N ms of_) (hv : Vle H H') : LeastV H' p N ms of_ := by
  obtain ⟨b, l, o, h1, h2, h3, h4⟩ := h
  exact ⟨b, l, o, h1, hv _ _ h2, h3.mono hv, h4.mono hv⟩

theorem elLs : Elem P T.sl_least_state T.least_state (.agg (rCells (fun _ => 0) 0).toArray) 257 2056 := ⟨by kernel_rfl, by kernel_rfl, by simp [Value.cells, rCells_len], by decide⟩
theorem buildLs (k : Int) : P.built T.least_state [(1, .int .i64 k)] = some (rCells (fun _ => 0) k).toArray := by kernel_rfl
theorem sizeLs : (P.info? T.least_state).map (·.size) = some 257 := by kernel_rfl

variable {svs : List DSt} {cl : Nat → Int} {nc : Int}

/-- Where a byte leads, by the states' kinds. -/
def GoodL (svs : List DSt) (lv : Nat → Bool) (kd : Nat → Int) (fs : List Nat) (n b : Nat) (v : Int) : Prop :=
  (v = -1 ∧ ∀ k, nxt svs n b = some k → lv k = false) ∨ ∃ (k x m : Nat), nxt svs n b = some k ∧ lv k = true ∧ v = x ∧ fs[x]? = some m ∧ kd m = kd k

structure FsOK (svs : List DSt) (lv : Nat → Bool) (kd : Nat → Int) (fs : List Nat) : Prop where
  lt : ∀ n ∈ fs, n < svs.length
  ne : fs.Pairwise fun a b => kd a ≠ kd b
  zero : fs[0]? = some 0
  live : ∀ (x : Nat) n, fs[x]? = some n → 0 < x → lv n = true

theorem FsOK.le {lv : Nat → Bool} {kd : Nat → Int} {fs : List Nat} (h : FsOK svs lv kd fs) : fs.length ≤ svs.length := by
  have := nodup_le fs (List.range svs.length) (h.ne.imp fun hne e => hne (by rw [e])) fun x hx => by simpa using h.lt x hx
  simpa using this

theorem FsOK.inj {lv : Nat → Bool} {kd : Nat → Int} {fs : List Nat} (h : FsOK svs lv kd fs) {x y m n : Nat} (hx : fs[x]? = some m) (hy : fs[y]? = some n) (e : kd m = kd n) : x = y := by
  have hp := List.pairwise_iff_getElem.1 h.ne
  obtain ⟨h1, h2⟩ := List.getElem?_eq_some_iff.1 hx
  obtain ⟨h3, h4⟩ := List.getElem?_eq_some_iff.1 hy
  rcases Nat.lt_trichotomy x y with g | g | g
  · exact absurd (by rw [h2, h4, e]) (hp x y h1 h3 g)
  · exact g
  · exact absurd (by rw [h2, h4, e]) (hp y x h3 h1 g)

theorem GoodL.mono {lv : Nat → Bool} {kd : Nat → Int} {fs l : List Nat} {n b : Nat} {v : Int} (h : GoodL svs lv kd fs n b v) : GoodL svs lv kd (fs ++ l) n b v := by
  rcases h with h | ⟨k, x, m, h1, h2, h3, h4, h5⟩
  · exact .inl h
  · exact .inr ⟨k, x, m, h1, h2, h3, by rw [List.getElem?_append_left (List.getElem?_eq_some_iff.1 h4).1]; exact h4, h5⟩

structure MsOK (svs : List DSt) (lv : Nat → Bool) (kd : Nat → Int) (fs : List Nat) (ms : List LSt) : Prop where
  each : ∀ (j : Nat) m, ms[j]? = some m → ∃ n, fs[j]? = some n ∧ m.acc = ac svs n ∧ ∀ b, b < 256 → GoodL svs lv kd fs n b (m.nx b)
  top : goTop (ms.flatMap fun m => rowL m.nx) 0 = some ((fs.length : Int) - 1)

def KeyL (kd : Nat → Int) (fs : List Nat) (k v : Int) : Prop := ∃ (x n : Nat), fs[x]? = some n ∧ k = kd n ∧ v = x

def OfOK (lv : Nat → Bool) (kd : Nat → Int) (fs : List Nat) (n : Nat) (v : Int) : Prop :=
  (∃ (x m : Nat), fs[x]? = some m ∧ kd m = kd n ∧ (lv n = true ∨ n = 0) ∧ v = x) ∨ (v = -1 ∧ ¬ ((lv n = true ∨ n = 0) ∧ ∃ (x m : Nat), fs[x]? = some m ∧ kd m = kd n))

structure LeastOK (svs : List DSt) (lv : Nat → Bool) (kd : Nat → Int) (fs : List Nat) (ms : List LSt) (of_ : Nat → Int) : Prop where
  alive : ∀ n, n < svs.length → (lv n = true ↔ Alive svs n)
  kinds : Kinds svs lv kd
  stable : ∀ i j, i < svs.length → j < svs.length → kd i = kd j → ∀ b, b < 256 → kNext svs lv kd i b = kNext svs lv kd j b
  fsok : FsOK svs lv kd fs
  msok : MsOK svs lv kd fs ms
  len : ms.length = fs.length
  ofok : ∀ n, n < svs.length → OfOK lv kd fs n (of_ n)

abbrev lObj (l o : Sl) : Obj := .cells #[.slice l.a l.n l.c, .slice o.a o.n o.c] T.least_Least (0, 0)

set_option maxRecDepth 20000 in
theorem least_New_spec {w : World} {d : Option Addr} (hd : DfaO (V No w) d svs cl nc) (hs : d.isNone = false) (A : Aut svs) {K : (Option Addr × Int) → World → Prop}
    (hK : ∀ p lv kd fs ms of_ w', Keeps No w w' → LeastV (V No w') p svs.length ms of_ → LeastOK svs lv kd fs ms of_ → K (p, 0) w') : least_New.C d w K := by
  have hfew := A.few
  have hpos := A.pos
  refine least_New.ok _ _ _ ?_
  simp only [least_New.M]
  rw [hs, Br_false]
  refine live_spec (M := No) hd A fun ll wl lv kl hll hlv => ?_
  refine kinds_spec (hd.mono (V.keeps0 kl)) hll A fun kk kd wk kk0 hkk hkin hstab => ?_
  have kwk : Keeps No w wk := kl.trans kk0
  have hdk := hd.mono (V.keeps0 (M := No) kwk)
  have hllk := hll.mono (V.keeps0 (M := No) kk0)
  refine dfa_States_spec hdk ?_
  refine App.make1 (t := .int .i64) (z := 0) elIntM rfl (by omega) (by omega) fun bo w4 n4 => Al.mk fun b1 w5 n5 => Al.mk fun m2 w6 n6 => ?_
  have e4 := n4.eq; have z4 := n4.size; have e5 := n5.eq; have z5 := n5.size; have e6 := n6.eq; have z6 := n6.size
  have k46 : Keeps No wk w6 := (n4.keeps.trans n5.keeps).trans n6.keeps
  refine IdxS.getG (t := .int .i64) (i := 0) (hkk.mono (V.keeps0 k46)) hpos ?_
  have hkz := hkin.rng 0 hpos
  have hempty : MapAt P T.int (.int .i64) (.int .i64) (V No w6) m2 (fun _ _ => False) := MapAt.empty ⟨id, n6.at_⟩
  refine App0.put (kt := .int .i64) (vt := .int .i64) (x := kd 0) (y := 0) intIntTy hempty (intKey (by omega)) fun w7 k7 z7 hm7 => ?_
  refine Al.mk fun b3 w8 n8 => ?_
  have e8 := n8.eq; have z8 := n8.size
  have o8 : w8.heap[bo]? = some (rowObj (.int .i64) T.int (rowG svs.length fun _ => 0)) := by
    rw [← rowG_rep]; exact n8.keeps.blk0 (k7.blk (n6.keeps.blk0 (n5.keeps.blk0 n4.at_)) (by omega))
  have ob8 : w8.heap[b1]? = some (lObj ⟨none, 0, 0⟩ ⟨some ⟨bo, 0, none⟩, svs.length, svs.length⟩) := n8.keeps.blk0 (k7.blk (n6.keeps.blk0 n5.at_) (by omega))
  have k08 : Keeps No wk w8 := (k46.then k7 fun b hb h => by omega).trans n8.keeps
  have hmL : 281474976710656 ≤ maxLen := by decide
  let oS : Sl := ⟨some ⟨bo, 0, none⟩, svs.length, svs.length⟩
  -- what holds at a round's head
  let Hd : World → Sl → List Nat → Sl → List LSt → Prop := fun w' fr fs ml ms =>
    Keeps No wk w' ∧ w'.heap[b1]? = some (lObj ml oS) ∧ w'.heap[bo]? = some (rowObj (.int .i64) T.int (rowG svs.length fun _ => 0)) ∧
    MapAt P T.int (.int .i64) (.int .i64) (V No w') m2 (KeyL kd fs) ∧ Own w' b3 T.int 1 fr ((fs.map fun (n : Nat) => (n : Int)).map (Ty.int .i64).enc) ∧ Own w' w8.heap.size T.least_state 257 ml (ms.map LSt.cells).flatten ∧
    (∀ b, fr.blk b → ¬ ml.blk b) ∧ FsOK svs lv kd fs ∧ w8.heap.size ≤ w'.heap.size
  have frLen : ∀ {w' : World} {fr : Sl} {fs : List Nat}, Own w' b3 T.int 1 fr ((fs.map fun (n : Nat) => (n : Int)).map (Ty.int .i64).enc) → fr.n = fs.length := fun h => by
    have := h.len; simpa using this.symm
  have hfs0 : FsOK svs lv kd [0] := ⟨fun n hn => by simp at hn; omega, by simp, rfl, fun x n hx h0 => by
    cases x with
    | zero => omega
    | succ x => simp at hx⟩
  refine Loop.mk (fun (s : Sl × Int) w' => ∃ (i : Nat) (fs : List Nat) (ml : Sl) (ms : List LSt), Hd w' s.1 fs ml ms ∧ s.2 = (i : Int) ∧ ms.length = i ∧ i ≤ fs.length ∧ MsOK svs lv kd fs ms) (fun s => svs.length - s.2.toNat)
    ⟨0, [0], ⟨none, 0, 0⟩, [], ⟨k08, ob8, o8, ?_, ?_, Own.nil _ _ _ _, fun b _ h => ?_, hfs0, Nat.le_refl _⟩, rfl, rfl, by simp, ⟨fun j m hj => by simp at hj, by simp [goTop]⟩⟩ ?_
  · refine MapAt.congr (MapAt.mono hm7 (V.keeps0 n8.keeps)) fun k v => ?_
    constructor
    · rintro (⟨rfl, rfl⟩ | ⟨_, h⟩)
      · exact ⟨0, 0, rfl, rfl, rfl⟩
      · exact h.elim
    · rintro ⟨x, n, hx, rfl, rfl⟩
      cases x with
      | zero => simp at hx; subst hx; exact .inl ⟨rfl, rfl⟩
      | succ x => simp at hx
  · exact ⟨by simp, .inr ⟨b3, 1, _, rfl, Nat.le_refl _, n8.at_, Nat.le_refl _, by omega, by simp, by simp [Ty.enc]⟩⟩
  · obtain ⟨a, ha, _⟩ := h; cases ha
  rintro ⟨fr, ii⟩ w9 ⟨i, fs, ml, ms, ⟨k9, ob9, o9, hm9, of9, om9, dj9, hfs9, z9⟩, hii, hmsl, hil, hms⟩ R hR
  dsimp only at hii ob9 of9 dj9 ⊢
  subst hii
  have hfrn := frLen of9
  have hle9 := hfs9.le
  refine Br.mk (fun ht => ?_) (fun hf => ?_)
  · have ht : i < fs.length := by have := of_decide_eq_true ht; omega
    have hn : fs[i]? = some fs[i] := List.getElem?_eq_getElem ht
    generalize hgn : fs[i] = n at hn
    have hnN := hfs9.lt n (List.mem_of_getElem? hn)
    have getN : ∀ {w' : World} {fr' : Sl} {fs' : List Nat} {k : Int → Prop}, Own w' b3 T.int 1 fr' ((fs'.map fun (n : Nat) => (n : Int)).map (Ty.int .i64).enc) → fs'[i]? = some n → k n → IdxS fr' (i : Int) 1 fun p => Ld (.int .i64) p w' k := by
      intro w' fr' fs' k ho hx hk
      refine IdxS.get (t := .int .i64) (ho.reads (M := No) fun _ _ h => h) (by omega) (by rw [List.length_map]; exact Int.ofNat_lt.2 (List.getElem?_eq_some_iff.1 hx).1) fun x hx' => ?_
      rw [Int.toNat_natCast, List.getElem?_map, hx] at hx'
      cases hx'
      exact hk
    refine getN of9 hn ?_
    refine dfa_Accept_spec (hdk.mono (V.keeps0 k9)) ?_
    refine App.buildG (buildLs _) (Al.mk fun b6 w12 n12 => ?_)
    rw [rCells_zero] at n12
    refine StA.gen sizeLs n12.at_ (by rw [List.size_toArray, rCells_len]) (by rw [List.size_toArray, rCells_len]) (fun u hu => rCells_one u (by simpa using hu)) fun w13 u13 => ?_
    have e12 := n12.eq
    have k13 : Keeps No w9 w13 := u13.keeps0 n12.keeps (by omega)
    have z13 := k13.size
    have hb6 : w9.heap.size ≤ b6 := by omega
    have lt9 : ∀ b, fr.blk b → b < w9.heap.size := fun b hb => (of9.ge hb).2
    have ltm9 : ∀ b, ml.blk b → b < w9.heap.size := fun b hb => (om9.ge hb).2
    refine Loop.mk (fun (s : Sl × Int) w' => ∃ (b : Nat) (fs' : List Nat) (g : Nat → Int), Hd w' s.1 fs' ml ms ∧ s.2 = (b : Int) ∧ b ≤ 256 ∧ (∃ l, fs' = fs ++ l) ∧ w'.heap[b6]? = some (.cells (rCells g (ac svs n)).toArray T.least_state (0, 0)) ∧
        (∀ j, j < b → GoodL svs lv kd fs' n j (g j)) ∧ goTop ((ms.flatMap fun m => rowL m.nx) ++ (List.range b).map g) 0 = some ((fs'.length : Int) - 1) ∧ ¬ s.1.blk b6 ∧ b6 < w'.heap.size) (fun s => 256 - s.2.toNat)
      ⟨0, fs, fun _ => 0, ⟨k9.trans k13, k13.blk0 ob9, k13.blk0 o9, MapAt.mono hm9 (V.keeps0 k13), of9.keep0 k13, om9.keep0 k13, dj9, hfs9, by omega⟩, rfl, by omega, ⟨[], by simp⟩, u13.at_, fun j hj => by omega, by simpa using hms.top, fun h => by have := lt9 _ h; omega, lt_of_some u13.at_⟩ ?_
    rintro ⟨fr', bb⟩ w14 ⟨b, fs', g, ⟨k14, ob14, o14, hm14, of14, om14, dj14, hfs14, z14⟩, hbb, hb, hext, o6, hg, htop, hn6, hl6⟩ R2 hR2
    dsimp only at hbb ob14 of14 dj14 hn6 ⊢
    subst hbb
    obtain ⟨lx, rfl⟩ := hext
    have hfrn' := frLen of14
    have hle14 := hfs14.le
    have hn' : (fs ++ lx)[i]? = some n := by rw [List.getElem?_append_left ht]; exact hn
    have hmblk : ∀ c, ml.blk c → w8.heap.size ≤ c := fun c hc => (om14.ge hc).1
    have hfblk : ∀ c, fr'.blk c → b3 ≤ c := fun c hc => (of14.ge hc).1
    refine Br.mk (fun ht2 => ?_) (fun hf2 => ?_)
    · have ht2 : b < 256 := by have := of_decide_eq_true ht2; omega
      have e4' : w64 ((b : Int) + 1) = ((b + 1 : Nat) : Int) := by rw [w64_eq (by omega)]; omega
      rw [e4']
      have wr : ∀ {w' : World} {g : Nat → Int} {v : Int} {k : World → Prop}, w'.heap[b6]? = some (.cells (rCells g (ac svs n)).toArray T.least_state (0, 0)) → (∀ w'', Upd b6 (.cells (rCells (fun j => if j = b then v else g j) (ac svs n)).toArray T.least_state (0, 0)) w' w'' → k w'') → IdxA 256 ⟨b6, 0, none⟩ (b : Int) 1 fun p => St p (.int .i64 v) w' k := by
        intro w' g v k hw hk
        refine ⟨⟨by omega, by omega⟩, ?_⟩
        rw [add_eq, Nat.mul_one, Int.toNat_natCast, Nat.zero_add]
        refine St.blk hw (by rw [List.size_toArray, rCells_len]; omega) fun w'' u => hk w'' ?_
        rw [rCells_set ht2] at u
        exact u
      -- a write to the row keeps all else
      have keepHd : ∀ {w' w'' : World} {fr'' : Sl} {fs'' : List Nat}, Hd w' fr'' fs'' ml ms → Keeps (· = b6) w' w'' → ¬ fr''.blk b6 → Hd w'' fr'' fs'' ml ms := by
        rintro w' w'' fr'' fs'' ⟨h1, h2, h3, h4, h5, h6, h7, h8, h9⟩ k hnb
        refine ⟨h1.then k fun c hc h => by have := k9.size; omega, k.blk h2 (by have := z9; omega), k.blk h3 (by omega), MapAt.keep h4 k (by omega) id, h5.keep k fun c hc h => by subst hc; exact hnb h, h6.keep k fun c hc h => by subst hc; have := ltm9 _ h; omega, h7, h8, by have := k.size; omega⟩
      refine wr o6 fun w15 u15 => ?_
      have hd15 : Hd w15 fr' (fs ++ lx) ml ms := keepHd ⟨k14, ob14, o14, hm14, of14, om14, dj14, hfs14, z14⟩ u15.keeps hn6
      obtain ⟨k15, ob15, o15, hm15, of15, om15, dj15, hfs15, z15⟩ := hd15
      refine getN of15 hn' ?_
      rw [u8_small ht2]
      refine dfa_Next_spec (hdk.mono (V.keeps0 k15)) ht2 ?_
      rw [A.next ht2]
      have goStep : ∀ (g' : Nat → Int), (∀ j, j < b → g' j = g j) → goTop ((ms.flatMap fun m => rowL m.nx) ++ (List.range (b + 1)).map g') 0 = goTop [g' b] (((fs ++ lx).length : Int) - 1) := fun g' hg' => by
        rw [List.range_succ, List.map_append, ← List.append_assoc, goTop_append, List.map_congr_left fun j hj => hg' j (by simpa using hj), htop]
        rfl
      have skip : (∀ k, nxt svs n b = some k → lv k = false) → R2 (fr', ((b + 1 : Nat) : Int)) w15 := fun hno => by
        refine hR2 _ _ ⟨b + 1, fs ++ lx, _, ⟨k15, ob15, o15, hm15, of15, om15, dj15, hfs15, z15⟩, rfl, by omega, ⟨lx, rfl⟩, u15.at_, fun j hj => ?_, ?_, hn6, by rw [u15.size]; exact hl6⟩ (by dsimp only; omega)
        · by_cases e : j = b
          · subst e; exact .inl ⟨by simp, hno⟩
          · show GoodL _ _ _ _ _ _ (if j = b then _ else g j)
            rw [if_neg e]; exact hg j (by omega)
        · rw [goStep _ fun j hj => if_neg (by omega)]
          simp [goTop]
      cases hx : nxt svs n b with
      | none =>
        simp only [Join, Bool.not_false, Br_true]
        exact skip fun k hk => by rw [hx] at hk; cases hk
      | some k =>
        have hkl := (A.nxt_lt ht2 hx).1
        simp only [Join, Bool.not_true, Br_false]
        refine IdxS.getG (t := .bool) (hllk.mono (V.keeps0 k15)) hkl ?_
        refine Br.mk (fun hlk => skip fun k' hk' => ?_) (fun hlk => ?_)
        · rw [hx] at hk'; cases hk'; simpa using hlk
        have hlk : lv k = true := by simpa using hlk
        refine IdxS.getG (t := .int .i64) (hkk.mono (V.keeps0 k15)) hkl ?_
        have hkr := hkin.rng k hkl
        refine App.look2 (kt := .int .i64) (vt := .int .i64) (x := kd k) (z := 0) intIntTy (run_zeroInt w15) (mo := some m2) hm15 (intKey (by omega)) (fun y hy => ?_) (fun hno => ?_)
        · obtain ⟨x, m, hxm, hkm, rfl⟩ := hy
          have hxl := (List.getElem?_eq_some_iff.1 hxm).1
          simp only [Bool.not_true, Br_false]
          refine wr u15.at_ fun w16 u16 => ?_
          have hd16 : Hd w16 fr' (fs ++ lx) ml ms := keepHd ⟨k15, ob15, o15, hm15, of15, om15, dj15, hfs15, z15⟩ u16.keeps hn6
          refine hR2 _ _ ⟨b + 1, fs ++ lx, _, hd16, rfl, by omega, ⟨lx, rfl⟩, u16.at_, fun j hj => ?_, ?_, hn6, by rw [u16.size, u15.size]; exact hl6⟩ (by dsimp only; omega)
          · by_cases e : j = b
            · subst e; exact .inr ⟨k, x, m, hx, hlk, by simp, hxm, hkm.symm⟩
            · show GoodL _ _ _ _ _ _ (if j = b then _ else (if j = b then _ else g j))
              rw [if_neg e, if_neg e]; exact hg j (by omega)
          · rw [goStep _ fun j hj => by rw [if_neg (by omega), if_neg (by omega)]]
            simp only [goTop, if_true]
            rw [if_neg (by omega), if_neg (by omega), if_neg (by omega)]
        · simp only [Bool.not_false, Br_true]
          refine IdxS.getG (t := .int .i64) (hkk.mono (V.keeps0 k15)) hkl ?_
          refine App0.put (kt := .int .i64) (vt := .int .i64) (x := kd k) (y := (fr'.n : Int)) intIntTy hm15 (intKey (by omega)) fun w16 k16 z16 hm16 => ?_
          have of16 := of15.keep k16 fun c hc h => by subst hc; have := hfblk _ h; omega
          have om16 := om15.keep k16 fun c hc h => by subst hc; have := hmblk _ h; omega
          have hle15 := hfs15.le
          have hz15 := u15.size
          have hb316 : b3 ≤ w16.heap.size := by omega
          refine append1 (t := .int .i64) (x := (k : Int)) elIntM of16 rfl (by omega) (by omega) hb316 fun fr2 w17 of17 n17 k17 g17 => ?_
          have of17' : Own w17 b3 T.int 1 fr2 (((fs ++ (lx ++ [k])).map fun (n : Nat) => (n : Int)).map (Ty.int .i64).enc) := by
            have : ((fs ++ (lx ++ [k])).map fun (n : Nat) => (n : Int)) = ((fs ++ lx).map fun (n : Nat) => (n : Int)) ++ [(k : Int)] := by simp
            rw [this]; exact of17
          obtain ⟨gb, hgb, hgb2⟩ := g17
          have hfr2 : ∀ c, fr2.blk c → fr'.blk c ∨ w16.heap.size ≤ c := fun c hc => by
            obtain ⟨a, ha, rfl⟩ := hc
            rw [hgb] at ha; cases ha
            exact hgb2
          have nb6 : ¬ fr2.blk b6 := fun h => (hfr2 _ h).elim hn6 fun h' => by omega
          have hfs17 : FsOK svs lv kd (fs ++ (lx ++ [k])) := by
            rw [← List.append_assoc]
            refine ⟨fun q hq => ?_, ?_, ?_, fun x q hq h0 => ?_⟩
            · rcases List.mem_append.1 hq with h | h
              · exact hfs15.lt q h
              · simp at h; omega
            · refine List.pairwise_append.2 ⟨hfs15.ne, by simp, fun a ha c hc e => ?_⟩
              simp only [List.mem_singleton] at hc
              subst hc
              obtain ⟨x, hx'⟩ := List.getElem?_of_mem ha
              exact hno _ ⟨x, a, hx', e.symm, rfl⟩
            · have := hfs15.zero
              rw [List.getElem?_append_left (List.getElem?_eq_some_iff.1 this).1]; exact this
            · by_cases hxl : x < (fs ++ lx).length
              · rw [List.getElem?_append_left hxl] at hq; exact hfs15.live x q hq h0
              · rw [List.getElem?_append_right (by omega)] at hq
                have : q = k := by
                  have h1 := List.mem_of_getElem? hq
                  simpa using h1
                rw [this]; exact hlk
          have hd17 : Hd w17 fr2 (fs ++ (lx ++ [k])) ml ms := by
            refine ⟨(k15.then k16 fun c hc h => by omega).then k17 fun c hc h => by have := hfblk c h; omega, k17.blk (k16.blk ob15 (by omega)) (fun h => by have := hfblk _ h; omega), k17.blk (k16.blk o15 (by omega)) (fun h => by have := hfblk _ h; omega), ?_, of17', om16.keep k17 fun c hc h => dj15 c hc h, fun c hc hm => ?_, hfs17, by have := k17.size; omega⟩
            · refine MapAt.congr (MapAt.keep hm16 k17 (fun h => by have := hfblk _ h; omega) id) fun kk' v => ?_
              constructor
              · rintro (⟨rfl, rfl⟩ | ⟨hne, x, m, hxm, rfl, rfl⟩)
                · refine ⟨(fs ++ lx).length, k, by rw [← List.append_assoc]; simp, rfl, by rw [hfrn']⟩
                · refine ⟨x, m, ?_, rfl, rfl⟩
                  rw [← List.append_assoc, List.getElem?_append_left (List.getElem?_eq_some_iff.1 hxm).1]; exact hxm
              · rintro ⟨x, m, hxm, rfl, rfl⟩
                rw [← List.append_assoc] at hxm
                by_cases hxl : x < (fs ++ lx).length
                · rw [List.getElem?_append_left hxl] at hxm
                  exact .inr ⟨fun e => hno _ ⟨x, m, hxm, e.symm, rfl⟩, x, m, hxm, rfl, rfl⟩
                · rw [List.getElem?_append_right (by omega)] at hxm
                  have h1 : m = k := by have h1 := List.mem_of_getElem? hxm; simpa using h1
                  have h2 := (List.getElem?_eq_some_iff.1 hxm).1
                  simp only [List.length_cons, List.length_nil] at h2
                  have h3 : x = (fs ++ lx).length := by omega
                  exact .inl ⟨by rw [h1], by rw [hfrn', h3]⟩
            · exact (hfr2 c hc).elim (fun h => dj15 c h hm) fun h => by have := (om15.ge hm).2; omega
          have o6' : w17.heap[b6]? = _ := k17.blk (k16.blk u15.at_ (by omega)) hn6
          refine wr o6' fun w18 u18 => ?_
          have hd18 := keepHd hd17 u18.keeps nb6
          refine hR2 _ _ ⟨b + 1, fs ++ (lx ++ [k]), _, hd18, rfl, by omega, ⟨_, rfl⟩, u18.at_, fun j hj => ?_, ?_, nb6, lt_of_some u18.at_⟩ (by dsimp only; omega)
          · by_cases e : j = b
            · subst e
              refine .inr ⟨k, (fs ++ lx).length, k, hx, hlk, ?_, by rw [← List.append_assoc]; simp, rfl⟩
              simp [hfrn']
            · show GoodL _ _ _ _ _ _ (if j = b then _ else (if j = b then _ else g j))
              rw [if_neg e, if_neg e, ← List.append_assoc]; exact (hg j (by omega)).mono
          · rw [goStep _ fun j hj => by rw [if_neg (by omega), if_neg (by omega)]]
            simp only [goTop, if_true]
            rw [hfrn', if_neg (by omega), if_neg (by omega), if_pos (by omega)]
            simp
            omega
    · have hf2 : b = 256 := by have := of_decide_eq_false hf2; omega
      subst hf2
      refine DrawN.mk fun w24 h24 k24 => ?_
      have hmln : ml.n = ms.length := by
        have := om14.len
        rw [flatten_len LSt.lens, List.length_map] at this
        omega
      have ob24 := k24.blk0 ob14
      have o624 := k24.blk0 o6
      have z24 := k24.size
      have tail : ∀ {w' : World} {bn : Nat}, Keeps No w24 w' → w'.heap[bn]? = some (.cells (rCells g (ac svs n)).toArray T.least_state (0, 0)) →
          App P (Builtin.append_ #[T.sl_least_state, T.sl_least_state] T.sl_least_state #[.slice ml.a ml.n ml.c, .slice (some ⟨bn, 0, none⟩) 1 1]) (.one .sl) w' fun x111 w26 => (True ∧ St ⟨b1, 0, none⟩ (.slice x111.a x111.n x111.c) w26 fun w27 => (True ∧ R (fr', w64 ((i : Int) + 1)) w27)) := by
        intro w' bn k' hbn
        have z' := k'.size
        refine appendC (c := rCells g (ac svs n)) (xs := ms.map LSt.cells) elLs ((om14.keep0 k24).keep0 k') rCells_len hbn rCells_one (by omega) (by omega) (by omega) fun ml2 w26 om26 n26 k26 g26 => ⟨trivial, ?_⟩
        obtain ⟨gb, hgb, hgb2⟩ := g26
        have hml2 : ∀ c, ml2.blk c → ml.blk c ∨ w'.heap.size ≤ c := fun c hc => by
          obtain ⟨a, ha, rfl⟩ := hc
          rw [hgb] at ha; cases ha
          exact hgb2
        have ob26 := k26.blk (k'.blk0 ob24) (fun h => by have := hmblk _ h; omega)
        refine St.blk ob26 (by show 0 < 2; omega) fun w27 u27 => ⟨trivial, ?_⟩
        have e4' : w64 ((i : Int) + 1) = ((i + 1 : Nat) : Int) := by rw [w64_eq (by omega)]; omega
        rw [e4']
        have om26' : Own w26 w8.heap.size T.least_state 257 ml2 ((ms ++ [(⟨g, ac svs n⟩ : LSt)]).map LSt.cells).flatten := by rw [List.map_append]; exact om26
        refine hR _ _ ⟨i + 1, fs ++ lx, ml2, ms ++ [(⟨g, ac svs n⟩ : LSt)], ⟨?_, u27.at_, ?_, ?_, ?_, om26'.keep u27.keeps fun c hc h => ?_, fun c hc h => ?_, hfs14, ?_⟩, rfl, by simp [hmsl], by simp; omega, ⟨fun j m hj => ?_, ?_⟩⟩ (by dsimp only; omega)
        · exact (((k14.then0 k24).then0 k').then k26 fun c hc h => by have := hmblk c h; omega).then u27.keeps fun c hc h => by omega
        · exact u27.keeps.blk (k26.blk (k'.blk0 (k24.blk0 o14)) fun h => by have := hmblk _ h; omega) (by omega)
        · exact MapAt.keep (MapAt.keep (MapAt.mono hm14 (V.keeps0 (k24.trans k'))) k26 (fun h => by have := hmblk _ h; omega) (M' := No) id) u27.keeps (by omega) id
        · exact (((of14.keep0 k24).keep0 k').keep k26 fun c hc h => dj14 c h hc).keep u27.keeps fun c hc h => by subst hc; have := hfblk _ h; omega
        · subst hc
          rcases hml2 _ h with h | h
          · have := hmblk _ h; omega
          · omega
        · rcases hml2 _ h with h | h
          · exact dj14 c hc h
          · have := (of14.ge hc).2; omega
        · have := k26.size; have := u27.keeps.size; omega
        · by_cases hjl : j < ms.length
          · rw [List.getElem?_append_left hjl] at hj
            obtain ⟨q, h1, h2, h3⟩ := hms.each j m hj
            exact ⟨q, by rw [List.getElem?_append_left (List.getElem?_eq_some_iff.1 h1).1]; exact h1, h2, fun b' hb' => (h3 b' hb').mono⟩
          · have hlen := (List.getElem?_eq_some_iff.1 hj).1
            simp only [List.length_append, List.length_cons, List.length_nil] at hlen
            have hji : j = i := by omega
            subst hji
            rw [List.getElem?_append_right (by omega)] at hj
            have hm : m = (⟨g, ac svs n⟩ : LSt) := by have h1 := List.mem_of_getElem? hj; simpa using h1
            subst hm
            exact ⟨n, hn', rfl, hg⟩
        · rw [List.flatMap_append]
          simp only [List.flatMap_cons, List.flatMap_nil, List.append_nil]
          exact htop
      refine ⟨Ld.slv (l := ml) (cell_of ob24 rfl) ⟨trivial, LdA.gen (c := rCells g (ac svs n)) rCells_len (fun j u hu => cell_of o624 (by simpa using hu)) ⟨trivial, App.slice1G elLs (by simp [rCells_len]) (by omega) (by omega) fun bn w25 n25 => ⟨trivial, tail n25.keeps n25.at_⟩⟩⟩,
        LdA.gen (c := rCells g (ac svs n)) rCells_len (fun j u hu => cell_of o624 (by simpa using hu)) ⟨trivial, Ld.slv (l := ml) (cell_of ob24 rfl) ⟨trivial, App.slice1G elLs (by simp [rCells_len]) (by omega) (by omega) fun bn w25 n25 => ⟨trivial, tail n25.keeps n25.at_⟩⟩,
          App.slice1G elLs (by simp [rCells_len]) (by omega) (by omega) fun bn w25 n25 => ⟨trivial, Ld.slv (l := ml) (cell_of (n25.keeps.blk0 ob24) rfl) ⟨trivial, tail n25.keeps n25.at_⟩⟩⟩⟩
  · have hf : i = fs.length := by have := of_decide_eq_false hf; omega
    refine Ld.slv (l := oS) (cell_of ob9 rfl) ?_
    have hmblk : ∀ c, ml.blk c → w8.heap.size ≤ c := fun c hc => (om9.ge hc).1
    refine Loop.mk (fun (s : Int) w' => Keeps (· = bo) w9 w' ∧ ∃ (q : Nat) (of_ : Nat → Int), q ≤ svs.length ∧ s = (q : Int) ∧ w'.heap[bo]? = some (rowObj (.int .i64) T.int (rowG svs.length of_)) ∧ ∀ n, n < q → OfOK lv kd fs n (of_ n)) (fun s => svs.length - s.toNat)
      ⟨.refl, 0, _, by omega, rfl, o9, fun n hn => by omega⟩ ?_
    rintro s w10 ⟨k10, q, of_, hq, rfl, o10, hof⟩ R3 hR3
    have ob10 := k10.blk ob9 (by omega)
    have kw10 : Keeps No wk w10 := k9.then k10 fun c hc h => by omega
    refine Br.mk (fun ht => ?_) (fun hf3 => ?_)
    · have ht : q < svs.length := by have h9 : (_ : Int) < (svs.length : Int) := of_decide_eq_true ht; omega
      have e4' : w64 ((q : Int) + 1) = ((q + 1 : Nat) : Int) := by rw [w64_eq (by omega)]; omega
      rw [e4']
      refine Ld.slv (l := oS) (cell_of ob10 rfl) ?_
      refine IdxS.putG (t := .int .i64) (v := (-1 : Int)) o10 ht fun w11 u11 => ?_
      have kw11 : Keeps No wk w11 := kw10.then u11.keeps fun c hc h => by omega
      have k911 : Keeps (· = bo) w9 w11 := k10.trans u11.keeps
      have ob11 := u11.keeps.blk ob10 (by omega)
      refine IdxS.getG (t := .int .i64) (hkk.mono (V.keeps0 kw11)) ht ?_
      have hkr := hkin.rng q ht
      have hm11 : MapAt P T.int (.int .i64) (.int .i64) (V No w11) m2 (KeyL kd fs) := MapAt.keep hm9 k911 (by omega) id
      have keepOf : ∀ {v : Int} {w' : World} {f : Nat → Int}, Keeps (· = bo) w9 w' → w'.heap[bo]? = some (rowObj (.int .i64) T.int (rowG svs.length f)) → (∀ n, n < q → f n = of_ n) → OfOK lv kd fs q (f q) → R3 ((q + 1 : Nat) : Int) w' := fun {v w' f} k h hold hnew => by
        refine hR3 _ _ ⟨k, q + 1, f, by omega, rfl, h, fun n hn => ?_⟩ (by omega)
        by_cases e : n = q
        · subst e; exact hnew
        · rw [hold n (by omega)]; exact hof n (by omega)
      refine App.look2 (kt := .int .i64) (vt := .int .i64) (x := kd q) (z := 0) intIntTy (run_zeroInt w11) (mo := some m2) hm11 (intKey (by omega)) (fun y hy => ?_) (fun hno => ?_)
      · obtain ⟨x, m, hxm, hkm, rfl⟩ := hy
        refine Join.cut (fun (s17 : Bool) w' => w' = w11 ∧ (s17 = true ↔ lv q = true ∨ q = 0)) ?_ ?_
        · rintro s17 w' ⟨rfl, h17⟩
          refine Br.mk (fun h => ?_) (fun h => ?_)
          · refine Ld.slv (l := oS) (cell_of ob11 rfl) ?_
            refine IdxS.putG (t := .int .i64) (v := (x : Int)) u11.at_ ht fun w12 u12 => ?_
            refine keepOf (v := 0) (k911.trans u12.keeps) u12.at_ (fun n hn => by rw [if_neg (by omega), if_neg (by omega)]) (.inl ⟨x, m, hxm, hkm.symm, h17.1 h, by simp⟩)
          · refine keepOf (v := 0) k911 u11.at_ (fun n hn => if_neg (by omega)) (.inr ⟨by simp, fun hh => ?_⟩)
            rw [h17.2 hh.1] at h; cases h
        · intro j hj
          simp only [Br_true]
          refine IdxS.getG (t := .bool) (hllk.mono (V.keeps0 kw11)) ht ?_
          refine Br.mk (fun h => hj _ _ ⟨rfl, by simp [h]⟩) (fun h => hj _ _ ⟨rfl, ?_⟩)
          simp [h]
      · simp only [Join, Br_false]
        refine keepOf (v := 0) k911 u11.at_ (fun n hn => if_neg (by omega)) (.inr ⟨by simp, fun hh => ?_⟩)
        obtain ⟨_, x, m, hxm, hkm⟩ := hh
        exact hno _ ⟨x, m, hxm, hkm.symm, rfl⟩
    · have hf3 : q = svs.length := by have h9 : ¬ (_ : Int) < (svs.length : Int) := of_decide_eq_false hf3; omega
      subst hf3
      refine hK _ lv kd fs ms of_ w10 (kwk.trans kw10) ⟨b1, ml, oS, rfl, ⟨id, ob10⟩, (om9.keep k10 fun c hc h => by subst hc; have := hmblk _ h; omega).readsC (by omega) LSt.lens fun _ _ h => h, Row.sl o10 (fun h => h) rowG_len.symm⟩ ⟨hlv, hkin, hstab, hfs9, hms, by omega, hof⟩
end Go.Fk
end

section
set_option linter.unusedVariables false
namespace Go.Fk
open Go Go.MapKept

/-! ## What is asked of a least automaton -/

def LeastO (H : View) (p : Option Addr) (N : Nat) (ms : List LSt) (of_ : Nat → Int) : Prop := (p = none ∧ ms = [] ∧ N = 0) ∨ LeastV H p N ms of_
theorem LeastO.mono {H H' : View} {p : Option Addr} {N : Nat} {ms : List LSt} {of_ : Nat → Int} (h : LeastO H p N ms of_) (hv : Vle H H') : LeastO H' p N ms of_ := h.imp id fun h => h.mono hv

def mAt (ms : List LSt) (n : Int) : Option LSt := if 0 ≤ n then ms[n.toNat]? else none
def mNext (ms : List LSt) (n : Int) (b : Nat) : Int × Bool := match mAt ms n with
  | some m => if m.nx b = -1 then (0, false) else (m.nx b, true)
  | none => (0, false)
def mAcc (ms : List LSt) (n : Int) : Int := ((mAt ms n).map LSt.acc).getD (-1)
def mRun (ms : List LSt) (s : List UInt8) : Int × Bool → Int × Bool
  | st => s.foldl (fun (st : Int × Bool) c => if st.2 = true then mNext ms st.1 c.toNat else st) st
def mOf (N : Nat) (of_ : Nat → Int) (n : Int) : Int × Bool := if 0 ≤ n ∧ n < N then (if of_ n.toNat = -1 then (0, false) else (of_ n.toNat, true)) else (0, false)
def mLong (ms : List LSt) : List UInt8 → Int × Int × Int × Nat → Int × Int × Int
  | [], st => (st.1, st.2.1, st.2.2.2)
  | c :: l, st => if (mNext ms st.2.2.1 c.toNat).2 = true then
      (if mAcc ms (mNext ms st.2.2.1 c.toNat).1 = -1 then mLong ms l (st.1, st.2.1, (mNext ms st.2.2.1 c.toNat).1, st.2.2.2 + 1)
       else mLong ms l (mAcc ms (mNext ms st.2.2.1 c.toNat).1, ((st.2.2.2 + 1 : Nat) : Int), (mNext ms st.2.2.1 c.toNat).1, st.2.2.2 + 1))
    else (st.1, st.2.1, ((st.2.2.2 + 1 : Nat) : Int))

section
variable {w : World} {p : Option Addr} {N : Nat} {ms : List LSt} {of_ : Nat → Int}

theorem mAt_in {n : Int} {m : LSt} (h0 : 0 ≤ n) (h : ms[n.toNat]? = some m) : mAt ms n = some m := by simp [mAt, h0, h]
theorem mAt_out {n : Int} (h : ¬ (0 ≤ n ∧ n < ms.length)) : mAt ms n = none := by
  unfold mAt
  split
  · exact List.getElem?_eq_none (by omega)
  · rfl

theorem least_States_spec (h : LeastO (V No w) p N ms of_) {K : Int → World → Prop} (hK : K ms.length w) : least_Least_States.C p w K := by
  refine least_Least_States.ok _ _ _ ?_
  simp only [least_Least_States.M]
  rcases h with ⟨rfl, rfl, _⟩ | ⟨b, l, o, rfl, h2, h3, h4⟩
  · exact hK
  · show Ld _ _ _ _
    refine Ld.slv (l := l) (cell_of h2.2 rfl) ?_
    have := h3.1
    simp only [List.length_map] at this
    rw [this]; exact hK

theorem least_has_spec (h : LeastO (V No w) p N ms of_) {n : Int} {K : Bool → World → Prop} (hK : K (decide (0 ≤ n ∧ n < ms.length)) w) : least_Least_has.C p n w K := by
  refine least_Least_has.ok _ _ _ _ ?_
  simp only [least_Least_has.M]
  refine Br.mk (fun h0 => least_States_spec h ?_) (fun h0 => ?_)
  · have h0 := of_decide_eq_true h0
    have : decide (n < (ms.length : Int)) = decide (0 ≤ n ∧ n < ms.length) := by rw [decide_eq_decide]; omega
    rw [this]; exact hK
  · have h0 := of_decide_eq_false h0
    rwa [decide_eq_false (by omega)] at hK

theorem least_Next_spec (h : LeastO (V No w) p N ms of_) {n : Int} {b : Nat} (hb : b < 256) {K : (Int × Bool) → World → Prop} (hK : K (mNext ms n b) w) : least_Least_Next.C p n b w K := by
  refine least_Least_Next.ok _ _ _ _ _ ?_
  simp only [least_Least_Next.M]
  have cellN : ∀ {l : Sl} {m : LSt} {k : Int → Prop}, SlC (V No w) l 257 (ms.map LSt.cells) → 0 ≤ n → n < ms.length → ms[n.toNat]? = some m → k (m.nx b) → IdxS l n 257 fun p19 => IdxA 256 p19 b 1 fun p21 => Ld (.int .i64) p21 w k := by
    intro l m k h3 h0 h1 hm hk
    refine IdxS.recd h3 h0 (by simpa using h1) fun g off cs hcs hcell => ?_
    simp only [List.getElem?_map, hm, Option.map_some, Option.some.injEq] at hcs
    subst hcs
    refine ⟨⟨by omega, by omega⟩, ?_⟩
    rw [add_eq, Nat.mul_one, Int.toNat_natCast]
    exact Ld.int (hcell b _ (rCells_get hb)) hk
  refine Join.cut (fun s w' => w' = w ∧ (s = true → mNext ms n b = (0, false)) ∧ (s = false → ∃ m, 0 ≤ n ∧ n < ms.length ∧ ms[n.toNat]? = some m ∧ m.nx b ≠ -1)) ?_ ?_
  · rintro s w' ⟨rfl, g1, g2⟩
    refine Br.mk (fun ht => ?_) (fun hf => ?_)
    · rw [g1 ht] at hK; exact hK
    · obtain ⟨m, h0, h1, hm, hne⟩ := g2 hf
      rcases h with ⟨_, rfl, _⟩ | ⟨bl, l, o, rfl, h2, h3, h4⟩
      · simp at h1; omega
      · simp only [NilC_some]
        refine Ld.slv (l := l) (cell_of h2.2 rfl) ?_
        refine cellN h3 h0 h1 hm ?_
        have : mNext ms n b = (m.nx b, true) := by simp [mNext, mAt_in h0 hm, hne]
        rw [this] at hK; exact hK
  · intro j hj
    refine least_has_spec h ?_
    refine Br.mk (fun hn => ?_) (fun hn => ?_)
    · have hn : ¬ (0 ≤ n ∧ n < ms.length) := of_decide_eq_false ((Bool.not_eq_true' _).mp hn)
      exact hj _ _ ⟨rfl, fun _ => by simp [mNext, mAt_out hn], fun e => by cases e⟩
    · have hn : 0 ≤ n ∧ n < ms.length := by simpa using hn
      have hm : ms[n.toNat]? = some ms[n.toNat] := List.getElem?_eq_getElem (by omega)
      generalize ms[n.toNat] = m at hm
      rcases h with ⟨_, rfl, _⟩ | ⟨bl, l, o, rfl, h2, h3, h4⟩
      · simp at hn; omega
      · simp only [NilC_some]
        refine Ld.slv (l := l) (cell_of h2.2 rfl) ?_
        refine cellN h3 hn.1 hn.2 hm ?_
        refine hj _ _ ⟨rfl, fun e => ?_, fun e => ⟨m, hn.1, hn.2, hm, by simpa using e⟩⟩
        have : m.nx b = -1 := by simpa using e
        simp [mNext, mAt_in hn.1 hm, this]

theorem least_Accept_spec (h : LeastO (V No w) p N ms of_) {n : Int} {K : Int → World → Prop} (hK : K (mAcc ms n) w) : least_Least_Accept.C p n w K := by
  refine least_Least_Accept.ok _ _ _ _ ?_
  simp only [least_Least_Accept.M]
  refine least_has_spec h ?_
  refine Br.mk (fun hn => ?_) (fun hn => ?_)
  · have hn : ¬ (0 ≤ n ∧ n < ms.length) := of_decide_eq_false ((Bool.not_eq_true' _).mp hn)
    have : mAcc ms n = -1 := by simp [mAcc, mAt_out hn]
    rw [this] at hK; exact hK
  · have hn : 0 ≤ n ∧ n < ms.length := by simpa using hn
    have hm : ms[n.toNat]? = some ms[n.toNat] := List.getElem?_eq_getElem (by omega)
    generalize ms[n.toNat] = m at hm
    rcases h with ⟨_, rfl, _⟩ | ⟨bl, l, o, rfl, h2, h3, h4⟩
    · simp at hn; omega
    · simp only [NilC_some]
      refine Ld.slv (l := l) (cell_of h2.2 rfl) ?_
      refine IdxS.recd h3 hn.1 (by simpa using hn.2) fun g off cs hcs hcell => ?_
      simp only [List.getElem?_map, hm, Option.map_some, Option.some.injEq] at hcs
      subst hcs
      rw [add_eq]
      refine Ld.int (hcell 256 _ rCells_own) ?_
      have : mAcc ms n = m.acc := by simp [mAcc, mAt_in hn.1 hm]
      rw [this] at hK; exact hK

theorem least_Run_spec (h : LeastO (V No w) p N ms of_) {s : ByteArray} (hs : s.size ≤ 1000000) {K : (Int × Bool) → World → Prop} (hK : K (mRun ms (bs s) (0, !p.isNone)) w) : least_Least_Run.C p s w K := by
  have hsz := size_bs s
  refine least_Least_Run.ok _ _ _ _ ?_
  simp only [least_Least_Run.M]
  refine Loop.mk (fun t w' => w' = w ∧ ∃ j : Nat, j ≤ s.size ∧ t.2.2 = (j : Int) ∧ mRun ms ((bs s).drop j) (t.1, t.2.1) = mRun ms (bs s) (0, !p.isNone)) (fun t => s.size - t.2.2.toNat) ⟨rfl, 0, by omega, rfl, by simp⟩ ?_
  rintro ⟨n, ok, jj⟩ w' ⟨rfl, j, hj, hjj, hrun⟩ R hR
  dsimp only at hjj hrun ⊢
  subst hjj
  refine Join.cut (fun (b : Bool) w'' => w'' = w' ∧ (b = true → j < s.size ∧ ok = true) ∧ (b = false → ¬ (j < s.size ∧ ok = true))) ?_ ?_
  · rintro b w'' ⟨rfl, g1, g2⟩
    refine Br.mk (fun hb => ?_) (fun hb => ?_)
    · obtain ⟨h1, rfl⟩ := g1 hb
      refine IdxStr.get (by omega) (by omega) fun c hc => ?_
      simp only [Int.toNat_natCast] at hc
      refine least_Next_spec h (by have := c.toNat_lt; omega) ?_
      rw [w64_eq (by omega)]
      refine hR _ _ ⟨rfl, j + 1, by omega, by simp, ?_⟩ (by dsimp only; omega)
      rw [← hrun]
      have hd : (bs s).drop j = c :: (bs s).drop (j + 1) := by
        obtain ⟨hl, he⟩ := List.getElem?_eq_some_iff.1 hc
        rw [List.drop_eq_getElem_cons hl, he]
      rw [hd]
      simp [mRun]
    · have hno := g2 hb
      have : mRun ms ((bs s).drop j) (n, ok) = (n, ok) := by
        by_cases h1 : j < s.size
        · have hok : ok = false := by cases ok with | false => rfl | true => exact absurd ⟨h1, rfl⟩ hno
          subst hok
          have : ∀ l : List UInt8, mRun ms l (n, false) = (n, false) := by
            intro l
            induction l with
            | nil => rfl
            | cons c l ih => simpa [mRun] using ih
          exact this _
        · rw [List.drop_of_length_le (by omega)]; rfl
      rw [← hrun, this] at hK
      exact hK
  · intro jk hjk
    refine Br.mk (fun hlt => ?_) (fun hlt => ?_)
    · have hlt : j < s.size := by have := of_decide_eq_true hlt; omega
      exact hjk _ _ ⟨rfl, fun e => ⟨hlt, e⟩, fun e h => by rw [h.2] at e; cases e⟩
    · have hlt : ¬ j < s.size := by have := of_decide_eq_false hlt; omega
      exact hjk _ _ ⟨rfl, (fun e => by cases e), fun _ h => hlt h.1⟩

theorem least_Longest_spec (h : LeastO (V No w) p N ms of_) {s : ByteArray} (hs : s.size ≤ 1000000) {K : (Int × Int × Int) → World → Prop} (hK : K (mLong ms (bs s) (-1, 0, 0, 0)) w) : least_Least_Longest.C p s w K := by
  have hsz := size_bs s
  refine least_Least_Longest.ok _ _ _ _ ?_
  simp only [least_Least_Longest.M]
  refine Loop.mk (fun t w' => w' = w ∧ ∃ j : Nat, j ≤ s.size ∧ t.2.2.2 = (j : Int) ∧ mLong ms ((bs s).drop j) (t.1, t.2.1, t.2.2.1, j) = mLong ms (bs s) (-1, 0, 0, 0)) (fun t => s.size - t.2.2.2.toNat) ⟨rfl, 0, by omega, rfl, by simp⟩ ?_
  rintro ⟨r, z, n, jj⟩ w' ⟨rfl, j, hj, hjj, hrun⟩ R hR
  dsimp only at hjj hrun ⊢
  subst hjj
  refine Br.mk (fun hlt => ?_) (fun hlt => ?_)
  · have hlt : j < s.size := by have := of_decide_eq_true hlt; omega
    have e4 : w64 ((j : Int) + 1) = ((j + 1 : Nat) : Int) := by rw [w64_eq (by omega)]; omega
    rw [e4]
    refine IdxStr.get (by omega) (by omega) fun c hc => ?_
    simp only [Int.toNat_natCast] at hc
    have hd : (bs s).drop j = c :: (bs s).drop (j + 1) := by
      obtain ⟨hl, he⟩ := List.getElem?_eq_some_iff.1 hc
      rw [List.drop_eq_getElem_cons hl, he]
    rw [hd, mLong] at hrun
    dsimp only at hrun
    refine least_Next_spec h (by have := c.toNat_lt; omega) ?_
    refine Br.mk (fun hx => ?_) (fun hx => ?_)
    · have hx : (mNext ms n c.toNat).2 = false := by simpa using hx
      rw [hx] at hrun
      simp only [Bool.false_eq_true, if_false] at hrun
      rw [← hrun] at hK
      exact hK
    · have hx : (mNext ms n c.toNat).2 = true := by simpa using hx
      rw [if_pos hx] at hrun
      refine least_Accept_spec h ?_
      refine Br.mk (fun ha => least_Accept_spec h ?_) (fun ha => ?_)
      · have ha : mAcc ms (mNext ms n c.toNat).1 ≠ -1 := by simpa using ha
        rw [if_neg ha] at hrun
        exact hR _ _ ⟨rfl, j + 1, by omega, rfl, hrun⟩ (by dsimp only; omega)
      · have ha : mAcc ms (mNext ms n c.toNat).1 = -1 := by simpa using ha
        rw [if_pos ha] at hrun
        exact hR _ _ ⟨rfl, j + 1, by omega, rfl, hrun⟩ (by dsimp only; omega)
  · have hlt : j = s.size := by have := of_decide_eq_false hlt; omega
    rw [List.drop_of_length_le (by omega), mLong] at hrun
    dsimp only at hrun
    rw [← hrun, hlt] at hK
    exact hK
end
end Go.Fk
end

section
set_option linter.unusedVariables false
namespace Go.Fk
open Go

/-! ## The least automaton tells what the other one tells -/

section
variable {ys : List Re} {svs : List DSt} {cl : Nat → Int} {nc : Int}

theorem Aut.of (h : DfaOK (mFs 0 ys) (mFol 0 ys) (mKs 0 ys) svs cl nc) (hy : ys.length ≤ 100000) : Aut svs where
  pos := by
    obtain ⟨sv, g, _⟩ := h.sts.zero
    exact (List.getElem?_eq_some_iff.1 g).1
  few := h.few
  rng sv hs c hc := by
    rcases h.good hs hc with ⟨h1, _⟩ | ⟨i, sv', h0, h1, h2, _⟩
    · exact .inl h1
    · have := (List.getElem?_eq_some_iff.1 h2).1
      right; omega
  acc sv hs := by
    have hlen : (mKs 0 ys).length = ys.length := mKs_len ys 0
    rcases h.sts.acc sv hs with ⟨h1, _⟩ | ⟨⟨h0, p, hp, h1, h2⟩, _⟩
    · omega
    · refine ⟨by omega, ?_⟩
      refine Classical.byContradiction fun hn => ?_
      unfold lastAt at h1
      rw [knAt_out (by omega)] at h1
      exact h1

theorem runFrom_cons {c : UInt8} {l : List UInt8} {a : Int} : runFrom svs (c :: l) (a, true) = runFrom svs l (nextOf svs a c.toNat) := by simp [runFrom]
theorem runFrom_false {n : Int} : ∀ l : List UInt8, runFrom svs l (n, false) = (n, false)
  | [] => rfl
  | c :: l => by have := runFrom_false (n := n) l; simpa [runFrom] using this
theorem mRun_cons {ms : List LSt} {c : UInt8} {l : List UInt8} {a : Int} : mRun ms (c :: l) (a, true) = mRun ms l (mNext ms a c.toNat) := by simp [mRun]
theorem mRun_false {ms : List LSt} {n : Int} : ∀ l : List UInt8, mRun ms l (n, false) = (n, false)
  | [] => rfl
  | c :: l => by have := mRun_false (ms := ms) (n := n) l; simpa [mRun] using this
theorem runFrom_append (l m : List UInt8) (st : Int × Bool) : runFrom svs (l ++ m) st = runFrom svs m (runFrom svs l st) := by simp [runFrom, List.foldl_append]
theorem mRun_append {ms : List LSt} (l m : List UInt8) (st : Int × Bool) : mRun ms (l ++ m) st = mRun ms m (mRun ms l st) := by simp [mRun, List.foldl_append]

theorem ac_in {n : Nat} (h : ac svs n ≠ -1) : n < svs.length := by
  refine Classical.byContradiction fun hn => h ?_
  unfold ac accOf
  rw [stAt_out (by omega)]; rfl

theorem dead_run (A : Aut svs) : ∀ (l : List UInt8) (i : Nat), ¬ Alive svs i → (runFrom svs l ((i : Int), true)).2 = true → accOf svs (runFrom svs l ((i : Int), true)).1 = -1
  | [], i, h, _ => by
    refine Classical.byContradiction fun hn => h ?_
    have hn : ac svs i ≠ -1 := hn
    exact .acc (ac_in hn) hn
  | c :: l, i, h, h2 => by
    rw [runFrom_cons] at h2 ⊢
    have hc : c.toNat < 256 := by have := c.toNat_lt; omega
    rw [A.next hc] at h2 ⊢
    cases hx : nxt svs i c.toNat with
    | none => rw [hx] at h2; dsimp only at h2; rw [runFrom_false] at h2; cases h2
    | some k =>
      rw [hx] at h2
      dsimp only at h2 ⊢
      exact dead_run A l k (fun hk => h (.step hc hx hk)) h2

theorem alive_run (A : Aut svs) {i : Nat} (h : Alive svs i) : ∃ (l : List UInt8) (k : Nat), runFrom svs l ((i : Int), true) = ((k : Int), true) ∧ ac svs k ≠ -1 := by
  induction h with
  | acc hn ha => exact ⟨[], _, rfl, ha⟩
  | step hb hx _ ih =>
    obtain ⟨l, k', h1, h2⟩ := ih
    rename_i n b k hk
    have hb' : (UInt8.ofNat b).toNat = b := by simp [UInt8.toNat_ofNat']; omega
    refine ⟨UInt8.ofNat b :: l, k', ?_, h2⟩
    rw [runFrom_cons, hb', A.next hb, hx]
    exact h1

variable {lv : Nat → Bool} {kd : Nat → Int} {fs : List Nat} {ms : List LSt} {of_ : Nat → Int}

/-- The state x of the least automaton is of the kind of the state i. -/
def Rel (svs : List DSt) (kd : Nat → Int) (fs : List Nat) (x : Int) (i : Nat) : Prop := ∃ (xn m : Nat), x = xn ∧ fs[xn]? = some m ∧ kd m = kd i ∧ i < svs.length

theorem LeastOK.rel0 (L : LeastOK svs lv kd fs ms of_) (A : Aut svs) : Rel svs kd fs 0 0 := ⟨0, 0, rfl, L.fsok.zero, rfl, A.pos⟩

theorem LeastOK.at_ (L : LeastOK svs lv kd fs ms of_) {x m : Nat} (h : fs[x]? = some m) : ∃ s, ms[x]? = some s ∧ mAt ms (x : Int) = some s ∧ s.acc = ac svs m ∧ ∀ b, b < 256 → GoodL svs lv kd fs m b (s.nx b) := by
  have hx := (List.getElem?_eq_some_iff.1 h).1
  have hxm : x < ms.length := by rw [L.len]; exact hx
  have hs : ms[x]? = some ms[x] := List.getElem?_eq_getElem hxm
  obtain ⟨n, h1, h2, h3⟩ := L.msok.each x _ hs
  rw [h] at h1
  cases h1
  exact ⟨_, hs, mAt_in (by omega) (by simpa using hs), h2, h3⟩

theorem LeastOK.next (L : LeastOK svs lv kd fs ms of_) (A : Aut svs) {x : Int} {i b : Nat} (h : Rel svs kd fs x i) (hb : b < 256) :
    (∃ (k : Nat) (y : Int), nxt svs i b = some k ∧ lv k = true ∧ mNext ms x b = (y, true) ∧ Rel svs kd fs y k) ∨ (mNext ms x b = (0, false) ∧ ∀ k, nxt svs i b = some k → lv k = false) := by
  obtain ⟨xn, m, rfl, hx, hk, hi⟩ := h
  obtain ⟨s, h1, h2, _, h4⟩ := L.at_ hx
  have hm := L.fsok.lt m (List.mem_of_getElem? hx)
  have hst := L.stable m i hm hi hk b hb
  rcases h4 b hb with ⟨g1, g2⟩ | ⟨k0, y, m', g1, g2, g3, g4, g5⟩
  · right
    refine ⟨by simp [mNext, h2, g1], fun k hk' => ?_⟩
    have e1 : kNext svs lv kd m b = -1 := by
      unfold kNext
      cases hn : nxt svs m b with
      | none => rfl
      | some k1 => simp [g2 k1 hn]
    rw [e1] at hst
    have := (L.kinds.rng k (A.nxt_lt hb hk').1).1
    unfold kNext at hst
    rw [hk'] at hst
    dsimp only at hst
    by_cases hl : lv k = true
    · rw [if_pos hl] at hst; omega
    · simpa using hl
  · left
    have e1 : kNext svs lv kd m b = kd k0 := by unfold kNext; rw [g1]; simp [g2]
    rw [e1] at hst
    have hr := (L.kinds.rng k0 (A.nxt_lt hb g1).1).1
    unfold kNext at hst
    cases hn : nxt svs i b with
    | none => rw [hn] at hst; dsimp only at hst; omega
    | some k =>
      rw [hn] at hst
      dsimp only at hst
      by_cases hl : lv k = true
      · rw [if_pos hl] at hst
        refine ⟨k, y, rfl, hl, ?_, y, m', rfl, g4, g5.trans hst, (A.nxt_lt hb hn).1⟩
        have : ¬ (y : Int) = -1 := by omega
        simp [mNext, h2, g3, this]
      · rw [if_neg hl] at hst; omega

theorem LeastOK.ac_live (L : LeastOK svs lv kd fs ms of_) {i : Nat} (h : lv i = false) : ac svs i = -1 := by
  refine Classical.byContradiction fun hn => ?_
  have := (L.alive i (ac_in hn)).2 (.acc (ac_in hn) hn)
  rw [h] at this; cases this

theorem LeastOK.kd_eq (L : LeastOK svs lv kd fs ms of_) (A : Aut svs) {i j : Nat} (hi : i < svs.length) (hj : j < svs.length) (h : kd i = kd j) : lv i = lv j ∧ ac svs i = ac svs j := by
  have h0 := L.kinds.zero i j hi hj h
  have h1 := A.ac_rng i; have h2 := A.ac_rng j
  unfold kd0 at h0
  cases ha : lv i <;> cases hb : lv j
  · exact ⟨rfl, by rw [L.ac_live ha, L.ac_live hb]⟩
  · rw [ha, hb] at h0; simp at h0; omega
  · rw [ha, hb] at h0; simp at h0; omega
  · rw [ha, hb] at h0; simp at h0; exact ⟨rfl, by omega⟩

theorem LeastOK.acc (L : LeastOK svs lv kd fs ms of_) (A : Aut svs) {x : Int} {i : Nat} (h : Rel svs kd fs x i) : mAcc ms x = ac svs i := by
  obtain ⟨xn, m, rfl, hx, hk, hi⟩ := h
  obtain ⟨s, h1, h2, h3, _⟩ := L.at_ hx
  have : mAcc ms (xn : Int) = s.acc := by simp [mAcc, h2]
  rw [this, h3]
  exact (L.kd_eq A (L.fsok.lt m (List.mem_of_getElem? hx)) hi hk).2

theorem LeastOK.dead (L : LeastOK svs lv kd fs ms of_) {k : Nat} (hk : k < svs.length) (h : lv k = false) : ¬ Alive svs k := fun ha => by
  have := (L.alive k hk).2 ha
  rw [h] at this; cases this

theorem LeastOK.run (L : LeastOK svs lv kd fs ms of_) (A : Aut svs) : ∀ (l : List UInt8) {x : Int} {i : Nat}, Rel svs kd fs x i →
    (∃ (y : Int) (k : Nat), mRun ms l (x, true) = (y, true) ∧ runFrom svs l ((i : Int), true) = ((k : Int), true) ∧ Rel svs kd fs y k) ∨
    ((mRun ms l (x, true)).2 = false ∧ ((runFrom svs l ((i : Int), true)).2 = true → accOf svs (runFrom svs l ((i : Int), true)).1 = -1))
  | [], x, i, h => .inl ⟨x, i, rfl, rfl, h⟩
  | c :: l, x, i, h => by
    have hc : c.toNat < 256 := by have := c.toNat_lt; omega
    rw [mRun_cons, runFrom_cons, A.next hc]
    rcases L.next A h hc with ⟨k, y, h1, h2, h3, h4⟩ | ⟨h1, h2⟩
    · rw [h1, h3]
      exact L.run A l h4
    · right
      rw [h1, mRun_false]
      refine ⟨rfl, fun hr => ?_⟩
      cases hx : nxt svs i c.toNat with
      | none => rw [hx] at hr; dsimp only at hr; rw [runFrom_false] at hr; cases hr
      | some k =>
        rw [hx] at hr
        dsimp only at hr ⊢
        exact dead_run A l k (L.dead (A.nxt_lt hc hx).1 (h2 k hx)) hr
end
end Go.Fk
end

section
set_option linter.unusedVariables false
namespace Go.Fk
open Go

/-! ## LeastLongest -/

theorem bs_take {s : ByteArray} {t : Nat} : bs (s.extract 0 t) = (bs s).take t := by
  simp [bs]

theorem App.prefix {w : World} {s : ByteArray} {t : Nat} {K : ByteArray → World → Prop} (h : t ≤ s.size) (hK : K (s.extract 0 t) w) : App P (Instr.sliceAt T.string (.string s) none (some (.int .i64 (t : Int))) none) (.one .str) w K := by
  refine ⟨s.extract 0 t, w, ?_, hK⟩
  rw [run_sliceAt_string w _ _ _ _ _ strTy, run_slice_string_h w _ _ strTy .i64 _ (by omega) (by omega)]
  rfl
theorem App.min2 {ts : Array TypeId} {t : TypeId} {k k' : IntKind} {x y : Int} {w : World} {K : Int → World → Prop} (hK : K (if y < x then y else x) w) : App P (Builtin.min_ ts t #[.int k x, .int k' y]) (.one (.int k)) w K :=
  ⟨_, w, run_min_int2 w ts t k k' x y, hK⟩

def LongR (x : Re) (s : List UInt8) (r : Int) : Prop := (r = -1 ∧ ∀ j, j ≤ s.length → ¬ x.m s 0 j) ∨ ∃ j : Nat, j ≤ s.length ∧ r = j ∧ x.m s 0 j ∧ ∀ j', j' ≤ s.length → x.m s 0 j' → j' ≤ j

theorem refLongest_spec {w : World} {v : NV} {x : Re} {s : ByteArray} {K : Int → World → Prop} (hs : s.size ≤ 1000000) (h : RNd (V No w) v x) (hK : ∀ r w', Keeps No w w' → LongR x (bs s) r → K r w') : frisketref05_Longest.C v.cells.toArray s w K := by
  have hsz := size_bs s
  refine frisketref05_Longest.ok _ _ _ _ ?_
  simp only [frisketref05_Longest.M]
  refine Al.mk fun b1 w1 n1 => ?_
  rw [w64_eq (by omega)]
  have eN : ((s.size : Int) + 1) = ((s.size + 1 : Nat) : Int) := by omega
  rw [eN]
  refine App.make1 (t := .bool) (z := false) elBool rfl (by omega) (by omega) fun b2 w2 n2 => ?_
  have k02 : Keeps No w w2 := n1.keeps.trans n2.keeps
  have e1 := n1.eq; have e2 := n2.eq; have z1 := n1.size; have z2 := n2.size
  have hb1 : w2.heap[b1]? = some (nodeObj v) := n2.keeps.blk0 n1.at_
  have hb2 : w2.heap[b2]? = some (rowObj .bool tBool (rowB (s.size + 1) fun _ => false)) := by rw [← rowB_none]; exact n2.at_
  refine IdxS.putB (i := 0) hb2 (by omega) fun w3 u3 => ?_
  have k03 : Keeps No w w3 := u3.keeps0 k02 (by omega)
  refine LdA.node (u3.keeps.blk hb1 (by omega)) ?_
  refine Ends_spec x.size x (Nat.le_refl _) hs (h.mono (V.keeps0 k03)) (Row.sl u3.at_ id rowB_len.symm) fun l g w4 k4 hl he => ?_
  have hg : ∀ j, j ≤ s.size → (g j = true ↔ x.m (bs s) 0 j) := fun j hj => by
    rw [he j (by omega)]
    constructor
    · rintro ⟨i, hi, hf, hm⟩
      by_cases e : i = 0
      · subst e; exact hm
      · simp [e] at hf
    · intro hm; exact ⟨0, by omega, by simp, hm⟩
  refine Loop.mk (fun t w' => w' = w4 ∧ ∃ k : Nat, k ≤ s.size + 1 ∧ t = (k : Int) - 1 ∧ ∀ j, k ≤ j → j ≤ s.size → ¬ x.m (bs s) 0 j) (fun t => (t + 1).toNat) ⟨rfl, s.size + 1, by omega, by omega, fun j h1 h2 => by omega⟩ ?_
  rintro t w' ⟨rfl, k, hk, rfl, hno⟩ R hR
  refine Br.mk (fun ht => ?_) (fun hf => ?_)
  · have ht : 1 ≤ k := by have := of_decide_eq_true ht; omega
    obtain ⟨j, rfl⟩ : ∃ j, k = j + 1 := ⟨k - 1, by omega⟩
    have ej : ((j + 1 : Nat) : Int) - 1 = (j : Int) := by omega
    rw [ej]
    refine IdxS.bool hl (by omega) ?_
    refine Br.mk (fun h => ?_) (fun h => ?_)
    · exact hK _ w' (k03.trans k4) (.inr ⟨j, by omega, rfl, (hg j (by omega)).1 h, fun j' h1 h2 => Nat.le_of_not_lt fun hlt => hno j' (by omega) (by omega) h2⟩)
    · rw [w64_eq (by omega)]
      refine hR _ _ ⟨rfl, j, by omega, rfl, fun j' h1 h2 hm => ?_⟩ (by omega)
      by_cases e : j' = j
      · subst e; rw [(hg j' h2).2 hm] at h; cases h
      · exact hno j' (by omega) h2 hm
  · have hf : k = 0 := by have := of_decide_eq_false hf; omega
    subst hf
    exact hK _ w' (k03.trans k4) (.inl ⟨rfl, fun j hj => hno j (by omega) (by omega)⟩)

section
variable {ms : List LSt} {s : List UInt8}

/-- What is met after t letters. -/
def qAt (ms : List LSt) (s : List UInt8) (t : Nat) : Int × Bool := mRun ms (s.take t) (0, true)
def BestAt (ms : List LSt) (s : List UInt8) (j : Nat) (r z : Int) : Prop :=
  (r = -1 ∧ z = 0 ∧ ∀ t, 0 < t → t ≤ j → mAcc ms (qAt ms s t).1 = -1) ∨ ∃ t : Nat, 0 < t ∧ t ≤ j ∧ z = t ∧ r = mAcc ms (qAt ms s t).1 ∧ r ≠ -1 ∧ ∀ t', t < t' → t' ≤ j → mAcc ms (qAt ms s t').1 = -1

theorem qAt_succ {j : Nat} {c : UInt8} {n : Int} (hc : s[j]? = some c) (hq : qAt ms s j = (n, true)) : qAt ms s (j + 1) = mNext ms n c.toNat := by
  unfold qAt at hq ⊢
  rw [List.take_add_one, hc, mRun_append, hq]
  simp [mRun]

theorem mLong_law : ∀ (l : List UInt8) (j : Nat) (r z n : Int), s.drop j = l → j ≤ s.length → qAt ms s j = (n, true) → (∀ t, t ≤ j → (qAt ms s t).2 = true) → BestAt ms s j r z →
    ∃ (F : Nat) (r' z' : Int), F ≤ s.length ∧ (∀ t, t ≤ F → (qAt ms s t).2 = true) ∧ (F < s.length → (qAt ms s (F + 1)).2 = false) ∧ BestAt ms s F r' z' ∧ mLong ms l (r, z, n, j) = (r', z', ((min (F + 1) s.length : Nat) : Int))
  | [], j, r, z, n, hl, hj, hq, hall, hb => by
    have : s.length ≤ j := by
      have := congrArg List.length hl
      simp at this
      omega
    have hjs : j = s.length := by omega
    refine ⟨j, r, z, hj, hall, fun h => by omega, hb, ?_⟩
    rw [mLong]
    have : min (j + 1) s.length = j := by omega
    rw [this]
  | c :: l, j, r, z, n, hl, hj, hq, hall, hb => by
    have hlt : j < s.length := by
      refine Nat.lt_of_not_le fun h => ?_
      rw [List.drop_of_length_le h] at hl; cases hl
    have hd := List.drop_eq_getElem_cons hlt
    rw [hl] at hd
    have hc : s[j]? = some c := by rw [List.getElem?_eq_getElem hlt]; exact congrArg some (List.cons.inj hd).1.symm
    have hl' : s.drop (j + 1) = l := (List.cons.inj hd).2.symm
    have hq' := qAt_succ hc hq
    rw [mLong]
    dsimp only
    by_cases hx : (mNext ms n c.toNat).2 = true
    · rw [if_pos hx]
      have hqn : qAt ms s (j + 1) = ((mNext ms n c.toNat).1, true) := by rw [hq', ← hx]
      have hall' : ∀ t, t ≤ j + 1 → (qAt ms s t).2 = true := fun t ht => by
        by_cases e : t = j + 1
        · subst e; rw [hq']; exact hx
        · exact hall t (by omega)
      by_cases ha : mAcc ms (mNext ms n c.toNat).1 = -1
      · rw [if_pos ha]
        refine mLong_law l (j + 1) r z _ hl' (by omega) hqn hall' ?_
        have hz : mAcc ms (qAt ms s (j + 1)).1 = -1 := by rw [hq']; exact ha
        rcases hb with ⟨h1, h2, h3⟩ | ⟨t, h1, h2, h3, h4, h5, h6⟩
        · refine .inl ⟨h1, h2, fun t h4 h5 => ?_⟩
          by_cases e : t = j + 1
          · subst e; exact hz
          · exact h3 t h4 (by omega)
        · refine .inr ⟨t, h1, by omega, h3, h4, h5, fun t' h7 h8 => ?_⟩
          by_cases e : t' = j + 1
          · subst e; exact hz
          · exact h6 t' h7 (by omega)
      · rw [if_neg ha]
        refine mLong_law l (j + 1) _ _ _ hl' (by omega) hqn hall' (.inr ⟨j + 1, by omega, by omega, rfl, by rw [hq'], ha, fun t' h1 h2 => by omega⟩)
    · have hx' : (mNext ms n c.toNat).2 = false := by simpa using hx
      rw [if_neg hx]
      refine ⟨j, r, z, by omega, hall, fun _ => by rw [hq']; exact hx', hb, ?_⟩
      have : min (j + 1) s.length = j + 1 := by omega
      rw [this]
end

section
variable {ys : List Re} {svs : List DSt} {cl : Nat → Int} {nc : Int} {lv : Nat → Bool} {kd : Nat → Int} {fs : List Nat} {ms : List LSt} {of_ : Nat → Int} {s : List UInt8}

/-- At t letters: what the least automaton accepts is the least expression that means them. -/
theorem LeastOK.means (L : LeastOK svs lv kd fs ms of_) (A : Aut svs) (h : DfaOK (mFs 0 ys) (mFol 0 ys) (mKs 0 ys) svs cl nc) {t : Nat} (h0 : 0 < t) (ht : t ≤ s.length) :
    ((qAt ms s t).2 = true → LeastI (Means ys s t) ys.length (mAcc ms (qAt ms s t).1)) ∧ ((qAt ms s t).2 = false → LeastI (Means ys s t) ys.length (-1)) := by
  have hst := run_state (s := s) h t ht
  have hlaw : ((runFrom svs (s.take t) (0, true)).2 = false → LeastI (Means ys s t) ys.length (-1)) ∧ ((runFrom svs (s.take t) (0, true)).2 = true → LeastI (Means ys s t) ys.length (accOf svs (runFrom svs (s.take t) (0, true)).1)) := by
    rcases hst with ⟨e0, _⟩ | ⟨_, ⟨i, sv, e, hi0, hi, hq⟩ | ⟨e, hq⟩⟩
    · omega
    · rw [e]
      refine ⟨fun h => by simp at h, fun _ => ?_⟩
      have hat : stAt svs (i : Int) = some sv := stAt_in (by omega) (by simpa using hi)
      have : accOf svs (i : Int) = sv.acc := by simp [accOf, hat]
      show LeastI _ _ (accOf svs (i : Int))
      rw [this]
      exact acc_least h0 hq (h.sts.acc sv (List.mem_of_getElem? hi))
    · rw [e]
      exact ⟨fun _ => acc_least (xs := []) h0 (fun q => by simp [hq q]) (.inl ⟨rfl, by simp⟩), fun h => by simp at h⟩
  unfold qAt
  rcases L.run A (s.take t) (L.rel0 A) with ⟨y, k, h1, h2, h3⟩ | ⟨h1, h2⟩
  · have h2' : runFrom svs (s.take t) (0, true) = ((k : Int), true) := h2
    rw [h1]
    refine ⟨fun _ => ?_, fun h => by cases h⟩
    have := hlaw.2 (by rw [h2'])
    rw [h2'] at this
    show LeastI _ _ (mAcc ms y)
    rw [L.acc A h3]; exact this
  · have h2' : (runFrom svs (s.take t) (0, true)).2 = true → accOf svs (runFrom svs (s.take t) (0, true)).1 = -1 := h2
    refine ⟨(fun h => by rw [h1] at h; cases h), fun _ => ?_⟩
    cases hr : (runFrom svs (s.take t) (0, true)).2 with
    | false => exact hlaw.1 hr
    | true => have := hlaw.2 hr; rw [h2' hr] at this; exact this

theorem qAt_dead {F : Nat} (hF : (qAt ms s (F + 1)).2 = false) : ∀ t, F + 1 ≤ t → (qAt ms s t).2 = false := by
  intro t ht
  unfold qAt at hF ⊢
  have : s.take t = s.take (F + 1) ++ (s.drop (F + 1)).take (t - (F + 1)) := by
    rw [← List.take_add]
    congr 1
    omega
  rw [this, mRun_append]
  have h1 : mRun ms (s.take (F + 1)) (0, true) = ((mRun ms (s.take (F + 1)) (0, true)).1, false) := by rw [← hF]
  rw [h1, mRun_false]

/-- The longest beginning that is meant, and the least expression that means it. -/
def LawBest (M : Nat → Nat → Prop) (n N : Nat) (r z : Int) : Prop :=
  (r = -1 ∧ z = 0 ∧ ∀ i t, i < n → 0 < t → t ≤ N → ¬ M t i) ∨ ∃ (t i : Nat), 0 < t ∧ t ≤ N ∧ i < n ∧ z = t ∧ r = i ∧ M t i ∧ (∀ j, j < i → ¬ M t j) ∧ ∀ j t', j < n → t < t' → t' ≤ N → ¬ M t' j

theorem LawBest.one {M : Nat → Nat → Prop} {n N : Nat} {r z r' z' : Int} (h : LawBest M n N r z) (h' : LawBest M n N r' z') : r = r' ∧ z = z' := by
  rcases h with ⟨rfl, rfl, h1⟩ | ⟨t, i, a1, a2, a3, rfl, rfl, a4, a5, a6⟩ <;> rcases h' with ⟨rfl, rfl, g1⟩ | ⟨t', i', b1, b2, b3, rfl, rfl, b4, b5, b6⟩
  · exact ⟨rfl, rfl⟩
  · exact absurd b4 (h1 i' t' b3 b1 b2)
  · exact absurd a4 (g1 i t a3 a1 a2)
  · have : t = t' := by
      rcases Nat.lt_trichotomy t t' with g | g | g
      · exact absurd b4 (a6 i' t' b3 g b2)
      · exact g
      · exact absurd a4 (b6 i t a3 g a2)
    subst this
    have : i = i' := by
      rcases Nat.lt_trichotomy i i' with g | g | g
      · exact absurd a4 (b5 i g)
      · exact g
      · exact absurd b4 (a5 i' g)
    subst this
    exact ⟨rfl, rfl⟩

theorem LeastOK.best (L : LeastOK svs lv kd fs ms of_) (A : Aut svs) (h : DfaOK (mFs 0 ys) (mFol 0 ys) (mKs 0 ys) svs cl nc) {F : Nat} {r z : Int} (hF : F ≤ s.length) (hall : ∀ t, t ≤ F → (qAt ms s t).2 = true) (hno : F < s.length → (qAt ms s (F + 1)).2 = false)
    (hb : BestAt ms s F r z) : LawBest (Means ys s) ys.length s.length r z := by
  have dead : ∀ t, F < t → t ≤ s.length → ∀ i, i < ys.length → ¬ Means ys s t i := fun t h1 h2 i hi hm => by
    rcases (L.means A h (by omega) h2).2 (qAt_dead (hno (by omega)) t (by omega)) with ⟨_, g⟩ | ⟨i', _, e, _⟩
    · exact g i hi hm
    · omega
  have none' : ∀ t, 0 < t → t ≤ F → mAcc ms (qAt ms s t).1 = -1 → ∀ i, i < ys.length → ¬ Means ys s t i := fun t h0 h1 ha i hi hm => by
    have := (L.means A h h0 (by omega)).1 (hall t h1)
    rw [ha] at this
    rcases this with ⟨_, g⟩ | ⟨i', _, e, _⟩
    · exact g i hi hm
    · omega
  rcases hb with ⟨h1, h2, h3⟩ | ⟨t, h1, h2, h3, h4, h5, h6⟩
  · refine .inl ⟨h1, h2, fun i t hi h0 ht => ?_⟩
    by_cases e : t ≤ F
    · exact none' t h0 e (h3 t h0 e) i hi
    · exact dead t (by omega) ht i hi
  · have hl := (L.means A h h1 (by omega)).1 (hall t h2)
    rw [← h4] at hl
    rcases hl with ⟨e, _⟩ | ⟨i, hi, e, hm, hmin⟩
    · exact absurd e h5
    · refine .inr ⟨t, i, h1, by omega, hi, h3, e, hm, fun j hj hmj => by have := hmin j (by omega) hmj; omega, fun j t' hj ht ht' => ?_⟩
      by_cases e' : t' ≤ F
      · exact none' t' (by omega) e' (h6 t' ht e') j hj
      · exact dead t' (by omega) ht' j hj
end

theorem LawBest.step {M : Nat → Nat → Prop} {k N : Nat} {r z : Int} (h : LawBest M k N r z) {v : Int} (hv : (v = -1 ∧ ∀ j, j ≤ N → ¬ M j k) ∨ ∃ j : Nat, j ≤ N ∧ v = j ∧ M j k ∧ ∀ j', j' ≤ N → M j' k → j' ≤ j) :
    (z < v → LawBest M (k + 1) N k v) ∧ (¬ z < v → LawBest M (k + 1) N r z) := by
  have hz : 0 ≤ z := by rcases h with ⟨_, h, _⟩ | ⟨t, i, _, _, _, h, _⟩ <;> omega
  -- none beyond what was met
  have beyond : ∀ (i t : Nat), i < k → z < (t : Int) → t ≤ N → ¬ M t i := by
    rcases h with ⟨_, rfl, h1⟩ | ⟨t0, i0, a1, a2, a3, rfl, _, a4, a5, a6⟩
    · intro i t hi ht hN; exact h1 i t hi (by omega) hN
    · intro i t hi ht hN; exact a6 i t hi (by omega) hN
  constructor
  · intro hlt
    rcases hv with ⟨rfl, _⟩ | ⟨j, h1, rfl, h2, h3⟩
    · omega
    · refine .inr ⟨j, k, by omega, h1, by omega, rfl, rfl, h2, fun i hi => beyond i j hi hlt h1, fun i t' hi ht hN => ?_⟩
      by_cases e : i = k
      · subst e; intro hm; have := h3 t' hN hm; omega
      · exact beyond i t' (by omega) (by omega) hN
  · intro hge
    have hk : ∀ (t : Nat), z < (t : Int) → t ≤ N → ¬ M t k := fun t ht hN hm => by
      rcases hv with ⟨rfl, h1⟩ | ⟨j, h1, rfl, h2, h3⟩
      · exact h1 t hN hm
      · have := h3 t hN hm; omega
    rcases h with ⟨h1, rfl, h2⟩ | ⟨t0, i0, a1, a2, a3, rfl, a0, a4, a5, a6⟩
    · refine .inl ⟨h1, rfl, fun i t hi h0 hN => ?_⟩
      by_cases e : i = k
      · subst e; exact hk t (by omega) hN
      · exact h2 i t (by omega) h0 hN
    · refine .inr ⟨t0, i0, a1, a2, by omega, rfl, a0, a4, a5, fun i t' hi ht hN => ?_⟩
      by_cases e : i = k
      · subst e; exact hk t' (by omega) hN
      · exact a6 i t' (by omega) ht hN

theorem LawBest.congr {M M' : Nat → Nat → Prop} {n N : Nat} {r z : Int} (h : LawBest M n N r z) (e : ∀ t i, M t i ↔ M' t i) : LawBest M' n N r z := by
  have : M = M' := by funext t i; exact propext (e t i)
  rw [← this]; exact h
end Go.Fk
end

section
set_option linter.unusedVariables false
namespace Go.Fk
open Go

/-! ## What an expression means, elsewhere in a text -/

theorem Re.m_shift (x : Re) : ∀ {s s' : List UInt8} {i j d : Nat}, x.m s i j → (∀ k, i ≤ k → k < j → s'[k + d]? = s[k]?) → x.m s' (i + d) (j + d) := by
  induction x with
  | set f => rintro s s' i j d ⟨rfl, c, hc, hf⟩ h; exact ⟨by omega, c, by rw [h i (Nat.le_refl _) (by omega)]; exact hc, hf⟩
  | empty => rintro s s' i j d rfl _; rfl
  | cat a b iha ihb =>
    rintro s s' i j d ⟨k, h1, h2⟩ h
    have g1 := (Re.m_le h1).1
    have g2 := (Re.m_le h2).1
    exact ⟨k + d, iha h1 fun q _ _ => h q (by omega) (by omega), ihb h2 fun q _ _ => h q (by omega) (by omega)⟩
  | or a b iha ihb =>
    rintro s s' i j d (h1 | h1) h
    · exact .inl (iha h1 h)
    · exact .inr (ihb h1 h)
  | star a ih =>
    intro s s' i j d h1
    change Clo (a.m s) i j at h1
    induction h1 with
    | refl => intro _; exact .refl
    | snoc hh r ih2 =>
      intro h
      have g := (Re.m_le r).1
      have g0 := (Re.m_le (x := .star a) hh).1
      exact .snoc (ih2 fun q _ _ => h q (by omega) (by omega)) (ih r fun q _ _ => h q (by omega) (by omega))

theorem Re.m_self {s : List UInt8} (x : Re) : ∀ {i : Nat}, x.m s i i ↔ x.emp = true := by
  induction x with
  | set f => intro i; simp [Re.m, Re.emp]
  | empty => intro i; simp [Re.m, Re.emp]
  | cat a b iha ihb =>
    intro i
    simp only [Re.m, Re.emp, Bool.and_eq_true]
    constructor
    · rintro ⟨k, h1, h2⟩
      have g1 := (Re.m_le h1).1
      have g2 := (Re.m_le h2).1
      have : k = i := by omega
      subst this
      exact ⟨iha.1 h1, ihb.1 h2⟩
    · rintro ⟨h1, h2⟩; exact ⟨i, iha.2 h1, ihb.2 h2⟩
  | or a b iha ihb => intro i; simp [Re.m, Re.emp, iha, ihb]
  | star a ih => intro i; simp only [Re.emp, iff_true]; exact Clo.refl

/-- Is a text meant? -/
def Re.sm : Re → Bool
  | .set f => (List.range 256).any f
  | .empty => true
  | .cat a b => a.sm && b.sm
  | .or a b => a.sm || b.sm
  | .star _ => true

theorem Re.sm_of (x : Re) : ∀ {s : List UInt8} {i j : Nat}, x.m s i j → x.sm = true := by
  induction x with
  | set f =>
    rintro s i j ⟨_, c, _, hf⟩
    simp only [Re.sm, List.any_eq_true, List.mem_range]
    exact ⟨c.toNat, c.toNat_lt, hf⟩
  | empty => intro s i j _; rfl
  | cat a b iha ihb => rintro s i j ⟨k, h1, h2⟩; simp [Re.sm, iha h1, ihb h2]
  | or a b iha ihb =>
    rintro s i j (h | h)
    · simp [Re.sm, iha h]
    · simp [Re.sm, ihb h]
  | star a ih => intro s i j _; rfl

theorem Re.sm_text (x : Re) : x.sm = true → ∃ s : List UInt8, x.m s 0 s.length := by
  induction x with
  | set f =>
    intro h
    simp only [Re.sm, List.any_eq_true, List.mem_range] at h
    obtain ⟨b, hb, hf⟩ := h
    refine ⟨[UInt8.ofNat b], rfl, _, rfl, ?_⟩
    have : (UInt8.ofNat b).toNat = b := by simp [UInt8.toNat_ofNat']; omega
    rw [this]; exact hf
  | empty => intro _; exact ⟨[], rfl⟩
  | cat a b iha ihb =>
    intro h
    simp only [Re.sm, Bool.and_eq_true] at h
    obtain ⟨s, hs⟩ := iha h.1
    obtain ⟨t, ht⟩ := ihb h.2
    refine ⟨s ++ t, s.length, ?_, ?_⟩
    · have := a.m_shift (s' := s ++ t) (d := 0) hs fun k _ hk => by rw [Nat.add_zero, List.getElem?_append_left hk]
      simpa using this
    · have := b.m_shift (s' := s ++ t) (d := s.length) ht fun k _ hk => by rw [List.getElem?_append_right (by omega)]; congr 1; omega
      simpa [Nat.add_comm] using this
  | or a b iha ihb =>
    intro h
    simp only [Re.sm, Bool.or_eq_true] at h
    rcases h with h | h
    · obtain ⟨s, hs⟩ := iha h; exact ⟨s, .inl hs⟩
    · obtain ⟨s, hs⟩ := ihb h; exact ⟨s, .inr hs⟩
  | star a ih => intro _; exact ⟨[], .refl⟩

/-- A text that isn't empty is meant. -/
def Re.sub (x : Re) : Prop := ∃ s : List UInt8, s ≠ [] ∧ x.m s 0 s.length
theorem Re.sub_iff {x : Re} (h : x.emp = false) : x.sub ↔ x.sm = true := by
  constructor
  · rintro ⟨s, _, hs⟩; exact x.sm_of hs
  · intro hm
    obtain ⟨s, hs⟩ := x.sm_text hm
    refine ⟨s, ?_, hs⟩
    rintro rfl
    rw [(x.m_self).1 hs] at h; cases h

theorem Re.sm_norm (x : Re) : x.norm.sm = x.sm := by
  rw [Bool.eq_iff_iff]
  constructor
  · intro h; obtain ⟨s, hs⟩ := x.norm.sm_text h; exact x.sm_of (x.m_norm.1 hs)
  · intro h; obtain ⟨s, hs⟩ := x.sm_text h; exact x.norm.sm_of (x.m_norm.2 hs)

/-! ## Each state is what a text leads to -/

theorem Pth.pre {F : Int → Int → Prop} {H : Int → Nat → Bool} {s s' : List UInt8} {i j : Nat} {p q : Int} (t : Pth F H s i p j q) : (∀ k, k < j → s'[k]? = s[k]?) → Pth F H s' i p j q := by
  induction t with
  | one hc hh => intro h; exact .one (by rw [h _ (by omega)]; exact hc) hh
  | snoc _ f hc hh ih => intro h; exact .snoc (ih fun k hk => h k (by omega)) f (by rw [h _ (by omega)]; exact hc) hh
theorem NowS.pre {fs : List ((Nat → Bool) × Int)} {F : Int → Int → Prop} {ks : List Kn} {s s' : List UInt8} {t : Nat} {q : Int} (h : NowS fs F ks s t q) (e : ∀ k, k < t → s'[k]? = s[k]?) : NowS fs F ks s' t q := by
  obtain ⟨r, hr, p, hp, t⟩ := h
  exact ⟨r, hr, p, hp, t.pre e⟩

section
variable {fs : List ((Nat → Bool) × Int)} {F : Int → Int → Prop} {ks : List Kn} {svs : List DSt} {n : Nat}

theorem reach (hs : Sts fs ks svs) (hd : Done fs F ks n 0 svs) : ∀ v : Nat, 0 < v → v < svs.length → ∃ s : List UInt8, s ≠ [] ∧ ∀ sv, svs[v]? = some sv → ∀ q, q ∈ sv.xs ↔ NowS fs F ks s s.length q := by
  intro v
  induction v using Nat.strongRecOn with
  | _ v ih =>
  intro h0 hv
  obtain ⟨j, b, hj, hjb, hx⟩ := hd.met v h0 hv
  rcases hjb with ⟨hjn, hb⟩ | ⟨_, hb⟩
  case inr => omega
  have hsj : svs[j]? = some svs[j] := List.getElem?_eq_getElem (by omega)
  have hnx : svs[j].nx b = v := by simpa [nxAt, hsj] using hx
  have hb' : (UInt8.ofNat b).toNat = b := by simp [UInt8.toNat_ofNat']; omega
  rcases hd.rows j _ hjn hsj b hb with ⟨h1, _⟩ | ⟨i, sv, hi0, hi, hsv, hq⟩
  · omega
  have : i = v := by omega
  subst this
  by_cases hj0 : j = 0
  · subst hj0
    obtain ⟨sv0, g1, g2⟩ := hs.zero
    rw [hsj] at g1; cases g1
    refine ⟨[UInt8.ofNat b], by simp, fun sv' hsv' q => ?_⟩
    rw [hsv] at hsv'; cases hsv'
    rw [hq, g2]
    have := step_zero (fs := fs) (F := F) (ks := ks) (s := [UInt8.ofNat b]) (c := UInt8.ofNat b) rfl (q := q)
    rw [hb'] at this
    exact this
  · obtain ⟨s0, hs0, hq0⟩ := ih j hj (by omega) (by omega)
    refine ⟨s0 ++ [UInt8.ofNat b], by simp, fun sv' hsv' q => ?_⟩
    rw [hsv] at hsv'; cases hsv'
    obtain ⟨t, ht⟩ : ∃ t, s0.length = t + 1 := ⟨s0.length - 1, by have := List.length_pos_iff.2 hs0; omega⟩
    have := step_succ (fs := fs) (F := F) (ks := ks) (s := s0 ++ [UInt8.ofNat b]) (t := t) (c := UInt8.ofNat b) (by rw [List.getElem?_append_right (by omega)]; simp [ht]) (hs.ne j _ hsj (by omega)) (fun q => by
      rw [hq0 _ hsj q, ht]
      constructor
      · intro h; exact h.pre fun k hk => by rw [List.getElem?_append_left (by omega)]
      · intro h; exact h.pre fun k hk => by rw [List.getElem?_append_left (by omega)]) (q := q)
    rw [hb'] at this
    rw [hq, this]
    simp [ht]
end

/-! ## The run of one expression among others is its own run -/

theorem Re.first_shift (y : Re) : ∀ {n d p : Int}, y.first (n + d) (p + d) ↔ y.first n p := by
  induction y with
  | set f => intro n d p; simp only [Re.first]; omega
  | empty => intro n d p; exact Iff.rfl
  | cat a b iha ihb => intro n d p; simp only [Re.first]; rw [iha, show n + d + (a.cnt : Int) = n + a.cnt + d from by omega, ihb]
  | or a b iha ihb => intro n d p; simp only [Re.first]; rw [iha, show n + d + (a.cnt : Int) = n + a.cnt + d from by omega, ihb]
  | star a ih => intro n d p; exact ih
theorem Re.last_shift (y : Re) : ∀ {n d p : Int}, y.last (n + d) (p + d) ↔ y.last n p := by
  induction y with
  | set f => intro n d p; simp only [Re.last]; omega
  | empty => intro n d p; exact Iff.rfl
  | cat a b iha ihb => intro n d p; simp only [Re.last]; rw [iha, show n + d + (a.cnt : Int) = n + a.cnt + d from by omega, ihb]
  | or a b iha ihb => intro n d p; simp only [Re.last]; rw [iha, show n + d + (a.cnt : Int) = n + a.cnt + d from by omega, ihb]
  | star a ih => intro n d p; exact ih
theorem Re.fol_shift (y : Re) : ∀ {n d p q : Int}, y.fol (n + d) (p + d) (q + d) ↔ y.fol n p q := by
  induction y with
  | set f => intro n d p q; exact Iff.rfl
  | empty => intro n d p q; exact Iff.rfl
  | cat a b iha ihb => intro n d p q; simp only [Re.fol]; rw [iha, show n + d + (a.cnt : Int) = n + a.cnt + d from by omega, ihb, a.last_shift, b.first_shift]
  | or a b iha ihb => intro n d p q; simp only [Re.fol]; rw [iha, show n + d + (a.cnt : Int) = n + a.cnt + d from by omega, ihb]
  | star a ih => intro n d p q; simp only [Re.fol]; rw [ih, a.last_shift, a.first_shift]

theorem Pth.map {F F' : Int → Int → Prop} {H H' : Int → Nat → Bool} {s : List UInt8} {Q : Int → Prop} {g : Int → Int} (hF : ∀ p q, Q p → F p q → F' (g p) (g q) ∧ Q q) (hH : ∀ p c, Q p → c < 256 → H p c = true → H' (g p) c = true)
    {i j : Nat} {p q : Int} (t : Pth F H s i p j q) (hp : Q p) : Q q ∧ Pth F' H' s i (g p) j (g q) := by
  induction t with
  | one hc hh => exact ⟨hp, .one hc (hH _ _ hp (UInt8.toNat_lt _) hh)⟩
  | snoc _ f hc hh ih =>
    obtain ⟨h1, h2⟩ := ih
    obtain ⟨h3, h4⟩ := hF _ _ h1 f
    exact ⟨h4, .snoc h2 h3 hc (hH _ _ h4 (UInt8.toNat_lt _) hh)⟩

theorem mach_at (ys : List Re) : ∀ (n r : Int) (i : Nat) (y : Re), ys[i]? = some y → (mKs n ys)[i]? = some ⟨y.first (n + mCnt (ys.take i)), y.last (n + mCnt (ys.take i)), y.emp⟩ ∧ (∀ (k : Nat) f, y.poss[k]? = some f → (mFs r ys)[mCnt (ys.take i) + k]? = some (f, r + i)) ∧
    ∀ p q, n + mCnt (ys.take i) ≤ p → p < n + mCnt (ys.take i) + y.cnt → (mFol n ys p q ↔ y.fol (n + mCnt (ys.take i)) p q) := by
  induction ys with
  | nil => intro n r i y h; simp at h
  | cons x xs ih =>
    intro n r i y h
    cases i with
    | zero =>
      simp at h; subst h
      have e0 : (n : Int) + (mCnt (List.take 0 (x :: xs)) : Int) = n := by simp [mCnt]
      rw [e0]
      refine ⟨rfl, fun k f hk => ?_, fun p q h1 h2 => ?_⟩
      · have hlt : k < x.poss.length := (List.getElem?_eq_some_iff.1 hk).1
        simp only [mFs, mCnt, List.take_zero, List.map_nil, List.sum_nil, Nat.zero_add]
        rw [List.getElem?_append_left (by simpa using hlt)]
        simp [hk]
      · simp only [mFol]
        constructor
        · rintro (h | h)
          · exact h
          · have := (fol_rule xs _ 0 _ _ h).1; omega
        · exact .inl
    | succ i =>
      simp at h
      obtain ⟨h2, h3, h4⟩ := ih (n + x.cnt) (r + 1) i y h
      have ec : mCnt (List.take (i + 1) (x :: xs)) = x.cnt + mCnt (xs.take i) := by simp [mCnt]
      have ee : n + (mCnt (List.take (i + 1) (x :: xs)) : Int) = n + x.cnt + mCnt (xs.take i) := by rw [ec]; omega
      rw [ee]
      refine ⟨by simpa [mKs] using h2, fun k f hk => ?_, fun p q g1 g2 => ?_⟩
      · simp only [mFs]
        have := h3 k f hk
        rw [poss_skip (by omega), ec]
        have e : x.cnt + mCnt (xs.take i) + k - x.cnt = mCnt (xs.take i) + k := by omega
        rw [e, this]
        simp; omega
      · simp only [mFol]
        rw [← h4 p q g1 g2]
        constructor
        · rintro (h | h)
          · have := Re.fol_in h; omega
          · exact h
        · exact .inr

def posHas (y : Re) (k : Int) (c : Nat) : Bool := ((y.poss[k.toNat]?).map fun f => f c).getD false
def nowY (y : Re) (s : List UInt8) (t : Nat) (q : Int) : Prop := ∃ p, y.first 0 p ∧ Pth (y.fol 0) (posHas y) s 0 p t q

theorem now_at {ys : List Re} {i : Nat} {y : Re} (h : ys[i]? = some y) {s : List UInt8} {t : Nat} {q : Int} (h0 : 0 ≤ q) (h1 : q < y.cnt) : NowS (mFs 0 ys) (mFol 0 ys) (mKs 0 ys) s t (q + mCnt (ys.take i)) ↔ nowY y s t q := by
  obtain ⟨g2, g3, g4⟩ := mach_at ys 0 0 i y h
  simp only [Int.zero_add] at g2 g3 g4
  generalize hoff : mCnt (ys.take i) = off at g2 g3 g4 ⊢
  have hk : knAt (mKs 0 ys) i = ⟨y.first off, y.last off, y.emp⟩ := knAt_in (by omega) (by simpa using g2)
  have hlen : i < (mKs 0 ys).length := by rw [mKs_len]; exact (List.getElem?_eq_some_iff.1 h).1
  have hpos : ∀ k : Int, 0 ≤ k → k < y.cnt → ∃ f, y.poss[k.toNat]? = some f ∧ (mFs 0 ys)[off + k.toNat]? = some (f, (i : Int)) := fun k hk0 hk1 => by
    have hl : k.toNat < y.poss.length := by rw [Re.poss_len]; omega
    exact ⟨_, List.getElem?_eq_getElem hl, g3 _ _ (List.getElem?_eq_getElem hl)⟩
  have hhas : ∀ (k : Int) c, 0 ≤ k → k < y.cnt → hasAt (mFs 0 ys) (k + off) c = posHas y k c := fun k c hk0 hk1 => by
    obtain ⟨f, f1, f2⟩ := hpos k hk0 hk1
    have e : (k + (off : Int)).toNat = off + k.toNat := by omega
    rw [hasAt_in (by omega) (by rw [e]; exact f2)]
    simp [posHas, f1]
  constructor
  · rintro ⟨r, hr, hn⟩
    have hrule := now_rule hn
    obtain ⟨f, f1, f2⟩ := hpos q h0 h1
    have e : (q + (off : Int)).toNat = off + q.toNat := by omega
    have : (i : Int) = r := by
      rw [← hrule]
      unfold ruleAt
      rw [if_pos (by omega), e, f2]
      rfl
    have hir : r = i := by omega
    subst hir
    obtain ⟨p, hp, tp⟩ := hn
    rw [hk] at hp
    have hin := Re.first_in hp
    have := tp.map (F' := y.fol 0) (H' := posHas y) (Q := fun p => (off : Int) ≤ p ∧ p < off + y.cnt) (g := fun p => p - off) (fun a b ha hf => by
        have := (g4 a b ha.1 ha.2).1 hf
        refine ⟨?_, (Re.fol_in this).2⟩
        have e := y.fol_shift (n := 0) (d := off) (p := a - off) (q := b - off)
        rw [Int.zero_add, Int.sub_add_cancel, Int.sub_add_cancel] at e
        exact e.1 this) (fun a c ha hc hh => by
        have e := hhas (a - off) c (by omega) (by omega)
        rw [Int.sub_add_cancel] at e
        rw [← e]; exact hh) hin
    refine ⟨p - off, ?_, ?_⟩
    · have e := y.first_shift (n := 0) (d := off) (p := p - off)
      rw [Int.zero_add, Int.sub_add_cancel] at e
      exact e.1 hp
    · have h2 := this.2
      have e : q + (off : Int) - off = q := by omega
      rw [e] at h2; exact h2
  · rintro ⟨p, hp, tp⟩
    have hin := Re.first_in hp
    have := tp.map (F' := mFol 0 ys) (H' := hasAt (mFs 0 ys)) (Q := fun p => (0 : Int) ≤ p ∧ p < y.cnt) (g := fun p => p + off) (fun a b ha hf => by
        have hb := (Re.fol_in hf).2
        refine ⟨(g4 _ _ (by omega) (by omega)).2 ?_, by omega⟩
        have e := y.fol_shift (n := 0) (d := off) (p := a) (q := b)
        rw [Int.zero_add] at e
        exact e.2 hf) (fun a c ha hc hh => by rw [hhas a c ha.1 ha.2]; exact hh) (by omega)
    refine ⟨i, hlen, p + off, ?_, this.2⟩
    rw [hk]
    have e := y.first_shift (n := 0) (d := off) (p := p)
    rw [Int.zero_add] at e
    exact e.2 hp

theorem now_one {y : Re} {s : List UInt8} {t : Nat} {q : Int} (h0 : 0 ≤ q) (h1 : q < y.cnt) : NowS (mFs 0 [y]) (mFol 0 [y]) (mKs 0 [y]) s t q ↔ nowY y s t q := by
  have := now_at (ys := [y]) (i := 0) rfl (s := s) (t := t) h0 h1
  simpa [mCnt] using this

theorem mFs_one_len {y : Re} : (mFs 0 [y]).length = y.cnt := by simp [mFs, Re.poss_len]

/-- If one expression's automaton has too many states, that of all has, too. -/
theorem TooMany.up {ys : List Re} {i : Nat} {y : Re} (h : ys[i]? = some y) {svs' : List DSt} {cl : Nat → Int} {nc : Int} (hok : DfaOK (mFs 0 ys) (mFol 0 ys) (mKs 0 ys) svs' cl nc) (hm : TooMany (mFs 0 [y]) (mFol 0 [y]) (mKs 0 [y])) : False := by
  obtain ⟨svs, n, hs, hd, hlen⟩ := hm
  have key : ∀ v, ∃ i' : Nat, 0 < v → v < svs.length → (0 < i' ∧ i' < svs'.length ∧ ∃ s : List UInt8, (∀ sv, svs[v]? = some sv → ∀ q, q ∈ sv.xs ↔ NowS (mFs 0 [y]) (mFol 0 [y]) (mKs 0 [y]) s s.length q) ∧ ∃ sv', svs'[i']? = some sv' ∧ ∀ q, q ∈ sv'.xs ↔ NowS (mFs 0 ys) (mFol 0 ys) (mKs 0 ys) s s.length q) := by
    intro v
    by_cases hv : 0 < v ∧ v < svs.length
    · obtain ⟨s, hne, hq⟩ := reach hs hd v hv.1 hv.2
      have hsv : svs[v]? = some svs[v] := List.getElem?_eq_getElem hv.2
      have hl := List.length_pos_iff.2 hne
      have hst := run_state (s := s) hok s.length (Nat.le_refl _)
      rcases hst with ⟨e, _⟩ | ⟨_, ⟨i', sv', e, hi0, hi, hq'⟩ | ⟨e, hq'⟩⟩
      · omega
      · exact ⟨i', fun _ _ => ⟨hi0, (List.getElem?_eq_some_iff.1 hi).1, s, hq, sv', hi, hq'⟩⟩
      · exfalso
        have hx := hs.ne v _ hsv hv.1
        obtain ⟨q, hqm⟩ := List.exists_mem_of_ne_nil _ hx
        have hr := (hs.rise _ (List.mem_of_getElem? hsv)).2 q hqm
        rw [mFs_one_len] at hr
        exact hq' _ ((now_at h hr.1 hr.2).2 ((now_one hr.1 hr.2).1 ((hq _ hsv q).1 hqm)))
    · exact ⟨0, fun h1 h2 => absurd ⟨h1, h2⟩ hv⟩
  let g : Nat → Nat := fun v => Classical.choose (key v)
  have hg : ∀ v, 0 < v → v < svs.length → _ := fun v => Classical.choose_spec (key v)
  have hinj : ∀ v v', 0 < v → v < svs.length → 0 < v' → v' < svs.length → g v = g v' → v = v' := by
    intro v v' h1 h2 h3 h4 he
    obtain ⟨_, _, s, a1, sv, b1, c1⟩ := hg v h1 h2
    obtain ⟨_, _, s', a2, sv', b2, c2⟩ := hg v' h3 h4
    have he : Classical.choose (key v) = Classical.choose (key v') := he
    rw [he, b2] at b1
    cases b1
    have hv : svs[v]? = some svs[v] := List.getElem?_eq_getElem h2
    have hv' : svs[v']? = some svs[v'] := List.getElem?_eq_getElem h4
    refine hs.inj v v' _ _ hv hv' ?_
    have r1 := hs.rise _ (List.mem_of_getElem? hv)
    have r2 := hs.rise _ (List.mem_of_getElem? hv')
    rw [mFs_one_len] at r1 r2
    refine sorted_unique r1.1 r2.1 fun q => ?_
    constructor
    · intro hq
      have hr := r1.2 q hq
      rw [a2 _ hv', now_one hr.1 hr.2, ← now_at h hr.1 hr.2, ← c2, c1, now_at h hr.1 hr.2, ← now_one hr.1 hr.2, ← a1 _ hv]
      exact hq
    · intro hq
      have hr := r2.2 q hq
      rw [a1 _ hv, now_one hr.1 hr.2, ← now_at h hr.1 hr.2, ← c1, c2, now_at h hr.1 hr.2, ← now_one hr.1 hr.2, ← a2 _ hv']
      exact hq
  have hfew := hok.few
  have hle := nodup_le ((List.range' 1 (svs.length - 1)).map g) (List.range' 1 (svs'.length - 1)) (by
    rw [List.Nodup, List.pairwise_map]
    refine (List.nodup_range' (step := 1)).imp_of_mem fun {a b} ha hb hne he => hne ?_
    simp at ha hb
    exact hinj a b (by omega) (by omega) (by omega) (by omega) he) (fun x hx => by
    obtain ⟨v, hv, rfl⟩ := List.mem_map.1 hx
    simp at hv
    obtain ⟨a, b, _⟩ := hg v (by omega) (by omega)
    show Classical.choose (key v) ∈ _
    simp
    omega)
  simp at hle
  omega

/-- A state accepts just if a text that isn't empty is meant. -/
theorem accepts_iff {y : Re} {svs : List DSt} {cl : Nat → Int} {nc : Int} (hok : DfaOK (mFs 0 [y]) (mFol 0 [y]) (mKs 0 [y]) svs cl nc) : (∃ v : Nat, v < svs.length ∧ accOf svs v ≠ -1) ↔ y.sub := by
  constructor
  · rintro ⟨v, hv, ha⟩
    have h0 : 0 < v := Nat.pos_of_ne_zero fun e => by subst e; exact ha (acc_zero hok)
    obtain ⟨s, hne, hq⟩ := reach hok.sts hok.done v h0 hv
    have hl := List.length_pos_iff.2 hne
    refine ⟨s, hne, ?_⟩
    have hsv : svs[v]? = some svs[v] := List.getElem?_eq_getElem hv
    have hst := run_state (s := s) hok s.length (Nat.le_refl _)
    rw [List.take_length] at hst
    rcases hst with ⟨e, _⟩ | ⟨_, ⟨i', sv', e, hi0, hi, hq'⟩ | ⟨e, hq'⟩⟩
    · omega
    · have hiv : i' = v := by
        refine hok.sts.inj i' v _ _ hi hsv (sorted_unique (hok.sts.rise _ (List.mem_of_getElem? hi)).1 (hok.sts.rise _ (List.mem_of_getElem? hsv)).1 fun q => ?_)
        rw [hq', hq _ hsv]
      subst hiv
      have hl2 := (run_law hok hl).2 (by rw [e])
      rw [e] at hl2
      rcases hl2 with ⟨h1, _⟩ | ⟨i, hi', _, ⟨y', hy', hm⟩, _⟩
      · exact absurd h1 ha
      · have : i = 0 := by simp at hi'; omega
        subst this
        cases hy'
        exact hm
    · exfalso
      have hx := hok.sts.ne v _ hsv h0
      obtain ⟨q, hqm⟩ := List.exists_mem_of_ne_nil _ hx
      exact hq' q ((hq _ hsv q).1 hqm)
  · rintro ⟨s, hne, hm⟩
    have hl := List.length_pos_iff.2 hne
    have hM : Means [y] s s.length 0 := ⟨y, rfl, hm⟩
    have hlaw := run_law hok hl
    have hacc : accOf svs (runFrom svs s (0, true)).1 ≠ -1 := by
      cases hr : (runFrom svs s (0, true)).2 with
      | false =>
        rcases (hlaw.1 hr).2 with ⟨_, g⟩ | ⟨i, _, e, _⟩
        · exact absurd hM (g 0 (by simp))
        · omega
      | true =>
        rcases hlaw.2 hr with ⟨_, g⟩ | ⟨i, _, e, _⟩
        · exact absurd hM (g 0 (by simp))
        · omega
    generalize (runFrom svs s (0, true)).1 = z at hacc
    by_cases hz : 0 ≤ z ∧ z < svs.length
    · refine ⟨z.toNat, by omega, ?_⟩
      have : ((z.toNat : Nat) : Int) = z := by omega
      rw [this]; exact hacc
    · exfalso
      apply hacc
      simp [accOf, stAt_out hz]
end Go.Fk
end

section
set_option linter.unusedVariables false
namespace Go.Fk
open Go

/-! ## Tokens -/

structure Tok where
  c : Int
  f : Int
  t : Int
  l : Int
  deriving DecidableEq
def Tok.cells (x : Tok) : List Value := [.int .i64 x.c, .int .i64 x.f, .int .i64 x.t, .int .i64 x.l]
theorem Tok.len (x : Tok) : x.cells.length = 4 := rfl
theorem Tok.lens {xs : List Tok} : ∀ c ∈ xs.map Tok.cells, c.length = 4 := fun c hc => by obtain ⟨m, _, rfl⟩ := List.mem_map.1 hc; rfl

structure TokAt (ms : List LSt) (s : List UInt8) (F : Nat) (r z : Int) : Prop where
  le : F ≤ s.length
  all : ∀ t, t ≤ F → (qAt ms s t).2 = true
  no : F < s.length → (qAt ms s (F + 1)).2 = false
  best : BestAt ms s F r z

theorem BestAt.one {ms : List LSt} {s : List UInt8} {F : Nat} {r z r' z' : Int} (h : BestAt ms s F r z) (h' : BestAt ms s F r' z') : r = r' ∧ z = z' := by
  rcases h with ⟨rfl, rfl, h1⟩ | ⟨t, a1, a2, rfl, rfl, a3, a4⟩ <;> rcases h' with ⟨rfl, rfl, g1⟩ | ⟨t', b1, b2, rfl, rfl, b3, b4⟩
  · exact ⟨rfl, rfl⟩
  · exact absurd (h1 t' b1 b2) b3
  · exact absurd (g1 t a1 a2) a3
  · have : t = t' := by
      rcases Nat.lt_trichotomy t t' with g | g | g
      · exact absurd (a4 t' g b2) b3
      · exact g
      · exact absurd (b4 t g a2) a3
    subst this
    exact ⟨rfl, rfl⟩

theorem TokAt.one {ms : List LSt} {s : List UInt8} {F F' : Nat} {r z r' z' : Int} (h : TokAt ms s F r z) (h' : TokAt ms s F' r' z') : F = F' ∧ r = r' ∧ z = z' := by
  have : F = F' := by
    rcases Nat.lt_trichotomy F F' with g | g | g
    · have := h.no (by have := h'.le; omega)
      rw [h'.all (F + 1) (by omega)] at this; cases this
    · exact g
    · have := h'.no (by have := h.le; omega)
      rw [h.all (F' + 1) (by omega)] at this; cases this
  subst this
  exact ⟨rfl, h.best.one h'.best⟩

theorem qAt_ext {ms : List LSt} {s s' : List UInt8} {n t : Nat} (e : s'.take n = s.take n) (h : t ≤ n) : qAt ms s' t = qAt ms s t := by
  unfold qAt
  have : s'.take t = s.take t := by
    have := congrArg (List.take t) e
    rwa [List.take_take, List.take_take, Nat.min_eq_left h] at this
  rw [this]

/-- A token is told by the bytes up to where it looks. -/
theorem TokAt.ext {ms : List LSt} {s s' : List UInt8} {F : Nat} {r z : Int} (h : TokAt ms s F r z) (e : s'.take (F + 1) = s.take (F + 1)) (h1 : F + 1 ≤ s.length) : TokAt ms s' F r z := by
  have h2 : F + 1 ≤ s'.length := by
    have := congrArg List.length e
    simp only [List.length_take] at this
    omega
  refine ⟨by omega, fun t ht => by rw [qAt_ext e (by omega)]; exact h.all t ht, fun _ => by rw [qAt_ext e (Nat.le_refl _)]; exact h.no (by omega), ?_⟩
  rcases h.best with ⟨g1, g2, g3⟩ | ⟨t, g1, g2, g3, g4, g5, g6⟩
  · exact .inl ⟨g1, g2, fun t h3 h4 => by rw [qAt_ext e (by omega)]; exact g3 t h3 h4⟩
  · exact .inr ⟨t, g1, g2, g3, by rw [qAt_ext e (by omega)]; exact g4, g5, fun t' h3 h4 => by rw [qAt_ext e (by omega)]; exact g6 t' h3 h4⟩

/-- The token at a place, as the program finds it. -/
def tokF (ms : List LSt) (s : List UInt8) (i : Nat) : Tok :=
  let m := mLong ms (s.drop i) (-1, 0, 0, 0)
  ⟨m.1, i, i + (if m.1 = -1 then 1 else m.2.1), i + (if (mRun ms ((s.drop i).take m.2.2.toNat) (0, true)).2 = true ∧ i + m.2.2 = s.length then m.2.2 + 1 else m.2.2)⟩

theorem tok_law {ms : List LSt} {s : List UInt8} {i : Nat} (hi : i ≤ s.length) : ∃ (F : Nat) (r z : Int), TokAt ms (s.drop i) F r z ∧ tokF ms s i = ⟨r, i, i + (if r = -1 then 1 else z), i + F + 1⟩ ∧ mLong ms (s.drop i) (-1, 0, 0, 0) = (r, z, ((min (F + 1) (s.drop i).length : Nat) : Int)) := by
  have hq0 : ∀ t, t ≤ 0 → (qAt ms (s.drop i) t).2 = true := fun t ht => by
    have h0 : t = 0 := by omega
    rw [h0]; rfl
  obtain ⟨F, r, z, hF, hall, hno, hbest, hml⟩ := mLong_law (ms := ms) (s := s.drop i) (s.drop i) 0 (-1) 0 0 rfl (by omega) rfl hq0 (.inl ⟨rfl, rfl, fun t h1 h2 => by omega⟩)
  refine ⟨F, r, z, ⟨hF, hall, hno, hbest⟩, ?_, hml⟩
  unfold tokF
  simp only [hml, Int.toNat_natCast]
  have hl : (s.drop i).length = s.length - i := by simp
  congr 1
  by_cases hFl : F < (s.drop i).length
  · have hm : min (F + 1) (s.drop i).length = F + 1 := by omega
    rw [hm]
    have hd : (mRun ms ((s.drop i).take (F + 1)) (0, true)).2 = false := hno hFl
    rw [hd, if_neg (by simp)]
    omega
  · have hm : min (F + 1) (s.drop i).length = F := by omega
    rw [hm]
    have hd : (mRun ms ((s.drop i).take F) (0, true)).2 = true := hall F (Nat.le_refl _)
    rw [hd, if_pos ⟨rfl, by omega⟩]
    omega

theorem tok_of {ms : List LSt} {s : List UInt8} {i F : Nat} {r z : Int} (hi : i ≤ s.length) (h : TokAt ms (s.drop i) F r z) : tokF ms s i = ⟨r, i, i + (if r = -1 then 1 else z), i + F + 1⟩ := by
  obtain ⟨F', r', z', h1, h2, _⟩ := tok_law (ms := ms) hi
  obtain ⟨rfl, rfl, rfl⟩ := h.one h1
  exact h2

theorem BestAt.le {ms : List LSt} {s : List UInt8} {F : Nat} {r z : Int} (h : BestAt ms s F r z) : (r = -1 ∧ z = 0) ∨ (r ≠ -1 ∧ 0 < z ∧ z ≤ F) := by
  rcases h with ⟨h1, h2, _⟩ | ⟨t, h1, h2, rfl, _, h5, _⟩
  · exact .inl ⟨h1, h2⟩
  · exact .inr ⟨h5, by omega, by omega⟩

theorem tok_bounds {ms : List LSt} {s : List UInt8} {i : Nat} (hi : i < s.length) : (tokF ms s i).f = i ∧ (i : Int) < (tokF ms s i).t ∧ (tokF ms s i).t ≤ s.length ∧ (tokF ms s i).t ≤ (tokF ms s i).l ∧ (tokF ms s i).l ≤ s.length + 1 := by
  obtain ⟨F, r, z, h1, h2, _⟩ := tok_law (ms := ms) (s := s) (i := i) (by omega)
  rw [h2]
  have hl : (s.drop i).length = s.length - i := by simp
  have hF := h1.le
  rcases h1.best.le with ⟨rfl, rfl⟩ | ⟨g1, g2, g3⟩
  · simp only [if_pos]; refine ⟨trivial, by omega, by omega, by omega, by omega⟩
  · simp only [if_neg g1]; refine ⟨trivial, by omega, by omega, by omega, by omega⟩

/-- The same bytes from a place on: the same token, moved. -/
def Tok.mv (x : Tok) (by_ : Int) : Tok := ⟨x.c, x.f + by_, x.t + by_, x.l + by_⟩
theorem tok_moved {ms : List LSt} {s s' : List UInt8} {i i' : Nat} (hi : i ≤ s.length) (hi' : i' ≤ s'.length) (e : s'.drop i' = s.drop i) : tokF ms s' i' = (tokF ms s i).mv ((i' : Int) - i) := by
  obtain ⟨F, r, z, h1, h2, _⟩ := tok_law (ms := ms) hi
  rw [h2, tok_of hi' (by rw [e]; exact h1)]
  simp only [Tok.mv, Tok.mk.injEq]
  refine ⟨trivial, by omega, by split <;> omega, by omega⟩
/-- The same bytes from a place up to where the token there looks: the same token. -/
theorem tok_same {ms : List LSt} {s s' : List UInt8} {i n : Nat} (hi : i ≤ n) (hn : n ≤ s.length) (hl : (tokF ms s i).l ≤ n) (e : s'.take n = s.take n) : tokF ms s' i = tokF ms s i := by
  obtain ⟨F, r, z, h1, h2, _⟩ := tok_law (ms := ms) (s := s) (i := i) (by omega)
  rw [h2] at hl ⊢
  simp only at hl
  have hn' : n ≤ s'.length := by
    have := congrArg List.length e
    simp only [List.length_take] at this
    omega
  refine tok_of (by omega) (h1.ext ?_ (by simp; omega))
  have e1 : (s'.take n).drop i = (s.take n).drop i := by rw [e]
  rw [List.drop_take, List.drop_take] at e1
  have e2 := congrArg (List.take (F + 1)) e1
  rwa [List.take_take, List.take_take, Nat.min_eq_left (by omega)] at e2

/-! ## All tokens of a text -/

def toksF (T : Nat → Tok) (N : Nat) : Nat → Nat → List Tok
  | 0, _ => []
  | n + 1, a => if a < N then T a :: toksF T N n (T a).t.toNat else []
def toks (T : Nat → Tok) (N : Nat) (a : Nat) : List Tok := toksF T N (N - a) a
/-- What is known of tokens: each begins where it is, and ends behind it, within the text. -/
def Goes (T : Nat → Tok) (N : Nat) : Prop := ∀ a, a < N → (T a).f = a ∧ (a : Int) < (T a).t ∧ (T a).t ≤ N

theorem goes_tok {ms : List LSt} {s : List UInt8} : Goes (tokF ms s) s.length := fun a ha => by have := tok_bounds (ms := ms) ha; exact ⟨this.1, this.2.1, this.2.2.1⟩

section
variable {T : Nat → Tok} {N : Nat}
theorem toksF_more (h : Goes T N) : ∀ (n m a : Nat), N - a ≤ n → N - a ≤ m → toksF T N n a = toksF T N m a
  | 0, 0, a, _, _ => rfl
  | 0, m + 1, a, h1, _ => by simp only [toksF]; rw [if_neg (by omega)]
  | n + 1, 0, a, _, h2 => by simp only [toksF]; rw [if_neg (by omega)]
  | n + 1, m + 1, a, h1, h2 => by
    simp only [toksF]
    split
    · rename_i ha
      have := h a ha
      rw [toksF_more h n m _ (by omega) (by omega)]
    · rfl
theorem toks_end {a : Nat} (ha : N ≤ a) : toks T N a = [] := by
  unfold toks
  rw [show N - a = 0 from by omega]; rfl
theorem toks_step (h : Goes T N) {a : Nat} (ha : a < N) : toks T N a = T a :: toks T N (T a).t.toNat := by
  unfold toks
  obtain ⟨n, hn⟩ : ∃ n, N - a = n + 1 := ⟨N - a - 1, by omega⟩
  rw [hn]
  simp only [toksF]
  rw [if_pos ha]
  have := h a ha
  rw [toksF_more h n (N - (T a).t.toNat) _ (by omega) (by omega)]
/-- Tokens from one place are those of another text, moved. -/
theorem toks_moved (h : Goes T N) {T' : Nat → Tok} {N' : Nat} (h' : Goes T' N') {d : Int} (hN : (N' : Int) = N + d) : ∀ (n a a' : Nat), N - a ≤ n → (a' : Int) = a + d → (∀ b b' : Nat, a ≤ b → b < N → (b' : Int) = b + d → T' b' = (T b).mv d) → toks T' N' a' = (toks T N a).map fun x => x.mv d := by
  intro n
  induction n with
  | zero => intro a a' hn ha hT; rw [toks_end (by omega), toks_end (by omega)]; rfl
  | succ n ih =>
    intro a a' hn ha hT
    by_cases hlt : a < N
    · have g := h a hlt
      have g' := h' a' (by omega)
      have e := hT a a' (Nat.le_refl _) hlt ha
      rw [toks_step h hlt, toks_step h' (by omega), List.map_cons, e]
      congr 1
      refine ih _ _ (by omega) ?_ fun b b' h1 h2 h3 => hT b b' (by omega) h2 h3
      rw [e] at g'
      simp only [Tok.mv] at g' ⊢
      omega
    · rw [toks_end (by omega), toks_end (by omega)]; rfl
theorem toks_mem (h : Goes T N) : ∀ (n a : Nat), N - a ≤ n → ∀ x ∈ toks T N a, ∃ b : Nat, a ≤ b ∧ b < N ∧ x = T b := by
  intro n
  induction n with
  | zero => intro a hn x hx; rw [toks_end (by omega)] at hx; cases hx
  | succ n ih =>
    intro a hn x hx
    by_cases hlt : a < N
    · have g := h a hlt
      rw [toks_step h hlt] at hx
      rcases List.mem_cons.1 hx with rfl | hx
      · exact ⟨a, Nat.le_refl _, hlt, rfl⟩
      · obtain ⟨b, h1, h2, h3⟩ := ih _ (by omega) x hx
        exact ⟨b, by omega, h2, h3⟩
    · rw [toks_end (by omega)] at hx; cases hx
/-- Behind the first k tokens: where the next one begins, and what is left. -/
def posK (a : Nat) (l : List Tok) (k : Nat) : Nat := if k = 0 then a else (((l[k - 1]?).map Tok.t).getD 0).toNat
theorem toks_split (h : Goes T N) : ∀ (n a : Nat), N - a ≤ n → a ≤ N → ∀ k, k ≤ (toks T N a).length → posK a (toks T N a) k ≤ N ∧ a ≤ posK a (toks T N a) k ∧ (toks T N a).drop k = toks T N (posK a (toks T N a) k) ∧ (k < (toks T N a).length → posK a (toks T N a) k < N ∧ (toks T N a)[k]? = some (T (posK a (toks T N a) k))) := by
  intro n
  induction n with
  | zero =>
    intro a hn ha k hk
    have e := toks_end (T := T) (N := N) (a := a) (by omega)
    rw [e] at hk ⊢
    have : k = 0 := by simpa using hk
    subst this
    simp only [posK, if_pos, List.drop_zero]
    exact ⟨by omega, Nat.le_refl _, e.symm, fun h => by simp at h⟩
  | succ n ih =>
    intro a hn ha k hk
    by_cases hlt : a < N
    · have g := h a hlt
      have e := toks_step h hlt
      cases k with
      | zero =>
        simp only [posK, if_pos, List.drop_zero]
        exact ⟨by omega, Nat.le_refl _, trivial, fun _ => ⟨hlt, by rw [e]; rfl⟩⟩
      | succ k =>
        have hp : posK a (toks T N a) (k + 1) = posK (T a).t.toNat (toks T N (T a).t.toNat) k := by
          unfold posK
          rw [if_neg (by omega), e]
          cases k with
          | zero => simp
          | succ k => simp
        rw [hp]
        have hk' : k ≤ (toks T N (T a).t.toNat).length := by rw [e] at hk; simpa using hk
        obtain ⟨g1, g2, g3, g4⟩ := ih (T a).t.toNat (by omega) (by omega) k hk'
        have e1 : (toks T N a).drop (k + 1) = (toks T N (T a).t.toNat).drop k := by rw [e]; rfl
        have e2 : (toks T N a)[k + 1]? = (toks T N (T a).t.toNat)[k]? := by rw [e]; rfl
        have e3 : (toks T N a).length = (toks T N (T a).t.toNat).length + 1 := by rw [e]; rfl
        rw [e1, e2, e3]
        exact ⟨g1, by omega, g3, fun hk2 => g4 (by omega)⟩
    · have e := toks_end (T := T) (N := N) (a := a) (by omega)
      rw [e] at hk ⊢
      have : k = 0 := by simpa using hk
      subst this
      simp only [posK, if_pos, List.drop_zero]
      exact ⟨by omega, Nat.le_refl _, e.symm, fun h => by simp at h⟩
end
end Go.Fk
end

section
set_option linter.unusedVariables false
namespace Go.Fk
open Go

/-! ## Regions that draw and call: what lies there stays -/

theorem Draw.kp {w : World} {F : (World → Prop) → World → Prop} (h : ∀ w', w'.heap = w.heap → Keeps No w w' → F (fun x => Keeps No w' x) w') : Draw w F :=
  ⟨fun x => Keeps No w.drew x, Keeps.refl, h _ rfl Keeps.drew⟩
theorem LdK.int {w : World} {κ : IntKind} {a : Addr} {k : Int → Prop} {i : Int} (h : w.cell? a = some (.int κ i)) (hk : k i) : LdS (fun x => Keeps No w x) (.int κ) a k := ⟨i, fun _ e => cell_keep h e, hk⟩
theorem LdK.bool {w : World} {a : Addr} {k : Bool → Prop} {i : Bool} (h : w.cell? a = some (.bool i)) (hk : k i) : LdS (fun x => Keeps No w x) .bool a k := ⟨i, fun _ e => cell_keep h e, hk⟩
theorem LdK.str {w : World} {a : Addr} {k : ByteArray → Prop} {i : ByteArray} (h : w.cell? a = some (.string i)) (hk : k i) : LdS (fun x => Keeps No w x) .str a k := ⟨i, fun _ e => cell_keep h e, hk⟩
theorem LdK.ptr {w : World} {a : Addr} {k : Option Addr → Prop} {i : Option Addr} (h : w.cell? a = some (.pointer i)) (hk : k i) : LdS (fun x => Keeps No w x) .ptr a k := ⟨i, fun _ e => cell_keep h e, hk⟩
theorem LdK.map {w : World} {a : Addr} {k : Option Nat → Prop} {i : Option Nat} (h : w.cell? a = some (.map i)) (hk : k i) : LdS (fun x => Keeps No w x) .map a k := ⟨i, fun _ e => cell_keep h e, hk⟩
theorem LdK.sl {w : World} {a : Addr} {k : Sl → Prop} {l : Sl} (h : w.cell? a = some (.slice l.a l.n l.c)) (hk : k l) : LdS (fun x => Keeps No w x) .sl a k := ⟨l, fun _ e => cell_keep h e, hk⟩

/-! ## Four cells -/

theorem AlSt4 {E : TypeId} {x0 x1 x2 x3 v0 v1 v2 v3 : Value} {w : World} {k : Nat → World → Prop} (h : ∀ b w', New b (.cells #[v0, v1, v2, v3] E (0, 0)) w w' → k b w') :
    Al (.cells #[x0, x1, x2, x3] E (0, 0)) w fun b w1 => St ⟨b, 0, none⟩ v0 w1 fun w2 => St ⟨b, 1, none⟩ v1 w2 fun w3 => St ⟨b, 2, none⟩ v2 w3 fun w4 => St ⟨b, 3, none⟩ v3 w4 fun w5 => k b w5 :=
  Al.mk fun b w1 n1 => St4 n1.at_ fun w2 u => h b w2 ⟨n1.eq, u.at_, u.keeps0 n1.keeps (by have := n1.eq; omega), by rw [u.size, n1.size]⟩
theorem AlSt3 {E : TypeId} {x0 x1 x2 v0 v1 v2 : Value} {w : World} {k : Nat → World → Prop} (h : ∀ b w', New b (.cells #[v0, v1, v2] E (0, 0)) w w' → k b w') :
    Al (.cells #[x0, x1, x2] E (0, 0)) w fun b w1 => St ⟨b, 0, none⟩ v0 w1 fun w2 => St ⟨b, 1, none⟩ v1 w2 fun w3 => St ⟨b, 2, none⟩ v2 w3 fun w4 => k b w4 :=
  Al.mk fun b w1 n1 => St3 n1.at_ fun w2 u => h b w2 ⟨n1.eq, u.at_, u.keeps0 n1.keeps (by have := n1.eq; omega), by rw [u.size, n1.size]⟩
theorem AlSt2 {E : TypeId} {x0 x1 v0 v1 : Value} {w : World} {k : Nat → World → Prop} (h : ∀ b w', New b (.cells #[v0, v1] E (0, 0)) w w' → k b w') :
    Al (.cells #[x0, x1] E (0, 0)) w fun b w1 => St ⟨b, 0, none⟩ v0 w1 fun w2 => St ⟨b, 1, none⟩ v1 w2 fun w3 => k b w3 :=
  Al.mk fun b w1 n1 => St.blk n1.at_ (by simp) fun w2 u2 => St.blk u2.at_ (by simp) fun w3 u3 => h b w3 ⟨n1.eq, (u2.trans u3).at_, (u2.trans u3).keeps0 n1.keeps (by have := n1.eq; omega), by rw [(u2.trans u3).size, n1.size]⟩
theorem Ld4i {E : TypeId} {fr : Nat × Nat} {b : Nat} {x0 x1 x2 x3 : Int} {w : World} {k : Int → Int → Int → Int → Prop} (hb : w.heap[b]? = some (.cells #[.int .i64 x0, .int .i64 x1, .int .i64 x2, .int .i64 x3] E fr)) (h : k x0 x1 x2 x3) :
    Ld (.int .i64) ⟨b, 0, none⟩ w fun r0 => Ld (.int .i64) ⟨b, 1, none⟩ w fun r1 => Ld (.int .i64) ⟨b, 2, none⟩ w fun r2 => Ld (.int .i64) ⟨b, 3, none⟩ w fun r3 => k r0 r1 r2 r3 :=
  Ld.int (cell_of hb rfl) (Ld.int (cell_of hb rfl) (Ld.int (cell_of hb rfl) (Ld.int (cell_of hb rfl) h)))
theorem Ld3i {E : TypeId} {fr : Nat × Nat} {b : Nat} {x0 x1 x2 : Int} {w : World} {k : Int → Int → Int → Prop} (hb : w.heap[b]? = some (.cells #[.int .i64 x0, .int .i64 x1, .int .i64 x2] E fr)) (h : k x0 x1 x2) :
    Ld (.int .i64) ⟨b, 0, none⟩ w fun r0 => Ld (.int .i64) ⟨b, 1, none⟩ w fun r1 => Ld (.int .i64) ⟨b, 2, none⟩ w fun r2 => k r0 r1 r2 :=
  Ld.int (cell_of hb rfl) (Ld.int (cell_of hb rfl) (Ld.int (cell_of hb rfl) h))
theorem Ld2i {E : TypeId} {fr : Nat × Nat} {b : Nat} {x0 x1 : Int} {w : World} {k : Int → Int → Prop} (hb : w.heap[b]? = some (.cells #[.int .i64 x0, .int .i64 x1] E fr)) (h : k x0 x1) :
    Ld (.int .i64) ⟨b, 0, none⟩ w fun r0 => Ld (.int .i64) ⟨b, 1, none⟩ w fun r1 => k r0 r1 :=
  Ld.int (cell_of hb rfl) (Ld.int (cell_of hb rfl) h)

abbrev tokObj (x : Tok) : Obj := .cells #[.int .i64 x.c, .int .i64 x.f, .int .i64 x.t, .int .i64 x.l] T.scan_Token (0, 0)
structure TokC (w : World) (p : Addr) (x : Tok) : Prop where
  c : w.cell? p = some (.int .i64 x.c)
  f : w.cell? (p.add 1) = some (.int .i64 x.f)
  t : w.cell? (p.add 2) = some (.int .i64 x.t)
  l : w.cell? (p.add 3) = some (.int .i64 x.l)
theorem TokC.ld {w : World} {p : Addr} {x : Tok} {k : Int → Int → Int → Int → Prop} (h : TokC w p x) (hk : k x.c x.f x.t x.l) :
    Ld (.int .i64) p w fun a => Ld (.int .i64) (p.add 1) w fun b => Ld (.int .i64) (p.add 2) w fun c => Ld (.int .i64) (p.add 3) w fun d => k a b c d :=
  Ld.int h.c (Ld.int h.f (Ld.int h.t (Ld.int h.l hk)))
theorem TokC.ldK {w : World} {p : Addr} {x : Tok} {k : Int → Int → Int → Int → Prop} (h : TokC w p x) (hk : k x.c x.f x.t x.l) :
    LdS (fun y => Keeps No w y) (.int .i64) p fun a => LdS (fun y => Keeps No w y) (.int .i64) (p.add 1) fun b => LdS (fun y => Keeps No w y) (.int .i64) (p.add 2) fun c => LdS (fun y => Keeps No w y) (.int .i64) (p.add 3) fun d => k a b c d :=
  LdK.int h.c (LdK.int h.f (LdK.int h.t (LdK.int h.l hk)))

/-- The slice reads as the tokens. -/
abbrev SlTok (H : View) (l : Sl) (xs : List Tok) : Prop := SlC H l 4 (xs.map Tok.cells)
theorem IdxS.tok {M : Nat → Prop} {w : World} {l : Sl} {xs : List Tok} {i : Int} {K : Addr → Prop} (h : SlTok (V M w) l xs) (h0 : 0 ≤ i) (h1 : i < xs.length)
    (hk : ∀ x p, xs[i.toNat]? = some x → TokC w p x → K p) : IdxS l i 4 K := by
  refine IdxS.recd (M := M) h h0 (by simpa using h1) fun g off c hc hcell => ?_
  rw [List.getElem?_map] at hc
  obtain ⟨x, hx, rfl⟩ := Option.map_eq_some_iff.1 hc
  refine hk x _ hx ⟨?_, ?_, ?_, ?_⟩
  · exact hcell 0 _ rfl
  · rw [add_eq]; exact hcell 1 _ rfl
  · rw [add_eq]; exact hcell 2 _ rfl
  · rw [add_eq]; exact hcell 3 _ rfl
theorem elTok : Elem P T.sl_scan_Token T.scan_Token (.agg #[.int .i64 0, .int .i64 0, .int .i64 0, .int .i64 0]) 4 32 := ⟨by kernel_rfl, by kernel_rfl, rfl, by decide⟩

/-- 'append(l, x)' of a token. -/
theorem appendTok {base : Nat} {w : World} {l : Sl} {xs : List Tok} {x : Tok} {k : Sl → World → Prop} (hown : Own w base T.scan_Token 4 l (xs.map Tok.cells).flatten) (hlen : xs.length ≤ 100000000) (hbase : base ≤ w.heap.size)
    (hk : ∀ l' w', Own w' base T.scan_Token 4 l' ((xs ++ [x]).map Tok.cells).flatten → Keeps l.blk w w' → (∀ c, l'.blk c → l.blk c ∨ w.heap.size ≤ c) → k l' w') :
    Al (.cells #[.int .i64 x.c, .int .i64 x.f, .int .i64 x.t, .int .i64 x.l] T.scan_Token (0, 0)) w fun b w1 => App P (Builtin.append_ #[T.sl_scan_Token, T.sl_scan_Token] T.sl_scan_Token #[.slice l.a l.n l.c, .slice (some ⟨b, 0, none⟩) 1 1]) (.one .sl) w1 k := by
  have hn : l.n = xs.length := by
    have := hown.1
    rw [flatten_len Tok.lens] at this
    simp at this; omega
  refine Al.mk fun b w1 n1 => appendC (c := x.cells) elTok (hown.keep0 n1.keeps) rfl n1.at_ (fun u hu => ?_) (by omega) (by omega) (by have := n1.size; omega) fun l' w' h1 h2 h3 h4 => ?_
  · simp only [Tok.cells, List.mem_cons, List.not_mem_nil, or_false] at hu
    rcases hu with rfl | rfl | rfl | rfl <;> rfl
  · refine hk l' w' (by simpa using h1) ((n1.keeps.no).trans h3) fun c hc => ?_
    obtain ⟨g, hg, h5⟩ := h4
    have hcg : c = g := by obtain ⟨a, ha, rfl⟩ := hc; rw [hg] at ha; cases ha; rfl
    subst hcg
    exact h5.imp id fun h => by have := n1.size; omega

/-! ## Parts of a slice -/

theorem addr0 (a : Addr) : a.add 0 = a := by unfold Addr.add; rfl

section
variable {P : Program} {T E : TypeId} {z : Value} {size bytes : Nat} {w : World} {l : Sl}
theorem App.subL (hE : Elem P T E z size bytes) {k : Nat} (hk : k ≤ l.n) {K : Sl → World → Prop} (hK : K ⟨if l.c = k then l.a else l.a.map (·.add (k * size)), l.n - k, l.c - k⟩ w) :
    App P (Instr.sliceAt T (.slice l.a l.n l.c) (some (.int .i64 (k : Int))) none none) (.one .sl) w K := by
  obtain ⟨i, hi, hzz⟩ := Option.map_eq_some_iff.1 hE.inf
  simp only [Prod.mk.injEq] at hzz
  have he : P.elem T = E := by simp [Program.elem, hE.sl]
  have ht : P.underlying T = some (.slice (P.elem T)) := by rw [he]; exact hE.sl
  refine ⟨_, w, ?_, hK⟩
  rw [run_sliceAt_slice w T _ _ _ _ ht, run_slice_l w T l.a l.n l.c ht .i64 k (by omega) (by omega), he]
  simp [sizeOf, typeInfo, hi, Result.andThen, sliced, RTy.enc, Ty.enc, hzz.2.1]
theorem App.subH (hE : Elem P T E z size bytes) {k : Nat} (hk : k ≤ l.c) {K : Sl → World → Prop} (hK : K ⟨l.a, k, l.c⟩ w) :
    App P (Instr.sliceAt T (.slice l.a l.n l.c) none (some (.int .i64 (k : Int))) none) (.one .sl) w K := by
  obtain ⟨i, hi, hzz⟩ := Option.map_eq_some_iff.1 hE.inf
  have he : P.elem T = E := by simp [Program.elem, hE.sl]
  have ht : P.underlying T = some (.slice (P.elem T)) := by rw [he]; exact hE.sl
  refine ⟨_, w, ?_, hK⟩
  rw [run_sliceAt_slice w T _ _ _ _ ht, run_slice_h w T l.a l.n l.c ht .i64 k (by omega) (by omega), he]
  have e0 : (l.a.map fun x => x.add 0) = l.a := by cases l.a <;> simp [addr0]
  simp [sizeOf, typeInfo, hi, Result.andThen, sliced, RTy.enc, Ty.enc, e0]
theorem App.subHM (hE : Elem P T E z size bytes) {k : Nat} (hk : k ≤ l.c) {K : Sl → World → Prop} (hK : K ⟨l.a, k, k⟩ w) :
    App P (Instr.sliceAt T (.slice l.a l.n l.c) none (some (.int .i64 (k : Int))) (some (.int .i64 (k : Int)))) (.one .sl) w K := by
  obtain ⟨i, hi, hzz⟩ := Option.map_eq_some_iff.1 hE.inf
  have he : P.elem T = E := by simp [Program.elem, hE.sl]
  have ht : P.underlying T = some (.slice (P.elem T)) := by rw [he]; exact hE.sl
  refine ⟨_, w, ?_, hK⟩
  rw [run_sliceAt_slice w T _ _ _ _ ht, run_slice_hm w T l.a l.n l.c ht .i64 .i64 k k (by omega) (by omega) (by omega), he]
  have e0 : (l.a.map fun x => x.add 0) = l.a := by cases l.a <;> simp [addr0]
  simp [sizeOf, typeInfo, hi, Result.andThen, sliced, RTy.enc, Ty.enc, e0]
end

theorem SlC.take {H : View} {l : Sl} {sz k c : Nat} {xs : List (List Value)} (h : SlC H l sz xs) (hk : k ≤ xs.length) : SlC H ⟨l.a, k, c⟩ sz (xs.take k) := by
  obtain ⟨h1, h2⟩ := h
  refine ⟨by show k = _; simp; omega, ?_⟩
  rcases h2 with rfl | ⟨b, off, cs, E, fr, h3, h4, h5⟩
  · exact .inl (by simp)
  · refine .inr ⟨b, off, cs, E, fr, h3, h4, fun i c hc => h5 i c ?_⟩
    rw [List.getElem?_take] at hc
    split at hc
    · exact hc
    · cases hc
theorem SlC.drop {H : View} {l : Sl} {sz k c : Nat} {xs : List (List Value)} (h : SlC H l sz xs) (hk : k ≤ xs.length) (hc : xs.length ≤ l.c) : SlC H ⟨if l.c = k then l.a else l.a.map (·.add (k * sz)), l.n - k, c⟩ sz (xs.drop k) := by
  obtain ⟨h1, h2⟩ := h
  refine ⟨by show l.n - k = _; simp; omega, ?_⟩
  by_cases hck : l.c = k
  · exact .inl (by rw [List.drop_eq_nil_iff]; omega)
  · rw [if_neg hck]
    rcases h2 with rfl | ⟨b, off, cs, E, fr, h3, h4, h5⟩
    · exact .inl (by simp)
    · refine .inr ⟨b, off + k * sz, cs, E, fr, by simp [h3, add_eq], h4, fun i c hc j u hu => ?_⟩
      rw [List.getElem?_drop] at hc
      have := h5 (k + i) c hc j u hu
      rw [← this, Nat.add_mul]; congr 1; omega

/-! ## A copy of a slice of records -/

theorem append_own2 {P : Program} {T T' E size bytes base : Nat} {z : Value} {w : World} {l : Sl} {xs : List Value} {ad : Addr} {m c : Nat} {news : List Value} {k : Sl → World → Prop} (hE : Elem P T E z size bytes)
    (hown : Own w base E size l xs) (hl : news.length = m * size) (hnews : ∀ j u, news[j]? = some u → w.cell? (ad.add j) = some u) (h1 : ∀ u ∈ news, u.oneCell' = true)
    (hbytes : (l.n + m) * bytes ≤ 140737488355328) (h63 : l.n + m ≤ 9223372036854775807) (hbase : base ≤ w.heap.size)
    (hk : ∀ l' w', Own w' base E size l' (xs ++ news) → l'.n = l.n + m → Keeps l.blk w w' → ((l'.a = none ∧ l.a = none ∧ m = 0) ∨ ∃ g, l'.a = some ⟨g, 0, none⟩ ∧ (l.blk g ∨ w.heap.size ≤ g)) → k l' w') :
    App P (Builtin.append_ #[T, T] T' #[.slice l.a l.n l.c, .slice (some ad) m c]) (.one .sl) w k := by
  obtain ⟨i, hi, hzz⟩ := Option.map_eq_some_iff.1 hE.inf
  simp only [Prod.mk.injEq] at hzz
  obtain ⟨hz, hs, hb⟩ := hzz
  obtain ⟨v', w', hr, h2, h3, h4, h5⟩ := run_append_own_at (P := P) w base T T' E i z size bytes hE.sl hi hz hs hb hE.cells hE.pos l.val l.n xs hown ad m c news hl
    hnews h1 h63 hbytes hbase
  obtain ⟨a', n', c', rfl, rfl⟩ : ∃ a' n' c', v' = .slice a' n' c' ∧ n' = l.n + m := by
    rcases h2.2 with ⟨rfl, h⟩ | ⟨g, cap, cur, rfl, _⟩
    · exact ⟨none, 0, 0, rfl, h.symm⟩
    · exact ⟨_, _, _, rfl, rfl⟩
  refine ⟨⟨a', l.n + m, c'⟩, w', hr, hk _ _ h2 rfl ((Keeps.of_grown h3).mono fun b _ hb => ?_) ?_⟩
  · rw [ownBlock_val] at hb
    cases ha : l.a with
    | none => simp [ha] at hb
    | some a => simp [ha] at hb; exact ⟨a, ha, hb⟩
  · rcases h2.2 with ⟨hv, hn⟩ | ⟨g, cap, cur, hv, hge, hg, _⟩
    · simp only [Value.slice.injEq] at hv
      obtain ⟨rfl, h6, h7⟩ := hv
      have hln : l.n = 0 := by omega
      have hm : m = 0 := by omega
      subst hm
      refine .inl ⟨rfl, ?_, rfl⟩
      have := (h4.1 (by simp [hln, h7])).1
      simpa [Sl.val] using congrArg (fun v => match v with | .slice a _ _ => a | _ => none) this
    · simp only [Value.slice.injEq] at hv
      obtain ⟨rfl, -, -⟩ := hv
      refine .inr ⟨g, rfl, ?_⟩
      rw [ownBlock_val] at h5
      simp only [Value.ownBlock] at h5
      rcases h5 with h5 | h5
      · left
        cases ha : l.a with
        | none => simp [ha] at h5
        | some a => simp [ha] at h5; exact ⟨a, ha, h5.symm⟩
      · right; simp at h5; omega

theorem add_add (b off i j : Nat) : ((⟨b, off, none⟩ : Addr).add i).add j = ⟨b, off + i + j, none⟩ := by rw [add_eq, add_eq]

/-- slices.Clone's text, over records. -/
theorem clone_rec {T T' E sz bytes : Nat} {z : Value} (hE : Elem P T E z sz bytes) {M : Nat → Prop} {w : World} {l : Sl} {xs : List (List Value)} {K : Sl → World → Prop} (hl : SlC (V M w) l sz xs) (hxs : ∀ c ∈ xs, c.length = sz) (h1 : ∀ c ∈ xs, ∀ u ∈ c, u.oneCell' = true)
    (hb : xs.length * bytes ≤ 140737488355328) (hlen : xs.length ≤ 9223372036854775807) (hK : ∀ l' w', Keeps No w w' → Own w' w.heap.size E sz l' xs.flatten → K l' w') :
    Br (l.a.isNone) (K ⟨none, 0, 0⟩ w) (Al (.cells #[] E (0, 0)) w fun b1 w1 => App P (Builtin.append_ #[T, T] T' #[.slice (some ⟨b1, 0, none⟩) 0 0, .slice l.a l.n l.c]) (.one .sl) w1 fun x w2 => K x w2) := by
  obtain ⟨la, ln, lc⟩ := l
  have hn : ln = xs.length := hl.1
  cases la with
  | none =>
    have hx : xs = [] := by
      rcases hl.2 with h | ⟨b, off, cs, E, fr, h1, _⟩
      · exact h
      · cases h1
    subst hx
    exact hK _ w .refl (Own.nil w _ _ _)
  | some a =>
    dsimp only
    rw [Option.isNone_some, Br_false]
    refine Al.mk fun b1 w1 n1 => ?_
    have e1 := n1.eq; have z1 := n1.size
    have ho : Own w1 w.heap.size E sz ⟨some ⟨b1, 0, none⟩, 0, 0⟩ [] := ⟨by simp, .inr ⟨b1, 0, #[], rfl, by omega, n1.at_, Nat.le_refl _, Nat.zero_le _, by simp, by simp⟩⟩
    have hfl := flatten_len hxs
    refine append_own2 (news := xs.flatten) (l := ⟨some ⟨b1, 0, none⟩, 0, 0⟩) hE ho (by rw [hfl, hn]) (fun j u hu => ?_) (fun u hu => ?_) (by simp only [Nat.zero_add]; rw [hn]; exact hb) (by simp only [Nat.zero_add]; omega) (by omega) fun l' w' h2 h3 h4 h5 => ?_
    · rcases hl.2 with rfl | ⟨b, off, cs, E', fr, h6, h7, h8⟩
      · simp at hu
      · cases h6
        have hsz := hE.pos
        have hj : j < xs.length * sz := by rw [← hfl]; exact (List.getElem?_eq_some_iff.1 hu).1
        have hq : j / sz < xs.length := by rw [Nat.div_lt_iff_lt_mul hsz]; exact hj
        have hc : xs[j / sz]? = some xs[j / sz] := List.getElem?_eq_getElem hq
        have hcl := hxs _ (List.mem_of_getElem? hc)
        have hr : j % sz < (xs[j / sz]).length := by rw [hcl]; exact Nat.mod_lt _ hsz
        have hcu : (xs[j / sz])[j % sz]? = some (xs[j / sz])[j % sz] := List.getElem?_eq_getElem hr
        have hfg := flatten_get hxs hc hcu
        have hdm : j / sz * sz + j % sz = j := by rw [Nat.mul_comm]; exact Nat.div_add_mod j sz
        rw [hdm, hu] at hfg
        cases hfg
        have := h8 _ _ hc _ _ hcu
        rw [Nat.add_assoc, hdm] at this
        rw [add_eq]
        exact cell_keep (cell_of h7.2 this) n1.keeps
    · obtain ⟨c, hc, hu⟩ := List.mem_flatten.1 hu
      exact h1 c hc u hu
    · exact hK l' w' ((n1.keeps.no (M := No)).then h4 fun i hi hbk => by obtain ⟨a, ha, rfl⟩ := hbk; cases ha; dsimp only at hi; omega) (by simpa using h2)
end Go.Fk
end

section
set_option linter.unusedVariables false
namespace Go.Fk
open Go

/-! ## Parts of a text -/

theorem bs_cut {s : ByteArray} {i j : Nat} : bs (s.extract i j) = ((bs s).drop i).take (j - i) := by
  simp [bs, List.drop_take]
theorem bs_from {s : ByteArray} {i : Nat} : bs (s.extract i s.size) = (bs s).drop i := by
  rw [bs_cut, List.take_of_length_le]
  simp
theorem App.suffix {w : World} {s : ByteArray} {i : Nat} {K : ByteArray → World → Prop} (h : i ≤ s.size) (hK : K (s.extract i s.size) w) : App P (Instr.sliceAt T.string (.string s) (some (.int .i64 (i : Int))) none none) (.one .str) w K := by
  refine ⟨s.extract i s.size, w, ?_, hK⟩
  rw [run_sliceAt_string w _ _ _ _ _ strTy, run_slice_string_l w _ _ strTy .i64 _ (by omega) (by omega)]
  rfl
theorem App.mid {w : World} {s : ByteArray} {i j : Nat} {K : ByteArray → World → Prop} (h : i ≤ j) (h2 : j ≤ s.size) (hK : K (s.extract i j) w) : App P (Instr.sliceAt T.string (.string s) (some (.int .i64 (i : Int))) (some (.int .i64 (j : Int))) none) (.one .str) w K := by
  refine ⟨s.extract i j, w, ?_, hK⟩
  rw [run_sliceAt_string w _ _ _ _ _ strTy, run_slice_string w _ _ .i64 .i64 _ _ strTy (by omega) (by omega) (by omega)]
  rfl

/-! ## Classes, scanners -/

structure Cls where
  n : ByteArray
  rx : ByteArray
  lay : Bool
def Cls.cells (c : Cls) : List Value := [.string c.n, .string c.rx, .bool c.lay]
theorem Cls.lens {xs : List Cls} : ∀ c ∈ xs.map Cls.cells, c.length = 3 := fun c hc => by obtain ⟨m, _, rfl⟩ := List.mem_map.1 hc; rfl
theorem Cls.ones {xs : List Cls} : ∀ c ∈ xs.map Cls.cells, ∀ u ∈ c, u.oneCell' = true := fun c hc u hu => by
  obtain ⟨m, _, rfl⟩ := List.mem_map.1 hc
  simp only [Cls.cells, List.mem_cons, List.not_mem_nil, or_false] at hu
  rcases hu with rfl | rfl | rfl <;> rfl
theorem Tok.ones {xs : List Tok} : ∀ c ∈ xs.map Tok.cells, ∀ u ∈ c, u.oneCell' = true := fun c hc u hu => by
  obtain ⟨m, _, rfl⟩ := List.mem_map.1 hc
  simp only [Tok.cells, List.mem_cons, List.not_mem_nil, or_false] at hu
  rcases hu with rfl | rfl | rfl | rfl <;> rfl
theorem elCls : Elem P T.sl_scan_Class T.scan_Class (.agg #[.string ⟨#[]⟩, .string ⟨#[]⟩, .bool false]) 3 40 := ⟨by kernel_rfl, by kernel_rfl, rfl, by decide⟩
abbrev SlCls (H : View) (l : Sl) (cs : List Cls) : Prop := SlC H l 3 (cs.map Cls.cells)

structure ClsC (w : World) (p : Addr) (c : Cls) : Prop where
  n : w.cell? p = some (.string c.n)
  rx : w.cell? (p.add 1) = some (.string c.rx)
  lay : w.cell? (p.add 2) = some (.bool c.lay)
theorem IdxS.cls {M : Nat → Prop} {w : World} {l : Sl} {xs : List Cls} {i : Int} {K : Addr → Prop} (h : SlCls (V M w) l xs) (h0 : 0 ≤ i) (h1 : i < xs.length)
    (hk : ∀ x p, xs[i.toNat]? = some x → ClsC w p x → K p) : IdxS l i 3 K := by
  refine IdxS.recd (M := M) h h0 (by simpa using h1) fun g off c hc hcell => ?_
  rw [List.getElem?_map] at hc
  obtain ⟨x, hx, rfl⟩ := Option.map_eq_some_iff.1 hc
  refine hk x _ hx ⟨?_, ?_, ?_⟩
  · exact hcell 0 _ rfl
  · rw [add_eq]; exact hcell 1 _ rfl
  · rw [add_eq]; exact hcell 2 _ rfl

def NameR (cs : List Cls) (k : ByteArray) (v : Int) : Prop := ∃ (i : Nat) (c : Cls), cs[i]? = some c ∧ c.n = k ∧ v = i
abbrev scObj (lp : Option Addr) (l : Sl) (mm : Nat) : Obj := .cells #[.pointer lp, .slice l.a l.n l.c, .map (some mm)] T.scan_Scanner (0, 0)
def ScanV (H : View) (s : Option Addr) (cs : List Cls) (N : Nat) (ms : List LSt) (of_ : Nat → Int) : Prop :=
  ∃ b lp l mm, s = some ⟨b, 0, none⟩ ∧ H b (scObj lp l mm) ∧ LeastV H lp N ms of_ ∧ SlCls H l cs ∧ MapAt P T.string .str (.int .i64) H mm (NameR cs)
theorem ScanV.mono {H H' : View} {s : Option Addr} {cs : List Cls} {N : Nat} {ms : List LSt} {of_ : Nat → Int} (h : ScanV H s cs N ms of_) (hv : Vle H H') : ScanV H' s cs N ms of_ := by
  obtain ⟨b, lp, l, mm, h1, h2, h3, h4, h5⟩ := h
  exact ⟨b, lp, l, mm, h1, hv _ _ h2, h3.mono hv, h4.mono hv, h5.mono hv⟩

section
variable {w : World} {s : Option Addr} {cs : List Cls} {N : Nat} {ms : List LSt} {of_ : Nat → Int}

theorem ScanV.keep {w' : World} (h : ScanV (V No w) s cs N ms of_) (k : Keeps No w w') : ScanV (V No w') s cs N ms of_ := h.mono (V.keeps0 k)
theorem ScanV.some_ {H : View} (h : ScanV H s cs N ms of_) : s.isNone = false := by
  obtain ⟨b, lp, l, mm, rfl, _⟩ := h
  rfl
theorem LeastV.sm {H : View} {p : Option Addr} (h : LeastV H p N ms of_) : p.isNone = false := by
  obtain ⟨b, l, o, rfl, _⟩ := h
  rfl

theorem scan_next_spec (h : ScanV (V No w) s cs N ms of_) {text : ByteArray} {i : Nat} (hi : i ≤ text.size) (hs : text.size ≤ 1000000) {K : (Int × Int × Int × Int) → World → Prop}
    (hK : ∀ w', Keeps No w w' → K ((tokF ms (bs text) i).c, (tokF ms (bs text) i).f, (tokF ms (bs text) i).t, (tokF ms (bs text) i).l) w') : scan_Scanner_next.C s text i w K := by
  obtain ⟨b, lp, l, mm, rfl, h2, h3, h4, h5⟩ := h
  have hsz := size_bs text
  refine scan_Scanner_next.ok _ _ _ _ _ ?_
  simp only [scan_Scanner_next.M]
  refine Al.mk fun b1 w1 n1 => Draw.kp fun w2 e2 k2 => ?_
  simp only [NilC_some]
  have k02 : Keeps No w w2 := n1.keeps.trans k2
  have hb1 := n1.eq
  have hb2 : w2.heap[b1]? = _ := k2.blk0 n1.at_
  refine LdK.ptr (cell_of (k02.blk0 h2.2) rfl) (App.suffix hi ⟨.refl, ?_⟩)
  obtain ⟨F, r, z, ht, htok, hml⟩ := tok_law (ms := ms) (s := bs text) (i := i) (by omega)
  have hl : ((bs text).drop i).length = text.size - i := by simp
  have hF := ht.le
  have hle := ht.best.le
  have hsx : (text.extract i text.size).size ≤ 1000000 := by
    have := size_bs (text.extract i text.size)
    rw [bs_from] at this; omega
  refine least_Longest_spec (.inr (h3.mono (V.keeps0 k02))) hsx ⟨.refl, ?_⟩
  rw [bs_from, hml]
  dsimp only
  refine Join.cut (fun lk w' => Keeps No w2 w' ∧ lk = i + F + 1) ?_ ?_
  · rintro lk w3 ⟨k3, rfl⟩
    refine Join.cut (fun sz w' => w' = w3 ∧ sz = if r = -1 then 1 else z) ?_ ?_
    · rintro sz w' ⟨rfl, rfl⟩
      refine St4 (k3.blk0 hb2) fun w4 u => Ld4i u.at_ ?_
      have hg := hK w4 (u.keeps0 (k02.trans k3) (by omega))
      rw [htok] at hg
      dsimp only at hg
      rw [w64_eq (by split <;> omega)]
      exact hg
    · intro j hj
      refine Br.mk (fun e => ?_) (fun e => ?_)
      · have e : r = -1 := by simpa using e
        exact hj _ _ ⟨rfl, by rw [if_pos e]⟩
      · have e : ¬ r = -1 := by simpa using e
        exact hj _ _ ⟨rfl, by rw [if_neg e]⟩
  · intro j hj
    refine Draw.kp fun w4 e4 k4 => ?_
    have em : w64 ((i : Int) + ((min (F + 1) ((bs text).drop i).length : Nat) : Int)) = ((i + min (F + 1) ((bs text).drop i).length : Nat) : Int) := by rw [w64_eq (by omega)]; omega
    rw [em]
    refine LdK.ptr (cell_of ((k02.trans k4).blk0 h2.2) rfl) (App.mid (by omega) (by omega) ⟨.refl, ?_⟩)
    refine least_Run_spec (.inr (h3.mono (V.keeps0 (k02.trans k4)))) ?_ ⟨.refl, ?_⟩
    · have := size_bs (text.extract i (i + min (F + 1) ((bs text).drop i).length))
      rw [bs_cut, List.length_take] at this
      rw [this]
      omega
    rw [h3.sm, Bool.not_false, bs_cut, Nat.add_sub_cancel_left]
    show Join _ fun j9 => Br (qAt ms ((bs text).drop i) (min (F + 1) ((bs text).drop i).length)).2 _ _
    refine Join.cut (fun b' w' => w' = w4 ∧ (b' = true ↔ ¬ F < ((bs text).drop i).length)) ?_ ?_
    · rintro b' w' ⟨rfl, hb'⟩
      refine Br.mk (fun e => hj _ _ ⟨k4, ?_⟩) (fun e => hj _ _ ⟨k4, ?_⟩)
      · have := hb'.1 e
        rw [w64_eq (by omega)]; omega
      · have : F < ((bs text).drop i).length := Nat.lt_of_not_le fun h => by rw [hb'.2 (by omega)] at e; cases e
        omega
    · intro j9 hj9
      by_cases hlt : F < ((bs text).drop i).length
      · have hm : min (F + 1) ((bs text).drop i).length = F + 1 := by omega
        rw [hm, ht.no hlt]
        exact hj9 _ _ ⟨rfl, ⟨fun h => by simp at h, fun h => absurd hlt h⟩⟩
      · have hm : min (F + 1) ((bs text).drop i).length = F := by omega
        rw [hm, ht.all F (Nat.le_refl _)]
        refine hj9 _ _ ⟨rfl, ?_⟩
        simp only [beq_iff_eq, hlt, not_false_eq_true, iff_true]
        omega

theorem scan_Scan_none {text : ByteArray} {K : (Sl × Int) → World → Prop} (hK : K (⟨none, 0, 0⟩, 1) w) : scan_Scanner_Scan.C none text w K := by
  refine scan_Scanner_Scan.ok _ _ _ _ ?_
  simp only [scan_Scanner_Scan.M]
  exact hK
theorem scan_Scan_long (h : s.isNone = false) {text : ByteArray} (hs : 1048576 < text.size) {K : (Sl × Int) → World → Prop} (hK : K (⟨none, 0, 0⟩, 3) w) : scan_Scanner_Scan.C s text w K := by
  refine scan_Scanner_Scan.ok _ _ _ _ ?_
  simp only [scan_Scanner_Scan.M]
  rw [h, Br_false]
  exact Br.mk (fun _ => hK) fun e => by have := of_decide_eq_false e; omega

/-- The tokens of a text. -/
abbrev toksOf (ms : List LSt) (t : List UInt8) : List Tok := toks (tokF ms t) t.length 0

theorem scan_Scan_spec (h : ScanV (V No w) s cs N ms of_) {text : ByteArray} (hs : text.size ≤ 1000000) {K : (Sl × Int) → World → Prop}
    (hK : ∀ l w', Keeps No w w' → Own w' w.heap.size T.scan_Token 4 l ((toksOf ms (bs text)).map Tok.cells).flatten → K (l, 0) w') : scan_Scanner_Scan.C s text w K := by
  have hsz := size_bs text
  refine scan_Scanner_Scan.ok _ _ _ _ ?_
  simp only [scan_Scanner_Scan.M]
  rw [h.some_, Br_false]
  refine Br.mk (fun e => by have := of_decide_eq_true e; omega) fun _ => ?_
  refine Loop.mk (fun t w' => Keeps No w w' ∧ ∃ (i : Nat) (xs : List Tok), t.2 = i ∧ i ≤ text.size ∧ xs.length ≤ i ∧ Own w' w.heap.size T.scan_Token 4 t.1 (xs.map Tok.cells).flatten ∧ xs ++ toks (tokF ms (bs text)) (bs text).length i = toksOf ms (bs text))
    (fun t => text.size - t.2.toNat) ⟨.refl, 0, [], rfl, by omega, by simp, Own.nil _ _ _ _, rfl⟩ ?_
  rintro ⟨l, t⟩ w1 ⟨k1, i, xs, hti, hi, hxl, ho, hx⟩ R hR
  dsimp only at hti ho ⊢
  subst hti
  refine Br.mk (fun e => ?_) (fun e => ?_)
  · have hlt : i < text.size := by have := of_decide_eq_true e; omega
    refine scan_next_spec (h.keep k1) hi hs fun w2 k2 => ?_
    generalize hX : tokF ms (bs text) i = X
    have hbd := tok_bounds (ms := ms) (s := bs text) (i := i) (by omega)
    rw [hX] at hbd
    refine AlSt4 fun b3 w3 n3 => Ld4i n3.at_ ?_
    have k03 := (k1.trans k2).trans n3.keeps
    refine appendTok (ho.keep0 (k2.trans n3.keeps)) (by omega) (by have := k03.size; omega) fun l' w4 ho' k4 _ => ?_
    have hge : ∀ c, l.blk c → w.heap.size ≤ c ∧ c ≠ b3 := fun c hc => by have := (ho.keep0 k2).ge hc; have := n3.eq; omega
    have k04 : Keeps No w w4 := (k03.no (M := No)).then k4 fun c hc hb => by have := (hge c hb).1; omega
    refine Ld.int (cell_of (k4.blk n3.at_ fun hb => (hge _ hb).2 rfl) rfl) ?_
    refine hR _ _ ⟨k04, X.t.toNat, xs ++ [X], by dsimp only; omega, by omega, by simp; omega, ho', ?_⟩ (by dsimp only; omega)
    rw [← hx, toks_step (goes_tok (ms := ms) (s := bs text)) (by omega : i < (bs text).length), hX]
    simp
  · have hge : i = text.size := by have := of_decide_eq_false e; omega
    rw [toks_end (by omega), List.append_nil] at hx
    rw [hx] at ho
    exact hK l w1 k1 ho

theorem scan_Classes_none {K : Sl → World → Prop} (hK : K ⟨none, 0, 0⟩ w) : scan_Scanner_Classes.C none w K := by
  refine scan_Scanner_Classes.ok _ _ _ ?_
  simp only [scan_Scanner_Classes.M]
  exact hK
theorem scan_Solid_none {l : Sl} {K : Sl → World → Prop} (hK : K ⟨none, 0, 0⟩ w) : scan_Scanner_Solid.C none l w K := by
  refine scan_Scanner_Solid.ok _ _ _ _ ?_
  simp only [scan_Scanner_Solid.M]
  exact hK

/-- Is a token layout? -/
def layF (cs : List Cls) (x : Tok) : Bool := if 0 ≤ x.c then ((cs[x.c.toNat]?).map Cls.lay).getD false else false

theorem scan_layout_spec (h : ScanV (V No w) s cs N ms of_) {x : Tok} {K : Bool → World → Prop} (hK : ∀ w', Keeps No w w' → K (layF cs x) w') : scan_Scanner_layout.C s (x.c, x.f, x.t, x.l) w K := by
  obtain ⟨b, lp, l, mm, rfl, h2, h3, h4, h5⟩ := h
  refine scan_Scanner_layout.ok _ _ _ _ ?_
  simp only [scan_Scanner_layout.M]
  refine Al.mk fun b1 w1 n1 => Draw.kp fun w2 e2 k2 => ?_
  have k02 : Keeps No w w2 := n1.keeps.trans k2
  have hc0 : w2.cell? ⟨b1, 0, none⟩ = some (.int .i64 x.c) := cell_of (k2.blk0 n1.at_) rfl
  have hcl : w2.cell? ((⟨b, 0, none⟩ : Addr).add 1) = some (.slice l.a l.n l.c) := by rw [add_eq]; exact cell_of (k02.blk0 h2.2) rfl
  have hn := h4.1
  simp only [List.length_map] at hn
  refine LdK.int hc0 (Br.mk (fun e => ?_) (fun e => ?_))
  · have e := of_decide_eq_true e
    refine LdK.int hc0 ?_
    simp only [NilC_some]
    refine LdK.sl hcl (Br.mk (fun e2 => ?_) (fun e2 => ?_))
    · have e2 : x.c < (l.n : Int) := of_decide_eq_true e2
      refine LdK.sl hcl (LdK.int hc0 (IdxS.cls (h4.mono (V.keeps0 k02)) e (by omega) fun c p hc hp => LdK.bool hp.lay ?_))
      have := hK w2 k02
      unfold layF at this
      rw [if_pos e, hc] at this
      exact this
    · have e2 : ¬ x.c < (l.n : Int) := of_decide_eq_false e2
      have := hK w2 k02
      unfold layF at this
      rw [if_pos e, List.getElem?_eq_none (by omega)] at this
      exact this
  · have e := of_decide_eq_false e
    have := hK w2 k02
    unfold layF at this
    rw [if_neg e] at this
    exact this
end

/-! ## slices.DeleteFunc over tokens -/

/-- What is asked of the function handed in: it tells 'p' of each token of 'xs'. -/
def TellsTok (f : Value) (p : Tok → Bool) (xs : List Tok) (M : Nat → Prop) (w : World) : Prop :=
  ∀ x ∈ xs, ∀ w1, Keeps M w w1 → ∀ k : Bool → World → Prop, (∀ w2, Keeps No w1 w2 → k (p x) w2) → CallV P f [.agg #[.int .i64 x.c, .int .i64 x.f, .int .i64 x.t, .int .i64 x.l]] (.one .bool) w1 k

theorem IndexFunc_tok {M N : Nat → Prop} {w : World} {l : Sl} {xs : List Tok} {f : Value} {p : Tok → Bool} {K : Int → World → Prop} (hl : SlTok (V M w) l xs) (hlen : xs.length ≤ 1000000000) (hf : TellsTok f p xs N w)
    (h0 : (∀ x ∈ xs, p x = false) → ∀ w', Keeps No w w' → K (-1) w') (h1 : ∀ (i : Nat) x, xs[i]? = some x → p x = true → (∀ y ∈ xs.take i, p y = false) → ∀ w', Keeps No w w' → K i w') : slices_IndexFunc_scan_Token.C l f w K := by
  have hn := hl.1
  simp only [List.length_map] at hn
  refine slices_IndexFunc_scan_Token.ok _ _ _ _ ?_
  simp only [slices_IndexFunc_scan_Token.M]
  refine Loop.mk (fun t w' => Keeps No w w' ∧ ∃ i : Nat, t = i ∧ i ≤ xs.length ∧ ∀ y ∈ xs.take i, p y = false) (fun t => xs.length - t.toNat) ⟨.refl, 0, rfl, by omega, by simp⟩ ?_
  rintro t w1 ⟨k1, i, rfl, hi, hp⟩ R hR
  refine Br.mk (fun e => ?_) (fun e => ?_)
  · have e : i < xs.length := by have := of_decide_eq_true e; omega
    refine IdxS.tok (hl.mono (V.keeps0 k1)) (by omega) (by omega) fun x q hx hq => hq.ld ?_
    simp only [Int.toNat_natCast] at hx
    refine hf x (List.mem_of_getElem? hx) w1 (k1.no) _ fun w2 k2 => ?_
    refine Br.mk (fun e2 => h1 i x hx e2 hp w2 (k1.trans k2)) fun e2 => ?_
    have e4 : w64 ((i : Int) + 1) = ((i + 1 : Nat) : Int) := by rw [w64_eq (by omega)]; omega
    rw [e4]
    refine hR _ _ ⟨k1.trans k2, i + 1, rfl, by omega, fun y hy => ?_⟩ (by omega)
    rw [List.take_add_one, hx] at hy
    rcases List.mem_append.1 hy with hy | hy
    · exact hp y hy
    · simp at hy; subst hy; exact e2
  · have e : i = xs.length := by have := of_decide_eq_false e; omega
    subst e
    rw [List.take_length] at hp
    exact h0 hp w1 k1

/-- A token is put into a slice of the call's own. -/
theorem Own.tokput {w : World} {base : Nat} {l : Sl} {xs : List Tok} {i : Nat} {x : Tok} (h : Own w base T.scan_Token 4 l (xs.map Tok.cells).flatten) (hi : i < xs.length) {K : World → Prop}
    (hK : ∀ w', Keeps l.blk w w' → w'.heap.size = w.heap.size → Own w' base T.scan_Token 4 l ((xs.set i x).map Tok.cells).flatten → K w') :
    IdxS l (i : Int) 4 fun p => St p (.int .i64 x.c) w fun w1 => St (p.add 1) (.int .i64 x.f) w1 fun w2 => St (p.add 2) (.int .i64 x.t) w2 fun w3 => St (p.add 3) (.int .i64 x.l) w3 K := by
  have hfl : (xs.map Tok.cells).flatten.length = xs.length * 4 := by rw [flatten_len Tok.lens]; simp
  have hn : l.n = xs.length := by have := h.1; omega
  obtain ⟨g, cur, ha, hg, hlt, h1⟩ := h.cellput (k := i * 4) (v := .int .i64 x.c) (by omega)
  have hblk : l.blk g := ⟨_, ha, rfl⟩
  refine ⟨_, ha, by omega, ?_⟩
  simp only [Int.toNat_natCast, add_eq, Nat.zero_add]
  refine St.blk hg hlt fun w1 u1 => ?_
  obtain ⟨g1, cur1, ha1, hg1, hlt1, h2⟩ := (h1 w1 u1).cellput (k := i * 4 + 1) (v := .int .i64 x.f) (by simp only [List.length_set]; omega)
  rw [ha] at ha1; cases ha1
  refine St.blk hg1 hlt1 fun w2 u2 => ?_
  obtain ⟨g2, cur2, ha2, hg2, hlt2, h3⟩ := (h2 w2 u2).cellput (k := i * 4 + 2) (v := .int .i64 x.t) (by simp only [List.length_set]; omega)
  rw [ha] at ha2; cases ha2
  refine St.blk hg2 hlt2 fun w3 u3 => ?_
  obtain ⟨g3, cur3, ha3, hg3, hlt3, h4⟩ := (h3 w3 u3).cellput (k := i * 4 + 3) (v := .int .i64 x.l) (by simp only [List.length_set]; omega)
  rw [ha] at ha3; cases ha3
  refine St.blk hg3 hlt3 fun w4 u4 => ?_
  have ho := h4 w4 u4
  have hxi : xs[i]? = some xs[i] := List.getElem?_eq_getElem hi
  have hm : (xs.map Tok.cells)[i]? = some (xs[i]).cells := by rw [List.getElem?_map, hxi]; rfl
  have f1 := flatten_set (xs := xs.map Tok.cells) Tok.lens hm (j := 0) (u := .int .i64 x.c) (by omega)
  have l1 : ∀ c ∈ (xs.map Tok.cells).set i ((xs[i]).cells.set 0 (.int .i64 x.c)), c.length = 4 := fun c hc => by
    rcases List.mem_or_eq_of_mem_set hc with h | rfl
    · exact Tok.lens c h
    · simp [Tok.cells]
  have g1 : ((xs.map Tok.cells).set i ((xs[i]).cells.set 0 (.int .i64 x.c)))[i]? = some ((xs[i]).cells.set 0 (.int .i64 x.c)) := by rw [List.getElem?_set_self (by simpa using hi)]
  have f2 := flatten_set l1 g1 (j := 1) (u := .int .i64 x.f) (by omega)
  rw [List.set_set] at f2
  have l2 : ∀ c ∈ (xs.map Tok.cells).set i (((xs[i]).cells.set 0 (.int .i64 x.c)).set 1 (.int .i64 x.f)), c.length = 4 := fun c hc => by
    rcases List.mem_or_eq_of_mem_set hc with h | rfl
    · exact Tok.lens c h
    · simp [Tok.cells]
  have g2 : ((xs.map Tok.cells).set i (((xs[i]).cells.set 0 (.int .i64 x.c)).set 1 (.int .i64 x.f)))[i]? = some (((xs[i]).cells.set 0 (.int .i64 x.c)).set 1 (.int .i64 x.f)) := by rw [List.getElem?_set_self (by simpa using hi)]
  have f3 := flatten_set l2 g2 (j := 2) (u := .int .i64 x.t) (by omega)
  rw [List.set_set] at f3
  have l3 : ∀ c ∈ (xs.map Tok.cells).set i ((((xs[i]).cells.set 0 (.int .i64 x.c)).set 1 (.int .i64 x.f)).set 2 (.int .i64 x.t)), c.length = 4 := fun c hc => by
    rcases List.mem_or_eq_of_mem_set hc with h | rfl
    · exact Tok.lens c h
    · simp [Tok.cells]
  have g3 : ((xs.map Tok.cells).set i ((((xs[i]).cells.set 0 (.int .i64 x.c)).set 1 (.int .i64 x.f)).set 2 (.int .i64 x.t)))[i]? = some ((((xs[i]).cells.set 0 (.int .i64 x.c)).set 1 (.int .i64 x.f)).set 2 (.int .i64 x.t)) := by rw [List.getElem?_set_self (by simpa using hi)]
  have f4 := flatten_set l3 g3 (j := 3) (u := .int .i64 x.l) (by omega)
  rw [List.set_set] at f4
  rw [Nat.add_zero] at f1
  rw [f1, f2, f3, f4] at ho
  have ec : ((((xs[i]).cells.set 0 (.int .i64 x.c)).set 1 (.int .i64 x.f)).set 2 (.int .i64 x.t)).set 3 (.int .i64 x.l) = x.cells := rfl
  rw [ec, ← List.map_set] at ho
  have hU : ∀ {o w w'}, Upd g o w w' → Keeps l.blk w w' := fun u => u.keeps.mono fun b _ hb => by have : b = g := hb; rw [this]; exact hblk
  exact hK w4 (((hU u1).trans (hU u2)).trans ((hU u3).trans (hU u4))) (by rw [u4.size, u3.size, u2.size, u1.size]) ho

/-- 'clear(l[k:])'. -/
theorem App.clearOwn {P : Program} {T T' E size bytes base : Nat} {z : Value} {w : World} {l : Sl} {xs : List Value} {k : Nat} {K : Unit → World → Prop} (hE : Elem P T E z size bytes) (h : Own w base E size l xs) (hk : k ≤ l.n) (hz1 : ∀ u ∈ (Builtin.zeroCells z.cells (l.n - k)).toList, u.oneCell' = true)
    (hK : ∀ w', Keeps l.blk w w' → Own w' base E size ⟨l.a, k, l.c⟩ (xs.take (k * size)) → K () w') :
    App P (Builtin.clear_ #[T] T' #[.slice (if l.c = k then l.a else l.a.map (·.add (k * size))) (l.n - k) (l.c - k)]) (.tup []) w K := by
  obtain ⟨i, hi, hzz⟩ := Option.map_eq_some_iff.1 hE.inf
  simp only [Prod.mk.injEq] at hzz
  have hcut : ∀ w' : World, (∀ g cap cur, l.val = .slice (some ⟨g, 0, none⟩) l.n cap → w.heap[g]? = some (.cells cur E (0, 0)) → cur.size = cap * size → ∃ cur', w'.heap[g]? = some (.cells cur' E (0, 0)) ∧ cur'.size = cur.size ∧ cur'.toList.take (k * size) = cur.toList.take (k * size)) → Own w' base E size ⟨l.a, k, l.c⟩ (xs.take (k * size)) := by
    intro w' hw
    refine ⟨by have := h.1; rw [List.length_take, this]; exact Nat.min_eq_left (Nat.mul_le_mul_right _ hk), ?_⟩
    rcases h.2 with ⟨hv, hn⟩ | ⟨g, cap, cur, hv, hge, hg, hnc, hcm, hcs, htake⟩
    · left
      simp only [Sl.val, Value.slice.injEq] at hv ⊢
      exact ⟨⟨hv.1, by omega, hv.2.2⟩, by omega⟩
    · right
      obtain ⟨cur', h1, h2, h3⟩ := hw g cap cur hv hg hcs
      simp only [Sl.val, Value.slice.injEq] at hv ⊢
      refine ⟨g, cap, cur', ⟨hv.1, trivial, hv.2.2⟩, hge, h1, by omega, hcm, by omega, ?_⟩
      rw [h3, ← htake, List.take_take, Nat.min_eq_left (Nat.mul_le_mul_right _ hk)]
  by_cases h0 : l.n - k = 0
  · refine ⟨(), w, ?_, hK w .refl (hcut w fun g cap cur _ hg _ => ⟨cur, hg, rfl, rfl⟩)⟩
    rw [h0]
    cases (if l.c = k then l.a else l.a.map (·.add (k * size))) <;> simp [Builtin.clear_, run_underlying hE.sl, RTy.enc, RTy.encs]
  · rcases h.2 with ⟨hv, hn⟩ | ⟨g, cap, cur, hv, hge, hg, hnc, hcm, hcs, htake⟩
    · omega
    · have hv' := hv
      simp only [Sl.val, Value.slice.injEq] at hv
      obtain ⟨ha, _, hc⟩ := hv
      rw [if_neg (by omega), ha]
      simp only [Option.map_some, add_eq, Nat.zero_add]
      have hzl : (Builtin.zeroCells z.cells (l.n - k)).toList.length = (l.n - k) * size := by rw [Array.length_toList, size_zeroCells, hE.cells]
      have hfit : k * size + 0 + (Builtin.zeroCells z.cells (l.n - k)).toList.length ≤ cur.size := by
        rw [hzl, Nat.add_zero, ← Nat.add_mul, hcs]; exact Nat.mul_le_mul_right _ (by omega)
      have hst := run_storeCells_at P g (k * size) E (Builtin.zeroCells z.cells (l.n - k)).toList 0 cur w hg hfit hz1
      have hrow := setRow_heap w g cur ((cur.toList.take (k * size + 0) ++ (Builtin.zeroCells z.cells (l.n - k)).toList ++ cur.toList.drop (k * size + 0 + (Builtin.zeroCells z.cells (l.n - k)).toList.length)).toArray) E (0, 0) hg
      refine ⟨(), w.setRow g ((cur.toList.take (k * size + 0) ++ (Builtin.zeroCells z.cells (l.n - k)).toList ++ cur.toList.drop (k * size + 0 + (Builtin.zeroCells z.cells (l.n - k)).toList.length)).toArray), ?_, hK _ ?_ (hcut _ fun g' cap' cur' hv2 hg' hcs' => ?_)⟩
      · obtain ⟨m, hm⟩ : ∃ m, l.n - k = m + 1 := ⟨l.n - k - 1, by omega⟩
        rw [hm] at hst ⊢
        have hzv : (zeroValue E).run P w = .ok z w := run_zero (by rw [hi]; exact hzz.1) w
        simp [Builtin.clear_, run_underlying hE.sl, hzv, RTy.enc, RTy.encs, Result.andThen, hst]
      · refine ⟨rfl, rfl, rfl, by simp [World.setRow], fun b _ hb => ?_⟩
        simp only [World.setRow, Array.getElem?_modify]
        rw [if_neg (fun e => hb ⟨_, ha, e⟩)]
      · rw [hv'] at hv2
        simp only [Value.slice.injEq, Option.some.injEq, Addr.mk.injEq, and_true, true_and] at hv2
        obtain ⟨rfl, rfl⟩ := hv2
        rw [hg] at hg'; cases hg'
        refine ⟨_, hrow, ?_, ?_⟩
        · rw [List.size_toArray, List.length_append, List.length_append, List.length_take, List.length_drop]
          simp only [Array.length_toList] at hfit ⊢
          omega
        · simp only [Nat.add_zero]
          rw [List.append_assoc, List.take_append_of_le_length (by rw [List.length_take, Array.length_toList]; omega), List.take_take, Nat.min_self]

theorem zeroTok (n : Nat) : ∀ u ∈ (Builtin.zeroCells (Value.agg #[.int .i64 0, .int .i64 0, .int .i64 0, .int .i64 0]).cells n).toList, u.oneCell' = true := by
  intro u hu
  simp only [Builtin.zeroCells, Value.cells, Array.toList_map, List.mem_map] at hu
  obtain ⟨i, _, rfl⟩ := hu
  have : i % 4 < 4 := Nat.mod_lt _ (by omega)
  show (#[Value.int .i64 0, .int .i64 0, .int .i64 0, .int .i64 0][i % 4]!).oneCell' = true
  generalize i % 4 = j at this
  rcases j with _ | _ | _ | _ | j
  · rfl
  · rfl
  · rfl
  · rfl
  · omega

theorem DeleteFunc_tok {w : World} {base : Nat} {l : Sl} {xs : List Tok} {f : Value} {p : Tok → Bool} {K : Sl → World → Prop} (ho : Own w base T.scan_Token 4 l (xs.map Tok.cells).flatten) (hlen : xs.length ≤ 1000000000) (hf : TellsTok f p xs l.blk w)
    (hK : ∀ l' w', Keeps l.blk w w' → Own w' base T.scan_Token 4 l' ((xs.filter fun x => !p x).map Tok.cells).flatten → K l' w') : slices_DeleteFunc_scan_Token.C l f w K := by
  have hfl : (xs.map Tok.cells).flatten.length = xs.length * 4 := by rw [flatten_len Tok.lens]; simp
  have hn : l.n = xs.length := by have := ho.1; omega
  refine slices_DeleteFunc_scan_Token.ok _ _ _ _ ?_
  simp only [slices_DeleteFunc_scan_Token.M]
  refine IndexFunc_tok (M := No) (ho.readsC (by omega) Tok.lens fun _ _ h => h) hlen hf (fun hno w1 k1 => ?_) fun i x hx hpx hno w1 k1 => ?_
  · have e : ((-1 : Int) == (-1 : Int)) = true := rfl
    rw [e, Br_true]
    refine hK l w1 k1.no ?_
    have : xs.filter (fun x => !p x) = xs := List.filter_eq_self.2 fun x hx => by simp [hno x hx]
    rw [this]; exact ho.keep0 k1
  · have hil : i < xs.length := (List.getElem?_eq_some_iff.1 hx).1
    have e : ((i : Int) == (-1 : Int)) = false := by simp
    rw [e, Br_false]
    have e4 : w64 ((i : Int) + 1) = ((i + 1 : Nat) : Int) := by rw [w64_eq (by omega)]; omega
    rw [e4]
    refine Loop.mk (fun t w' => Keeps l.blk w w' ∧ ∃ (a b : Nat) (ys : List Tok), t.1 = (a : Int) ∧ t.2 = (b : Int) ∧ a < b ∧ b ≤ xs.length ∧ ys.length = xs.length ∧ Own w' base T.scan_Token 4 l (ys.map Tok.cells).flatten ∧ ys.take a = (xs.take b).filter (fun x => !p x) ∧ ys.drop b = xs.drop b)
      (fun t => xs.length - t.2.toNat) ⟨k1.no, i, i + 1, xs, rfl, rfl, by omega, by omega, rfl, ho.keep0 k1, ?_, rfl⟩ ?_
    · rw [List.take_add_one, hx, List.filter_append]
      simp only [Option.toList_some, List.filter_cons, hpx, Bool.not_true, List.filter_nil]
      have : (xs.take i).filter (fun x => !p x) = xs.take i := List.filter_eq_self.2 fun x hx => by simp [hno x hx]
      simp [this]
    rintro ⟨ta, tb⟩ w2 ⟨k2, a, b, ys, h1, h2, hab, hb, hyl, ho2, hta, hdr⟩ R hR
    dsimp only at h1 h2 ⊢
    subst h1; subst h2
    refine Br.mk (fun e2 => ?_) (fun e2 => ?_)
    · have hbl : b < xs.length := by have := of_decide_eq_true e2; omega
      have hxb : xs[b]? = some xs[b] := List.getElem?_eq_getElem hbl
      have hyb : ys[b]? = some xs[b] := by
        have := congrArg (fun l => l[0]?) hdr
        simpa [List.getElem?_drop, hxb] using this
      generalize xs[b] = x at hxb hyb
      refine IdxS.tok (M := No) (ho2.readsC (by omega) Tok.lens fun _ _ h => h) (by omega) (by omega) fun x' q hx' hq => hq.ld ?_
      simp only [Int.toNat_natCast] at hx'
      rw [hyb] at hx'; cases hx'
      refine AlSt4 fun b3 w3 n3 => Ld4i n3.at_ ?_
      have k3 : Keeps l.blk w w3 := k2.trans n3.keeps.no
      refine hf x (List.mem_of_getElem? hxb) w3 k3 _ fun w4 k4 => ?_
      have ho4 := (ho2.keep0 n3.keeps).keep0 k4
      have ed : (xs.take (b + 1)) = xs.take b ++ [x] := by rw [List.take_add_one, hxb]; rfl
      have ew : w64 ((b : Int) + 1) = ((b + 1 : Nat) : Int) := by rw [w64_eq (by omega)]; omega
      have hdr' : ys.drop (b + 1) = xs.drop (b + 1) := by
        have := congrArg (List.drop 1) hdr
        simpa [List.drop_drop] using this
      refine Br.mk (fun e3 => ?_) (fun e3 => ?_)
      · have e3 : p x = false := by simpa using e3
        refine Ld4i (k4.blk0 n3.at_) ?_
        refine ho4.tokput (by omega) fun w5 k5 z5 ho5 => ?_
        have ew2 : w64 ((a : Int) + 1) = ((a + 1 : Nat) : Int) := by rw [w64_eq (by omega)]; omega
        rw [ew, ew2]
        refine hR _ _ ⟨(k3.trans k4.no).trans k5, a + 1, b + 1, ys.set a x, rfl, rfl, by omega, by omega, by simp [hyl], ho5, ?_, ?_⟩ (by dsimp only; omega)
        · rw [ed, List.filter_append, ← hta, List.take_add_one, List.getElem?_set_self (by omega), List.take_set_of_le (Nat.le_refl _)]
          simp [e3]
        · rw [List.drop_set_of_lt (by omega), hdr']
      · have e3 : p x = true := by simpa using e3
        rw [ew]
        refine hR _ _ ⟨k3.trans k4.no, a, b + 1, ys, rfl, rfl, by omega, by omega, hyl, ho4, ?_, hdr'⟩ (by dsimp only; omega)
        rw [ed, List.filter_append, hta]
        simp [e3]
    · have e2 : b = xs.length := by have := of_decide_eq_false e2; omega
      subst e2
      rw [List.take_length] at hta
      have hcap := ho2.cap
      refine App.subL elTok (by omega) (App.clearOwn (k := a) elTok ho2 (by omega) (zeroTok _) fun w3 k3 ho3 => ?_)
      refine App.subH elTok (by omega) (hK _ w3 (k2.trans k3) ?_)
      have ef : (ys.map Tok.cells).flatten.take (a * 4) = ((ys.take a).map Tok.cells).flatten := by
        have h1 : (ys.map Tok.cells).flatten = ((ys.take a).map Tok.cells).flatten ++ ((ys.drop a).map Tok.cells).flatten := by
          rw [← List.flatten_append, ← List.map_append, List.take_append_drop]
        have h2 : ((ys.take a).map Tok.cells).flatten.length = a * 4 := by rw [flatten_len Tok.lens]; simp; omega
        rw [h1, ← h2, List.take_left]
      rw [ef, hta] at ho3
      exact ho3

theorem Clone_tok {M : Nat → Prop} {w : World} {l : Sl} {xs : List Tok} {K : Sl → World → Prop} (hl : SlTok (V M w) l xs) (hlen : xs.length ≤ 100000000) (hK : ∀ l' w', Keeps No w w' → Own w' w.heap.size T.scan_Token 4 l' (xs.map Tok.cells).flatten → K l' w') : slices_Clone_scan_Token.C l w K := by
  refine slices_Clone_scan_Token.ok _ _ _ ?_
  simp only [slices_Clone_scan_Token.M]
  exact clone_rec elTok hl Tok.lens Tok.ones (by simp; omega) (by simp; omega) hK
theorem Clone_cls {M : Nat → Prop} {w : World} {l : Sl} {xs : List Cls} {K : Sl → World → Prop} (hl : SlCls (V M w) l xs) (hlen : xs.length ≤ 100000000) (hK : ∀ l' w', Keeps No w w' → Own w' w.heap.size T.scan_Class 3 l' (xs.map Cls.cells).flatten → K l' w') : slices_Clone_scan_Class.C l w K := by
  refine slices_Clone_scan_Class.ok _ _ _ ?_
  simp only [slices_Clone_scan_Class.M]
  exact clone_rec elCls hl Cls.lens Cls.ones (by simp; omega) (by simp; omega) hK

section
variable {w : World} {s : Option Addr} {cs : List Cls} {N : Nat} {ms : List LSt} {of_ : Nat → Int}

theorem tells_layout (h : ScanV (V No w) s cs N ms of_) {xs : List Tok} {M : Nat → Prop} (hM : ∀ b, M b → w.heap.size ≤ b) {w0 : World} (k0 : Keeps No w w0) : TellsTok (.func (.func FN.scan_Scanner_layout) #[.pointer s] #[]) (layF cs) xs M w0 := by
  intro x _ w1 k1 k hk
  refine ⟨FN.scan_Scanner_layout, #[.pointer s], #[], rfl, by kernel_rfl, ?_⟩
  have h1 : ScanV (V No w1) s cs N ms of_ := h.mono (V.move (k0.no.then k1 fun b hb hm => by have := hM b hm; omega : Keeps No w w1) (fun _ _ h => h.elim) fun _ _ h => h.elim)
  exact scan_layout_spec h1 hk

theorem scan_Solid_spec (h : ScanV (V No w) s cs N ms of_) {M : Nat → Prop} {l : Sl} {xs : List Tok} {K : Sl → World → Prop} (hl : SlTok (V M w) l xs) (hlen : xs.length ≤ 100000000)
    (hK : ∀ l' w', Keeps No w w' → Own w' w.heap.size T.scan_Token 4 l' ((xs.filter fun x => !layF cs x).map Tok.cells).flatten → K l' w') : scan_Scanner_Solid.C s l w K := by
  refine scan_Scanner_Solid.ok _ _ _ _ ?_
  simp only [scan_Scanner_Solid.M]
  rw [h.some_, Br_false]
  refine Clone_tok hl hlen fun l1 w1 k1 ho => ?_
  refine DeleteFunc_tok ho (by omega) (tells_layout h (fun b hb => (ho.ge hb).1) k1) fun l2 w2 k2 ho2 => ?_
  exact hK l2 w2 ((k1.no (M := No)).then k2 fun b hb hm => by have := (ho.ge hm).1; omega) ho2

theorem scan_Classes_spec (h : ScanV (V No w) s cs N ms of_) (hlen : cs.length ≤ 1000) {K : Sl → World → Prop} (hK : ∀ l' w', Keeps No w w' → Own w' w.heap.size T.scan_Class 3 l' (cs.map Cls.cells).flatten → K l' w') : scan_Scanner_Classes.C s w K := by
  obtain ⟨b, lp, l, mm, rfl, h2, h3, h4, h5⟩ := h
  refine scan_Scanner_Classes.ok _ _ _ ?_
  simp only [scan_Scanner_Classes.M]
  simp only [Option.isNone_some, Br_false, NilC_some, add_eq]
  exact Ld.slv (cell_of h2.2 rfl) (Clone_cls h4 (by omega) hK)
end
end Go.Fk
end
