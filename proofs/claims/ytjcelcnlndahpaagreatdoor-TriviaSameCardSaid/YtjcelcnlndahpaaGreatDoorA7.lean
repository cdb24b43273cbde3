/-
  A part of the proof: what the functions of the program come to, read off the model: no premise of its own, no axiom. By an AI agent.
-/
import Derived.Test.YtjcelcnlndahpaaGreatDoorA6
import Derived.Test.YtjcelcnlndahpaaGreatDoorA5
import Derived.Test.YtjcelcnlndahpaaGreatDoorA2
import Derived.DeepKeys3
set_option linter.all false
section
set_option linter.unusedVariables false
namespace Go.Fk
open Go Go.MapKept Go.Maps Go.ChangeMaps

/-! ## An automaton that is made: its memory -/

theorem App.buildG {T : TypeId} {w : World} {parts : Array (Nat × Value)} {cs : Array Value} {K : Array Value → World → Prop} (h : P.built T parts.toList = some cs) (hK : K cs w) : App P (Instr.build T parts) .big w K :=
  ⟨cs, w, run_build w _ parts cs h, hK⟩
theorem AppS.buildG {T : TypeId} {S : World → Prop} {parts : Array (Nat × Value)} {cs : Array Value} {K : Array Value → Prop} (h : P.built T parts.toList = some cs) (hK : K cs) : AppS P S (Instr.build T parts) .big K :=
  ⟨cs, fun w _ => run_build w _ parts cs h, hK⟩

theorem App.slice1G {Tsl T : TypeId} {sz bytes : Nat} {z : Array Value} (hE : Elem P Tsl T (.agg z) sz bytes) {w : World} {c : Array Value} {K : Sl → World → Prop} (hc : c.size = sz) (hs1 : sz ≤ 100000) (hb1 : bytes ≤ 1000000)
    (hK : ∀ b w', New b (.cells c T (0, 0)) w w' → K ⟨some ⟨b, 0, none⟩, 1, 1⟩ w') : App P (Instr.buildSlice Tsl 1 #[(0, .agg c)]) (.one .sl) w K := by
  obtain ⟨i, hi, hzz⟩ := Option.map_eq_some_iff.1 hE.inf
  simp only [Prod.mk.injEq] at hzz
  obtain ⟨hz, hs, hb⟩ := hzz
  have hpos := hE.pos
  have hf := Go.Great.fill_whole (s := sz) hpos [Value.agg c] ((Array.range (1 * sz)).map ((Value.agg z).cells[· % (Value.agg z).cells.size]!)) (fun v hv => by simp at hv; subst hv; simp [Value.cells, hc]) (by simp)
  have e : [Value.agg c].flatMap (fun v => v.cells.toList) = c.toList := by simp [Value.cells]
  rw [e] at hf
  refine Al.mk (o := .cells c T) (w := w) (k := fun b w' => b = w.heap.size → App P (Instr.buildSlice Tsl 1 #[(0, .agg c)]) (.one .sl) w K) (fun b w' hb' hbe => ?_) rfl
  refine Al.mk (o := .cells c T) (w := w) (k := fun b w' => w' = w.alloc (.cells c T) → App P (Instr.buildSlice Tsl 1 #[(0, .agg c)]) (.one .sl) w K) (fun b2 w2 hb2 hbe2 => ?_) rfl
  refine ⟨⟨some ⟨w.heap.size, 0, none⟩, 1, 1⟩, w2, ?_, ?_⟩
  · rw [hbe2]
    refine run_buildSlice w _ _ 1 _ _ i _ hE.sl hi hz (by rw [hs]; omega) (by rw [hs]; omega) ?_
    rw [hs]
    simpa using hf
  · have := hK b2 w2 hb2
    rw [hb2.eq] at this
    exact this

def row256 (f : Nat → Int) : List Value := (List.range 256).map fun i => .int .i64 (f i)
theorem row256_len (f : Nat → Int) : (row256 f).length = 256 := by simp [row256]
theorem row256_get {f : Nat → Int} {i : Nat} (h : i < 256) : (row256 f)[i]? = some (.int .i64 (f i)) := by simp [row256, h]
theorem row256_set {f : Nat → Int} {i : Nat} {v : Int} (h : i < 256) : (row256 f).set i (.int .i64 v) = row256 fun j => if j = i then v else f j := by
  refine List.ext_getElem? fun j => ?_
  rw [List.getElem?_set, row256_len]
  by_cases hj : j < 256
  · rw [row256_get hj, row256_get hj]
    by_cases e : i = j
    · subst e; simp [h]
    · simp [e, Ne.symm e]
  · have e1 : ∀ g : Nat → Int, (row256 g)[j]? = none := fun g => List.getElem?_eq_none (by rw [row256_len]; omega)
    rw [e1, e1]
    have : i ≠ j := by omega
    simp [this]

/-- A state: where its positions lie; the positions; where bytes lead; what it accepts. -/
structure DSt where
  at_ : Sl
  xs : List Int
  nx : Nat → Int
  acc : Int
def DSt.cells (v : DSt) : List Value := .slice v.at_.a v.at_.n v.at_.c :: (row256 v.nx ++ [.int .i64 v.acc])
theorem DSt.len (v : DSt) : v.cells.length = 258 := by simp [DSt.cells, row256_len]
theorem DSt.lens {svs : List DSt} : ∀ c ∈ svs.map DSt.cells, c.length = 258 := fun c hc => by obtain ⟨v, _, rfl⟩ := List.mem_map.1 hc; exact v.len
theorem DSt.get0 (v : DSt) : v.cells[0]? = some (.slice v.at_.a v.at_.n v.at_.c) := rfl
theorem DSt.getN (v : DSt) {i : Nat} (h : i < 256) : v.cells[1 + i]? = some (.int .i64 (v.nx i)) := by
  rw [Nat.add_comm, DSt.cells, List.getElem?_cons_succ, List.getElem?_append_left (by rw [row256_len]; exact h), row256_get h]
theorem DSt.getA (v : DSt) : v.cells[257]? = some (.int .i64 v.acc) := by
  show (row256 v.nx ++ [_])[256]? = _
  rw [List.getElem?_append_right (by rw [row256_len]; omega), row256_len]; rfl
theorem DSt.one (v : DSt) : ∀ u ∈ v.cells, u.oneCell' = true := by
  intro u hu
  simp only [DSt.cells, row256, List.mem_cons, List.mem_append, List.mem_map, List.mem_range, List.not_mem_nil, or_false] at hu
  rcases hu with rfl | ⟨i, _, rfl⟩ | rfl <;> rfl

abbrev stObj (v : DSt) : Obj := .cells v.cells.toArray T.dfa_state (0, 0)
def dCells (p : Option Addr) (l : Sl) (cl : Nat → Int) (nc : Int) : List Value := .pointer p :: .slice l.a l.n l.c :: (row256 cl ++ [.int .i64 nc])
abbrev dObj (p : Option Addr) (l : Sl) (cl : Nat → Int) (nc : Int) : Obj := .cells (dCells p l cl nc).toArray T.dfa_Dfa (0, 0)
theorem dCells_l {p : Option Addr} {l : Sl} {cl : Nat → Int} {nc : Int} : (dCells p l cl nc).toArray[1]? = some (.slice l.a l.n l.c) := rfl

theorem dCells_len {p : Option Addr} {l : Sl} {cl : Nat → Int} {nc : Int} : (dCells p l cl nc).length = 259 := by simp [dCells, row256_len]
theorem dCells_setl {p : Option Addr} {l l' : Sl} {cl : Nat → Int} {nc : Int} : (dCells p l cl nc).toArray.setIfInBounds 1 (.slice l'.a l'.n l'.c) = (dCells p l' cl nc).toArray := by
  rw [List.setIfInBounds_toArray]; rfl

theorem elSt : Elem P T.sl_dfa_state T.dfa_state (.agg (DSt.cells ⟨⟨none, 0, 0⟩, [], fun _ => 0, 0⟩).toArray) 258 2080 := ⟨by kernel_rfl, by kernel_rfl, by simp [Value.cells, DSt.len], by decide⟩
theorem buildSt (a : Option Addr) (n c : Nat) (k : Int) : P.built T.dfa_state [(0, .slice a n c), (2, .int .i64 k)] = some (DSt.cells ⟨⟨a, n, c⟩, [], fun _ => 0, k⟩).toArray := by kernel_rfl
theorem buildSt0 (k : Int) : P.built T.dfa_state [(2, .int .i64 k)] = some (DSt.cells ⟨⟨none, 0, 0⟩, [], fun _ => 0, k⟩).toArray := by kernel_rfl
theorem buildDfa (p a : Option Addr) (n c : Nat) : P.built T.dfa_Dfa [(0, .pointer p), (1, .slice a n c)] = some (dCells p ⟨a, n, c⟩ (fun _ => 0) 0).toArray := by kernel_rfl

theorem strIntTy : MapTy P T.map_string_int T.string T.int .str (.int .i64) := ⟨by kernel_rfl, string_keyed strTy⟩
theorem strKey {s : ByteArray} (h : s.size ≤ maxLen) : OkKey P T.string (.string s) := ⟨.string s.data.toList, by
  have : mapKey P T.string (.string s) = some (.string s.data.toList) := by
    unfold mapKey
    rw [strTy]
    simp [h]
  exact keyOf_of_mapKey this⟩
theorem run_zeroInt (w : World) : (zeroValue T.int).run P w = .ok (.int .i64 0) w := run_zero (by kernel_rfl) w

structure Sts (fs : List ((Nat → Bool) × Int)) (ks : List Kn) (svs : List DSt) : Prop where
  zero : ∃ sv, svs[0]? = some sv ∧ sv.xs = []
  ne : ∀ (i : Nat) sv, svs[i]? = some sv → 0 < i → sv.xs ≠ []
  rise : ∀ sv ∈ svs, sv.xs.Pairwise (· < ·) ∧ ∀ q ∈ sv.xs, 0 ≤ q ∧ q < fs.length
  inj : ∀ (i j : Nat) sv sv', svs[i]? = some sv → svs[j]? = some sv' → sv.xs = sv'.xs → i = j
  acc : ∀ sv ∈ svs, AccOf fs ks sv.xs sv.acc

def KeyR (svs : List DSt) (k : ByteArray) (v : Int) : Prop := ∃ (i : Nat) (sv : DSt), svs[i]? = some sv ∧ 0 < i ∧ k = txt sv.xs ∧ v = i

abbrev Bft (bb bd mm : Nat) (l : Sl) : Nat → Prop := fun b => b = bb ∨ b = bd ∨ b = mm ∨ l.blk b

abbrev bObj (bd mm : Nat) : Obj := .cells #[.pointer (some ⟨bd, 0, none⟩), .map (some mm)] T.dfa_build (0, 0)

structure Bd (w : World) (base bb bd mm : Nat) (p : Option Addr) (fs : List ((Nat → Bool) × Int)) (F : Int → Int → Prop) (ks : List Kn) (l : Sl) (svs : List DSt) : Prop where
  mach : MachO (V (fun b => base ≤ b) w) p fs F ks
  hb : w.heap[bb]? = some (bObj bd mm)
  hd : w.heap[bd]? = some (dObj p l (fun _ => 0) 0)
  own : Own w base T.dfa_state 258 l (svs.map DSt.cells).flatten
  map : MapAt P T.string .str (.int .i64) (V No w) mm (KeyR svs)
  ge : base ≤ bb ∧ base ≤ bd ∧ base ≤ mm
  ne : bb ≠ bd ∧ bb ≠ mm ∧ bd ≠ mm
  foot : ¬ l.blk bb ∧ ¬ l.blk bd ∧ ¬ l.blk mm
  ats : ∀ (i : Nat) sv, svs[i]? = some sv → SlT (.int .i64) (V (Bft bb bd mm l) w) sv.at_ sv.xs ∧ (sv.at_.a.isNone = true ↔ sv.xs = [])
  sts : Sts fs ks svs

section
variable {w : World} {base bb bd mm : Nat} {p : Option Addr} {fs : List ((Nat → Bool) × Int)} {F : Int → Int → Prop} {ks : List Kn} {l : Sl} {svs : List DSt}

theorem Bd.n (h : Bd w base bb bd mm p fs F ks l svs) : l.n = svs.length := by
  have := h.own.len
  rw [flatten_len DSt.lens, List.length_map] at this
  omega
theorem Bd.lt (h : Bd w base bb bd mm p fs F ks l svs) : base ≤ w.heap.size := by have := lt_of_some h.hb; have := h.ge.1; omega

theorem Bd.keep0 {w' : World} (h : Bd w base bb bd mm p fs F ks l svs) (k : Keeps No w w') : Bd w' base bb bd mm p fs F ks l svs where
  mach := h.mach.mono (V.keeps0 k)
  hb := k.blk0 h.hb
  hd := k.blk0 h.hd
  own := h.own.keep0 k
  map := MapAt.mono h.map (V.keeps0 k)
  ge := h.ge
  ne := h.ne
  foot := h.foot
  ats := fun i sv hi => ⟨(h.ats i sv hi).1.mono (V.keeps0 k), (h.ats i sv hi).2⟩
  sts := h.sts

/-- What 'place' comes to. -/
def Placed (fs : List ((Nat → Bool) × Int)) (ks : List Kn) (at_ : Sl) (xs : List Int) (svs svs' : List DSt) (k : Int) : Prop :=
  (xs = [] ∧ k = -1 ∧ svs' = svs) ∨ (xs ≠ [] ∧ ∃ (i : Nat) (sv : DSt), 0 < i ∧ k = i ∧ svs'[i]? = some sv ∧ sv.xs = xs ∧ (svs' = svs ∨ (svs' = svs ++ [⟨at_, xs, fun _ => 0, sv.acc⟩] ∧ i = svs.length)))

theorem Sts.snoc (h : Sts fs ks svs) {at_ : Sl} {xs : List Int} {a : Int} (hne : xs ≠ []) (hr : xs.Pairwise (· < ·) ∧ ∀ q ∈ xs, 0 ≤ q ∧ q < fs.length) (hnew : ∀ (i : Nat) sv, svs[i]? = some sv → sv.xs ≠ xs) (ha : AccOf fs ks xs a) :
    Sts fs ks (svs ++ [⟨at_, xs, fun _ => 0, a⟩]) := by
  have hpos : 0 < svs.length := by
    obtain ⟨sv, h0, _⟩ := h.zero
    exact (List.getElem?_eq_some_iff.1 h0).1
  have key : ∀ (i : Nat) sv, (svs ++ [⟨at_, xs, fun _ => 0, a⟩])[i]? = some sv → svs[i]? = some sv ∨ (i = svs.length ∧ sv = ⟨at_, xs, fun _ => 0, a⟩) := by
    intro i sv hi
    by_cases hl : i < svs.length
    · rw [List.getElem?_append_left hl] at hi; exact .inl hi
    · have := (List.getElem?_eq_some_iff.1 hi).1
      simp at this
      have e : i = svs.length := by omega
      subst e
      simp at hi
      exact .inr ⟨rfl, hi.symm⟩
  refine ⟨?_, ?_, ?_, ?_, ?_⟩
  · obtain ⟨sv, h0, h1⟩ := h.zero
    exact ⟨sv, by rw [List.getElem?_append_left hpos]; exact h0, h1⟩
  · intro i sv hi h0
    rcases key i sv hi with hi | ⟨_, rfl⟩
    · exact h.ne i sv hi h0
    · exact hne
  · intro sv hsv
    rcases List.mem_append.1 hsv with hsv | hsv
    · exact h.rise sv hsv
    · simp at hsv; subst hsv; exact hr
  · intro i j sv sv' hi hj he
    rcases key i sv hi with hi | ⟨e1, rfl⟩ <;> rcases key j sv' hj with hj | ⟨e2, rfl⟩
    · exact h.inj i j sv sv' hi hj he
    · exact absurd he (hnew i sv hi)
    · exact absurd he.symm (hnew j sv' hj)
    · omega
  · intro sv hsv
    rcases List.mem_append.1 hsv with hsv | hsv
    · exact h.acc sv hsv
    · simp at hsv; subst hsv; exact ha

theorem txt_size {xs : List Int} : (txt xs).size = 2 * xs.length := by
  unfold txt
  rw [strOfNums_size]
  induction xs with
  | nil => rfl
  | cons x xs ih => simp [List.flatMap_cons, twoB, ih]; omega

theorem place_spec (h : Bd w base bb bd mm p fs F ks l svs) {at_ : Sl} {xs : List Int} {K : Int → World → Prop} (hat : SlT (.int .i64) (V (Bft bb bd mm l) w) at_ xs) (hnil : at_.a.isNone = true ↔ xs = []) (hr : xs.Pairwise (· < ·) ∧ ∀ q ∈ xs, 0 ≤ q ∧ q < fs.length) (hlen : svs.length ≤ 1000000)
    (hK : ∀ k w' l' svs', Keeps (Bft bb bd mm l) w w' → (∀ c, l'.blk c → l.blk c ∨ w.heap.size ≤ c) → Bd w' base bb bd mm p fs F ks l' svs' → Placed fs ks at_ xs svs svs' k → K k w') : dfa_build_place.C (some ⟨bb, 0, none⟩) at_ w K := by
  have hn := hat.1
  have hfew := h.mach.few
  have hxl : xs.length ≤ 2000 := nodup_bound 2000 xs (hr.1.imp fun {a b} h e => by omega) fun q hq => by have := hr.2 q hq; omega
  have hx16 : ∀ (ys : List Int), (∀ q ∈ ys, 0 ≤ q ∧ q < fs.length) → ∀ x ∈ ys, 0 ≤ x ∧ x < 65536 := fun ys hy x hx => by have := hy x hx; omega
  refine dfa_build_place.ok _ _ _ _ ?_
  simp only [dfa_build_place.M, NilC_some]
  refine Br.mk (fun h0 => ?_) (fun h0 => ?_)
  · have hx : xs = [] := by
      have : (at_.n : Int) = 0 := by simpa using h0
      exact List.eq_nil_of_length_eq_zero (by omega)
    exact hK _ w l svs .refl (fun _ h => .inl h) h (.inl ⟨hx, rfl, rfl⟩)
  · have hx : xs ≠ [] := fun e => by subst e; simp [hn] at h0
    refine dfa_text_spec hat (hx16 xs hr.2) (by omega) fun w1 k1 => ?_
    have h1 := h.keep0 k1
    simp only [add_eq]
    refine Ld.map (cell_of h1.hb rfl) ?_
    have hkey : OkKey P T.string (Ty.str.enc (txt xs)) := strKey (by rw [txt_size]; have : (9223372036854775807 : Nat) = maxLen := rfl; omega)
    refine App.look2 (kt := .str) (vt := .int .i64) (z := 0) strIntTy (run_zeroInt w1) (mo := some mm) h1.map hkey (fun y hy => ?_) (fun hno => ?_)
    · obtain ⟨i, sv, hi, h0', htx, rfl⟩ := hy
      have hxs : sv.xs = xs := (txt_inj (hx16 xs hr.2) (hx16 sv.xs (h.sts.rise sv (List.mem_of_getElem? hi)).2) htx).symm
      exact hK _ w1 l svs k1.no (fun _ h => .inl h) h1 (.inr ⟨hx, i, sv, h0', rfl, hi, hxs, .inl rfl⟩)
    · refine Ld.ptr (cell_of h1.hb rfl) (Ld.sl (cell_of h1.hd dCells_l) (Ld.map (cell_of h1.hb rfl) ?_))
      have hln := h1.n
      rw [hln]
      have hnew : ∀ (i : Nat) sv, svs[i]? = some sv → sv.xs ≠ xs := by
        intro i sv hi e
        by_cases hi0 : 0 < i
        · exact hno i ⟨i, sv, hi, hi0, by rw [e], rfl⟩
        · have : i = 0 := by omega
          subst this
          obtain ⟨sv0, g1, g2⟩ := h.sts.zero
          rw [hi] at g1; cases g1
          exact hx (e ▸ g2)
      refine App0.put (kt := .str) (vt := .int .i64) (x := txt xs) (y := (svs.length : Int)) strIntTy h1.map hkey fun w3 k3 z3 hm3 => ?_
      obtain ⟨ne1, ne2, ne3⟩ := h.ne
      obtain ⟨f1, f2, f3⟩ := h.foot
      have hb3 : w3.heap[bb]? = some (bObj bd mm) := k3.blk h1.hb ne2
      have hd3 : w3.heap[bd]? = some (dObj p l (fun _ => 0) 0) := k3.blk h1.hd ne3
      have hkr : ∀ (a : Int) k v, ((k = txt xs ∧ v = (svs.length : Int)) ∨ (k ≠ txt xs ∧ KeyR svs k v)) ↔ KeyR (svs ++ [⟨at_, xs, fun _ => 0, a⟩]) k v := by
        intro a k v
        have hpos : 0 < svs.length := by
          obtain ⟨sv, h0, _⟩ := h.sts.zero
          exact (List.getElem?_eq_some_iff.1 h0).1
        constructor
        · rintro (⟨rfl, rfl⟩ | ⟨_, i, sv, hi, h0, rfl, rfl⟩)
          · exact ⟨svs.length, ⟨at_, xs, fun _ => 0, a⟩, by simp, hpos, rfl, rfl⟩
          · exact ⟨i, sv, by rw [List.getElem?_append_left (List.getElem?_eq_some_iff.1 hi).1]; exact hi, h0, rfl, rfl⟩
        · rintro ⟨i, sv, hi, h0, rfl, rfl⟩
          by_cases hl : i < svs.length
          · rw [List.getElem?_append_left hl] at hi
            refine .inr ⟨fun e => hno i ⟨i, sv, hi, h0, e.symm, rfl⟩, i, sv, hi, h0, rfl, rfl⟩
          · have := (List.getElem?_eq_some_iff.1 hi).1
            simp at this
            have e : i = svs.length := by omega
            subst e
            simp at hi
            subst hi
            exact .inl ⟨rfl, rfl⟩
      have map4 : MapAt P T.string .str (.int .i64) (V No w3.drew) mm (fun k v => (k = txt xs ∧ v = (svs.length : Int)) ∨ (k ≠ txt xs ∧ KeyR svs k v)) := MapAt.mono hm3 (V.keeps0 .drew)
      refine ⟨fun x => x.heap[bb]? = some (bObj bd mm) ∧ ∃ l', x.heap[bd]? = some (dObj p l' (fun _ => 0) 0), ⟨hb3, l, hd3⟩, ?_⟩
      have kd : Keeps (· = mm) w1 w3.drew := k3.then0 .drew
      generalize w3.drew = w4 at *
      have hb4 : w4.heap[bb]? = some (bObj bd mm) := kd.blk h1.hb ne2
      have hd4 : w4.heap[bd]? = some (dObj p l (fun _ => 0) 0) := kd.blk h1.hd ne3
      have s4 := kd.size
      have hlt := h1.lt
      have kb4 : Keeps (Bft bb bd mm l) w w4 := (k1.no (M := Bft bb bd mm l)).then kd fun c _ hc => .inr (.inr (.inl hc))
      have hat4 : SlT (.int .i64) (V (Bft bb bd mm l) w4) at_ xs := (hat.mono (V.keeps0 k1)).mono (V.move kd (fun c _ hc => .inr (.inr (.inl hc))) fun _ _ h => h)
      have hmach4 : MachO (V (fun b => base ≤ b) w4) p fs F ks := h1.mach.mono (V.move kd (fun c _ hc => by rw [hc]; exact h.ge.2.2) fun _ _ h => h)
      have hmachN : MachO (V No w4) p fs F ks := hmach4.mono (V.sub fun _ _ h => h.elim)
      have hS : ∀ {w' : World}, Keeps No w4 w' → w'.heap[bb]? = some (bObj bd mm) ∧ ∃ l', w'.heap[bd]? = some (dObj p l' (fun _ => 0) 0) := fun k => ⟨k.blk0 hb4, l, k.blk0 hd4⟩
      have own4 : Own w4 base T.dfa_state 258 l (svs.map DSt.cells).flatten := h1.own.keep kd fun c hc hl => f3 (hc ▸ hl)
      have ats4 : ∀ (i : Nat) sv, svs[i]? = some sv → SlT (.int .i64) (V (Bft bb bd mm l) w4) sv.at_ sv.xs ∧ (sv.at_.a.isNone = true ↔ sv.xs = []) := fun i sv hi => ⟨(h1.ats i sv hi).1.mono (V.move kd (fun c _ hc => .inr (.inr (.inl hc))) fun _ _ h => h), (h1.ats i sv hi).2⟩
      -- the state is appended, the row is laid
      have tail : ∀ {w' : World} {b : Nat} {a : Int}, Keeps No w4 w' → w4.heap.size ≤ b → AccOf fs ks xs a → w'.heap[b]? = some (stObj ⟨at_, xs, fun _ => 0, a⟩) →
          App P (Builtin.append_ #[T.sl_dfa_state, T.sl_dfa_state] T.sl_dfa_state #[.slice l.a l.n l.c, .slice (some ⟨b, 0, none⟩) 1 1]) (.one .sl) w' fun x61 w7 => ((w7.heap[bb]? = some (bObj bd mm) ∧ ∃ l', w7.heap[bd]? = some (dObj p l' (fun _ => 0) 0)) ∧
            St ⟨bd, 0 + 1, none⟩ (.slice x61.a x61.n x61.c) w7 fun w8 => ((w8.heap[bb]? = some (bObj bd mm) ∧ ∃ l', w8.heap[bd]? = some (dObj p l' (fun _ => 0) 0)) ∧ K (svs.length : Int) w8)) := by
        intro w' b a k' hbge ha hbn
        have z' := k'.size
        refine appendC (c := DSt.cells ⟨at_, xs, fun _ => 0, a⟩) elSt (own4.keep0 k') (DSt.len _) hbn (DSt.one _) (by omega) (by omega) (by omega) fun l' w7 o7 n7 k7 g7 => ?_
        obtain ⟨g, hg1, hg2⟩ := g7
        have hblk : ∀ c, l'.blk c → l.blk c ∨ w4.heap.size ≤ c := by
          rintro c ⟨ad, ha', rfl⟩
          rw [hg1] at ha'; cases ha'
          exact hg2.imp id fun h => by show w4.heap.size ≤ g; omega
        have hb7 : w7.heap[bb]? = some (bObj bd mm) := k7.blk (k'.blk0 hb4) f1
        have hd7 : w7.heap[bd]? = some (dObj p l (fun _ => 0) 0) := k7.blk (k'.blk0 hd4) f2
        refine ⟨⟨hb7, l, hd7⟩, ?_⟩
        refine St.blk hd7 (by rw [List.size_toArray, dCells_len]; omega) fun w8 u8 => ?_
        have hd8 : w8.heap[bd]? = some (dObj p l' (fun _ => 0) 0) := by have := u8.at_; rw [show (0 + 1) = 1 from rfl, dCells_setl] at this; exact this
        have hb8 : w8.heap[bb]? = some (bObj bd mm) := u8.keeps.blk hb7 ne1
        refine ⟨⟨hb8, l', hd8⟩, ?_⟩
        have lt_bb := lt_of_some hb4; have lt_bd := lt_of_some hd4; have lt_mm := MapAt.lt map4
        have f1' : ¬ l'.blk bb := fun h => (hblk _ h).elim f1 fun h' => by omega
        have f2' : ¬ l'.blk bd := fun h => (hblk _ h).elim f2 fun h' => by omega
        have f3' : ¬ l'.blk mm := fun h => (hblk _ h).elim f3 fun h' => by omega
        have k48 : Keeps (fun c => c = bd ∨ l.blk c) w4 w8 := ((k'.no (M := fun c => c = bd ∨ l.blk c)).trans (k7.mono fun c _ hc => .inr hc)).trans (u8.keeps.mono fun c _ hc => .inl hc)
        have mv : Vle (V (Bft bb bd mm l) w4) (V (Bft bb bd mm l') w8) := V.move k48 (fun c _ hc => by rcases hc with h | h; { exact .inr (.inl h) }; { exact .inr (.inr (.inr h)) }) fun c hc hm => by
          rcases hm with h | h | h | h
          · exact .inl h
          · exact .inr (.inl h)
          · exact .inr (.inr (.inl h))
          · exact .inr (.inr (.inr ((hblk c h).resolve_right (by omega))))
        refine hK _ w8 l' (svs ++ [⟨at_, xs, fun _ => 0, a⟩]) (kb4.then k48 fun c _ hc => by rcases hc with hc | hc; { exact .inr (.inl hc) }; { exact .inr (.inr (.inr hc)) }) (fun c hc => (hblk c hc).imp id fun h' => by have := kb4.size; omega) ⟨?_, hb8, hd8, ?_, ?_, h.ge, ⟨ne1, ne2, ne3⟩, ⟨f1', f2', f3'⟩, ?_, h.sts.snoc hx hr hnew ha⟩ (.inr ⟨hx, svs.length, ⟨at_, xs, fun _ => 0, a⟩, ?_, rfl, by simp, rfl, .inr ⟨rfl, rfl⟩⟩)
        · exact hmach4.mono (V.move k48 (fun c _ hc => by rcases hc with rfl | hc; { exact h.ge.2.1 }; { exact (own4.ge hc).1 }) fun _ _ h => h)
        · have := o7.keep u8.keeps fun c hc hl => f2' (hc ▸ hl)
          simpa using this
        · exact MapAt.congr (map4.keep k48 (fun hc => by rcases hc with e | hc; { exact ne3 e.symm }; { exact f3 hc }) id) (hkr a)
        · intro i sv hi
          by_cases hl : i < svs.length
          · rw [List.getElem?_append_left hl] at hi
            exact ⟨(ats4 i sv hi).1.mono mv, (ats4 i sv hi).2⟩
          · have := (List.getElem?_eq_some_iff.1 hi).1
            simp at this
            have e : i = svs.length := by omega
            subst e
            simp at hi
            subst hi
            exact ⟨hat4.mono mv, hnil⟩
        · obtain ⟨sv, h0, _⟩ := h.sts.zero
          exact (List.getElem?_eq_some_iff.1 h0).1
      have ldp : ∀ {k : Option Addr → Prop}, k (some ⟨bd, 0, none⟩) → LdS (fun x => x.heap[bb]? = some (bObj bd mm) ∧ ∃ l', x.heap[bd]? = some (dObj p l' (fun _ => 0) 0)) .ptr ⟨bb, 0, none⟩ k := fun {k} hk => LdS.of (t := .ptr) (v := some ⟨bd, 0, none⟩) (fun w' hw' => cell_of hw'.1 rfl) hk
      have ldm : ∀ {k : Option Addr → Prop}, k p → LdS (fun x => x.heap[bb]? = some (bObj bd mm) ∧ ∃ l', x.heap[bd]? = some (dObj p l' (fun _ => 0) 0)) .ptr ⟨bd, 0, none⟩ k := fun {k} hk => LdS.of (t := .ptr) (v := p) (fun w' hw' => by obtain ⟨_, l', hw'⟩ := hw'; exact cell_of hw' rfl) hk
      have bld : ∀ {w' : World} {a : Int} {k : Sl → World → Prop}, Keeps No w4 w' → (∀ b w'', Keeps No w4 w'' → w4.heap.size ≤ b → w''.heap[b]? = some (stObj ⟨at_, xs, fun _ => 0, a⟩) → k ⟨some ⟨b, 0, none⟩, 1, 1⟩ w'') →
          App P (Instr.buildSlice T.sl_dfa_state 1 #[(0, .agg (DSt.cells ⟨at_, [], fun _ => 0, a⟩).toArray)]) (.one .sl) w' k := by
        intro w' a k k' hk
        refine App.slice1G elSt (by simp [DSt.len]) (by omega) (by omega) fun b w'' n => hk b w'' (k'.trans n.keeps) (by have := n.eq; have := k'.size; omega) n.at_
      refine ldp (ldp (ldp (ldm ⟨?_, ?_⟩)))
      · refine Ld.sl (cell_of hd4 dCells_l) ⟨hS .refl, ?_⟩
        refine dfa_accept_spec hmachN hat4 (by omega) fun a w5 k5 ha => ⟨hS k5, ?_⟩
        refine AppS.buildG (buildSt _ _ _ _) ?_
        exact bld k5 fun b w6 k6 g6 h6 => ⟨hS k6, tail k6 g6 ha h6⟩
      · refine dfa_accept_spec hmachN hat4 (by omega) fun a w5 k5 ha => ⟨hS k5, ?_⟩
        refine AppS.buildG (buildSt _ _ _ _) ⟨?_, ?_⟩
        · refine Ld.sl (cell_of (k5.blk0 hd4) dCells_l) ⟨hS k5, ?_⟩
          exact bld k5 fun b w6 k6 g6 h6 => ⟨hS k6, tail k6 g6 ha h6⟩
        · refine bld k5 fun b w6 k6 g6 h6 => ⟨hS k6, ?_⟩
          exact Ld.sl (cell_of (k6.blk0 hd4) dCells_l) ⟨hS k6, tail k6 g6 ha h6⟩
end
end Go.Fk
end

section
set_option linter.unusedVariables false
namespace Go.Fk
open Go Go.MapKept

/-! ## Records that are written -/

theorem Own.cellput {w : World} {base E size : Nat} {l : Sl} {xs : List Value} {k : Nat} {v : Value} (h : Own w base E size l xs) (hk : k < xs.length) :
    ∃ g cur, l.a = some ⟨g, 0, none⟩ ∧ w.heap[g]? = some (.cells cur E (0, 0)) ∧ k < cur.size ∧ ∀ w', Upd g (.cells (cur.setIfInBounds k v) E (0, 0)) w w' → Own w' base E size l (xs.set k v) := by
  rcases h.2 with ⟨hv, hn⟩ | ⟨g, cap, cur, hv, hge, hg, hnc, hcm, hcs, htake⟩
  · have := h.1
    simp only [hn, Nat.zero_mul] at this
    omega
  · have hlen := h.1
    have hks : k < cur.size := by
      have : (cur.toList.take (l.n * size)).length ≤ cur.toList.length := List.length_take_le' _ _
      rw [htake] at this
      simp at this
      omega
    have hv' := hv
    simp only [Sl.val, Value.slice.injEq] at hv'
    refine ⟨g, cur, hv'.1, hg, hks, fun w' u => ⟨by simpa using hlen, .inr ⟨g, cap, _, hv, hge, u.at_, hnc, hcm, by simpa using hcs, ?_⟩⟩⟩
    rw [Array.toList_setIfInBounds, List.take_set, htake]

theorem flatten_set {α : Type} {sz : Nat} : ∀ {xs : List (List α)}, (∀ c ∈ xs, c.length = sz) → ∀ {i j : Nat} {c : List α} {u : α}, xs[i]? = some c → j < sz → xs.flatten.set (i * sz + j) u = (xs.set i (c.set j u)).flatten
  | [], _, i, j, c, u, h, _ => by simp at h
  | x :: xs, hl, 0, j, c, u, h, hj => by
    simp at h; subst h
    have := hl x (by simp)
    simp only [Nat.zero_mul, Nat.zero_add, List.flatten_cons, List.set_cons_zero]
    rw [List.set_append_left _ _ (by omega)]
  | x :: xs, hl, i + 1, j, c, u, h, hj => by
    simp at h
    have h2 := hl x (by simp)
    rw [List.flatten_cons, List.set_cons_succ, List.flatten_cons, ← flatten_set (fun c hc => hl c (by simp [hc])) h hj]
    rw [List.set_append_right _ _ (by rw [h2, Nat.add_mul]; omega), h2]
    congr 2
    rw [Nat.add_mul]; omega
end Go.Fk
end

section
set_option linter.unusedVariables false
namespace Go.Fk
open Go

theorem Clo.congr {R S : Nat → Nat → Prop} (h : ∀ i j, R i j ↔ S i j) {i j : Nat} : Clo R i j ↔ Clo S i j := ⟨Clo.mono fun i j => (h i j).1, Clo.mono fun i j => (h i j).2⟩

theorem Re.m_norm {s : List UInt8} (x : Re) : ∀ {i j : Nat}, x.norm.m s i j ↔ x.m s i j := by
  induction x with
  | set f =>
    intro i j
    simp only [Re.norm, Re.m]
    constructor
    · rintro ⟨h, c, hc, hf⟩
      refine ⟨h, c, hc, ?_⟩
      have := c.toNat_lt
      simpa [this] using hf
    · rintro ⟨h, c, hc, hf⟩
      refine ⟨h, c, hc, ?_⟩
      have := c.toNat_lt
      simpa [this] using hf
  | empty => intro i j; exact Iff.rfl
  | cat a b iha ihb => intro i j; simp only [Re.norm, Re.m, iha, ihb]
  | or a b iha ihb => intro i j; simp only [Re.norm, Re.m, iha, ihb]
  | star a ih => intro i j; exact Clo.congr fun i j => ih
theorem m_of_norm {s : List UInt8} {x y : Re} (h : y.norm = x.norm) {i j : Nat} : y.m s i j ↔ x.m s i j := by rw [← Re.m_norm y, h, Re.m_norm x]

theorem mach_rule (ys : List Re) : ∀ (n r : Int) (i : Nat) (y : Re), ys[i]? = some y → ∃ off : Int, n ≤ off ∧ (mKs n ys)[i]? = some ⟨y.first off, y.last off, y.emp⟩ ∧ (∀ (k : Nat) f, y.poss[k]? = some f → (mFs r ys)[(off - n).toNat + k]? = some (f, r + i)) ∧
    ∀ p q, off ≤ p → p < off + y.cnt → (mFol n ys p q ↔ y.fol off p q) := by
  induction ys with
  | nil => intro n r i y h; simp at h
  | cons x xs ih =>
    intro n r i y h
    cases i with
    | zero =>
      simp at h; subst h
      refine ⟨n, Int.le_refl _, rfl, fun k f hk => ?_, fun p q h1 h2 => ?_⟩
      · have hlt : k < x.poss.length := (List.getElem?_eq_some_iff.1 hk).1
        simp only [mFs, Int.sub_self]
        rw [List.getElem?_append_left (by simpa using hlt)]
        simp [hk]
      · simp only [mFol]
        constructor
        · rintro (h | h)
          · exact h
          · have := (fol_rule xs _ 0 _ _ h).1; omega
        · exact .inl
    | succ i =>
      simp at h
      obtain ⟨off, h1, h2, h3, h4⟩ := ih (n + x.cnt) (r + 1) i y h
      refine ⟨off, by omega, by simpa [mKs] using h2, fun k f hk => ?_, fun p q g1 g2 => ?_⟩
      · simp only [mFs]
        have := h3 k f hk
        rw [poss_skip (by omega)]
        have e : (off - n).toNat + k - x.cnt = (off - (n + x.cnt)).toNat + k := by omega
        rw [e, this]
        simp; omega
      · simp only [mFol]
        rw [← h4 p q g1 g2]
        constructor
        · rintro (h | h)
          · have := Re.fol_in h; omega
          · exact h
        · exact .inr

/-- The run of a rule tells what the expression means. -/
theorem okP_iff {ys : List Re} {i : Nat} {y : Re} (h : ys[i]? = some y) (s : List UInt8) (t : Nat) : okP (mFs 0 ys) (mFol 0 ys) (knAt (mKs 0 ys) i) s t ↔ y.m s 0 t := by
  obtain ⟨off, h1, h2, h3, h4⟩ := mach_rule ys 0 0 i y h
  have hk : knAt (mKs 0 ys) i = ⟨y.first off, y.last off, y.emp⟩ := knAt_in (by omega) (by simpa using h2)
  have hfit : Fits (hasAt (mFs 0 ys)) y off := by
    intro k f hk c hc
    have := h3 k f hk
    have e : (off + k).toNat = (off - 0).toNat + k := by omega
    rw [hasAt_in (by omega) (by rw [e]; exact this)]
  rw [acc_iff y off hfit 0 t, hk]
  have hp : ∀ p q, y.first off p → (Pth (mFol 0 ys) (hasAt (mFs 0 ys)) s 0 p t q ↔ Pth (y.fol off) (hasAt (mFs 0 ys)) s 0 p t q) := by
    intro p q hp
    constructor
    · intro t
      exact (t.stay (Q := fun p => off ≤ p ∧ p < off + y.cnt) (fun p q h hp => by
        have := (h4 p q hp.1 hp.2).1 h
        exact ⟨this, (Re.fol_in this).2⟩) (Re.first_in hp)).2
    · intro t
      exact t.mono fun p q h => (h4 p q (Re.fol_in h).1.1 (Re.fol_in h).1.2).2 h
  constructor
  · rintro (⟨rfl, e⟩ | ⟨q, ⟨p, f, g⟩, l⟩)
    · exact .inl ⟨rfl, e⟩
    · exact .inr ⟨p, q, f, l, (hp p q f).1 g⟩
  · rintro (⟨rfl, e⟩ | ⟨p, q, f, l, g⟩)
    · exact .inl ⟨rfl, e⟩
    · exact .inr ⟨q, ⟨p, f, (hp p q f).2 g⟩, l⟩
end Go.Fk
end

section
set_option linter.unusedVariables false
namespace Go.Fk
open Go Go.MapKept

/-! ## Where a state leads -/

def stepS (fs : List ((Nat → Bool) × Int)) (F : Int → Int → Prop) (ks : List Kn) (xs : List Int) (c : Nat) (q : Int) : Prop := nextSet fs F ks xs q ∧ hasAt fs q c = true
def GoodN (fs : List ((Nat → Bool) × Int)) (F : Int → Int → Prop) (ks : List Kn) (svs : List DSt) (xs : List Int) (k : Int) (c : Nat) : Prop :=
  (k = -1 ∧ ∀ q, ¬ stepS fs F ks xs c q) ∨ ∃ (i : Nat) (sv : DSt), 0 < i ∧ k = i ∧ svs[i]? = some sv ∧ ∀ q, q ∈ sv.xs ↔ stepS fs F ks xs c q

/-- States' positions stay where they are. -/
def Ext (svs svs' : List DSt) : Prop := ∀ (i : Nat) sv, svs[i]? = some sv → ∃ sv', svs'[i]? = some sv' ∧ sv'.xs = sv.xs
theorem Ext.refl {svs : List DSt} : Ext svs svs := fun i sv h => ⟨sv, h, rfl⟩
theorem Ext.trans {a b c : List DSt} (h : Ext a b) (h' : Ext b c) : Ext a c := fun i sv hi => by
  obtain ⟨s1, h1, e1⟩ := h i sv hi
  obtain ⟨s2, h2, e2⟩ := h' i s1 h1
  exact ⟨s2, h2, e2.trans e1⟩
theorem Ext.app {svs l : List DSt} : Ext svs (svs ++ l) := fun i sv h => ⟨sv, by rw [List.getElem?_append_left (List.getElem?_eq_some_iff.1 h).1]; exact h, rfl⟩

section
variable {fs : List ((Nat → Bool) × Int)} {F : Int → Int → Prop} {ks : List Kn} {svs svs' : List DSt} {xs : List Int} {k : Int} {c : Nat}
theorem GoodN.mono (h : GoodN fs F ks svs xs k c) (he : Ext svs svs') : GoodN fs F ks svs' xs k c := by
  rcases h with h | ⟨i, sv, h0, h1, h2, h3⟩
  · exact .inl h
  · obtain ⟨sv', g1, g2⟩ := he i sv h2
    exact .inr ⟨i, sv', h0, h1, g1, fun q => by rw [g2]; exact h3 q⟩
end

/-- The highest number met, if each is at most one more than what was met. -/
def goTop : List Int → Int → Option Int
  | [], t => some t
  | k :: l, t => if k < 0 then goTop l t else if t + 1 < k then none else goTop l (if t < k then k else t)
theorem goTop_append (l m : List Int) : ∀ t, goTop (l ++ m) t = (goTop l t).bind (goTop m) := by
  induction l with
  | nil => intro t; rfl
  | cons k l ih =>
    intro t
    simp only [List.cons_append, goTop]
    split
    · exact ih t
    · split
      · rfl
      · exact ih _

def nxAt (svs : List DSt) (i : Nat) : Nat → Int := ((svs[i]?).map DSt.nx).getD fun _ => 0
def rowL (f : Nat → Int) : List Int := (List.range 256).map f
def seqOf (n c : Nat) (svs : List DSt) : List Int := (List.range n).flatMap (fun i => rowL (nxAt svs i)) ++ (List.range c).map (nxAt svs n)

theorem seqOf_full {n : Nat} {svs : List DSt} : seqOf (n + 1) 0 svs = seqOf n 256 svs := by
  unfold seqOf
  rw [List.range_succ, List.flatMap_append]
  simp only [List.flatMap_cons, List.flatMap_nil, List.append_nil, List.range_zero, List.map_nil]
  rfl
theorem seqOf_succ {n c : Nat} {svs : List DSt} : seqOf n (c + 1) svs = seqOf n c svs ++ [nxAt svs n c] := by
  unfold seqOf
  rw [List.range_succ, List.map_append, ← List.append_assoc]
  rfl
theorem flatMap_congr' {α β : Type} {l : List α} {f g : α → List β} (h : ∀ x ∈ l, f x = g x) : l.flatMap f = l.flatMap g := by
  rw [List.flatMap_def, List.flatMap_def, List.map_congr_left h]
theorem seqOf_congr {n c : Nat} {svs svs' : List DSt} (h : ∀ i, i < n → nxAt svs i = nxAt svs' i) (h' : ∀ j, j < c → nxAt svs n j = nxAt svs' n j) : seqOf n c svs = seqOf n c svs' := by
  unfold seqOf
  congr 1
  · exact flatMap_congr' fun i hi => by rw [h i (by simpa using hi)]
  · exact List.map_congr_left fun j hj => h' j (by simpa using hj)

structure Done (fs : List ((Nat → Bool) × Int)) (F : Int → Int → Prop) (ks : List Kn) (n c : Nat) (svs : List DSt) : Prop where
  rows : ∀ (i : Nat) sv, i < n → svs[i]? = some sv → ∀ c', c' < 256 → GoodN fs F ks svs sv.xs (sv.nx c') c'
  part : ∀ sv, svs[n]? = some sv → ∀ c', c' < c → GoodN fs F ks svs sv.xs (sv.nx c') c'
  top : goTop (seqOf n c svs) 0 = some ((svs.length : Int) - 1)
  met : ∀ v : Nat, 0 < v → v < svs.length → ∃ j b : Nat, j < v ∧ ((j < n ∧ b < 256) ∨ (j = n ∧ b < c)) ∧ nxAt svs j b = v

theorem Done.next {fs : List ((Nat → Bool) × Int)} {F : Int → Int → Prop} {ks : List Kn} {n : Nat} {svs : List DSt} (h : Done fs F ks n 256 svs) : Done fs F ks (n + 1) 0 svs :=
  ⟨fun i sv hi hs c' hc => by
    by_cases e : i = n
    · subst e; exact h.part sv hs c' hc
    · exact h.rows i sv (by omega) hs c' hc, fun sv hs c' hc => by omega, by rw [seqOf_full]; exact h.top, fun v h0 hv => by
    obtain ⟨j, b, h1, h2, h3⟩ := h.met v h0 hv
    exact ⟨j, b, h1, by omega, h3⟩⟩

/-- The next is laid. -/
def DSt.put (v : DSt) (c : Nat) (k : Int) : DSt := { v with nx := fun j => if j = c then k else v.nx j }
theorem DSt.put_cells (v : DSt) {c : Nat} {k : Int} (h : c < 256) : v.cells.set (1 + c) (.int .i64 k) = (v.put c k).cells := by
  rw [Nat.add_comm, DSt.cells, List.set_cons_succ, List.set_append_left _ _ (by rw [row256_len]; exact h), row256_set h]
  rfl

theorem Ext.put {svs : List DSt} {n : Nat} {v : DSt} {c : Nat} {k : Int} (h : svs[n]? = some v) : Ext svs (svs.set n (v.put c k)) := by
  intro i sv hi
  by_cases e : n = i
  · subst e
    rw [h] at hi; cases hi
    exact ⟨v.put c k, by rw [List.getElem?_set]; simp [(List.getElem?_eq_some_iff.1 h).1], rfl⟩
  · exact ⟨sv, by rw [List.getElem?_set_ne e]; exact hi, rfl⟩

theorem Done.step {fs : List ((Nat → Bool) × Int)} {F : Int → Int → Prop} {ks : List Kn} {n c : Nat} {svs svs1 : List DSt} {v : DSt} {k : Int} (h : Done fs F ks n c svs) (hn : svs[n]? = some v) (hn1 : svs1[n]? = some v)
    (hs : svs1 = svs ∧ k < svs.length ∨ (∃ u, svs1 = svs ++ [u]) ∧ k = svs.length) (hg : GoodN fs F ks svs1 v.xs k c) (hk : -1 ≤ k) : Done fs F ks n (c + 1) (svs1.set n (v.put c k)) := by
  have hlt := (List.getElem?_eq_some_iff.1 hn).1
  have he1 : Ext svs svs1 := by
    rcases hs with ⟨rfl, _⟩ | ⟨⟨u, rfl⟩, _⟩
    · exact .refl
    · exact .app
  have hput : (svs1.set n (v.put c k))[n]? = some (v.put c k) := by rw [List.getElem?_set]; simp [(List.getElem?_eq_some_iff.1 hn1).1]
  have he2 : Ext svs1 (svs1.set n (v.put c k)) := .put hn1
  have hold : ∀ i, i ≠ n → i < svs.length → (svs1.set n (v.put c k))[i]? = svs[i]? := by
    intro i hi hl
    rw [List.getElem?_set_ne (Ne.symm hi)]
    rcases hs with ⟨rfl, _⟩ | ⟨⟨u, rfl⟩, _⟩
    · rfl
    · rw [List.getElem?_append_left hl]
  have oldMet : ∀ v' : Nat, 0 < v' → v' < svs.length → ∃ j b : Nat, j < v' ∧ ((j < n ∧ b < 256) ∨ (j = n ∧ b < c + 1)) ∧ nxAt (svs1.set n (v.put c k)) j b = v' := by
    intro v' h0 hv
    obtain ⟨j, b, h1, h2, h3⟩ := h.met v' h0 hv
    refine ⟨j, b, h1, by omega, ?_⟩
    rw [← h3]
    rcases h2 with ⟨h4, _⟩ | ⟨rfl, h4⟩
    · unfold nxAt; rw [hold j (by omega) (by omega)]
    · unfold nxAt
      rw [hput, hn]
      have : b ≠ c := by omega
      simp [DSt.put, this]
  refine ⟨fun i sv hi hsv c' hc => ?_, fun sv hsv c' hc => ?_, ?_, fun v' h0 hv => ?_⟩
  · rw [hold i (by omega) (by omega)] at hsv
    exact (h.rows i sv hi hsv c' hc).mono (he1.trans he2)
  · rw [hput] at hsv
    cases hsv
    by_cases e : c' = c
    · subst e
      simp only [DSt.put, if_true]
      exact hg.mono he2
    · simp only [DSt.put, e, if_false]
      exact (h.part v hn c' (by omega)).mono (he1.trans he2)
  · have e1 : seqOf n (c + 1) (svs1.set n (v.put c k)) = seqOf n c svs ++ [k] := by
      rw [seqOf_succ]
      congr 1
      · refine seqOf_congr (fun i hi => ?_) fun j hj => ?_
        · unfold nxAt; rw [hold i (by omega) (by omega)]
        · unfold nxAt
          rw [hput, hn]
          have : j ≠ c := by omega
          simp [DSt.put, this]
      · unfold nxAt
        rw [hput]
        simp [DSt.put]
    rw [e1, goTop_append, h.top]
    simp only [Option.bind_some, goTop, List.length_set]
    rcases hs with ⟨rfl, hk2⟩ | ⟨⟨u, rfl⟩, rfl⟩
    · by_cases hk0 : k < 0
      · simp [hk0]
      · rw [if_neg hk0, if_neg (by omega), if_neg (by omega)]
    · rw [if_neg (by omega), if_neg (by omega), if_pos (by omega)]
      simp
  · rw [List.length_set] at hv
    by_cases hlt' : v' < svs.length
    · exact oldMet v' h0 hlt'
    · rcases hs with ⟨rfl, _⟩ | ⟨⟨u, rfl⟩, rfl⟩
      · exact absurd hv hlt'
      · simp only [List.length_append, List.length_cons, List.length_nil] at hv
        have : v' = svs.length := by omega
        subst this
        refine ⟨n, c, hlt, by omega, ?_⟩
        unfold nxAt
        rw [hput]
        simp [DSt.put]

theorem cell_keep {w w' : World} {a : Addr} {u : Value} (h : w.cell? a = some u) (k : Keeps No w w') : w'.cell? a = some u := by
  unfold World.cell? at h ⊢
  split at h
  · rename_i c e fr hb
    rw [k.blk0 hb]
    exact h
  · cases h

section
variable {w : World} {base bb bd mm : Nat} {p : Option Addr} {fs : List ((Nat → Bool) × Int)} {F : Int → Int → Prop} {ks : List Kn} {l : Sl} {svs : List DSt}

set_option maxRecDepth 20000 in
theorem fill_spec (h : Bd w base bb bd mm p fs F ks l svs) {n : Nat} {v : DSt} {K : Unit → World → Prop} (hv : svs[n]? = some v) (hd : Done fs F ks n 0 svs) (hlen : svs.length ≤ 2000) (hks : ks.length ≤ 2000)
    (hK : ∀ w' l' svs', Keeps (fun b => base ≤ b) w w' → Bd w' base bb bd mm p fs F ks l' svs' → Done fs F ks (n + 1) 0 svs' → svs.length ≤ svs'.length → svs'.length ≤ svs.length + 256 → K () w') : dfa_build_fill.C (some ⟨bb, 0, none⟩) n w K := by
  have hln := h.n
  have hnl := (List.getElem?_eq_some_iff.1 hv).1
  have hvm := List.mem_of_getElem? hv
  have hfew := h.mach.few
  have hxr := h.sts.rise v hvm
  have hxl : v.xs.length ≤ 2000 := nodup_bound 2000 v.xs (hxr.1.imp fun {a b} h e => by omega) fun q hq => by have := hxr.2 q hq; omega
  refine dfa_build_fill.ok _ _ _ _ ?_
  simp only [dfa_build_fill.M, NilC_some]
  refine ⟨fun x => Keeps No w x, .drew, ?_⟩
  have ldp : ∀ {k : Option Addr → Prop}, k (some ⟨bd, 0, none⟩) → LdS (fun x => Keeps No w x) .ptr ⟨bb, 0, none⟩ k := fun {k} hk => LdS.of (t := .ptr) (v := some ⟨bd, 0, none⟩) (fun w' hw' => cell_of (hw'.blk0 h.hb) rfl) hk
  refine ldp ?_
  simp only [NilC_some]
  refine LdS.of (t := .ptr) (v := p) (fun w' hw' => cell_of (hw'.blk0 h.hd) rfl) (ldp ?_)
  simp only [NilC_some, add_eq]
  refine LdS.of (t := .sl) (v := l) (fun w' hw' => cell_of (hw'.blk0 h.hd) dCells_l) ?_
  refine IdxS.recd (h.own.readsC (M := No) (by omega) DSt.lens fun _ _ h => h) (by omega) (by simp; omega) fun g off c hc hcell => ?_
  simp only [Int.toNat_natCast, List.getElem?_map, hv, Option.map_some, Option.some.injEq] at hc
  subst hc
  refine LdS.of (t := .sl) (v := v.at_) (fun w' hw' => cell_keep (hcell 0 _ v.get0) hw') ?_
  have h1 := h.keep0 (Keeps.drew (w := w))
  have kd : Keeps No w w.drew := .drew
  generalize w.drew = w1 at *
  have hm1 : MachO (V No w1) p fs F ks := h1.mach.mono (V.sub fun _ _ h => h.elim)
  refine dfa_behind_spec hm1 (h1.ats n v hv).1 (h1.ats n v hv).2 hxr.2 hxl hks fun lb ys w2 k2 ob rb => ⟨kd.trans k2, ?_⟩
  have h2 := h1.keep0 k2
  have hyl : ys.length ≤ 2000 := nodup_bound 2000 ys (rb.1.imp fun {a b} h e => by omega) fun q hq => by
    rcases (rb.2 q).1 hq with ⟨_, r, hr, hf⟩ | ⟨p', hp', hf⟩
    · have := hm1.kin r q (.inl hf); omega
    · have := hm1.fin (hxr.2 p' hp') hf; omega
  have hyin : ∀ q ∈ ys, 0 ≤ q ∧ q < fs.length := fun q hq => by
    rcases (rb.2 q).1 hq with ⟨_, r, hr, hf⟩ | ⟨p', hp', hf⟩
    · exact hm1.kin r q (.inl hf)
    · exact hm1.fin (hxr.2 p' hp') hf
  have hbn : lb.n = ys.length := by have := ob.len; simpa using this.symm
  have lt1 : ∀ c, Bft bb bd mm l c → c < w1.heap.size := fun c hc => by
    rcases hc with rfl | rfl | rfl | hc
    · exact lt_of_some h1.hb
    · exact lt_of_some h1.hd
    · exact MapAt.lt h1.map
    · exact (h1.own.ge hc).2
  have hsb : SlT (.int .i64) (V (Bft bb bd mm l) w2) lb ys := ob.reads fun c hc hm => by have := (ob.ge hc).1; have := lt1 c hm; omega
  have k12 : Keeps (fun b => base ≤ b) w w2 := (kd.trans k2).no
  -- the bytes
  refine Loop.mk (fun s w' => Keeps (fun b => base ≤ b) w w' ∧ ∃ (c : Nat) (l' : Sl) (svs' : List DSt), c ≤ 256 ∧ s = (c : Int) ∧ Bd w' base bb bd mm p fs F ks l' svs' ∧ SlT (.int .i64) (V (Bft bb bd mm l') w') lb ys ∧ Done fs F ks n c svs' ∧ (∃ v', svs'[n]? = some v' ∧ v'.xs = v.xs) ∧ svs.length ≤ svs'.length ∧ svs'.length ≤ svs.length + c) (fun s => 256 - s.toNat)
    ⟨k12, 0, l, svs, by omega, rfl, h2, hsb, hd, ⟨v, hv, rfl⟩, by omega, by omega⟩ ?_
  rintro s w3 ⟨k3, c, l3, svs3, hc, rfl, h3, hsb3, hd3, ⟨v3, hv3, hvx⟩, hle3, hge3⟩ R hR
  refine Br.mk (fun ht => ?_) (fun hf => ?_)
  · have ht : c < 256 := by have := of_decide_eq_true ht; omega
    have hln3 := h3.n
    have hnl3 := (List.getElem?_eq_some_iff.1 hv3).1
    have lt3 : ∀ b, Bft bb bd mm l3 b → b < w3.heap.size := fun b hb => by
      rcases hb with rfl | rfl | rfl | hb
      · exact lt_of_some h3.hb
      · exact lt_of_some h3.hd
      · exact MapAt.lt h3.map
      · exact (h3.own.ge hb).2
    refine Loop.mk (fun t w' => Keeps No w3 w' ∧ ∃ (i : Nat) (zs : List Int), i ≤ ys.length ∧ t.2 = (i : Int) ∧ Own w' w3.heap.size T.int 1 t.1 (zs.map (Ty.int .i64).enc) ∧ zs = (ys.take i).filter (fun q => hasAt fs q c) ∧ (t.1.a.isNone = true ↔ zs = [])) (fun t => ys.length - t.2.toNat) ⟨.refl, 0, [], by omega, rfl, Own.nil _ _ _ _, by simp, by simp⟩ ?_
    rintro ⟨o, ii⟩ w4 ⟨k4, i, zs, hi, hii, ho, hz, hon⟩ R2 hR2
    dsimp only at hii ho hon ⊢
    subst hii
    have h4 := h3.keep0 k4
    have hzl : zs.length ≤ ys.length := by rw [hz]; exact Nat.le_trans (List.length_filter_le _ _) (by rw [List.length_take]; omega)
    refine Br.mk (fun ht2 => ?_) (fun hf2 => ?_)
    · have ht2 : i < ys.length := by have := of_decide_eq_true ht2; omega
      refine IdxS.get (hsb3.mono (V.keeps0 k4)) (by omega) (by omega) fun q hq => ?_
      simp only [Int.toNat_natCast] at hq
      refine Ld.ptr (cell_of h4.hb rfl) ?_
      simp only [NilC_some]
      refine Ld.ptr (cell_of h4.hd rfl) ?_
      have hwr : IntKind.wrap .u8 (c : Int) = (c : Int) := IntWalk.u8_in _ (by omega)
      rw [hwr]
      have hm4 : MachO (V No w4) p fs F ks := h4.mach.mono (V.sub fun _ _ h => h.elim)
      refine nfa_Machine_Has_spec hm4 ht fun w5 k5 => ?_
      have ho5 := ho.keep0 k5
      have hol := ho5.len
      simp at hol
      have e4 : w64 ((i : Int) + 1) = ((i + 1 : Nat) : Int) := by rw [w64_eq (by omega)]; omega
      rw [e4]
      have htk : ys.take (i + 1) = ys.take i ++ [q] := by rw [List.take_add_one, hq]; rfl
      refine Br.mk (fun hq2 => ?_) (fun hq2 => ?_)
      · have z5 := (k4.trans k5).size
        refine append1 (t := .int .i64) (x := q) elInt ho5 rfl (by omega) (by omega) z5 fun o' w6 o6 m6 k6 g6 => ?_
        refine hR2 _ w6 ⟨((k4.trans k5).no (M := No)).then k6 fun b hb hbl => by have := (ho5.ge hbl).1; have : b < w3.heap.size := hb; omega, i + 1, zs ++ [q], by omega, rfl, o6, ?_, ?_⟩ (by dsimp only; omega)
        · rw [htk, List.filter_append, ← hz]; simp [hq2]
        · obtain ⟨g', hg', _⟩ := g6
          dsimp only
          rw [hg']; simp
      · refine hR2 _ w5 ⟨k4.trans k5, i + 1, zs, by omega, rfl, ho5, ?_, hon⟩ (by dsimp only; omega)
        rw [htk, List.filter_append, ← hz]; simp [hq2]
    · have hf2 : i = ys.length := by have := of_decide_eq_false hf2; omega
      subst hf2
      rw [List.take_length] at hz
      have hzm : ∀ q, q ∈ zs ↔ stepS fs F ks v.xs c q := fun q => by rw [hz, List.mem_filter, rb.2]; rfl
      have hzr : zs.Pairwise (· < ·) ∧ ∀ q ∈ zs, 0 ≤ q ∧ q < fs.length := ⟨by rw [hz]; exact rb.1.filter _, fun q hq => hyin q (by rw [hz] at hq; exact (List.mem_filter.1 hq).1)⟩
      have hso : SlT (.int .i64) (V (Bft bb bd mm l3) w4) o zs := ho.reads fun b hb hm => by have := (ho.ge hb).1; have := lt3 b hm; omega
      refine place_spec h4 hso hon hzr (by omega) fun k w5 l5 svs5 k5 hbl5 h5 hpl => ?_
      refine Ld.ptr (cell_of h5.hb rfl) ?_
      simp only [NilC_some, add_eq]
      refine Ld.sl (cell_of h5.hd dCells_l) ?_
      -- what was placed
      have hsv5 : (svs5 = svs3 ∧ k < svs3.length ∨ (∃ u, svs5 = svs3 ++ [u]) ∧ k = svs3.length) ∧ GoodN fs F ks svs5 v.xs k c ∧ -1 ≤ k := by
        rcases hpl with ⟨h0, rfl, rfl⟩ | ⟨h0, i, sv, hi0, rfl, hi, hxs, h'⟩
        · refine ⟨.inl ⟨rfl, by omega⟩, .inl ⟨rfl, fun q hq => ?_⟩, by omega⟩
          have := (hzm q).2 hq
          rw [h0] at this
          simp at this
        · have hil := (List.getElem?_eq_some_iff.1 hi).1
          refine ⟨?_, .inr ⟨i, sv, hi0, rfl, hi, fun q => by rw [hxs, hzm]⟩, by omega⟩
          rcases h' with rfl | ⟨h', rfl⟩
          · exact .inl ⟨rfl, by omega⟩
          · exact .inr ⟨⟨_, h'⟩, rfl⟩
      obtain ⟨hs5, hg5, hk5⟩ := hsv5
      have hv5 : svs5[n]? = some v3 := by
        rcases hs5 with ⟨rfl, _⟩ | ⟨⟨u, rfl⟩, _⟩
        · exact hv3
        · rw [List.getElem?_append_left hnl3]; exact hv3
      have hln5 := h5.n
      have hnl5 := (List.getElem?_eq_some_iff.1 hv5).1
      have hlen5 : svs3.length ≤ svs5.length ∧ svs5.length ≤ svs3.length + 1 := by
        rcases hs5 with ⟨rfl, _⟩ | ⟨⟨u, rfl⟩, _⟩
        · omega
        · simp
      -- it is written down
      obtain ⟨g5, cur5, ha5, hc5, hk5', hput5⟩ := h5.own.cellput (k := n * 258 + (1 + c)) (v := .int .i64 k) (by rw [flatten_len DSt.lens, List.length_map]; omega)
      have hfl : (svs5.map DSt.cells).flatten.set (n * 258 + (1 + c)) (.int .i64 k) = ((svs5.set n (v3.put c k)).map DSt.cells).flatten := by
        rw [flatten_set DSt.lens (i := n) (c := v3.cells) (by rw [List.getElem?_map, hv5]; rfl) (by omega), v3.put_cells ht, List.map_set]
      rw [hfl] at hput5
      refine ⟨_, ha5, ⟨by omega, by show (n : Int) < l5.n; omega⟩, ?_⟩
      refine ⟨⟨by omega, by omega⟩, ?_⟩
      dsimp only
      rw [add_eq, add_eq, add_eq]
      have eoff : 0 + (n : Int).toNat * 258 + 1 + (c : Int).toNat * 1 = n * 258 + (1 + c) := by omega
      rw [eoff]
      refine St.blk hc5 hk5' fun w6 u6 => ?_
      have hblk5 : l5.blk g5 := ⟨_, ha5, rfl⟩
      have e4 : w64 ((c : Int) + 1) = ((c + 1 : Nat) : Int) := by rw [w64_eq (by omega)]; omega
      rw [e4]
      obtain ⟨f1, f2, f3⟩ := h5.foot
      have n1 : bb ≠ g5 := fun e => f1 (e ▸ hblk5)
      have n2 : bd ≠ g5 := fun e => f2 (e ▸ hblk5)
      have n3 : mm ≠ g5 := fun e => f3 (e ▸ hblk5)
      have mv6 : Vle (V (Bft bb bd mm l5) w5) (V (Bft bb bd mm l5) w6) := V.move u6.keeps (fun b _ hb => .inr (.inr (.inr (by have : b = g5 := hb; subst this; exact hblk5)))) fun _ _ h => h
      have z4 := k4.size
      have mv5 : Vle (V (Bft bb bd mm l3) w4) (V (Bft bb bd mm l5) w5) := V.move k5 (fun _ _ h => h) fun b hb hm => by
        rcases hm with h | h | h | h
        · exact .inl h
        · exact .inr (.inl h)
        · exact .inr (.inr (.inl h))
        · exact .inr (.inr (.inr ((hbl5 b h).resolve_right (by omega))))
      have hd6 := hd3.step hv3 hv5 hs5 (by rw [hvx]; exact hg5) hk5
      refine hR _ w6 ⟨?_, c + 1, l5, svs5.set n (v3.put c k), by omega, rfl, ?_, ((hsb3.mono (V.keeps0 k4)).mono mv5).mono mv6, hd6, ⟨v3.put c k, by rw [List.getElem?_set]; simp [hnl5], hvx⟩, by rw [List.length_set]; omega, by rw [List.length_set]; omega⟩ (by omega)
      · refine ((k3.then0 k4).trans (k5.mono fun b _ hb => ?_)).trans (u6.keeps.mono fun b _ hb => ?_)
        · rcases hb with rfl | rfl | rfl | hb
          · exact h.ge.1
          · exact h.ge.2.1
          · exact h.ge.2.2
          · exact (h4.own.ge hb).1
        · have : b = g5 := hb
          subst this
          exact (h5.own.ge hblk5).1
      · have hmem : ∀ sv, sv ∈ svs5.set n (v3.put c k) → ∃ sv' ∈ svs5, sv.xs = sv'.xs ∧ sv.acc = sv'.acc := by
          intro sv hsv
          obtain ⟨i, hi⟩ := List.getElem?_of_mem hsv
          rw [List.getElem?_set] at hi
          split at hi
          · rename_i e
            simp at hi
            obtain ⟨_, rfl⟩ := hi
            exact ⟨v3, List.mem_of_getElem? hv5, rfl, rfl⟩
          · exact ⟨sv, List.mem_of_getElem? hi, rfl, rfl⟩
        have hget : ∀ (i : Nat) sv, (svs5.set n (v3.put c k))[i]? = some sv → ∃ sv', svs5[i]? = some sv' ∧ sv.xs = sv'.xs ∧ sv.acc = sv'.acc ∧ sv.at_ = sv'.at_ := by
          intro i sv hi
          rw [List.getElem?_set] at hi
          split at hi
          · rename_i e
            subst e
            simp at hi
            obtain ⟨_, rfl⟩ := hi
            exact ⟨v3, hv5, rfl, rfl, rfl⟩
          · exact ⟨sv, hi, rfl, rfl, rfl⟩
        have hback : ∀ (i : Nat) sv, svs5[i]? = some sv → ∃ sv', (svs5.set n (v3.put c k))[i]? = some sv' ∧ sv'.xs = sv.xs := Ext.put hv5
        refine ⟨h5.mach.mono (V.move u6.keeps (fun b _ hb => by have : b = g5 := hb; subst this; exact (h5.own.ge hblk5).1) fun _ _ h => h), u6.keeps.blk h5.hb n1, u6.keeps.blk h5.hd n2, hput5 w6 u6, ?_, h5.ge, h5.ne, h5.foot, fun i sv hi => ?_, ?_⟩
        · refine MapAt.congr (MapAt.keep h5.map u6.keeps n3 id) fun k' v' => ?_
          constructor
          · rintro ⟨i, sv, hi, h0, rfl, rfl⟩
            obtain ⟨sv', g1, g2⟩ := hback i sv hi
            exact ⟨i, sv', g1, h0, by rw [g2], rfl⟩
          · rintro ⟨i, sv, hi, h0, rfl, rfl⟩
            obtain ⟨sv', g1, g2, _⟩ := hget i sv hi
            exact ⟨i, sv', g1, h0, by rw [g2], rfl⟩
        · obtain ⟨sv', g1, g2, g3, g4⟩ := hget i sv hi
          rw [g2, g4]
          exact ⟨(h5.ats i sv' g1).1.mono mv6, (h5.ats i sv' g1).2⟩
        · refine ⟨?_, fun i sv hi h0 => ?_, fun sv hsv => ?_, fun i j sv sv' hi hj he => ?_, fun sv hsv => ?_⟩
          · obtain ⟨sv, g1, g2⟩ := h5.sts.zero
            obtain ⟨sv', g3, g4⟩ := hback 0 sv g1
            exact ⟨sv', g3, g4.trans g2⟩
          · obtain ⟨sv', g1, g2, _⟩ := hget i sv hi
            rw [g2]; exact h5.sts.ne i sv' g1 h0
          · obtain ⟨sv', g1, g2, _⟩ := hmem sv hsv
            rw [g2]; exact h5.sts.rise sv' g1
          · obtain ⟨s1, g1, g2, _⟩ := hget i sv hi
            obtain ⟨s2, g3, g4, _⟩ := hget j sv' hj
            exact h5.sts.inj i j s1 s2 g1 g3 (by rw [← g2, ← g4]; exact he)
          · obtain ⟨sv', g1, g2, g3⟩ := hmem sv hsv
            rw [g2, g3]; exact h5.sts.acc sv' g1
  · have hf : c = 256 := by have := of_decide_eq_false hf; omega
    subst hf
    exact hK w3 l3 svs3 k3 h3 hd3.next hle3 hge3
end
end Go.Fk
end

section
set_option linter.unusedVariables false
namespace Go.Fk
open Go Go.MapKept

/-! ## Classes of bytes -/

theorem App.makeOwn {Tsl T : TypeId} {bytes : Nat} {z : Value} (hE : Elem P Tsl T z 1 bytes) {w : World} {c : Nat} {K : Sl → World → Prop} (hb : bytes * c ≤ 281474976710656) (hc : c ≤ 1000000000)
    (hK : ∀ l w', Keeps No w w' → Own w' w.heap.size T 1 l [] → K l w') : App P (Instr.makeSlice Tsl (.int .i64 0) (.int .i64 (c : Int))) (.one .sl) w K := by
  obtain ⟨i, hi, hzz⟩ := Option.map_eq_some_iff.1 hE.inf
  simp only [Prod.mk.injEq] at hzz
  obtain ⟨w1, hr1, ho1, hg1⟩ := run_make_own (P := P) w w.heap.size Tsl T i z 1 hE.sl hi hzz.1 hzz.2.1 .i64 .i64 c (by rw [hzz.2.2]; exact hb) (by have : (9223372036854775807 : Nat) = maxLen := rfl; omega) (Nat.le_refl _)
  exact ⟨⟨some ⟨w.heap.size, 0, none⟩, 0, c⟩, w1, by simpa [RTy.enc, Ty.enc] using hr1, hK _ w1 ((Keeps.of_grown hg1).mono fun b _ h => by cases h) ho1⟩

theorem StA.gen {w : World} {b n : Nat} {T : TypeId} {cur cs : Array Value} {E : TypeId} {k : World → Prop} (hs : (P.info? T).map (·.size) = some n) (hb : w.heap[b]? = some (.cells cur E (0, 0))) (h1 : cur.size = n) (h2 : cs.size = n) (h3 : ∀ u ∈ cs.toList, u.oneCell' = true)
    (hk : ∀ w', Upd b (.cells cs E (0, 0)) w w' → k w') : StA P T ⟨b, 0, none⟩ cs w k := by
  refine ⟨w.setRow b cs, ?_, hk _ ?_⟩
  · refine run_storeVar_row w b _ _ _ _ hb (by rw [hs, h2]) (by rw [h1, h2]) ?_
    rw [Array.all_eq_true_iff_forall_mem]
    intro x hx
    exact h3 x (by simpa using hx)
  · have hr := setRow_heap w b _ cs _ _ hb
    refine ⟨hr, ⟨rfl, rfl, rfl, by simp [World.setRow], fun i _ hi => ?_⟩, by simp [World.setRow]⟩
    simp only [World.setRow, Array.getElem?_modify]
    rw [if_neg (fun h => hi h.symm)]

theorem LdA.gen {w : World} {g off n : Nat} {c : List Value} {k : Array Value → Prop} (hn : c.length = n) (hc : ∀ j u, c[j]? = some u → w.cell? ⟨g, off + j, none⟩ = some u) (hk : k c.toArray) : LdA n ⟨g, off, none⟩ w k := by
  refine ⟨c.toArray, ⟨by simpa using hn, fun i u hu => ?_⟩, hk⟩
  rw [add_eq]
  exact hc i u (by simpa using hu)

theorem sizeSt : (P.info? T.dfa_state).map (·.size) = some 258 := by kernel_rfl
theorem zeroSt : (#[(.slice none 0 0 : Value)] ++ Array.replicate 257 (.int .i64 0 : Value)) = (DSt.cells ⟨⟨none, 0, 0⟩, [], fun _ => 0, 0⟩).toArray := by kernel_rfl

def colOf (svs : List DSt) (c : Nat) : List Int := svs.map fun s => s.nx c + 1
structure Classes (svs : List DSt) (cl : Nat → Int) (nc : Int) : Prop where
  iff : ∀ a b, a < 256 → b < 256 → (cl a = cl b ↔ colOf svs a = colOf svs b)
  top : goTop (rowL cl) (-1) = some (nc - 1)
  pos : ∀ a, a < 256 → 0 ≤ cl a

set_option maxRecDepth 20000 in
theorem dCells_setc {p : Option Addr} {l : Sl} {cl : Nat → Int} {nc v : Int} {c : Nat} (h : c < 256) : (dCells p l cl nc).toArray.setIfInBounds (2 + c) (.int .i64 v) = (dCells p l (fun j => if j = c then v else cl j) nc).toArray := by
  rw [List.setIfInBounds_toArray]
  congr 1
  rw [Nat.add_comm]
  show Value.pointer p :: Value.slice l.a l.n l.c :: ((row256 cl ++ [Value.int .i64 nc]).set c (.int .i64 v)) = _
  rw [List.set_append_left _ _ (by rw [row256_len]; exact h), row256_set h]
  rfl
set_option maxRecDepth 20000 in
theorem dCells_setn {p : Option Addr} {l : Sl} {cl : Nat → Int} {nc v : Int} : (dCells p l cl nc).toArray.setIfInBounds 258 (.int .i64 v) = (dCells p l cl v).toArray := by
  rw [List.setIfInBounds_toArray]
  congr 1

set_option maxRecDepth 20000 in
theorem group_spec {w : World} {bd : Nat} {p : Option Addr} {l : Sl} {cl0 : Nat → Int} {nc0 : Int} {svs : List DSt} {K : Unit → World → Prop} (hd : w.heap[bd]? = some (dObj p l cl0 nc0)) (hl : SlC (V (· = bd) w) l 258 (svs.map DSt.cells))
    (hr : ∀ sv ∈ svs, ∀ c, c < 256 → -1 ≤ sv.nx c ∧ sv.nx c < 60000) (hlen : svs.length ≤ 3000)
    (hK : ∀ w' cl nc, Keeps (· = bd) w w' → w'.heap[bd]? = some (dObj p l cl nc) → Classes svs cl nc → K () w') : dfa_Dfa_group.C (some ⟨bd, 0, none⟩) w K := by
  have hn := hl.1
  simp only [List.length_map] at hn
  refine dfa_Dfa_group.ok _ _ _ ?_
  simp only [dfa_Dfa_group.M, NilC_some, add_eq, zeroSt]
  refine Al.mk fun m1 w1 n1 => ?_
  have e1 := n1.eq; have z1 := n1.size
  have hbl := lt_of_some hd
  have hne : bd ≠ m1 := by omega
  have hcol : ∀ c, c < 256 → ∀ x ∈ colOf svs c, 0 ≤ x ∧ x < 65536 := fun c hc x hx => by
    obtain ⟨s, hs, rfl⟩ := List.mem_map.1 hx
    have := hr s hs c hc
    omega
  have colLen : ∀ c, (colOf svs c).length = svs.length := fun c => by simp [colOf]
  refine Loop.mk (fun s w' => Keeps (fun b => b = bd ∨ b = m1) w1 w' ∧ ∃ (c : Nat) (cl : Nat → Int) (num : Nat), c ≤ 256 ∧ s = (c : Int) ∧ num ≤ c ∧ w'.heap[bd]? = some (dObj p l cl nc0) ∧ MapAt P T.string .str (.int .i64) (V No w') m1 (fun k v => ∃ j, j < c ∧ k = txt (colOf svs j) ∧ v = cl j) ∧ MapSz w' m1 num ∧
      goTop ((List.range c).map cl) (-1) = some ((num : Int) - 1) ∧ (∀ j, j < c → 0 ≤ cl j ∧ cl j < num) ∧ ∀ i j, i < c → j < c → (cl i = cl j ↔ colOf svs i = colOf svs j)) (fun s => 256 - s.toNat) ⟨.refl, 0, cl0, 0, by omega, rfl, by omega, n1.keeps.blk0 hd, ?_, .empty n1.at_, rfl, fun j hj => by omega, fun i j hi => by omega⟩ ?_
  · exact (MapAt.empty (kt := .str) (vt := .int .i64) ⟨id, n1.at_⟩).congr fun x y => by simp
  rintro s w2 ⟨k2, c, cl, num, hc, rfl, hnum, hd2, hm2, hsz2, htop, hcl, hiff⟩ R hR
  refine Br.mk (fun ht => ?_) (fun hf => ?_)
  · have ht : c < 256 := by have := of_decide_eq_true ht; omega
    refine Ld.sl (cell_of hd2 dCells_l) ?_
    refine App.makeOwn elInt (by show 8 * l.n ≤ _; omega) (by show l.n ≤ _; omega) fun l3 w3 k3 o3 => ?_
    have hd3 := k3.blk0 hd2
    refine Ld.sl (cell_of hd3 dCells_l) ?_
    have k23 := k2.then0 k3
    have hrow : ∀ {w'}, Keeps (fun b => b = bd ∨ b = m1) w1 w' → SlC (V (fun b => b = bd ∨ b = m1) w') l 258 (svs.map DSt.cells) := fun {w'} k => hl.mono ((V.move n1.keeps (fun _ _ h => h.elim) (M' := fun b => b = bd ∨ b = m1) fun b hb h => h.resolve_right (by omega)).trans (V.keeps k))
    refine Loop.mk (fun t w' => Keeps No w2 w' ∧ ∃ i : Nat, i ≤ svs.length ∧ t.2 = (i : Int) ∧ Own w' w2.heap.size T.int 1 t.1 (((colOf svs c).take i).map (Ty.int .i64).enc)) (fun t => svs.length - t.2.toNat) ⟨k3, 0, by omega, rfl, by rw [List.take_zero]; exact o3⟩ ?_
    rintro ⟨o, ii⟩ w4 ⟨k4, i, hi, hii, ho⟩ R2 hR2
    dsimp only at hii ho ⊢
    subst hii
    have k24 := k2.then0 k4
    have hol := ho.len
    simp [colLen] at hol
    refine Br.mk (fun ht2 => ?_) (fun hf2 => ?_)
    · have ht2 : i < svs.length := by have := of_decide_eq_true ht2; omega
      have hsv : svs[i]? = some svs[i] := List.getElem?_eq_getElem ht2
      generalize svs[i] = sv at hsv
      refine IdxS.recd (hrow k24) (by omega) (by simp; omega) fun g off cs hcs hcell => ?_
      simp only [Int.toNat_natCast, List.getElem?_map, hsv, Option.map_some, Option.some.injEq] at hcs
      subst hcs
      refine LdA.gen sv.len hcell ?_
      refine Al.mk fun b6 w5 n5 => StA.gen sizeSt n5.at_ (by simp [DSt.len]) (by simp [DSt.len]) (fun u hu => sv.one u (by simpa using hu)) fun w6 u6 => ?_
      have k46 : Keeps No w4 w6 := u6.keeps0 n5.keeps (by have := n5.eq; omega)
      refine ⟨⟨by omega, by omega⟩, ?_⟩
      rw [add_eq, Nat.mul_one, Int.toNat_natCast]
      refine Ld.int (cell_of u6.at_ (by rw [List.getElem?_toArray]; exact sv.getN ht)) ?_
      have hsr := hr sv (List.mem_of_getElem? hsv) c ht
      rw [w64_eq (by omega)]
      have z6 := (k4.trans k46).size
      refine append1 (t := .int .i64) (x := sv.nx c + 1) elInt (ho.keep0 k46) rfl (by omega) (by omega) z6 fun o' w7 o7 m7 k7 g7 => ?_
      have e4 : w64 ((i : Int) + 1) = ((i + 1 : Nat) : Int) := by rw [w64_eq (by omega)]; omega
      rw [e4]
      refine hR2 _ w7 ⟨?_, i + 1, by omega, rfl, ?_⟩ (by dsimp only; omega)
      · refine ((k4.trans k46).no (M := No)).then k7 fun b hb hbl => ?_
        have := (ho.ge hbl).1
        have : b < w2.heap.size := hb
        omega
      · have : (colOf svs c).take (i + 1) = (colOf svs c).take i ++ [sv.nx c + 1] := by
          rw [List.take_add_one, colOf, List.getElem?_map, hsv]; rfl
        rw [this]
        exact o7
    · have hf2 : i = svs.length := by have := of_decide_eq_false hf2; omega
      subst hf2
      rw [← colLen c, List.take_length] at ho
      refine dfa_text_spec (ho.reads (M := No) fun _ _ h => h) (hcol c ht) (by rw [colLen]; omega) fun w5 k5 => ?_
      have k25 := k24.then0 k5
      have kk : Keeps No w2 w5 := k4.trans k5
      have hm5 : MapAt P T.string .str (.int .i64) (V No w5) m1 _ := MapAt.mono hm2 (V.keeps0 kk)
      have hsz5 := hsz2.keep kk id
      have hd5 := kk.blk0 hd2
      have hkey : OkKey P T.string (Ty.str.enc (txt (colOf svs c))) := strKey (by rw [txt_size, colLen]; have : (9223372036854775807 : Nat) = maxLen := rfl; omega)
      have e4 : w64 ((c : Int) + 1) = ((c + 1 : Nat) : Int) := by rw [w64_eq (by omega)]; omega
      -- what is written
      refine App.look2 (kt := .str) (vt := .int .i64) (z := 0) strIntTy (run_zeroInt w5) (mo := some m1) hm5 hkey (fun y hy => ?_) (fun hno => ?_)
      · obtain ⟨j0, hj0, htx, rfl⟩ := hy
        have hce := txt_inj (hcol c ht) (hcol j0 (by omega)) htx
        refine Join.cut (fun s8 w' => w' = w5 ∧ s8 = cl j0) ?_ fun j hj => hj _ _ ⟨rfl, rfl⟩
        rintro s8 w' ⟨rfl, rfl⟩
        refine ⟨⟨by omega, by omega⟩, ?_⟩
        rw [add_eq, Nat.mul_one, Int.toNat_natCast, Nat.zero_add]
        refine St.blk hd5 (by rw [List.size_toArray, dCells_len]; omega) fun w6 u6 => ?_
        rw [dCells_setc ht] at u6
        rw [e4]
        have hold : ∀ j, j < c → (fun j => if j = c then cl j0 else cl j) j = cl j := fun j hj => by
          have : j ≠ c := by omega
          simp [this]
        refine hR _ w6 ⟨k25.trans (u6.keeps.mono fun b _ hb => .inl hb), c + 1, fun j => if j = c then cl j0 else cl j, num, by omega, rfl, by omega, u6.at_, ?_, hsz5.keep u6.keeps (by omega), ?_, fun j hj => ?_, fun i j hi hj => ?_⟩ (by omega)
        · refine MapAt.congr (MapAt.keep hm5 u6.keeps (by omega) id) fun k v => ?_
          constructor
          · rintro ⟨j, hj, rfl, rfl⟩; exact ⟨j, by omega, rfl, (hold j hj).symm⟩
          · rintro ⟨j, hj, rfl, rfl⟩
            by_cases e : j = c
            · subst e; exact ⟨j0, hj0, by rw [hce], by simp⟩
            · exact ⟨j, by omega, rfl, hold j (by omega)⟩
        · rw [List.range_succ, List.map_append, goTop_append, List.map_congr_left fun j hj => hold j (by simpa using hj), htop]
          have := hcl j0 hj0
          simp only [Option.bind_some, List.map_cons, List.map_nil, goTop, if_true]
          rw [if_neg (by omega), if_neg (by omega), if_neg (by omega)]
        · by_cases e : j = c
          · subst e; simpa using hcl j0 hj0
          · simp only [e, if_false]; exact hcl j (by omega)
        · have ei : ∀ i, i < c + 1 → ∃ i', i' < c ∧ (if i = c then cl j0 else cl i) = cl i' ∧ colOf svs i = colOf svs i' := fun i hi => by
            by_cases e : i = c
            · subst e; exact ⟨j0, hj0, by simp, hce⟩
            · exact ⟨i, by omega, by simp [e], rfl⟩
          obtain ⟨i', h1, h2, h3⟩ := ei i hi
          obtain ⟨j', h4, h5, h6⟩ := ei j hj
          show (if i = c then cl j0 else cl i) = (if j = c then cl j0 else cl j) ↔ _
          rw [h2, h5, h3, h6]
          exact hiff i' j' h1 h4
      · have hnewk : ∀ j, j < c → colOf svs j ≠ colOf svs c := fun j hj e => hno (cl j) ⟨j, hj, by rw [e], rfl⟩
        refine Join.cut (fun s8 w' => Keeps (· = m1) w5 w' ∧ s8 = (num : Int) ∧ MapAt P T.string .str (.int .i64) (V No w') m1 (fun k v => (k = txt (colOf svs c) ∧ v = (num : Int)) ∨ (k ≠ txt (colOf svs c) ∧ ∃ j, j < c ∧ k = txt (colOf svs j) ∧ v = cl j)) ∧ MapSz w' m1 (num + 1)) ?_ fun j hj => ?_
        · rintro s8 w' ⟨k', rfl, hm', hsz'⟩
          refine ⟨⟨by omega, by omega⟩, ?_⟩
          rw [add_eq, Nat.mul_one, Int.toNat_natCast, Nat.zero_add]
          refine St.blk (k'.blk hd5 hne) (by rw [List.size_toArray, dCells_len]; omega) fun w6 u6 => ?_
          rw [dCells_setc ht] at u6
          rw [e4]
          have hold : ∀ j, j < c → (fun j => if j = c then (num : Int) else cl j) j = cl j := fun j hj => by
            have : j ≠ c := by omega
            simp [this]
          refine hR _ w6 ⟨(k25.trans (k'.mono fun b _ hb => .inr hb)).trans (u6.keeps.mono fun b _ hb => .inl hb), c + 1, fun j => if j = c then (num : Int) else cl j, num + 1, by omega, rfl, by omega, u6.at_, ?_, hsz'.keep u6.keeps (by omega), ?_, fun j hj => ?_, fun i j hi hj => ?_⟩ (by omega)
          · refine MapAt.congr (MapAt.keep hm' u6.keeps (by omega) id) fun k v => ?_
            constructor
            · rintro (⟨rfl, rfl⟩ | ⟨_, j, hj, rfl, rfl⟩)
              · exact ⟨c, by omega, rfl, by simp⟩
              · exact ⟨j, by omega, rfl, (hold j hj).symm⟩
            · rintro ⟨j, hj, rfl, rfl⟩
              by_cases e : j = c
              · subst e; exact .inl ⟨rfl, by simp⟩
              · refine .inr ⟨fun e2 => hnewk j (by omega) (txt_inj (hcol j (by omega)) (hcol c ht) e2), j, by omega, rfl, hold j (by omega)⟩
          · rw [List.range_succ, List.map_append, goTop_append, List.map_congr_left fun j hj => hold j (by simpa using hj), htop]
            simp only [Option.bind_some, List.map_cons, List.map_nil, goTop, if_true]
            rw [if_neg (by omega), if_neg (by omega), if_pos (by omega)]
            simp
          · by_cases e : j = c
            · subst e; simp; omega
            · have := hcl j (by omega)
              simp only [e, if_false]; omega
          · by_cases e1 : i = c <;> by_cases e2 : j = c
            · subst e1 e2; simp
            · subst e1
              have := hcl j (by omega)
              simp only [if_true, e2, if_false]
              exact ⟨fun h => by omega, fun h => absurd h.symm (hnewk j (by omega))⟩
            · subst e2
              have := hcl i (by omega)
              simp only [if_true, e1, if_false]
              exact ⟨fun h => by omega, fun h => absurd h (hnewk i (by omega))⟩
            · simp only [e1, e2, if_false]
              exact hiff i j (by omega) (by omega)
        · refine App.len strIntTy.ty hsz5 ?_
          exact App0.putNew (kt := .str) (vt := .int .i64) (x := txt (colOf svs c)) (y := (num : Int)) strIntTy hm5 hsz5 hkey (fun y hy => hno y hy) fun w' k' _ hm' hsz' => hj _ _ ⟨k', rfl, hm', hsz'⟩
  · have hf : c = 256 := by have := of_decide_eq_false hf; omega
    subst hf
    refine App.len strIntTy.ty hsz2 ?_
    refine St.blk hd2 (by rw [List.size_toArray, dCells_len]; omega) fun w3 u3 => ?_
    rw [show (0 + 258 : Nat) = 258 from rfl, dCells_setn] at u3
    refine hK w3 cl num (((n1.keeps.no (M := fun b => b = bd)).then k2 fun b hb h => h.resolve_right (by omega)).trans u3.keeps) u3.at_ ⟨fun a b ha hb => hiff a b ha hb, htop, fun a ha => (hcl a ha).1⟩
end Go.Fk
end

section
set_option linter.unusedVariables false
namespace Go.Fk
open Go Go.MapKept

/-! ## An automaton that is ready -/

def DfaV (H : View) (d : Option Addr) (svs : List DSt) (cl : Nat → Int) (nc : Int) : Prop :=
  ∃ bd p l, d = some ⟨bd, 0, none⟩ ∧ H bd (dObj p l cl nc) ∧ SlC H l 258 (svs.map DSt.cells) ∧ ∀ sv ∈ svs, SlT (.int .i64) H sv.at_ sv.xs ∧ (sv.at_.a.isNone = true ↔ sv.xs = [])

theorem DfaV.mono {H H' : View} {d : Option Addr} {svs : List DSt} {cl : Nat → Int} {nc : Int} (h : DfaV H d svs cl nc) (hv : Vle H H') : DfaV H' d svs cl nc := by
  obtain ⟨bd, p, l, h1, h2, h3, h4⟩ := h
  exact ⟨bd, p, l, h1, hv _ _ h2, h3.mono hv, fun sv hs => ⟨(h4 sv hs).1.mono hv, (h4 sv hs).2⟩⟩

structure DfaOK (fs : List ((Nat → Bool) × Int)) (F : Int → Int → Prop) (ks : List Kn) (svs : List DSt) (cl : Nat → Int) (nc : Int) : Prop where
  sts : Sts fs ks svs
  done : Done fs F ks svs.length 0 svs
  cls : Classes svs cl nc
  few : svs.length ≤ 2000

theorem DfaOK.good {fs : List ((Nat → Bool) × Int)} {F : Int → Int → Prop} {ks : List Kn} {svs : List DSt} {cl : Nat → Int} {nc : Int} (h : DfaOK fs F ks svs cl nc) {sv : DSt} (hs : sv ∈ svs) {c : Nat} (hc : c < 256) : GoodN fs F ks svs sv.xs (sv.nx c) c := by
  obtain ⟨i, hi⟩ := List.getElem?_of_mem hs
  exact h.done.rows i sv (List.getElem?_eq_some_iff.1 hi).1 hi c hc
theorem GoodN.range {fs : List ((Nat → Bool) × Int)} {F : Int → Int → Prop} {ks : List Kn} {svs : List DSt} {xs : List Int} {k : Int} {c : Nat} (h : GoodN fs F ks svs xs k c) : -1 ≤ k ∧ k < svs.length ∨ (k = -1) := by
  rcases h with ⟨h, _⟩ | ⟨i, sv, h0, rfl, hi, _⟩
  · exact .inr h
  · have := (List.getElem?_eq_some_iff.1 hi).1
    left; omega

theorem Ld.slv {a : Addr} {w : World} {k : Sl → Prop} {l : Sl} (h : w.cell? a = some (.slice l.a l.n l.c)) (hk : k l) : Ld .sl a w k := ⟨l, h, hk⟩

/-- What is at hand where there are more states than may be. -/
def TooMany (fs : List ((Nat → Bool) × Int)) (F : Int → Int → Prop) (ks : List Kn) : Prop := ∃ svs n, Sts fs ks svs ∧ Done fs F ks n 0 svs ∧ 2000 < svs.length
theorem TooMany.sts {fs : List ((Nat → Bool) × Int)} {F : Int → Int → Prop} {ks : List Kn} (h : TooMany fs F ks) : ∃ svs, Sts fs ks svs ∧ 2000 < svs.length := by
  obtain ⟨svs, n, h1, _, h2⟩ := h
  exact ⟨svs, h1, h2⟩

set_option maxRecDepth 20000 in
theorem dfa_New_spec {w : World} {p : Option Addr} {fs : List ((Nat → Bool) × Int)} {F : Int → Int → Prop} {ks : List Kn} {K : (Option Addr × Int) → World → Prop} (h : MachO (V No w) p fs F ks) (hp : p ≠ none) (hks : ks.length ≤ 2000)
    (hK0 : ∀ d svs cl nc w', Keeps No w w' → DfaV (V No w') d svs cl nc → DfaOK fs F ks svs cl nc → K (d, 0) w')
    (hK1 : ∀ w', Keeps No w w' → TooMany fs F ks → K (none, 3) w') : dfa_New.C p w K := by
  refine dfa_New.ok _ _ _ ?_
  simp only [dfa_New.M]
  refine Br.mk (fun h0 => by cases p with | none => exact absurd rfl hp | some a => cases h0) (fun _ => ?_)
  refine App.buildG (buildSt0 (-1)) (App.slice1G elSt (by simp [DSt.len]) (by omega) (by omega) fun bs w1 n1 => App.buildG (buildDfa p _ _ _) (Al.mk fun bd w2 n2 => Al.mk fun mm w3 n3 => Al.mk fun bb w4 n4 => ?_))
  have e1 := n1.eq; have z1 := n1.size; have e2 := n2.eq; have z2 := n2.size; have e3 := n3.eq; have z3 := n3.size; have e4 := n4.eq; have z4 := n4.size
  have k14 : Keeps No w1 w4 := (n2.keeps.trans n3.keeps).trans n4.keeps
  have k04 : Keeps No w w4 := n1.keeps.trans k14
  let sv0 : DSt := ⟨⟨none, 0, 0⟩, [], fun _ => 0, -1⟩
  have hb0 : Bd w4 w.heap.size bb bd mm p fs F ks ⟨some ⟨bs, 0, none⟩, 1, 1⟩ [sv0] := {
    mach := h.mono (V.move k04 (fun _ _ h => h.elim) fun b hb h => by have : w.heap.size ≤ b := h; omega)
    hb := n4.at_
    hd := (n3.keeps.trans n4.keeps).blk0 n2.at_
    own := ⟨by simp [DSt.len], .inr ⟨bs, 1, _, rfl, by omega, k14.blk0 n1.at_, Nat.le_refl _, by have : (9223372036854775807 : Nat) = maxLen := rfl; omega, by simp [DSt.len], by simp [DSt.cells, List.take_of_length_le, row256_len, sv0]⟩⟩
    map := (MapAt.empty (kt := .str) (vt := .int .i64) ⟨id, n4.keeps.blk0 n3.at_⟩).congr fun k v => ⟨fun h => h.elim, fun ⟨i, sv, hi, h0, _⟩ => by
      cases i with
      | zero => omega
      | succ i => simp at hi⟩
    ge := ⟨by omega, by omega, by omega⟩
    ne := ⟨by omega, by omega, by omega⟩
    foot := by
      have hl : ∀ b, Sl.blk ⟨some ⟨bs, 0, none⟩, 1, 1⟩ b → b = bs := fun b hb => blk_one rfl hb
      exact ⟨fun hb => by have := hl _ hb; omega, fun hb => by have := hl _ hb; omega, fun hb => by have := hl _ hb; omega⟩
    ats := fun i sv hi => by
      cases i with
      | zero => simp at hi; subst hi; exact ⟨SlT.nil, by simp [sv0]⟩
      | succ i => simp at hi
    sts := ⟨⟨sv0, rfl, rfl⟩, fun i sv hi h0 => by cases i with | zero => omega | succ i => simp at hi, fun sv hs => by simp at hs; subst hs; exact ⟨.nil, fun q hq => by simp [sv0] at hq⟩,
      fun i j sv sv' hi hj _ => by cases i with | zero => (cases j with | zero => rfl | succ j => simp at hj) | succ i => simp at hi, fun sv hs => by simp at hs; subst hs; exact .inl ⟨rfl, by simp [sv0]⟩⟩ }
  have hd0 : Done fs F ks 0 0 [sv0] := ⟨fun i sv hi => by omega, fun sv hs c hc => by omega, by simp [seqOf, goTop], fun v h0 hv => by simp at hv; omega⟩
  refine Loop.mk (fun s w' => Keeps No w w' ∧ ∃ (i : Nat) (l : Sl) (svs : List DSt), i ≤ svs.length ∧ s = (i : Int) ∧ Bd w' w.heap.size bb bd mm p fs F ks l svs ∧ Done fs F ks i 0 svs ∧ svs.length ≤ 2000) (fun s => 2001 - s.toNat) ⟨k04, 0, _, _, by simp, rfl, hb0, hd0, by simp⟩ ?_
  rintro s w5 ⟨k5, i, l, svs, hi, rfl, hb, hd, hlen⟩ R hR
  have hln := hb.n
  refine Ld.slv (cell_of hb.hd dCells_l) ?_
  refine Br.mk (fun ht => ?_) (fun hf => ?_)
  · have ht : i < svs.length := by have := of_decide_eq_true ht; omega
    have hsv : svs[i]? = some svs[i] := List.getElem?_eq_getElem ht
    refine fill_spec hb hsv hd hlen hks fun w6 l' svs' k6 hb6 hd6 hle hge => ?_
    have k06 : Keeps No w w6 := (k5.no (M := No)).then k6 fun b hb' h' => by have : w.heap.size ≤ b := h'; omega
    refine Ld.slv (cell_of hb6.hd dCells_l) ?_
    have hln6 := hb6.n
    refine Br.mk (fun hl => ?_) (fun hl => ?_)
    · have hl : 2000 < svs'.length := by have := of_decide_eq_true hl; omega
      exact hK1 w6 k06 ⟨svs', i + 1, hb6.sts, hd6, hl⟩
    · have hl : svs'.length ≤ 2000 := by have := of_decide_eq_false hl; omega
      have e4 : w64 ((i : Int) + 1) = ((i + 1 : Nat) : Int) := by rw [w64_eq (by omega)]; omega
      rw [e4]
      exact hR _ w6 ⟨k06, i + 1, l', svs', by omega, rfl, hb6, hd6, hl⟩ (by omega)
  · have hf : i = svs.length := by have := of_decide_eq_false hf; omega
    subst hf
    obtain ⟨f1, f2, f3⟩ := hb.foot
    have hrow : SlC (V (· = bd) w5) l 258 (svs.map DSt.cells) := hb.own.readsC (by omega) DSt.lens fun b hbl hm => f2 (by have : b = bd := hm; exact this ▸ hbl)
    refine group_spec hb.hd hrow (fun sv hs c hc => ?_) (by omega) fun w6 cl nc k6 hd6 hcl => ?_
    · obtain ⟨j, hj⟩ := List.getElem?_of_mem hs
      have := (hd.rows j sv (List.getElem?_eq_some_iff.1 hj).1 hj c hc).range
      omega
    · have mv : Vle (V (Bft bb bd mm l) w5) (V No w6) := V.move k6 (fun b _ hm => .inr (.inl hm)) fun _ _ h => h.elim
      refine hK0 _ svs cl nc w6 ((k5.no (M := No)).then k6 fun b hb' h' => by have : b = bd := h'; have := hb.ge.2.1; omega) ⟨bd, p, l, rfl, ⟨id, hd6⟩, hrow.mono (V.move k6 (fun _ _ h => h) fun _ _ h => h.elim), fun sv hs => ?_⟩ ⟨hb.sts, hd, hcl, hlen⟩
      obtain ⟨j, hj⟩ := List.getElem?_of_mem hs
      exact ⟨(hb.ats j sv hj).1.mono mv, (hb.ats j sv hj).2⟩
end Go.Fk
end

section
set_option linter.unusedVariables false
namespace Go.Fk
open Go Go.MapKept

/-! ## What is asked of an automaton -/

def DfaO (H : View) (d : Option Addr) (svs : List DSt) (cl : Nat → Int) (nc : Int) : Prop := (d = none ∧ svs = [] ∧ cl = (fun _ => -1) ∧ nc = 0) ∨ DfaV H d svs cl nc
theorem DfaO.mono {H H' : View} {d : Option Addr} {svs : List DSt} {cl : Nat → Int} {nc : Int} (h : DfaO H d svs cl nc) (hv : Vle H H') : DfaO H' d svs cl nc := h.imp id fun h => h.mono hv

def stAt (svs : List DSt) (n : Int) : Option DSt := if 0 ≤ n then svs[n.toNat]? else none
def nextOf (svs : List DSt) (n : Int) (b : Nat) : Int × Bool := match stAt svs n with
  | some sv => if sv.nx b = -1 then (0, false) else (sv.nx b, true)
  | none => (0, false)
def accOf (svs : List DSt) (n : Int) : Int := ((stAt svs n).map DSt.acc).getD (-1)
/-- From the place j on. -/
def runFrom (svs : List DSt) (s : List UInt8) : Int × Bool → Int × Bool
  | st => s.foldl (fun (st : Int × Bool) c => if st.2 = true then nextOf svs st.1 c.toNat else st) st

section
variable {w : World} {d : Option Addr} {svs : List DSt} {cl : Nat → Int} {nc : Int}

theorem stAt_in {n : Int} {sv : DSt} (h0 : 0 ≤ n) (h : svs[n.toNat]? = some sv) : stAt svs n = some sv := by simp [stAt, h0, h]
theorem stAt_out {n : Int} (h : ¬ (0 ≤ n ∧ n < svs.length)) : stAt svs n = none := by
  unfold stAt
  split
  · exact List.getElem?_eq_none (by omega)
  · rfl

theorem dfa_States_spec (h : DfaO (V No w) d svs cl nc) {K : Int → World → Prop} (hK : K svs.length w) : dfa_Dfa_States.C d w K := by
  refine dfa_Dfa_States.ok _ _ _ ?_
  simp only [dfa_Dfa_States.M]
  rcases h with ⟨rfl, rfl, _⟩ | ⟨bd, p, l, rfl, h2, h3, h4⟩
  · exact hK
  · show Ld _ _ _ _
    rw [add_eq]
    refine Ld.slv (cell_of h2.2 dCells_l) ?_
    have := h3.1
    simp only [List.length_map] at this
    rw [this]; exact hK

theorem dfa_has_spec (h : DfaO (V No w) d svs cl nc) {n : Int} {K : Bool → World → Prop} (hK : K (decide (0 ≤ n ∧ n < svs.length)) w) : dfa_Dfa_has.C d n w K := by
  refine dfa_Dfa_has.ok _ _ _ _ ?_
  simp only [dfa_Dfa_has.M]
  refine Br.mk (fun h0 => dfa_States_spec h ?_) (fun h0 => ?_)
  · have h0 := of_decide_eq_true h0
    have : decide (n < (svs.length : Int)) = decide (0 ≤ n ∧ n < svs.length) := by rw [decide_eq_decide]; omega
    rw [this]; exact hK
  · have h0 := of_decide_eq_false h0
    rwa [decide_eq_false (by omega)] at hK

theorem dfa_Next_spec (h : DfaO (V No w) d svs cl nc) {n : Int} {b : Nat} (hb : b < 256) {K : (Int × Bool) → World → Prop} (hK : K (nextOf svs n b) w) : dfa_Dfa_Next.C d n b w K := by
  refine dfa_Dfa_Next.ok _ _ _ _ _ ?_
  simp only [dfa_Dfa_Next.M]
  have cellN : ∀ {bd : Nat} {p : Option Addr} {l : Sl} {sv : DSt} {k : Int → Prop}, SlC (V No w) l 258 (svs.map DSt.cells) → 0 ≤ n → n < svs.length → svs[n.toNat]? = some sv → k (sv.nx b) → IdxS l n 258 fun p19 => IdxA 256 (p19.add 1) b 1 fun p21 => Ld (.int .i64) p21 w k := by
    intro bd p l sv k h3 h0 h1 hsv hk
    refine IdxS.recd h3 h0 (by simpa using h1) fun g off cs hcs hcell => ?_
    simp only [List.getElem?_map, hsv, Option.map_some, Option.some.injEq] at hcs
    subst hcs
    refine ⟨⟨by omega, by omega⟩, ?_⟩
    dsimp only
    rw [add_eq, add_eq, Nat.mul_one, Int.toNat_natCast, Nat.add_assoc]
    exact Ld.int (hcell (1 + b) _ (sv.getN hb)) hk
  refine Join.cut (fun s w' => w' = w ∧ (s = true → nextOf svs n b = (0, false)) ∧ (s = false → ∃ sv, 0 ≤ n ∧ n < svs.length ∧ svs[n.toNat]? = some sv ∧ sv.nx b ≠ -1)) ?_ ?_
  · rintro s w' ⟨rfl, g1, g2⟩
    refine Br.mk (fun ht => ?_) (fun hf => ?_)
    · rw [g1 ht] at hK; exact hK
    · obtain ⟨sv, h0, h1, hsv, hne⟩ := g2 hf
      rcases h with ⟨_, rfl, _⟩ | ⟨bd, p, l, rfl, h2, h3, h4⟩
      · simp at h1; omega
      · simp only [NilC_some, add_eq]
        refine Ld.slv (cell_of h2.2 dCells_l) ?_
        refine cellN (bd := bd) (p := p) h3 h0 h1 hsv ?_
        have : nextOf svs n b = (sv.nx b, true) := by simp [nextOf, stAt_in h0 hsv, hne]
        rw [this] at hK; exact hK
  · intro j hj
    refine dfa_has_spec h ?_
    refine Br.mk (fun hn => ?_) (fun hn => ?_)
    · have hn : ¬ (0 ≤ n ∧ n < svs.length) := of_decide_eq_false ((Bool.not_eq_true' _).mp hn)
      exact hj _ _ ⟨rfl, fun _ => by simp [nextOf, stAt_out hn], fun e => by cases e⟩
    · have hn : 0 ≤ n ∧ n < svs.length := by simpa using hn
      have hsv : svs[n.toNat]? = some svs[n.toNat] := List.getElem?_eq_getElem (by omega)
      generalize svs[n.toNat] = sv at hsv
      rcases h with ⟨_, rfl, _⟩ | ⟨bd, p, l, rfl, h2, h3, h4⟩
      · simp at hn; omega
      · simp only [NilC_some, add_eq]
        refine Ld.slv (cell_of h2.2 dCells_l) ?_
        refine cellN (bd := bd) (p := p) h3 hn.1 hn.2 hsv ?_
        refine hj _ _ ⟨rfl, fun e => ?_, fun e => ⟨sv, hn.1, hn.2, hsv, by simpa using e⟩⟩
        have : sv.nx b = -1 := by simpa using e
        simp [nextOf, stAt_in hn.1 hsv, this]

theorem dfa_Accept_spec (h : DfaO (V No w) d svs cl nc) {n : Int} {K : Int → World → Prop} (hK : K (accOf svs n) w) : dfa_Dfa_Accept.C d n w K := by
  refine dfa_Dfa_Accept.ok _ _ _ _ ?_
  simp only [dfa_Dfa_Accept.M]
  refine dfa_has_spec h ?_
  refine Br.mk (fun hn => ?_) (fun hn => ?_)
  · have hn : ¬ (0 ≤ n ∧ n < svs.length) := of_decide_eq_false ((Bool.not_eq_true' _).mp hn)
    have : accOf svs n = -1 := by simp [accOf, stAt_out hn]
    rw [this] at hK; exact hK
  · have hn : 0 ≤ n ∧ n < svs.length := by simpa using hn
    have hsv : svs[n.toNat]? = some svs[n.toNat] := List.getElem?_eq_getElem (by omega)
    generalize svs[n.toNat] = sv at hsv
    rcases h with ⟨_, rfl, _⟩ | ⟨bd, p, l, rfl, h2, h3, h4⟩
    · simp at hn; omega
    · simp only [NilC_some, add_eq]
      refine Ld.slv (cell_of h2.2 dCells_l) ?_
      refine IdxS.recd h3 hn.1 (by simpa using hn.2) fun g off cs hcs hcell => ?_
      simp only [List.getElem?_map, hsv, Option.map_some, Option.some.injEq] at hcs
      subst hcs
      rw [add_eq]
      refine Ld.int (hcell 257 _ sv.getA) ?_
      have : accOf svs n = sv.acc := by simp [accOf, stAt_in hn.1 hsv]
      rw [this] at hK; exact hK

end
end Go.Fk
end

section
set_option linter.unusedVariables false
namespace Go.Fk
open Go

/-! ## The reference: where matches end -/

def rowB (N : Nat) (f : Nat → Bool) : List Bool := (List.range N).map f
theorem rowB_len {N : Nat} {f : Nat → Bool} : (rowB N f).length = N := by simp [rowB]
theorem rowB_get {N : Nat} {f : Nat → Bool} {i : Nat} (h : i < N) : (rowB N f)[i]? = some (f i) := by simp [rowB, h]
theorem rowB_congr {N : Nat} {f g : Nat → Bool} (h : ∀ i, i < N → f i = g i) : rowB N f = rowB N g := List.map_congr_left fun i hi => h i (by simpa using hi)
theorem rowB_set {N : Nat} {f : Nat → Bool} {i : Nat} {v : Bool} : (rowB N f).set i v = rowB N fun j => if j = i then v else f j := by
  refine List.ext_getElem? fun j => ?_
  rw [List.getElem?_set]
  by_cases hj : j < N
  · rw [rowB_get hj, rowB_get hj, rowB_len]
    by_cases e : i = j
    · subst e; simp [hj]
    · simp [e, Ne.symm e]
  · have e1 : ∀ h : Nat → Bool, (rowB N h)[j]? = none := fun h => List.getElem?_eq_none (by rw [rowB_len]; omega)
    rw [e1, e1, rowB_len]
    by_cases e : i = j
    · subst e; simp [hj]
    · simp [e]
theorem rowB_none {N : Nat} : List.replicate N false = rowB N fun _ => false := by simp [rowB, List.map_const']

def cntB (f : Nat → Bool) : Nat → Nat
  | 0 => 0
  | n + 1 => cntB f n + (if f n then 1 else 0)
theorem cntB_le (f : Nat → Bool) (n : Nat) : cntB f n ≤ n := by
  induction n with
  | zero => exact Nat.le_refl _
  | succ n ih => simp only [cntB]; split <;> omega
theorem cntB_mono {f g : Nat → Bool} (h : ∀ i, f i = true → g i = true) (n : Nat) : cntB f n ≤ cntB g n := by
  induction n with
  | zero => exact Nat.le_refl _
  | succ n ih =>
    simp only [cntB]
    have := h n
    cases hf : f n <;> cases hg : g n <;> simp_all <;> omega
theorem cntB_lt {f g : Nat → Bool} (h : ∀ i, f i = true → g i = true) {n i : Nat} (hi : i < n) (h1 : f i = false) (h2 : g i = true) : cntB f n < cntB g n := by
  induction n with
  | zero => omega
  | succ n ih =>
    simp only [cntB]
    by_cases e : i = n
    · subst e
      have := cntB_mono h i
      simp [h1, h2]; omega
    · have := ih (by omega)
      have := h n
      cases hf : f n <;> cases hg : g n <;> simp_all <;> omega
theorem cntB_pos {f : Nat → Bool} {n i : Nat} (hi : i < n) (h : f i = true) : 0 < cntB f n := by
  have := cntB_lt (f := fun _ => false) (g := f) (fun i h => by cases h) hi rfl h
  omega

theorem IdxS.bool {M : Nat → Prop} {w : World} {l : Sl} {N : Nat} {f : Nat → Bool} {i : Nat} {K : Bool → Prop} (h : SlT .bool (V M w) l (rowB N f)) (hi : i < N) (hk : K (f i)) : IdxS l (i : Int) 1 fun p => Ld .bool p w K := by
  refine IdxS.get h (by omega) (by rw [rowB_len]; omega) fun x hx => ?_
  rw [Int.toNat_natCast, rowB_get hi] at hx
  cases hx; exact hk
theorem IdxS.putB {N : Nat} {f : Nat → Bool} {w : World} {b : Nat} {c i : Nat} {v : Bool} {k : World → Prop} (h : w.heap[b]? = some (rowObj .bool tBool (rowB N f))) (hi : i < N)
    (hk : ∀ w', Upd b (rowObj .bool tBool (rowB N fun j => if j = i then v else f j)) w w' → k w') : IdxS ⟨some ⟨b, 0, none⟩, N, c⟩ (i : Int) 1 fun p => St p (.bool v) w k := by
  refine IdxS.put (t := .bool) (v := v) h (by omega) (by omega) rowB_len.symm fun w' u => hk w' ?_
  rw [Int.toNat_natCast, rowB_set] at u
  exact u

theorem IdxA.bit {w : World} {b : Nat} {v : NV} {c : UInt8} {k : Bool → Prop} (hb : w.heap[b]? = some (nodeObj v)) (hk : k (v.B c.toNat)) : IdxA 256 ⟨b, 1, none⟩ (c.toNat : Int) 1 fun p => Ld .bool p w k := by
  have := c.toNat_lt
  refine ⟨⟨by omega, by omega⟩, ?_⟩
  rw [add_eq, Int.toNat_natCast, Nat.mul_one]
  exact Ld.bool (cell_of hb (by rw [List.getElem?_toArray]; exact v.getB (by omega))) hk

/-- One byte further. -/
def stepB (s : List UInt8) (B f : Nat → Bool) : Nat → Bool
  | 0 => false
  | i + 1 => f i && (match s[i]? with | some c => B c.toNat | none => false)
theorem stepB_some {s : List UInt8} {B f : Nat → Bool} {i : Nat} {c : UInt8} (h : s[i]? = some c) : stepB s B f (i + 1) = (f i && B c.toNat) := by simp only [stepB, h]

/-- The ends of an expression's matches. -/
def EndsOf (s : List UInt8) (x : Re) (N : Nat) (f g : Nat → Bool) : Prop := ∀ j, j < N → (g j = true ↔ ∃ i, i < N ∧ f i = true ∧ x.m s i j)

theorem Ends_spec : ∀ (n : Nat) (x : Re), x.size ≤ n → ∀ {w : World} {v : NV} {s : ByteArray} {l : Sl} {f : Nat → Bool} {K : Sl → World → Prop}, s.size ≤ 1000000 → RNd (V No w) v x → SlT .bool (V No w) l (rowB (s.size + 1) f) →
    (∀ l' g w', Keeps No w w' → SlT .bool (V (LtV w.heap.size) w') l' (rowB (s.size + 1) g) → EndsOf (bs s) x (s.size + 1) f g → K l' w') → frisketref05_Ends.C v.cells.toArray s l w K := by
  intro n
  induction n with
  | zero => intro x hx; have := size_pos x; omega
  | succ n ih =>
    intro x hx w v s l f K hs h hl hK
    have hsz := size_bs s
    refine frisketref05_Ends.ok _ _ _ _ _ ?_
    simp only [frisketref05_Ends.M]
    refine Al.mk fun b1 w1 n1 => ?_
    rw [w64_eq (by omega)]
    have eN : ((s.size : Int) + 1) = ((s.size + 1 : Nat) : Int) := by omega
    rw [eN]
    refine App.make1 (t := .bool) (z := false) elBool rfl (by omega) (by omega) fun b2 w2 n2 => ?_
    have k02 : Keeps No w w2 := n1.keeps.trans n2.keeps
    have e1 := n1.eq; have e2 := n2.eq; have z1 := n1.size; have z2 := n2.size
    have hb1 : w2.heap[b1]? = some (nodeObj v) := n2.keeps.blk0 n1.at_
    have hb2 : w2.heap[b2]? = some (rowObj .bool tBool (rowB (s.size + 1) fun _ => false)) := by rw [← rowB_none]; exact n2.at_
    have hl2 := hl.mono (V.keeps0 k02)
    have N1 : 0 < s.size + 1 := by omega
    have fin : ∀ {w' : World} {g : Nat → Bool}, Keeps (· = b2) w2 w' → w'.heap[b2]? = some (rowObj .bool tBool (rowB (s.size + 1) g)) → EndsOf (bs s) x (s.size + 1) f g → K ⟨some ⟨b2, 0, none⟩, s.size + 1, s.size + 1⟩ w' := by
      intro w' g k hb hg
      exact hK _ g w' ((k02.no (M := No)).then k fun i hi e => by omega) (Row.sl hb (fun h => by have : b2 < w.heap.size := h; omega) rowB_len.symm) hg
    have hlk : ∀ {w' : World}, Keeps (· = b2) w2 w' → SlT .bool (V No w') l (rowB (s.size + 1) f) := fun {w'} k => hl.mono (V.keeps0 ((k02.no (M := No)).then k fun i hi e => by omega))
    refine Ld.int (cell_of hb1 (by rw [List.getElem?_toArray]; exact v.get0)) ?_
    cases h with
    | @set B =>
      refine Br.mk (fun _ => ?_) (fun h => by cases h)
      generalize hgd : stepB (bs s) B f = g
      refine Loop.mk (fun i w' => Keeps (· = b2) w2 w' ∧ ∃ k : Nat, k ≤ s.size ∧ i = (k : Int) ∧ w'.heap[b2]? = some (rowObj .bool tBool (rowB (s.size + 1) fun j => decide (j ≤ k) && g j))) (fun i => s.size - i.toNat) ⟨.refl, 0, by omega, rfl, ?_⟩ ?_
      · rw [hb2]
        congr 2
        rw [rowB_congr fun j hj => ?_]
        cases j with
        | zero => rw [← hgd]; rfl
        | succ j => simp
      rintro i w3 ⟨k3, k, hk, rfl, hr⟩ R hR
      refine Br.mk (fun ht => ?_) (fun hf => ?_)
      · have ht : k < s.size := by have := of_decide_eq_true ht; omega
        refine IdxS.bool (hlk k3) (by omega) ?_
        have e3 : w64 ((k : Int) + 1) = ((k + 1 : Nat) : Int) := by rw [w64_eq (by omega)]; omega
        have hput : ∀ {v : Bool} {w' : World}, v = g (k + 1) → Upd b2 (rowObj .bool tBool (rowB (s.size + 1) fun j => if j = k + 1 then v else (decide (j ≤ k) && g j))) w3 w' → R (w64 ((k : Int) + 1)) w' := by
          intro v w' hv u
          rw [e3]
          refine hR _ w' ⟨k3.trans u.keeps, k + 1, by omega, rfl, ?_⟩ (by omega)
          rw [u.at_]
          congr 2
          rw [rowB_congr fun j hj => ?_]
          by_cases e : j = k + 1
          · subst e; simp [hv]
          · have : decide (j ≤ k) = decide (j ≤ k + 1) := by rw [decide_eq_decide]; omega
            simp [e, this]
        rw [e3] at hput ⊢
        refine Br.mk (fun hb => ?_) (fun hb => ?_)
        · refine IdxStr.get (by omega) (by omega) fun c hc => ?_
          refine IdxA.bit (k3.blk hb1 (by omega)) ?_
          refine IdxS.putB hr (by omega) fun w4 u4 => hput ?_ u4
          simp only [Int.toNat_natCast] at hc
          rw [← hgd, stepB_some hc, hb]; rfl
        · refine IdxS.putB hr (by omega) fun w4 u4 => hput ?_ u4
          rw [← hgd]
          simp [stepB, hb]
      · have hf : k = s.size := by have := of_decide_eq_false hf; omega
        subst hf
        refine fin k3 hr fun j hj => ?_
        have : decide (j ≤ s.size) = true := by rw [decide_eq_true_iff]; omega
        simp only [this, Bool.true_and]
        constructor
        · intro hg
          subst hgd
          cases j with
          | zero => cases hg
          | succ i =>
            cases hc : (bs s)[i]? with
            | none => simp [stepB, hc] at hg
            | some c =>
              rw [stepB_some hc, Bool.and_eq_true] at hg
              exact ⟨i, by omega, hg.1, rfl, c, hc, hg.2⟩
        · rintro ⟨i, hi, hfi, rfl, c, hc, hB⟩
          rw [← hgd, stepB_some hc, hfi, hB]; rfl
    | empty =>
      refine Br.mk (fun h => by cases h) (fun _ => Br.mk (fun _ => ?_) (fun h => by cases h))
      refine App.copy1 (t := .bool) elBool hb2 rowB_len.symm hl2 (by rw [rowB_len, rowB_len]) (by intro e; have := congrArg List.length e; rw [rowB_len] at this; simp at this) (fun y _ => rfl) fun w3 u3 => ?_
      refine fin u3.keeps u3.at_ fun j hj => ?_
      constructor
      · intro h; exact ⟨j, hj, h, rfl⟩
      · rintro ⟨i, hi, h, rfl⟩; exact h
    | @cat b va vb xa xb hc ha hb =>
      refine Br.mk (fun h => by cases h) (fun _ => Br.mk (fun h => by cases h) (fun _ => Br.mk (fun _ => ?_) (fun h => by cases h)))
      simp only [Re.size] at hx
      refine ⟨fun x => Keeps No w2 x, Keeps.drew, ?_⟩
      have hS : ∀ w', Keeps No w2 w' → Vle (V No w2) (V No w') := fun w' k => V.keeps0 k
      have ld : ∀ {k : Sl → Prop}, k ⟨some ⟨b, 0, none⟩, 2, 2⟩ → LdS (fun x => Keeps No w2 x) .sl ⟨b1, 257, none⟩ k := fun {k} h => LdS.of (t := .sl) (v := ⟨some ⟨b, 0, none⟩, 2, 2⟩) (fun w' hw' => cell_of (hw'.blk0 hb1) (by rw [List.getElem?_toArray]; exact NV.getL _)) h
      have hrow : SlC (V No w2) ⟨some ⟨b, 0, none⟩, 2, 2⟩ 258 ([va, vb].map NV.cells) := (cells2 hc).mono (V.keeps0 k02)
      refine ld (IdxS.nodeS hrow hS (by omega) (by simp) fun u hu => ld (IdxS.nodeS hrow hS (by omega) (by simp) fun u' hu' => ?_))
      simp at hu hu'
      subst hu hu'
      have kd : Keeps No w w2.drew := k02.trans .drew
      refine ih xa (by omega) hs (ha.mono (V.keeps0 kd)) (hl.mono (V.keeps0 kd)) fun l1 g1 w4 k4 hl1 he1 => ⟨Keeps.drew.trans k4, ?_⟩
      have zd := kd.size; have z4 := k4.size
      refine ih xb (by omega) hs (hb.mono (V.keeps0 (kd.trans k4))) (hl1.mono (V.sub fun _ _ h => h.elim)) fun l2 g2 w5 k5 hl2 he2 => ⟨(Keeps.drew.trans k4).trans k5, ?_⟩
      refine hK l2 g2 w5 ((kd.trans k4).trans k5) (hl2.mono (V.sub fun c _ hc => by have : c < w.heap.size := hc; show c < w4.heap.size; omega)) fun j hj => ?_
      rw [he2 j hj]
      constructor
      · rintro ⟨k, hk, hgk, hm⟩
        obtain ⟨i, hi, hfi, hm2⟩ := (he1 k hk).1 hgk
        exact ⟨i, hi, hfi, k, hm2, hm⟩
      · rintro ⟨i, hi, hfi, k, hm1, hm2⟩
        have hk : k < s.size + 1 := by have := Re.m_le hm1; omega
        exact ⟨k, hk, (he1 k hk).2 ⟨i, hi, hfi, hm1⟩, hm2⟩
    | @or b va vb xa xb hc ha hb =>
      refine Br.mk (fun h => by cases h) (fun _ => Br.mk (fun h => by cases h) (fun _ => Br.mk (fun h => by cases h) (fun _ => Br.mk (fun _ => ?_) (fun h => by cases h))))
      simp only [Re.size] at hx
      refine ⟨fun x => Keeps No w2 x, Keeps.drew, ?_⟩
      have hS : ∀ w', Keeps No w2 w' → Vle (V No w2) (V No w') := fun w' k => V.keeps0 k
      have ld : ∀ {k : Sl → Prop}, k ⟨some ⟨b, 0, none⟩, 2, 2⟩ → LdS (fun x => Keeps No w2 x) .sl ⟨b1, 257, none⟩ k := fun {k} h => LdS.of (t := .sl) (v := ⟨some ⟨b, 0, none⟩, 2, 2⟩) (fun w' hw' => cell_of (hw'.blk0 hb1) (by rw [List.getElem?_toArray]; exact NV.getL _)) h
      have hrow : SlC (V No w2) ⟨some ⟨b, 0, none⟩, 2, 2⟩ 258 ([va, vb].map NV.cells) := (cells2 hc).mono (V.keeps0 k02)
      refine ld (IdxS.nodeS hrow hS (by omega) (by simp) fun u hu => ld (IdxS.nodeS hrow hS (by omega) (by simp) fun u' hu' => ?_))
      simp at hu hu'
      subst hu hu'
      have kd : Keeps No w w2.drew := k02.trans .drew
      refine ih xa (by omega) hs (ha.mono (V.keeps0 kd)) (hl.mono (V.keeps0 kd)) fun l1 g1 w4 k4 hl1 he1 => ⟨Keeps.drew.trans k4, ?_⟩
      refine ih xb (by omega) hs (hb.mono (V.keeps0 (kd.trans k4))) (hl.mono (V.keeps0 (kd.trans k4))) fun l2 g2 w5 k5 hl2 he2 => ⟨(Keeps.drew.trans k4).trans k5, ?_⟩
      have k25 : Keeps No w2 w5 := (Keeps.drew.trans k4).trans k5
      have z5 := k25.size
      refine Loop.mk (fun i w' => Keeps (· = b2) w5 w' ∧ ∃ k : Nat, k ≤ s.size + 1 ∧ i = (k : Int) ∧ w'.heap[b2]? = some (rowObj .bool tBool (rowB (s.size + 1) fun j => decide (j < k) && (g1 j || g2 j)))) (fun i => s.size + 1 - i.toNat) ⟨.refl, 0, by omega, rfl, ?_⟩ ?_
      · rw [k25.blk0 hb2]
        congr 2
      rintro i w6 ⟨k6, k, hk, rfl, hr⟩ R hR
      have k56 : Keeps No w w6 := (((kd.trans k4).trans k5).no (M := No)).then k6 fun i hi e => by omega
      refine Br.mk (fun ht => ?_) (fun hf => ?_)
      · have ht : k < s.size + 1 := by have := of_decide_eq_true ht; omega
        have hl1' : SlT .bool (V (fun c => c = b2) w6) l1 (rowB (s.size + 1) g1) := hl1.mono (V.move ((k5.no (M := (· = b2))).trans k6) (fun c _ hc => by show c < w2.heap.size; omega) (fun c _ hc => by have : c = b2 := hc; show c < w2.heap.size; omega))
        have hl2' : SlT .bool (V (fun c => c = b2) w6) l2 (rowB (s.size + 1) g2) := hl2.mono (V.move k6 (fun c _ hc => by have := k4.size; have : w2.heap.size ≤ w4.heap.size := (Keeps.drew.trans k4).size; show c < w4.heap.size; omega) (fun c _ hc => by have : c = b2 := hc; have : w2.heap.size ≤ w4.heap.size := (Keeps.drew.trans k4).size; show c < w4.heap.size; omega))
        have e3 : w64 ((k : Int) + 1) = ((k + 1 : Nat) : Int) := by rw [w64_eq (by omega)]; omega
        have hput : ∀ {v : Bool} {w' : World}, v = (g1 k || g2 k) → Upd b2 (rowObj .bool tBool (rowB (s.size + 1) fun j => if j = k then v else (decide (j < k) && (g1 j || g2 j)))) w6 w' → R (w64 ((k : Int) + 1)) w' := by
          intro v w' hv u
          rw [e3]
          refine hR _ w' ⟨k6.trans u.keeps, k + 1, by omega, rfl, ?_⟩ (by omega)
          rw [u.at_]
          congr 2
          rw [rowB_congr fun j hj => ?_]
          by_cases e : j = k
          · subst e; simp [hv]
          · have : decide (j < k) = decide (j < k + 1) := by rw [decide_eq_decide]; omega
            simp [e, this]
        refine IdxS.bool hl1' ht ?_
        refine Br.mk (fun h1 => ?_) (fun h1 => ?_)
        · exact IdxS.putB hr ht fun w7 u7 => hput (by simp [h1]) u7
        · refine IdxS.bool hl2' ht ?_
          exact IdxS.putB hr ht fun w7 u7 => hput (by simp [h1]) u7
      · have hf : k = s.size + 1 := by have := of_decide_eq_false hf; omega
        subst hf
        refine hK _ _ w6 k56 (Row.sl hr (fun h => by have : b2 < w.heap.size := h; omega) rowB_len.symm) fun j hj => ?_
        have : decide (j < s.size + 1) = true := by rw [decide_eq_true_iff]; omega
        simp only [this, Bool.true_and, Bool.or_eq_true]
        rw [he1 j hj, he2 j hj]
        constructor
        · rintro (⟨i, hi, hfi, hm⟩ | ⟨i, hi, hfi, hm⟩)
          · exact ⟨i, hi, hfi, .inl hm⟩
          · exact ⟨i, hi, hfi, .inr hm⟩
        · rintro ⟨i, hi, hfi, hm | hm⟩
          · exact .inl ⟨i, hi, hfi, hm⟩
          · exact .inr ⟨i, hi, hfi, hm⟩
    | @star b va xa hc ha =>
      refine Br.mk (fun h => by cases h) (fun _ => Br.mk (fun h => by cases h) (fun _ => Br.mk (fun h => by cases h) (fun _ => Br.mk (fun h => by cases h) (fun _ => ?_))))
      simp only [Re.size] at hx
      have hrow : SlC (V No w) ⟨some ⟨b, 0, none⟩, 1, 1⟩ 258 ([va].map NV.cells) := cells1 hc
      refine App.copy1 (t := .bool) elBool hb2 rowB_len.symm hl2 (by rw [rowB_len, rowB_len]) (by intro e; have := congrArg List.length e; rw [rowB_len] at this; simp at this) (fun y _ => rfl) fun w3 u3 => ?_
      -- what is gathered
      refine Loop.mk (fun i w' => Keeps (· = b2) w2 w' ∧ ∃ (k : Nat) (g : Nat → Bool), k ≤ s.size + 1 ∧ i = (k : Int) ∧ w'.heap[b2]? = some (rowObj .bool tBool (rowB (s.size + 1) g)) ∧ (∀ j, j < s.size + 1 → g j = true → ∃ i, i < s.size + 1 ∧ f i = true ∧ Clo (xa.m (bs s)) i j) ∧ (∀ i, i < s.size + 1 → f i = true → g i = true) ∧ (0 < k → k < cntB g (s.size + 1))) (fun i => s.size + 1 - i.toNat)
        ⟨u3.keeps, 0, f, by omega, rfl, u3.at_, fun j hj h => ⟨j, hj, h, .refl⟩, fun i _ h => h, by omega⟩ ?_
      rintro i w4 ⟨k4, k, g, hk, rfl, hr, hg1, hg2, hg3⟩ R hR
      have k04 : Keeps No w w4 := (k02.no (M := No)).then k4 fun i hi e => by omega
      have hcle := cntB_le g (s.size + 1)
      refine Br.mk (fun ht => ?_) (fun hf => ?_)
      · have ht : k ≤ s.size := by have := of_decide_eq_true ht; omega
        refine Ld.sl (p := some ⟨b, 0, none⟩) (n := 1) (c := 1) (cell_of (k4.blk hb1 (by omega)) (by rw [List.getElem?_toArray]; exact NV.getL _)) ?_
        refine IdxS.node (M := No) (hrow.mono (V.keeps0 k04)) (by omega) (by simp) fun u hu => ?_
        simp at hu
        subst hu
        refine ih xa (by omega) hs (ha.mono (V.keeps0 k04)) (Row.sl hr id rowB_len.symm) fun l5 g5 w5 k5 hl5 he5 => ?_
        have z4 := lt_of_some hr
        -- one round
        refine Loop.mk (fun (t : Bool × Int) w' => Keeps (· = b2) w5 w' ∧ ∃ q : Nat, q ≤ s.size + 1 ∧ t.2 = (q : Int) ∧ (t.1 = true ↔ ∃ j, j < q ∧ g5 j = true ∧ g j = false) ∧ w'.heap[b2]? = some (rowObj .bool tBool (rowB (s.size + 1) fun j => if j < q then g j || g5 j else g j))) (fun t => s.size + 1 - t.2.toNat)
          ⟨.refl, 0, by omega, rfl, by simp, ?_⟩ ?_
        · rw [k5.blk0 hr]
          rw [rowB_congr fun j hj => ?_]
          simp
        rintro ⟨more, qq⟩ w6 ⟨k6, q, hq, hqq, hmore, hr6⟩ R2 hR2
        dsimp only at hqq hmore
        subst hqq
        have k46 : Keeps (· = b2) w4 w6 := (k5.no (M := (· = b2))).trans k6
        dsimp only
        refine Br.mk (fun ht2 => ?_) (fun hf2 => ?_)
        · have ht2 : q < s.size + 1 := by have := of_decide_eq_true ht2; omega
          have hl6 : SlT .bool (V (fun c => c = b2) w6) l5 (rowB (s.size + 1) g5) := hl5.mono (V.move k6 (fun c _ hc => by show c < w4.heap.size; omega) (fun c _ hc => by have : c = b2 := hc; show c < w4.heap.size; omega))
          have hrq : SlT .bool (V No w6) ⟨some ⟨b2, 0, none⟩, s.size + 1, s.size + 1⟩ (rowB (s.size + 1) fun j => if j < q then g j || g5 j else g j) := Row.sl hr6 id rowB_len.symm
          have hgq : (if q < q then g q || g5 q else g q) = g q := by simp
          have e3 : w64 ((q : Int) + 1) = ((q + 1 : Nat) : Int) := by rw [w64_eq (by omega)]; omega
          refine Join.cut (fun (b : Bool) w' => w' = w6 ∧ (b = true ↔ ∃ j, j < q + 1 ∧ g5 j = true ∧ g j = false)) ?_ ?_
          · rintro b w' ⟨rfl, hb⟩
            have hput : ∀ {v : Bool} {w7 : World}, v = (g q || g5 q) → Upd b2 (rowObj .bool tBool (rowB (s.size + 1) fun j => if j = q then v else (if j < q then g j || g5 j else g j))) w' w7 → R2 (b, w64 ((q : Int) + 1)) w7 := by
              intro v w7 hv u
              rw [e3]
              refine hR2 _ w7 ⟨k6.trans u.keeps, q + 1, by omega, rfl, hb, ?_⟩ (by dsimp only; omega)
              rw [u.at_]
              rw [rowB_congr fun j hj => ?_]
              by_cases e : j = q
              · subst e; simp [hv]
              · by_cases e2 : j < q
                · have : j < q + 1 := by omega
                  simp [e, e2, this]
                · have : ¬ j < q + 1 := by omega
                  simp [e, e2, this]
            refine IdxS.bool hrq ht2 ?_
            simp only [Nat.lt_irrefl, if_false]
            refine Br.mk (fun h1 => ?_) (fun h1 => ?_)
            · exact IdxS.putB hr6 ht2 fun w7 u7 => hput (by simp [h1]) u7
            · refine IdxS.bool hl6 ht2 ?_
              exact IdxS.putB hr6 ht2 fun w7 u7 => hput (by simp [h1]) u7
          · intro j hj
            have step : (∃ j, j < q + 1 ∧ g5 j = true ∧ g j = false) ↔ (more = true ∨ (g5 q = true ∧ g q = false)) := by
              rw [hmore]
              constructor
              · rintro ⟨j, h1, h2, h3⟩
                by_cases e : j = q
                · subst e; exact .inr ⟨h2, h3⟩
                · exact .inl ⟨j, by omega, h2, h3⟩
              · rintro (⟨j, h1, h2, h3⟩ | ⟨h2, h3⟩)
                · exact ⟨j, by omega, h2, h3⟩
                · exact ⟨q, by omega, h2, h3⟩
            refine Br.mk (fun h1 => hj _ _ ⟨rfl, by rw [step]; simp [h1]⟩) (fun h1 => ?_)
            refine IdxS.bool hl6 ht2 (Br.mk (fun h2 => ?_) (fun h2 => hj _ _ ⟨rfl, by rw [step]; simp [h1, h2]⟩))
            refine IdxS.bool hrq ht2 ?_
            simp only [Nat.lt_irrefl, if_false]
            exact hj _ _ ⟨rfl, by rw [step]; simp [h1, h2]⟩
        · have hf2 : q = s.size + 1 := by have := of_decide_eq_false hf2; omega
          subst hf2
          have hr6' : w6.heap[b2]? = some (rowObj .bool tBool (rowB (s.size + 1) fun j => g j || g5 j)) := by
            rw [hr6, rowB_congr fun j hj => ?_]
            simp [hj]
          have k26 : Keeps (· = b2) w2 w6 := k4.trans k46
          refine Br.mk (fun hm => ?_) (fun hm => ?_)
          · -- nothing more
            have hm : more = false := by simpa using hm
            subst hm
            have hle : ∀ j, j < s.size + 1 → g5 j = true → g j = true := fun j hj h => by
              cases hgj : g j with
              | true => rfl
              | false => have := hmore.2 ⟨j, hj, h, hgj⟩; cases this
            have hr7 : w6.heap[b2]? = some (rowObj .bool tBool (rowB (s.size + 1) g)) := by
              rw [hr6', rowB_congr fun j hj => ?_]
              have := hle j hj
              cases h5 : g5 j with
              | false => rw [Bool.or_false]
              | true => rw [this h5]; rfl
            refine fin k26 hr7 fun j hj => ?_
            constructor
            · exact hg1 j hj
            · rintro ⟨i, hi, hfi, hm⟩
              change Clo (xa.m (bs s)) i j at hm
              induction hm with
              | refl => exact hg2 i hi hfi
              | @snoc j k hc r ih2 =>
                have hjk := Re.m_le r
                have hcl := Re.m_le (x := .star xa) (i := i) (j := j) hc
                exact hle k hj ((he5 k hj).2 ⟨j, by omega, ih2 (by omega), r⟩)
          · have hm : more = true := by simpa using hm
            subst hm
            obtain ⟨j0, h01, h02, h03⟩ := hmore.1 rfl
            have e3 : w64 ((k : Int) + 1) = ((k + 1 : Nat) : Int) := by rw [w64_eq (by omega)]; omega
            rw [e3]
            refine hR _ w6 ⟨k26, k + 1, fun j => g j || g5 j, by omega, rfl, hr6', fun j hj h => ?_, fun i hi h => by simp [hg2 i hi h], fun _ => ?_⟩ (by omega)
            · rcases (Bool.or_eq_true _ _).mp h with h | h
              · exact hg1 j hj h
              · obtain ⟨i, hi, hgi, hm⟩ := (he5 j hj).1 h
                obtain ⟨i0, hi0, hf0, hc0⟩ := hg1 i hi hgi
                exact ⟨i0, hi0, hf0, .snoc hc0 hm⟩
            · have h1 := cntB_lt (f := g) (g := fun j => g j || g5 j) (fun i h => by simp [h]) h01 h03 (by simp [h02])
              obtain ⟨i, hi, hgi, _⟩ := (he5 j0 h01).1 h02
              have := cntB_pos hi hgi
              by_cases hk0 : k = 0
              · subst hk0; omega
              · have := hg3 (by omega); omega
      · have hf : k = s.size + 1 := by have := of_decide_eq_false hf; omega
        have := hg3 (by omega)
        omega
end Go.Fk
end

section
set_option linter.unusedVariables false
namespace Go.Fk
open Go

theorem Matches_spec {w : World} {v : NV} {x : Re} {s : ByteArray} {K : Bool → World → Prop} (hs : s.size ≤ 1000000) (h : RNd (V No w) v x) (hK : ∀ r w', Keeps No w w' → (r = true ↔ x.m (bs s) 0 s.size) → K r w') : frisketref05_Matches.C v.cells.toArray s w K := by
  refine frisketref05_Matches.ok _ _ _ _ ?_
  simp only [frisketref05_Matches.M]
  refine Al.mk fun b1 w1 n1 => ?_
  rw [w64_eq (by omega)]
  have eN : ((s.size : Int) + 1) = ((s.size + 1 : Nat) : Int) := by omega
  rw [eN]
  refine App.make1 (t := .bool) (z := false) elBool rfl (by omega) (by omega) fun b2 w2 n2 => ?_
  have k02 : Keeps No w w2 := n1.keeps.trans n2.keeps
  have e1 := n1.eq; have e2 := n2.eq; have z1 := n1.size; have z2 := n2.size
  have hb1 : w2.heap[b1]? = some (nodeObj v) := n2.keeps.blk0 n1.at_
  have hb2 : w2.heap[b2]? = some (rowObj .bool tBool (rowB (s.size + 1) fun _ => false)) := by rw [← rowB_none]; exact n2.at_
  refine IdxS.putB (i := 0) hb2 (by omega) fun w3 u3 => ?_
  have k03 : Keeps No w w3 := u3.keeps0 k02 (by omega)
  refine LdA.node (u3.keeps.blk hb1 (by omega)) ?_
  refine Ends_spec x.size x (Nat.le_refl _) hs (h.mono (V.keeps0 k03)) (Row.sl u3.at_ id rowB_len.symm) fun l g w4 k4 hl he => ?_
  refine IdxS.bool (i := s.size) hl (by omega) ?_
  refine hK _ w4 (k03.trans k4) ?_
  rw [he s.size (by omega)]
  constructor
  · rintro ⟨i, hi, hf, hm⟩
    by_cases e : i = 0
    · subst e; exact hm
    · simp [e] at hf
  · intro hm; exact ⟨0, by omega, by simp, hm⟩

theorem All2.get2 {α β : Type} {R : α → β → Prop} {l : List α} {m : List β} (x : All2 R l m) : ∀ (i : Nat) (b : β), m[i]? = some b → ∃ a, l[i]? = some a ∧ R a b := by
  induction x with
  | nil => intro i a h; simp at h
  | cons hd _ ih =>
    intro i a h
    cases i with
    | zero => simp at h; subst h; exact ⟨_, rfl, hd⟩
    | succ i => simp at h; simpa using ih i a h

end Go.Fk
end

section
set_option linter.unusedVariables false
namespace Go.Fk
open Go

/-! ## How many states there can be -/

theorem nodup_le {α : Type} [DecidableEq α] : ∀ (l m : List α), l.Nodup → (∀ x ∈ l, x ∈ m) → l.length ≤ m.length
  | [], m, _, _ => by simp
  | a :: l, m, hn, h => by
    rw [List.nodup_cons] at hn
    have ha := h a (by simp)
    have := nodup_le l (m.erase a) hn.2 fun x hx => by
      have hne : x ≠ a := fun e => hn.1 (e ▸ hx)
      exact (List.mem_erase_of_ne hne).2 (h x (by simp [hx]))
    rw [List.length_erase_of_mem ha] at this
    have : 0 < m.length := List.length_pos_of_mem ha
    simp; omega

def allR : Nat → List (List Int)
  | 0 => [[]]
  | n + 1 => allR n ++ (allR n).map (· ++ [(n : Int)])
theorem allR_len (n : Nat) : (allR n).length = 2 ^ n := by
  induction n with
  | zero => rfl
  | succ n ih => simp [allR, ih, Nat.pow_succ]; omega
theorem allR_mem (n : Nat) : ∀ xs : List Int, xs.Pairwise (· < ·) → (∀ q ∈ xs, 0 ≤ q ∧ q < n) → xs ∈ allR n := by
  induction n with
  | zero =>
    intro xs _ h
    cases xs with
    | nil => simp [allR]
    | cons a l => have := h a (by simp); omega
  | succ n ih =>
    intro xs hp h
    simp only [allR, List.mem_append, List.mem_map]
    rcases List.eq_nil_or_concat xs with rfl | ⟨ys, z, rfl⟩
    · exact .inl (ih [] .nil (by simp))
    · rw [List.concat_eq_append] at hp h ⊢
      rw [List.pairwise_append] at hp
      have hz := h z (by simp)
      by_cases e : z = n
      · subst e
        refine .inr ⟨ys, ih ys hp.1 fun q hq => ?_, rfl⟩
        have h1 := h q (by simp [hq])
        have h2 := hp.2.2 q hq (n : Int) (by simp)
        omega
      · refine .inl (ih _ (List.pairwise_append.2 hp) fun q hq => ?_)
        have h1 := h q hq
        rcases List.mem_append.1 hq with hq | hq
        · have h2 := hp.2.2 q hq z (by simp); omega
        · simp at hq; subst hq; omega

theorem Sts.few {fs : List ((Nat → Bool) × Int)} {ks : List Kn} {svs : List DSt} (h : Sts fs ks svs) : svs.length ≤ 2 ^ fs.length := by
  have hn : (svs.map DSt.xs).Nodup := by
    rw [List.Nodup, List.pairwise_iff_getElem]
    intro i j hi hj hij he
    simp at hi hj
    have := h.inj i j svs[i] svs[j] (List.getElem?_eq_getElem hi) (List.getElem?_eq_getElem hj) (by simpa using he)
    omega
  have := nodup_le (svs.map DSt.xs) (allR fs.length) hn fun x hx => by
    obtain ⟨sv, hs, rfl⟩ := List.mem_map.1 hx
    exact allR_mem _ _ (h.rise sv hs).1 (h.rise sv hs).2
  rw [allR_len, List.length_map] at this
  exact this

/-! ## The law of a run -/

def NowS (fs : List ((Nat → Bool) × Int)) (F : Int → Int → Prop) (ks : List Kn) (s : List UInt8) (t : Nat) (q : Int) : Prop := ∃ r : Nat, r < ks.length ∧ nowP fs F (knAt ks r) s t q

section
variable {fs : List ((Nat → Bool) × Int)} {F : Int → Int → Prop} {ks : List Kn} {svs : List DSt} {cl : Nat → Int} {nc : Int} {s : List UInt8}

theorem step_zero {c : UInt8} (hc : s[0]? = some c) {q : Int} : stepS fs F ks [] c.toNat q ↔ NowS fs F ks s 1 q := by
  unfold stepS NowS nextSet
  constructor
  · rintro ⟨⟨_, r, hr, hf⟩ | ⟨p, hp, _⟩, hh⟩
    · exact ⟨r, hr, (nowP_succ hc).2 ⟨.inl ⟨rfl, hf⟩, hh⟩⟩
    · simp at hp
  · rintro ⟨r, hr, hn⟩
    obtain ⟨hx, hh⟩ := (nowP_succ hc).1 hn
    rcases hx with ⟨_, hf⟩ | ⟨p, hp, _⟩
    · exact ⟨.inl ⟨rfl, r, hr, hf⟩, hh⟩
    · exact (nowP_zero hp).elim
theorem step_succ {t : Nat} {c : UInt8} (hc : s[t + 1]? = some c) {xs : List Int} (hne : xs ≠ []) (hx : ∀ q, q ∈ xs ↔ NowS fs F ks s (t + 1) q) {q : Int} : stepS fs F ks xs c.toNat q ↔ NowS fs F ks s (t + 2) q := by
  unfold stepS nextSet
  constructor
  · rintro ⟨⟨h0, _⟩ | ⟨p, hp, hf⟩, hh⟩
    · exact absurd h0 hne
    · obtain ⟨r, hr, hn⟩ := (hx p).1 hp
      exact ⟨r, hr, (nowP_succ hc).2 ⟨nextP_succ.2 ⟨p, hn, hf⟩, hh⟩⟩
  · rintro ⟨r, hr, hn⟩
    obtain ⟨h1, hh⟩ := (nowP_succ hc).1 hn
    obtain ⟨p, hp, hf⟩ := nextP_succ.1 h1
    exact ⟨.inr ⟨p, (hx p).2 ⟨r, hr, hp⟩, hf⟩, hh⟩

/-- Where a beginning of a text has led. -/
def StateOf (fs : List ((Nat → Bool) × Int)) (F : Int → Int → Prop) (ks : List Kn) (svs : List DSt) (s : List UInt8) (t : Nat) (st : Int × Bool) : Prop :=
  (t = 0 ∧ st = (0, true)) ∨ (0 < t ∧ ((∃ (i : Nat) (sv : DSt), st = ((i : Int), true) ∧ 0 < i ∧ svs[i]? = some sv ∧ ∀ q, q ∈ sv.xs ↔ NowS fs F ks s t q) ∨ (st = (0, false) ∧ ∀ q, ¬ NowS fs F ks s t q)))

theorem runFrom_snoc (l : List UInt8) (c : UInt8) (st : Int × Bool) : runFrom svs (l ++ [c]) st = if (runFrom svs l st).2 = true then nextOf svs (runFrom svs l st).1 c.toNat else runFrom svs l st := by
  unfold runFrom
  rw [List.foldl_append]
  rfl

theorem now_dead {t : Nat} (h : ∀ q, ¬ NowS fs F ks s (t + 1) q) : ∀ q, ¬ NowS fs F ks s (t + 2) q := by
  rintro q ⟨r, hr, p, hp, hpth⟩
  generalize hj : t + 2 = j at hpth
  cases hpth with
  | one => omega
  | snoc t' f hc hh =>
    rename_i j' q0 c
    have : j' = t + 1 := by omega
    subst this
    exact h _ ⟨r, hr, p, hp, t'⟩

theorem run_state (h : DfaOK fs F ks svs cl nc) : ∀ t, t ≤ s.length → StateOf fs F ks svs s t (runFrom svs (s.take t) (0, true)) := by
  intro t
  induction t with
  | zero => intro _; exact .inl ⟨rfl, by simp [runFrom]⟩
  | succ t ih =>
    intro ht
    have hst := ih (by omega)
    have hc : s[t]? = some s[t] := List.getElem?_eq_getElem (by omega)
    generalize s[t] = c at hc
    have htk : s.take (t + 1) = s.take t ++ [c] := by rw [List.take_add_one, hc]; rfl
    rw [htk, runFrom_snoc]
    have hc256 : c.toNat < 256 := by have := c.toNat_lt; omega
    -- one step from a state
    have step : ∀ (i : Nat) (sv : DSt), svs[i]? = some sv → (∀ q, stepS fs F ks sv.xs c.toNat q ↔ NowS fs F ks s (t + 1) q) → StateOf fs F ks svs s (t + 1) (nextOf svs i c.toNat) := by
      intro i sv hi hq
      have hat : stAt svs (i : Int) = some sv := stAt_in (by omega) (by simpa using hi)
      right
      refine ⟨by omega, ?_⟩
      rcases h.good (List.mem_of_getElem? hi) hc256 with ⟨h1, h2⟩ | ⟨k, sv', hk, hk2, hk3, hk4⟩
      · right
        exact ⟨by simp [nextOf, hat, h1], fun q hn => h2 q ((hq q).2 hn)⟩
      · left
        refine ⟨k, sv', ?_, hk, hk3, fun q => by rw [hk4, hq]⟩
        have : ¬ (k : Int) = -1 := by omega
        simp [nextOf, hat, this, hk2]
    rcases hst with ⟨rfl, e⟩ | ⟨h0, ⟨i, sv, e, hi0, hi, hq⟩ | ⟨e, hq⟩⟩
    · rw [e, if_pos rfl]
      obtain ⟨sv, g1, g2⟩ := h.sts.zero
      exact step 0 sv g1 fun q => by rw [g2]; exact step_zero hc
    · rw [e, if_pos rfl]
      obtain ⟨t', rfl⟩ : ∃ k, t = k + 1 := ⟨t - 1, by omega⟩
      exact step i sv hi fun q => step_succ hc (h.sts.ne i sv hi hi0) hq
    · rw [e]
      obtain ⟨t', rfl⟩ : ∃ k, t = k + 1 := ⟨t - 1, by omega⟩
      exact .inr ⟨by omega, .inr ⟨rfl, now_dead hq⟩⟩
end

/-- The least number below n that is so; -1: there is none. -/
def LeastI (M : Nat → Prop) (n : Nat) (a : Int) : Prop := (a = -1 ∧ ∀ i, i < n → ¬ M i) ∨ ∃ i : Nat, i < n ∧ a = i ∧ M i ∧ ∀ j, j < n → M j → i ≤ j
theorem LeastI.one {M : Nat → Prop} {n : Nat} {a b : Int} (h : LeastI M n a) (h' : LeastI M n b) : a = b := by
  rcases h with ⟨rfl, h1⟩ | ⟨i, hi, rfl, h2, h3⟩ <;> rcases h' with ⟨rfl, g1⟩ | ⟨j, hj, rfl, g2, g3⟩
  · rfl
  · exact absurd g2 (h1 j hj)
  · exact absurd h2 (g1 i hi)
  · have := h3 j hj g2; have := g3 i hi h2; omega
theorem LeastI.congr {M M' : Nat → Prop} {n : Nat} {a : Int} (h : LeastI M n a) (e : ∀ i, i < n → (M i ↔ M' i)) : LeastI M' n a := by
  rcases h with ⟨rfl, h1⟩ | ⟨i, hi, rfl, h2, h3⟩
  · exact .inl ⟨rfl, fun i hi h => h1 i hi ((e i hi).2 h)⟩
  · exact .inr ⟨i, hi, rfl, (e i hi).1 h2, fun j hj h => h3 j hj ((e j hj).2 h)⟩

def Means (ys : List Re) (s : List UInt8) (t : Nat) (i : Nat) : Prop := ∃ y, ys[i]? = some y ∧ y.m s 0 t

section
variable {ys : List Re} {svs : List DSt} {cl : Nat → Int} {nc : Int} {s : List UInt8}

theorem now_rule {t : Nat} {r : Nat} {q : Int} (h : nowP (mFs 0 ys) (mFol 0 ys) (knAt (mKs 0 ys) r) s t q) : ruleAt (mFs 0 ys) q = r := by
  obtain ⟨p, hp, t⟩ := h
  have h0 := ruleAt_first (.inl hp)
  induction t with
  | one => exact h0
  | snoc _ f _ _ ih => rw [ruleAt_fol f]; exact ih

theorem acc_least {t : Nat} (ht : 0 < t) {xs : List Int} {a : Int} (hx : ∀ q, q ∈ xs ↔ NowS (mFs 0 ys) (mFol 0 ys) (mKs 0 ys) s t q) (ha : AccOf (mFs 0 ys) (mKs 0 ys) xs a) : LeastI (Means ys s t) ys.length a := by
  have hlen : (mKs 0 ys).length = ys.length := mKs_len ys 0
  -- what means it, by positions
  have fwd : ∀ i, i < ys.length → Means ys s t i → ∃ q ∈ xs, lastAt (mFs 0 ys) (mKs 0 ys) q ∧ ruleAt (mFs 0 ys) q = i := by
    rintro i hi ⟨y, hy, hm⟩
    rcases (okP_iff hy s t).2 hm with ⟨h0, _⟩ | ⟨q, hn, hl⟩
    · omega
    · have hr := now_rule hn
      exact ⟨q, (hx q).2 ⟨i, by omega, hn⟩, by unfold lastAt; rw [hr]; exact hl, hr⟩
  have back : ∀ q ∈ xs, lastAt (mFs 0 ys) (mKs 0 ys) q → ∃ i, i < ys.length ∧ ruleAt (mFs 0 ys) q = (i : Int) ∧ Means ys s t i := by
    intro q hq hl
    obtain ⟨r, hr, hn⟩ := (hx q).1 hq
    have hrl := now_rule hn
    have hy : ys[r]? = some ys[r] := List.getElem?_eq_getElem (by omega)
    refine ⟨r, by omega, hrl, ys[r], hy, (okP_iff hy s t).1 (.inr ⟨q, hn, ?_⟩)⟩
    unfold lastAt at hl
    rw [hrl] at hl; exact hl
  rcases ha with ⟨rfl, h1⟩ | ⟨⟨h0, p, hp, h1, rfl⟩, h2⟩
  · refine .inl ⟨rfl, fun i hi hm => ?_⟩
    obtain ⟨q, hq, hl, _⟩ := fwd i hi hm
    exact h1 q hq hl
  · obtain ⟨i, hi, he, hm⟩ := back p hp h1
    refine .inr ⟨i, hi, he, hm, fun j hj hmj => ?_⟩
    obtain ⟨q, hq, hl, hr⟩ := fwd j hj hmj
    have := h2 q hq hl
    omega

theorem run_law (h : DfaOK (mFs 0 ys) (mFol 0 ys) (mKs 0 ys) svs cl nc) (hs : 0 < s.length) :
    ((runFrom svs s (0, true)).2 = false → (runFrom svs s (0, true)).1 = 0 ∧ LeastI (Means ys s s.length) ys.length (-1)) ∧ ((runFrom svs s (0, true)).2 = true → LeastI (Means ys s s.length) ys.length (accOf svs (runFrom svs s (0, true)).1)) := by
  have := run_state (s := s) h s.length (Nat.le_refl _)
  rw [List.take_length] at this
  rcases this with ⟨h0, _⟩ | ⟨_, ⟨i, sv, e, hi0, hi, hq⟩ | ⟨e, hq⟩⟩
  · omega
  · rw [e]
    refine ⟨fun h => by simp at h, fun _ => ?_⟩
    have hat : stAt svs (i : Int) = some sv := stAt_in (by omega) (by simpa using hi)
    have : accOf svs (i : Int) = sv.acc := by simp [accOf, hat]
    show LeastI _ _ (accOf svs (i : Int))
    rw [this]
    exact acc_least hs hq (h.sts.acc sv (List.mem_of_getElem? hi))
  · rw [e]
    refine ⟨fun _ => ⟨rfl, acc_least (xs := []) hs (fun q => by simp [hq q]) (.inl ⟨rfl, by simp⟩)⟩, fun h => by simp at h⟩

theorem acc_zero (h : DfaOK (mFs 0 ys) (mFol 0 ys) (mKs 0 ys) svs cl nc) : accOf svs 0 = -1 := by
  obtain ⟨sv, g1, g2⟩ := h.sts.zero
  have hat : stAt svs 0 = some sv := stAt_in (by omega) (by simpa using g1)
  have ha := h.sts.acc sv (List.mem_of_getElem? g1)
  rw [g2] at ha
  have : accOf svs 0 = sv.acc := by simp [accOf, hat]
  rw [this]
  rcases ha with ⟨h, _⟩ | ⟨⟨_, p, hp, _⟩, _⟩
  · exact h
  · simp at hp
end
end Go.Fk
end

section
set_option linter.unusedVariables false
namespace Go.Fk
open Go

theorem goTop_take {l : List Int} {t r u : Int} {c : Nat} {k : Int} (h : goTop l t = some r) (hc : l[c]? = some k) (hp : goTop (l.take c) t = some u) : (k < 0 ∨ k ≤ u + 1) ∧ goTop (l.take (c + 1)) t = some (if k < 0 then u else if u < k then k else u) := by
  have hlt := (List.getElem?_eq_some_iff.1 hc).1
  have hl : l = l.take c ++ k :: l.drop (c + 1) := by
    have h1 := (List.take_append_drop c l).symm
    have h2 : l.drop c = k :: l.drop (c + 1) := by
      rw [List.drop_eq_getElem_cons hlt]
      rw [List.getElem?_eq_getElem hlt] at hc
      rw [Option.some.inj hc]
    rw [h2] at h1
    exact h1
  have hk : k < 0 ∨ k ≤ u + 1 := by
    rw [hl, goTop_append, hp] at h
    simp only [Option.bind_some, goTop] at h
    by_cases h0 : k < 0
    · exact .inl h0
    · rw [if_neg h0] at h
      by_cases h1 : u + 1 < k
      · rw [if_pos h1] at h; cases h
      · exact .inr (by omega)
  refine ⟨hk, ?_⟩
  have ht : l.take (c + 1) = l.take c ++ [k] := by rw [List.take_add_one, hc]; rfl
  rw [ht, goTop_append, hp]
  simp only [Option.bind_some, goTop]
  by_cases h0 : k < 0
  · simp [h0]
  · rw [if_neg h0, if_neg (by omega), if_neg h0]

theorem rowL_get {f : Nat → Int} {c : Nat} (h : c < 256) : (rowL f)[c]? = some (f c) := by simp [rowL, h]
theorem rowL_len {f : Nat → Int} : (rowL f).length = 256 := by simp [rowL]

theorem u8_small {c : Nat} (h : c < 256) : IntKind.wrap .u8 (c : Int) = (c : Int) := IntWalk.u8_in _ (by omega)

end Go.Fk
end

section
set_option maxRecDepth 100000
set_option linter.unusedVariables false
namespace Go.Fk
open Go

/-- frisket/least.New -/
def least_New.M (d_0 : Option Addr) (K : (Option Addr × Int) → World → Prop) (w : World) : Prop :=
  Br (d_0.isNone) (K (none, 1) w) (least_live.C d_0 w fun x22 w1 => least_kinds.C d_0 x22 w1 fun x25 w2 => dfa_Dfa_States.C d_0 w2 fun x27 w3 => App P (Instr.makeSlice T.sl_int (.int .i64 x27) (.int .i64 x27)) (.one .sl) w3 fun x28 w4 => Al (.cells #[.slice none 0 0, .slice x28.a x28.n x28.c] T.least_Least (0, 0)) w4 fun b1 w5 => Al (.map #[] 0) w5 fun m2 w6 => IdxS x25 0 1 fun p33 => Ld (.int .i64) p33 w6 fun x34 => App0 P (Instr.mapUpdate T.map_int_int (.map (some m2)) (.int .i64 x34) (.int .i64 0)) w6 fun w7 => Al (.cells #[.int .i64 0] T.int (0, 0)) w7 fun b3 w8 => Loop (fun (s4 : Sl × Int) w9 again5 => Br (decide (s4.2 < (s4.1.n : Int))) (IdxS s4.1 s4.2 1 fun p46 => Ld (.int .i64) p46 w9 fun x47 => dfa_Dfa_Accept.C d_0 x47 w9 fun x48 w10 => App P (Instr.build T.least_state #[(1, .int .i64 x48)]) .big w10 fun x49 w11 => Al (.cells (Array.replicate 257 (.int .i64 0 : Value)) T.least_state (0, 0)) w11 fun b6 w12 => StA P T.least_state (⟨b6, 0, none⟩) x49 w12 fun w13 => Loop (fun (s7 : Sl × Int) w14 again8 => Br (decide (s7.2 < (256 : Int))) (IdxA 256 (⟨b6, 0, none⟩) s7.2 1 fun p55 => St p55 (.int .i64 (-1)) w14 fun w15 => IdxS s7.1 s4.2 1 fun p60 => Ld (.int .i64) p60 w15 fun x61 => dfa_Dfa_Next.C d_0 x61 (IntKind.wrap .u8 (s7.2)) w15 fun x64 w16 => Join (fun (s9 : Bool) w17 => Br s9 (again8 (s7.1, (w64 (s7.2 + (1 : Int)))) w17) (IdxS x25 x64.1 1 fun p80 => Ld (.int .i64) p80 w17 fun x81 => App P (Instr.lookup T.map_int_int (.map (some m2)) (.int .i64 x81) true) (.tup [.one (.int .i64), .one .bool]) w17 fun x82 w18 => Join (fun (s10 : Sl × Int) w19 => IdxA 256 (⟨b6, 0, none⟩) s7.2 1 fun p102 => St p102 (.int .i64 s10.2) w19 fun w20 => again8 (s10.1, (w64 (s7.2 + (1 : Int)))) w20) fun j11 => Br (!x82.2) (IdxS x25 x64.1 1 fun p92 => Ld (.int .i64) p92 w18 fun x93 => App0 P (Instr.mapUpdate T.map_int_int (.map (some m2)) (.int .i64 x93) (.int .i64 (s7.1.n : Int))) w18 fun w21 => Al (.cells #[.int .i64 x64.1] T.int (0, 0)) w21 fun b12 w22 => App P (Builtin.append_ #[T.sl_int, T.sl_int] T.sl_int #[.slice s7.1.a s7.1.n s7.1.c, .slice (some ⟨b12, 0, none⟩) 1 1]) (.one .sl) w22 fun x98 w23 => j11 (x98, (s7.1.n : Int)) w23) (j11 (s7.1, x82.1) w18))) fun j13 => Br (!x64.2) (j13 true w16) (IdxS x22 x64.1 1 fun p72 => Ld .bool p72 w16 fun x73 => j13 (!x73) w16)) (DrawN w14 fun S14 w24 => (Ld .sl (⟨b1, 0, none⟩) w24 fun x108 => (S14 w24 ∧ LdA 257 (⟨b6, 0, none⟩) w24 fun x109 => (S14 w24 ∧ App P (Instr.buildSlice T.sl_least_state 1 #[(0, .agg x109)]) (.one .sl) w24 fun x110 w25 => (S14 w25 ∧ App P (Builtin.append_ #[T.sl_least_state, T.sl_least_state] T.sl_least_state #[.slice x108.a x108.n x108.c, .slice x110.a x110.n x110.c]) (.one .sl) w25 fun x111 w26 => (S14 w26 ∧ St (⟨b1, 0, none⟩) (.slice x111.a x111.n x111.c) w26 fun w27 => (S14 w27 ∧ again5 (s7.1, (w64 (s4.2 + (1 : Int)))) w27)))))) ∧ (LdA 257 (⟨b6, 0, none⟩) w24 fun x109 => (S14 w24 ∧ (Ld .sl (⟨b1, 0, none⟩) w24 fun x108 => (S14 w24 ∧ App P (Instr.buildSlice T.sl_least_state 1 #[(0, .agg x109)]) (.one .sl) w24 fun x110 w28 => (S14 w28 ∧ App P (Builtin.append_ #[T.sl_least_state, T.sl_least_state] T.sl_least_state #[.slice x108.a x108.n x108.c, .slice x110.a x110.n x110.c]) (.one .sl) w28 fun x111 w29 => (S14 w29 ∧ St (⟨b1, 0, none⟩) (.slice x111.a x111.n x111.c) w29 fun w30 => (S14 w30 ∧ again5 (s7.1, (w64 (s4.2 + (1 : Int)))) w30))))) ∧ (App P (Instr.buildSlice T.sl_least_state 1 #[(0, .agg x109)]) (.one .sl) w24 fun x110 w31 => (S14 w31 ∧ Ld .sl (⟨b1, 0, none⟩) w31 fun x108 => (S14 w31 ∧ App P (Builtin.append_ #[T.sl_least_state, T.sl_least_state] T.sl_least_state #[.slice x108.a x108.n x108.c, .slice x110.a x110.n x110.c]) (.one .sl) w31 fun x111 w32 => (S14 w32 ∧ St (⟨b1, 0, none⟩) (.slice x111.a x111.n x111.c) w32 fun w33 => (S14 w33 ∧ again5 (s7.1, (w64 (s4.2 + (1 : Int)))) w33))))))))) (s4.1, 0) w13) (Ld .sl (⟨b1, 1, none⟩) w9 fun x117 => Loop (fun (s15 : Int) w34 again16 => Br (decide (s15 < (x117.n : Int))) (Ld .sl (⟨b1, 1, none⟩) w34 fun x125 => IdxS x125 s15 1 fun p127 => St p127 (.int .i64 (-1)) w34 fun w35 => IdxS x25 s15 1 fun p132 => Ld (.int .i64) p132 w35 fun x133 => App P (Instr.lookup T.map_int_int (.map (some m2)) (.int .i64 x133) true) (.tup [.one (.int .i64), .one .bool]) w35 fun x134 w36 => Join (fun (s17 : Bool) w37 => Br s17 (Ld .sl (⟨b1, 1, none⟩) w37 fun x151 => IdxS x151 s15 1 fun p154 => St p154 (.int .i64 x134.1) w37 fun w38 => again16 (w64 (s15 + (1 : Int))) w38) (again16 (w64 (s15 + (1 : Int))) w37)) fun j18 => Br x134.2 (IdxS x22 s15 1 fun p141 => Ld .bool p141 w36 fun x142 => Br x142 (j18 true w36) (j18 (s15 == (0 : Int)) w36)) (j18 false w36)) (K ((some (⟨b1, 0, none⟩)), 0) w34)) 0 w9)) (⟨(some ⟨b3, 0, none⟩), 1, 1⟩, 0) w8)
theorem least_New.ok (d_0 : Option Addr) (K : (Option Addr × Int) → World → Prop) (w : World) (h : least_New.M d_0 K w) : least_New.C d_0 w K :=
  calls_of_sem (P := P) (H := [(22, .one .sl), (25, .one .sl), (27, .one (.int .i64)), (28, .one .sl), (34, .one (.int .i64)), (47, .one (.int .i64)), (48, .one (.int .i64)), (49, .big), (61, .one (.int .i64)), (64, .tup [.one (.int .i64), .one .bool]), (73, .one .bool), (81, .one (.int .i64)), (82, .tup [.one (.int .i64), .one .bool]), (93, .one (.int .i64)), (108, .one .sl), (109, .big), (110, .one .sl), (117, .one .sl), (125, .one .sl), (133, .one (.int .i64)), (134, .tup [.one (.int .i64), .one .bool]), (142, .one .bool), (151, .one .sl)]) (ann := (.n .z (.n .z (.n .z (.n .z (.n .z (.n .z (.n .z (.n (.n .z (.l [(8, .one .sl), (9, .one (.int .i64))] [0, 4, 5, 6, 7] (.n .z (.n (.n .z (.n (.n .z (.l [(8, .one .sl), (50, .one (.int .i64))] [0, 4, 5, 6, 7, 9, 10] (.n .z (.n .z (.n (.n .z (.n .z (.n .z (.n (.j [(75, .one .bool)] [0, 4, 5, 6, 7, 8, 9, 10, 11, 12, 50] .z .z) (.n .z (.j [(8, .one .sl), (14, .one (.int .i64))] [0, 4, 5, 6, 7, 9, 10, 11, 50] .z .z)))))) .z))))) .d)) .z)))) (.n (.n .z (.l [(119, .one (.int .i64))] [4, 5, 6, 7, 118] (.n .z (.n .z (.n (.n .z (.n .z (.n .z (.j [(147, .one .bool)] [4, 5, 6, 7, 16, 17, 118, 119] .z .z)))) .z))))) .z)))))))))) (args := [.pointer d_0]) (rt := .tup [.one .ptr, .one (.int .i64)]) P_mixed rfl rfl (by kernel_rfl) (by kernel_rfl)
    ((show _ = least_New.M d_0 K w by kernel_rfl).mpr h)

/-- frisket/least.live -/
def least_live.M (d_0 : Option Addr) (K : Sl → World → Prop) (w : World) : Prop :=
  dfa_Dfa_States.C d_0 w fun x11 w1 => App P (Instr.makeSlice T.sl_bool (.int .i64 x11) (.int .i64 x11)) (.one .sl) w1 fun x12 w2 => Loop (fun (s1 : Int) w3 again2 => Br (decide (s1 < (x12.n : Int))) (dfa_Dfa_Accept.C d_0 s1 w3 fun x22 w4 => IdxS x12 s1 1 fun p24 => St p24 (.bool (x22 != (-1 : Int))) w4 fun w5 => again2 (w64 (s1 + (1 : Int))) w5) (Loop (fun (s3 : Bool) w6 again4 => Br s3 (Loop (fun (s5 : Bool × Int) w7 again6 => Br (decide (s5.2 < (x12.n : Int))) (Loop (fun (s7 : Bool × Int) w8 again8 => Join (fun (s9 : Bool) w9 => Br s9 (dfa_Dfa_Next.C d_0 s5.2 (IntKind.wrap .u8 (s7.2)) w9 fun x48 w10 => Join (fun (s10 : Bool) w11 => Br s10 (IdxS x12 s5.2 1 fun p60 => St p60 (.bool true) w11 fun w12 => again8 (true, (w64 (s7.2 + (1 : Int)))) w12) (again8 (s7.1, (w64 (s7.2 + (1 : Int)))) w11)) fun j11 => Br x48.2 (IdxS x12 x48.1 1 fun p55 => Ld .bool p55 w10 fun x56 => j11 x56 w10) (j11 false w10)) (again6 (s7.1, (w64 (s5.2 + (1 : Int)))) w9)) fun j12 => Br (decide (s7.2 < (256 : Int))) (IdxS x12 s5.2 1 fun p37 => Ld .bool p37 w8 fun x38 => j12 (!x38) w8) (j12 false w8)) (s5.1, 0) w7) (again4 s5.1 w7)) (false, 0) w6) (K x12 w6)) true w3)) 0 w2
theorem least_live.ok (d_0 : Option Addr) (K : Sl → World → Prop) (w : World) (h : least_live.M d_0 K w) : least_live.C d_0 w K :=
  calls_of_sem (P := P) (H := [(11, .one (.int .i64)), (12, .one .sl), (22, .one (.int .i64)), (38, .one .bool), (48, .tup [.one (.int .i64), .one .bool]), (56, .one .bool)]) (ann := (.n .z (.n .z (.n (.n .z (.l [(15, .one (.int .i64))] [0, 3, 14] .z)) (.n (.n .z (.l [(5, .one .bool)] [0, 3] (.n .z (.n .z (.n .z (.l [(5, .one .bool), (29, .one (.int .i64))] [0, 3, 28] (.n .z (.n .z (.n (.n .z (.n .z (.l [(5, .one .bool), (7, .one (.int .i64))] [0, 3, 6, 28, 29] (.n (.j [(40, .one .bool)] [0, 3, 5, 6, 7, 28, 29] .z .z) (.n (.n .z (.j [(57, .one .bool)] [0, 3, 5, 6, 7, 28, 29] .z .z)) .z))))) .z))))))))) .z))))) (args := [.pointer d_0]) (rt := .one .sl) P_mixed rfl rfl (by kernel_rfl) (by kernel_rfl)
    ((show _ = least_live.M d_0 K w by kernel_rfl).mpr h)

/-- frisket/least.kinds -/
def least_kinds.M (d_0 : Option Addr) (lives_1 : Sl) (K : Sl → World → Prop) (w : World) : Prop :=
  dfa_Dfa_States.C d_0 w fun x11 w1 => App P (Instr.makeSlice T.sl_int (.int .i64 x11) (.int .i64 x11)) (.one .sl) w1 fun x12 w2 => Al (.cells #[.pointer d_0, .slice lives_1.a lives_1.n lives_1.c, .slice x12.a x12.n x12.c, .int .i64 0] T.least_rounds (0, 0)) w2 fun b1 w3 => Al (.map #[] 0) w3 fun m2 w4 => Ld .sl (⟨b1, 2, none⟩) w4 fun x19 => Loop (fun (s3 : Int) w5 again4 => Br (decide (s3 < (x19.n : Int))) (Join (fun (s5 : Unit) w6 => Ld .sl (⟨b1, 2, none⟩) w6 fun x42 => IdxS x42 s3 1 fun p44 => Ld (.int .i64) p44 w6 fun x45 => App0 P (Instr.mapUpdate T.map_int_bool (.map (some m2)) (.int .i64 x45) (.bool true)) w6 fun w7 => again4 (w64 (s3 + (1 : Int))) w7) fun j6 => IdxS lives_1 s3 1 fun p26 => Ld .bool p26 w5 fun x27 => Br x27 (Draw w5 fun S7 w8 => LdS S7 .sl (⟨b1, 2, none⟩) fun x31 => dfa_Dfa_Accept.C d_0 s3 w8 fun x35 w9 => (S7 w9 ∧ IdxS x31 s3 1 fun p37 => St p37 (.int .i64 (w64 (x35 + (2 : Int)))) w9 fun w10 => (S7 w10 ∧ j6 () w10))) (j6 () w5)) (App P (Builtin.len_ #[T.map_int_bool] T.int #[.map (some m2)]) (.one (.int .i64)) w5 fun x49 w11 => St (⟨b1, 3, none⟩) (.int .i64 x49) w11 fun w12 => Loop (fun (s8 : Unit) w13 again9 => least_rounds_again.C (some (⟨b1, 0, none⟩)) w13 fun x53 w14 => Br x53 (again9 () w14) (Ld .sl (⟨b1, 2, none⟩) w14 fun x57 => K x57 w14)) () w12)) 0 w4
theorem least_kinds.ok (d_0 : Option Addr) (lives_1 : Sl) (K : Sl → World → Prop) (w : World) (h : least_kinds.M d_0 lives_1 K w) : least_kinds.C d_0 lives_1 w K :=
  calls_of_sem (P := P) (H := [(11, .one (.int .i64)), (12, .one .sl), (19, .one .sl), (27, .one .bool), (31, .one .sl), (35, .one (.int .i64)), (42, .one .sl), (45, .one (.int .i64)), (53, .one .bool), (57, .one .sl)]) (ann := (.n .z (.n .z (.n .z (.n (.n .z (.l [(21, .one (.int .i64))] [0, 1, 5, 6, 20] (.n .z (.n .z (.n (.n .z (.j [] [0, 1, 5, 6, 7, 20, 21] .z .z)) .z))))) (.n .z (.n (.l [] [5] .z) .z))))))) (args := [.pointer d_0, .slice lives_1.a lives_1.n lives_1.c]) (rt := .one .sl) P_mixed rfl rfl (by kernel_rfl) (by kernel_rfl)
    ((show _ = least_kinds.M d_0 lives_1 K w by kernel_rfl).mpr h)

/-- frisket/frisketref05.Longest -/
def frisketref05_Longest.M (n_0 : Array Value) (s_1 : ByteArray) (K : Int → World → Prop) (w : World) : Prop :=
  Al (.cells n_0 T.frisketref05_Node (0, 0)) w fun b1 w1 => App P (Instr.makeSlice T.sl_bool (.int .i64 (w64 ((s_1.size : Int) + (1 : Int)))) (.int .i64 (w64 ((s_1.size : Int) + (1 : Int))))) (.one .sl) w1 fun x11 w2 => IdxS x11 0 1 fun p13 => St p13 (.bool true) w2 fun w3 => LdA 258 (⟨b1, 0, none⟩) w3 fun x14 => frisketref05_Ends.C x14 s_1 x11 w3 fun x17 w4 => Loop (fun (s2 : Int) w5 again3 => Br (decide ((0 : Int) ≤ s2)) (IdxS x17 s2 1 fun p26 => Ld .bool p26 w5 fun x27 => Br x27 (K s2 w5) (again3 (w64 (s2 - (1 : Int))) w5)) (K (-1) w5)) (s_1.size : Int) w4
theorem frisketref05_Longest.ok (n_0 : Array Value) (s_1 : ByteArray) (K : Int → World → Prop) (w : World) (h : frisketref05_Longest.M n_0 s_1 K w) : frisketref05_Longest.C n_0 s_1 w K :=
  calls_of_sem (P := P) (H := [(11, .one .sl), (14, .big), (17, .one .sl), (27, .one .bool)]) (ann := (.n .z (.n .z (.n .z (.n .z (.n (.n .z (.l [(7, .one (.int .i64))] [6] .z)) .z)))))) (args := [.agg n_0, .string s_1]) (rt := .one (.int .i64)) P_mixed rfl rfl (by kernel_rfl) (by kernel_rfl)
    ((show _ = frisketref05_Longest.M n_0 s_1 K w by kernel_rfl).mpr h)

/-- (*frisket/least.Least).Longest -/
def least_Least_Longest.M (l_0 : Option Addr) (s_1 : ByteArray) (K : (Int × Int × Int) → World → Prop) (w : World) : Prop :=
  Loop (fun (s1 : Int × Int × Int × Int) w1 again2 => Br (decide (s1.2.2.2 < (s_1.size : Int))) (IdxStr s_1 s1.2.2.2 fun x23 => least_Least_Next.C l_0 s1.2.2.1 (x23.toNat : Int) w1 fun x24 w2 => Br (!x24.2) (K (s1.1, s1.2.1, (w64 (s1.2.2.2 + (1 : Int)))) w2) (least_Least_Accept.C l_0 x24.1 w2 fun x36 w3 => Br (x36 != (-1 : Int)) (least_Least_Accept.C l_0 x24.1 w3 fun x40 w4 => again2 (x40, (w64 (s1.2.2.2 + (1 : Int))), x24.1, (w64 (s1.2.2.2 + (1 : Int)))) w4) (again2 (s1.1, s1.2.1, x24.1, (w64 (s1.2.2.2 + (1 : Int)))) w3))) (K (s1.1, s1.2.1, (s_1.size : Int)) w1)) ((-1), 0, 0, 0) w
theorem least_Least_Longest.ok (l_0 : Option Addr) (s_1 : ByteArray) (K : (Int × Int × Int) → World → Prop) (w : World) (h : least_Least_Longest.M l_0 s_1 K w) : least_Least_Longest.C l_0 s_1 w K :=
  calls_of_sem (P := P) (H := [(24, .tup [.one (.int .i64), .one .bool]), (36, .one (.int .i64)), (40, .one (.int .i64))]) (ann := (.n .z (.n .z (.n (.n .z (.l [(7, .one (.int .i64)), (8, .one (.int .i64)), (9, .one (.int .i64)), (15, .one (.int .i64))] [0, 1, 14] .z)) .z)))) (args := [.pointer l_0, .string s_1]) (rt := .tup [.one (.int .i64), .one (.int .i64), .one (.int .i64)]) P_mixed rfl rfl (by kernel_rfl) (by kernel_rfl)
    ((show _ = least_Least_Longest.M l_0 s_1 K w by kernel_rfl).mpr h)

/-- (*frisket/least.Least).Run -/
def least_Least_Run.M (l_0 : Option Addr) (s_1 : ByteArray) (K : (Int × Bool) → World → Prop) (w : World) : Prop :=
  Loop (fun (s1 : Int × Bool × Int) w1 again2 => Join (fun (s3 : Bool) w2 => Br s3 (IdxStr s_1 s1.2.2 fun x25 => least_Least_Next.C l_0 s1.1 (x25.toNat : Int) w2 fun x26 w3 => again2 (x26.1, x26.2, (w64 (s1.2.2 + (1 : Int)))) w3) (K (s1.1, s1.2.1) w2)) fun j4 => Br (decide (s1.2.2 < (s_1.size : Int))) (j4 s1.2.1 w1) (j4 false w1)) (0, (!l_0.isNone), 0) w
theorem least_Least_Run.ok (l_0 : Option Addr) (s_1 : ByteArray) (K : (Int × Bool) → World → Prop) (w : World) (h : least_Least_Run.M l_0 s_1 K w) : least_Least_Run.C l_0 s_1 w K :=
  calls_of_sem (P := P) (H := [(26, .tup [.one (.int .i64), .one .bool])]) (ann := (.n .z (.n .z (.n (.n .z (.l [(6, .one (.int .i64)), (7, .one .bool), (8, .one (.int .i64))] [0, 1] (.n (.j [(17, .one .bool)] [0, 1, 6, 7, 8] .z .z) .z))) .z)))) (args := [.pointer l_0, .string s_1]) (rt := .tup [.one (.int .i64), .one .bool]) P_mixed rfl rfl (by kernel_rfl) (by kernel_rfl)
    ((show _ = least_Least_Run.M l_0 s_1 K w by kernel_rfl).mpr h)

/-- (*frisket/least.rounds).again -/
def least_rounds_again.M (r_0 : Option Addr) (K : Bool → World → Prop) (w : World) : Prop :=
  Al (.map #[] 0) w fun m1 w1 => NilC r_0 fun a12 => Ld .sl (a12.add 2) w1 fun x14 => App P (Instr.makeSlice T.sl_int (.int .i64 (x14.n : Int)) (.int .i64 (x14.n : Int))) (.one .sl) w1 fun x16 w2 => Loop (fun (s2 : Int) w3 again3 => Br (decide (s2 < (x16.n : Int))) (least_rounds_row.C r_0 s2 w3 fun x24 w4 => Al (.cells (Array.replicate 257 (.int .i64 0 : Value)) T.least_row (0, 0)) w4 fun b4 w5 => StA P T.least_row (⟨b4, 0, none⟩) x24 w5 fun w6 => LdA 257 (⟨b4, 0, none⟩) w6 fun x27 => App P (Instr.lookup T.map_least_row_int (.map (some m1)) (.agg x27) true) (.tup [.one (.int .i64), .one .bool]) w6 fun x28 w7 => Join (fun (s5 : Int) w8 => IdxS x16 s2 1 fun p41 => St p41 (.int .i64 s5) w8 fun w9 => again3 (w64 (s2 + (1 : Int))) w9) fun j6 => Br (!x28.2) (App P (Builtin.len_ #[T.map_least_row_int] T.int #[.map (some m1)]) (.one (.int .i64)) w7 fun x34 w10 => LdA 257 (⟨b4, 0, none⟩) w10 fun x36 => App0 P (Instr.mapUpdate T.map_least_row_int (.map (some m1)) (.agg x36) (.int .i64 x34)) w10 fun w11 => j6 x34 w11) (j6 x28.1 w7)) (Draw w3 fun S7 w12 => AppS P S7 (Builtin.len_ #[T.map_least_row_int] T.int #[.map (some m1)]) (.one (.int .i64)) fun x44 => NilC r_0 fun a46 => LdS S7 (.int .i64) (a46.add 3) fun x48 => App P (Builtin.len_ #[T.map_least_row_int] T.int #[.map (some m1)]) (.one (.int .i64)) w12 fun x54 w13 => NilC r_0 fun a55 => St (a55.add 2) (.slice x16.a x16.n x16.c) w13 fun w14 => NilC r_0 fun a57 => St (a57.add 3) (.int .i64 x54) w14 fun w15 => K (decide (x48 < x44)) w15)) 0 w2
theorem least_rounds_again.ok (r_0 : Option Addr) (K : Bool → World → Prop) (w : World) (h : least_rounds_again.M r_0 K w) : least_rounds_again.C r_0 w K :=
  calls_of_sem (P := P) (H := [(14, .one .sl), (16, .one .sl), (24, .big), (27, .big), (28, .tup [.one (.int .i64), .one .bool]), (36, .big), (48, .one (.int .i64))]) (ann := (.n .z (.n .z (.n .z (.n (.n .z (.l [(19, .one (.int .i64))] [0, 3, 4, 18] (.n .z (.n .z (.n (.n .z (.n .z (.n .z (.j [(7, .one (.int .i64))] [0, 3, 4, 5, 18, 19] .z .z)))) .z))))) .z))))) (args := [.pointer r_0]) (rt := .one .bool) P_mixed rfl rfl (by kernel_rfl) (by kernel_rfl)
    ((show _ = least_rounds_again.M r_0 K w by kernel_rfl).mpr h)

/-- (*frisket/least.Least).Next -/
def least_Least_Next.M (l_0 : Option Addr) (n_1 : Int) (b_2 : Int) (K : (Int × Bool) → World → Prop) (w : World) : Prop :=
  Join (fun (s1 : Bool) w1 => Br s1 (K (0, false) w1) (NilC l_0 fun a26 => Ld .sl a26 w1 fun x28 => IdxS x28 n_1 257 fun p31 => IdxA 256 p31 b_2 1 fun p33 => Ld (.int .i64) p33 w1 fun x34 => K (x34, true) w1)) fun j2 => least_Least_has.C l_0 n_1 w fun x10 w2 => Br (!x10) (j2 true w2) (NilC l_0 fun a14 => Ld .sl a14 w2 fun x16 => IdxS x16 n_1 257 fun p19 => IdxA 256 p19 b_2 1 fun p21 => Ld (.int .i64) p21 w2 fun x22 => j2 (x22 == (-1 : Int)) w2)
theorem least_Least_Next.ok (l_0 : Option Addr) (n_1 : Int) (b_2 : Int) (K : (Int × Bool) → World → Prop) (w : World) (h : least_Least_Next.M l_0 n_1 b_2 K w) : least_Least_Next.C l_0 n_1 b_2 w K :=
  calls_of_sem (P := P) (H := [(10, .one .bool), (16, .one .sl), (22, .one (.int .i64)), (28, .one .sl), (34, .one (.int .i64))]) (ann := (.n .z (.n (.j [(24, .one .bool)] [0, 1, 2] .z .z) .z))) (args := [.pointer l_0, .int .i64 n_1, .int .u8 b_2]) (rt := .tup [.one (.int .i64), .one .bool]) P_mixed rfl rfl (by kernel_rfl) (by kernel_rfl)
    ((show _ = least_Least_Next.M l_0 n_1 b_2 K w by kernel_rfl).mpr h)

/-- (*frisket/least.Least).Accept -/
def least_Least_Accept.M (l_0 : Option Addr) (n_1 : Int) (K : Int → World → Prop) (w : World) : Prop :=
  least_Least_has.C l_0 n_1 w fun x7 w1 => Br (!x7) (K (-1) w1) (NilC l_0 fun a10 => Ld .sl a10 w1 fun x12 => IdxS x12 n_1 257 fun p14 => Ld (.int .i64) (p14.add 256) w1 fun x16 => K x16 w1)
theorem least_Least_Accept.ok (l_0 : Option Addr) (n_1 : Int) (K : Int → World → Prop) (w : World) (h : least_Least_Accept.M l_0 n_1 K w) : least_Least_Accept.C l_0 n_1 w K :=
  calls_of_sem (P := P) (H := [(7, .one .bool), (12, .one .sl), (16, .one (.int .i64))]) (ann := .z) (args := [.pointer l_0, .int .i64 n_1]) (rt := .one (.int .i64)) P_mixed rfl rfl (by kernel_rfl) (by kernel_rfl)
    ((show _ = least_Least_Accept.M l_0 n_1 K w by kernel_rfl).mpr h)

/-- (*frisket/least.rounds).row -/
def least_rounds_row.M (r_0 : Option Addr) (n_1 : Int) (K : Array Value → World → Prop) (w : World) : Prop :=
  Al (.cells (Array.replicate 257 (.int .i64 0 : Value)) T.least_row (0, 0)) w fun b1 w1 => NilC r_0 fun a10 => Ld .sl (a10.add 2) w1 fun x12 => IdxS x12 n_1 1 fun p14 => Ld (.int .i64) p14 w1 fun x15 => App P (Instr.build T.least_row #[(1, .int .i64 x15)]) .big w1 fun x16 w2 => Al (.cells (Array.replicate 257 (.int .i64 0 : Value)) T.least_row (0, 0)) w2 fun b2 w3 => StA P T.least_row (⟨b2, 0, none⟩) x16 w3 fun w4 => Loop (fun (s3 : Int) w5 again4 => Br (decide (s3 < (256 : Int))) (IdxA 256 (⟨b2, 0, none⟩) s3 1 fun p22 => St p22 (.int .i64 (-1)) w5 fun w6 => NilC r_0 fun a25 => Ld .ptr a25 w6 fun x27 => dfa_Dfa_Next.C x27 n_1 (IntKind.wrap .u8 (s3)) w6 fun x31 w7 => Join (fun (s5 : Bool) w8 => Br s5 (NilC r_0 fun a46 => Ld .sl (a46.add 2) w8 fun x48 => IdxS x48 x31.1 1 fun p50 => Ld (.int .i64) p50 w8 fun x51 => IdxA 256 (⟨b2, 0, none⟩) s3 1 fun p53 => St p53 (.int .i64 x51) w8 fun w9 => again4 (w64 (s3 + (1 : Int))) w9) (again4 (w64 (s3 + (1 : Int))) w8)) fun j6 => Br x31.2 (NilC r_0 fun a37 => Ld .sl (a37.add 1) w7 fun x39 => IdxS x39 x31.1 1 fun p41 => Ld .bool p41 w7 fun x42 => j6 x42 w7) (j6 false w7)) (LdA 257 (⟨b2, 0, none⟩) w5 fun x55 => StA P T.least_row (⟨b1, 0, none⟩) x55 w5 fun w10 => LdA 257 (⟨b1, 0, none⟩) w10 fun r0 => K r0 w10)) 0 w4
theorem least_rounds_row.ok (r_0 : Option Addr) (n_1 : Int) (K : Array Value → World → Prop) (w : World) (h : least_rounds_row.M r_0 n_1 K w) : least_rounds_row.C r_0 n_1 w K :=
  calls_of_sem (P := P) (H := [(4, .big), (12, .one .sl), (15, .one (.int .i64)), (16, .big), (27, .one .ptr), (31, .tup [.one (.int .i64), .one .bool]), (39, .one .sl), (42, .one .bool), (48, .one .sl), (51, .one (.int .i64)), (55, .big)]) (ann := (.n .z (.n .z (.n (.n .z (.l [(17, .one (.int .i64))] [0, 1, 4, 5] (.n .z (.n .z (.n (.n .z (.n .z (.n .z (.j [(43, .one .bool)] [0, 1, 4, 5, 6, 7, 17] .z .z)))) .z))))) .z)))) (args := [.pointer r_0, .int .i64 n_1]) (rt := .big) P_mixed rfl rfl (by kernel_rfl) (by kernel_rfl)
    ((show _ = least_rounds_row.M r_0 n_1 K w by kernel_rfl).mpr h)

/-- (*frisket/least.Least).has -/
def least_Least_has.M (l_0 : Option Addr) (n_1 : Int) (K : Bool → World → Prop) (w : World) : Prop :=
  Br (decide ((0 : Int) ≤ n_1)) (least_Least_States.C l_0 w fun x10 w1 => K (decide (n_1 < x10)) w1) (K false w)
theorem least_Least_has.ok (l_0 : Option Addr) (n_1 : Int) (K : Bool → World → Prop) (w : World) (h : least_Least_has.M l_0 n_1 K w) : least_Least_has.C l_0 n_1 w K :=
  calls_of_sem (P := P) (H := [(10, .one (.int .i64))]) (ann := .z) (args := [.pointer l_0, .int .i64 n_1]) (rt := .one .bool) P_mixed rfl rfl (by kernel_rfl) (by kernel_rfl)
    ((show _ = least_Least_has.M l_0 n_1 K w by kernel_rfl).mpr h)

/-- (*frisket/least.Least).States -/
def least_Least_States.M (l_0 : Option Addr) (K : Int → World → Prop) (w : World) : Prop :=
  Br (l_0.isNone) (K 0 w) (NilC l_0 fun a6 => Ld .sl a6 w fun x8 => K (x8.n : Int) w)
theorem least_Least_States.ok (l_0 : Option Addr) (K : Int → World → Prop) (w : World) (h : least_Least_States.M l_0 K w) : least_Least_States.C l_0 w K :=
  calls_of_sem (P := P) (H := [(8, .one .sl)]) (ann := .z) (args := [.pointer l_0]) (rt := .one (.int .i64)) P_mixed rfl rfl (by kernel_rfl) (by kernel_rfl)
    ((show _ = least_Least_States.M l_0 K w by kernel_rfl).mpr h)

end Go.Fk
end

section
set_option linter.unusedVariables false
namespace Go.Fk
open Go Go.MapKept

/-! ## Rows given by a rule; which states live -/

def rowG {α : Type} (N : Nat) (f : Nat → α) : List α := (List.range N).map f
section
variable {α : Type} {N : Nat} {f g : Nat → α}
theorem rowG_len : (rowG N f).length = N := by simp [rowG]
theorem rowG_get {i : Nat} (h : i < N) : (rowG N f)[i]? = some (f i) := by simp [rowG, h]
theorem rowG_congr (h : ∀ i, i < N → f i = g i) : rowG N f = rowG N g := List.map_congr_left fun i hi => h i (by simpa using hi)
theorem rowG_set {i : Nat} {v : α} : (rowG N f).set i v = rowG N fun j => if j = i then v else f j := by
  refine List.ext_getElem? fun j => ?_
  rw [List.getElem?_set]
  by_cases hj : j < N
  · rw [rowG_get hj, rowG_get hj, rowG_len]
    by_cases e : i = j
    · subst e; simp [hj]
    · simp [e, Ne.symm e]
  · have e1 : ∀ h : Nat → α, (rowG N h)[j]? = none := fun h => List.getElem?_eq_none (by rw [rowG_len]; omega)
    rw [e1, e1, rowG_len]
    by_cases e : i = j
    · subst e; simp [hj]
    · simp [e]
theorem rowG_rep {v : α} : List.replicate N v = rowG N fun _ => v := by simp [rowG, List.map_const']
end
theorem IdxS.getG {t : Ty} {M : Nat → Prop} {w : World} {l : Sl} {N : Nat} {f : Nat → t.T} {i : Nat} {K : t.T → Prop} (h : SlT t (V M w) l (rowG N f)) (hi : i < N) (hk : K (f i)) : IdxS l (i : Int) 1 fun p => Ld t p w K := by
  refine IdxS.get h (by omega) (by rw [rowG_len]; omega) fun x hx => ?_
  rw [Int.toNat_natCast, rowG_get hi] at hx
  cases hx; exact hk
theorem IdxS.putG {t : Ty} {E : TypeId} {N : Nat} {f : Nat → t.T} {w : World} {b : Nat} {c i : Nat} {v : t.T} {k : World → Prop} (h : w.heap[b]? = some (rowObj t E (rowG N f))) (hi : i < N)
    (hk : ∀ w', Upd b (rowObj t E (rowG N fun j => if j = i then v else f j)) w w' → k w') : IdxS ⟨some ⟨b, 0, none⟩, N, c⟩ (i : Int) 1 fun p => St p (t.enc v) w k := by
  refine IdxS.put (t := t) (v := v) h (by omega) (by omega) rowG_len.symm fun w' u => hk w' ?_
  rw [Int.toNat_natCast, rowG_set] at u
  exact u

/-! ## The automaton as a table -/

structure Aut (svs : List DSt) : Prop where
  pos : 0 < svs.length
  few : svs.length ≤ 2000
  rng : ∀ sv ∈ svs, ∀ c, c < 256 → sv.nx c = -1 ∨ 0 ≤ sv.nx c ∧ sv.nx c < svs.length
  acc : ∀ sv ∈ svs, -1 ≤ sv.acc ∧ sv.acc ≤ 100000

def nxt (svs : List DSt) (n b : Nat) : Option Nat := match svs[n]? with
  | some sv => if sv.nx b = -1 then none else some (sv.nx b).toNat
  | none => none
def ac (svs : List DSt) (n : Nat) : Int := accOf svs n

variable {svs : List DSt} {cl : Nat → Int} {nc : Int}

theorem Aut.nxt_lt (A : Aut svs) {n b k : Nat} (hb : b < 256) (h : nxt svs n b = some k) : k < svs.length ∧ n < svs.length := by
  unfold nxt at h
  cases hs : svs[n]? with
  | none => rw [hs] at h; cases h
  | some sv =>
    rw [hs] at h
    dsimp only at h
    have hr := A.rng sv (List.mem_of_getElem? hs) b hb
    have hl := (List.getElem?_eq_some_iff.1 hs).1
    by_cases e : sv.nx b = -1
    · rw [if_pos e] at h; cases h
    · rw [if_neg e] at h; cases h; omega

theorem Aut.next (A : Aut svs) {n b : Nat} (hb : b < 256) : nextOf svs (n : Nat) b = match nxt svs n b with
    | some k => ((k : Int), true)
    | none => (0, false) := by
  unfold nxt
  cases hs : svs[n]? with
  | none => simp [nextOf, stAt, hs]
  | some sv =>
    have hr := A.rng sv (List.mem_of_getElem? hs) b hb
    rw [nextOf, stAt_in (by omega) (by simpa using hs)]
    dsimp only
    by_cases e : sv.nx b = -1
    · rw [if_pos e, if_pos e]
    · rw [if_neg e, if_neg e]
      have : (((sv.nx b).toNat : Nat) : Int) = sv.nx b := by omega
      simp only [this]

theorem Aut.ac_rng (A : Aut svs) (n : Nat) : -1 ≤ ac svs n ∧ ac svs n ≤ 100000 := by
  unfold ac accOf
  cases hs : svs[n]? with
  | none => simp [stAt, hs]
  | some sv =>
    rw [stAt_in (by omega) (by simpa using hs)]
    exact A.acc sv (List.mem_of_getElem? hs)

/-- A state that leads to one that accepts. -/
inductive Alive (svs : List DSt) : Nat → Prop
  | acc {n : Nat} : n < svs.length → ac svs n ≠ -1 → Alive svs n
  | step {n b k : Nat} : b < 256 → nxt svs n b = some k → Alive svs k → Alive svs n

set_option maxRecDepth 20000 in
theorem live_spec {w : World} {d : Option Addr} {M : Nat → Prop} (hd : DfaO (V No w) d svs cl nc) (A : Aut svs) {K : Sl → World → Prop}
    (hK : ∀ l w' lv, Keeps No w w' → SlT .bool (V No w') l (rowG svs.length lv) → (∀ n, n < svs.length → (lv n = true ↔ Alive svs n)) → K l w') : least_live.C d w K := by
  have hfew := A.few
  refine least_live.ok _ _ _ ?_
  simp only [least_live.M]
  refine dfa_States_spec hd ?_
  refine App.make1 (t := .bool) (z := false) elBool rfl (by omega) (by omega) fun bl w1 n1 => ?_
  have e1 := n1.eq; have z1 := n1.size
  have o1 := n1.at_
  rw [rowG_rep] at o1
  -- all that is kept
  have hdd : ∀ {w'}, Keeps (· = bl) w1 w' → DfaO (V No w') d svs cl nc := fun {w'} k => (hd.mono (V.move (n1.keeps.then k fun b hb h => by omega) (fun _ _ h => h.elim) (M' := No) fun _ _ h => h.elim))
  refine Loop.mk (fun s w' => Keeps (· = bl) w1 w' ∧ ∃ i : Nat, i ≤ svs.length ∧ s = (i : Int) ∧ w'.heap[bl]? = some (rowObj .bool tBool (rowG svs.length fun j => if j < i then ac svs j != -1 else false))) (fun s => svs.length - s.toNat) ⟨.refl, 0, by omega, rfl, by simpa using o1⟩ ?_
  rintro s w2 ⟨k2, i, hi, rfl, o2⟩ R hR
  refine Br.mk (fun ht => ?_) (fun hf => ?_)
  · have ht : i < svs.length := by have h9 : (_ : Int) < (svs.length : Int) := of_decide_eq_true ht; omega
    refine dfa_Accept_spec (hdd k2) ?_
    refine IdxS.putG (t := .bool) (v := ac svs i != -1) o2 ht fun w3 u3 => ?_
    have e4 : w64 ((i : Int) + 1) = ((i + 1 : Nat) : Int) := by rw [w64_eq (by omega)]; omega
    rw [e4]
    refine hR _ _ ⟨k2.trans u3.keeps, i + 1, by omega, rfl, ?_⟩ (by omega)
    rw [u3.at_]
    congr 2
    refine rowG_congr fun j hj => ?_
    by_cases e : j = i
    · subst e; simp
    · have : (j < i + 1) ↔ j < i := by omega
      simp [e, this]
  · have hf : i = svs.length := by have h9 : ¬ (_ : Int) < (svs.length : Int) := of_decide_eq_false hf; omega
    subst hf
    have o3 : w2.heap[bl]? = some (rowObj .bool tBool (rowG svs.length fun j => if j < svs.length then ac svs j != -1 else false)) := o2
    -- the fixpoint
    let Inv : (Nat → Bool) → Prop := fun f => (∀ j, f j = true → Alive svs j) ∧ (∀ j, j < svs.length → ac svs j ≠ -1 → f j = true)
    let Clo : (Nat → Bool) → Nat → Nat → Prop := fun f n b => ∀ j c k, c < 256 → (j < n ∨ j = n ∧ c < b) → nxt svs j c = some k → f k = true → f j = true
    let Ob : World → (Nat → Bool) → Prop := fun w' f => Keeps (· = bl) w1 w' ∧ w'.heap[bl]? = some (rowObj .bool tBool (rowG svs.length f))
    refine Loop.mkn (fun m s w' => ∃ f, Ob w' f ∧ Inv f ∧ (s = false → Clo f svs.length 0) ∧ m = svs.length - cntB f svs.length + (if s then 1 else 0)) _ ⟨_, ⟨k2, o3⟩, ⟨fun j hj => ?_, fun j hj ha => ?_⟩, (fun h => by cases h), rfl⟩ ?_
    · by_cases e : j < svs.length
      · simp [e] at hj; exact .acc e hj
      · simp [e] at hj
    · simp [hj, ha]
    rintro m s w3 ⟨f, ⟨k3, o3⟩, hInv, hclo, rfl⟩ R3 hR3
    refine Br.mk (fun hs => ?_) (fun hs => ?_)
    · subst hs
      have hcf := cntB_le f svs.length
      let St3 : Bool → (Nat → Bool) → Prop := fun more f' => (∀ j, f j = true → f' j = true) ∧ Inv f' ∧ (more = true → cntB f svs.length < cntB f' svs.length) ∧ (more = false → f' = f)
      refine Loop.mk (fun (t : Bool × Int) w' => ∃ (n : Nat) (f' : Nat → Bool), n ≤ svs.length ∧ t.2 = (n : Int) ∧ Ob w' f' ∧ St3 t.1 f' ∧ (t.1 = false → Clo f' n 0)) (fun t => svs.length - t.2.toNat) ⟨0, f, by omega, rfl, ⟨k3, o3⟩, ⟨fun _ h => h, hInv, (fun h => by cases h), fun _ => rfl⟩, fun _ j c k _ h => by omega⟩ ?_
      rintro ⟨more, nn⟩ w4 ⟨n, f4, hn, hnn, ⟨k4, o4⟩, hst4, hclo4⟩ R4 hR4
      dsimp only at hnn hst4 hclo4 ⊢
      subst hnn
      refine Br.mk (fun ht => ?_) (fun hf => ?_)
      · have ht : n < svs.length := by have h9 : (_ : Int) < (svs.length : Int) := of_decide_eq_true ht; omega
        have e4 : w64 ((n : Int) + 1) = ((n + 1 : Nat) : Int) := by rw [w64_eq (by omega)]; omega
        refine Loop.mk (fun (t : Bool × Int) w' => ∃ (b : Nat) (f' : Nat → Bool), b ≤ 256 ∧ t.2 = (b : Int) ∧ Ob w' f' ∧ St3 t.1 f' ∧ (t.1 = false → Clo f' n b)) (fun t => 256 - t.2.toNat) ⟨0, f4, by omega, rfl, ⟨k4, o4⟩, hst4, hclo4⟩ ?_
        rintro ⟨more5, bb⟩ w5 ⟨b, f5, hb, hbb, ⟨k5, o5⟩, hst5, hclo5⟩ R5 hR5
        dsimp only at hbb hst5 hclo5 ⊢
        subst hbb
        have hrow5 : SlT .bool (V No w5) ⟨some ⟨bl, 0, none⟩, svs.length, svs.length⟩ (rowG svs.length f5) := Row.sl o5 (fun h => h.elim) rowG_len.symm
        refine Join.cut (fun (s9 : Bool) w' => w' = w5 ∧ (s9 = true → b < 256 ∧ f5 n = false) ∧ (s9 = false → ¬ b < 256 ∨ f5 n = true)) ?_ ?_
        · rintro s9 w6 ⟨rfl, g1, g2⟩
          refine Br.mk (fun h9 => ?_) (fun h9 => ?_)
          · obtain ⟨hb6, hfn⟩ := g1 h9
            have e5 : w64 ((b : Int) + 1) = ((b + 1 : Nat) : Int) := by rw [w64_eq (by omega)]; omega
            rw [u8_small hb6]
            refine dfa_Next_spec (hdd k5) hb6 ?_
            rw [A.next hb6]
            have skip : (∀ k, nxt svs n b = some k → f5 k = false) → R5 (more5, ((b + 1 : Nat) : Int)) w6 := fun hno => by
              refine hR5 _ _ ⟨b + 1, f5, by omega, rfl, ⟨k5, o5⟩, hst5, fun hm j c k hc h hx hk => ?_⟩ (by dsimp only; omega)
              by_cases e : j = n ∧ c = b
              · obtain ⟨rfl, rfl⟩ := e
                rw [hno k hx] at hk; cases hk
              · exact hclo5 hm j c k hc (by omega) hx hk
            cases hx : nxt svs n b with
            | none =>
              dsimp only
              simp only [Join, Br_false]
              rw [e5]
              exact skip fun k hk => by rw [hx] at hk; cases hk
            | some k =>
              dsimp only
              have hkl := (A.nxt_lt hb6 hx).1
              simp only [Join, Br_true]
              refine IdxS.getG (t := .bool) hrow5 hkl ?_
              refine (Br.mk (fun hk => ?_) (fun hk => ?_))
              · refine IdxS.putG (t := .bool) (v := true) o5 ht fun w7 u7 => ?_
                rw [e5]
                refine hR5 _ _ ⟨b + 1, fun j => if j = n then true else f5 j, by omega, rfl, ⟨k5.trans u7.keeps, u7.at_⟩, ⟨fun j h => ?_, ⟨fun j h => ?_, fun j hj ha => ?_⟩, fun _ => ?_, (fun h => by cases h)⟩, (fun h => by cases h)⟩ (by dsimp only; omega)
                · have := hst5.1 j h
                  dsimp only; split <;> simp_all
                · dsimp only at h
                  by_cases e : j = n
                  · subst e; exact .step hb6 hx (hst5.2.1.1 k hk)
                  · rw [if_neg e] at h; exact hst5.2.1.1 j h
                · dsimp only
                  split
                  · rfl
                  · exact hst5.2.1.2 j hj ha
                · have h1 : cntB f svs.length ≤ cntB f5 svs.length := cntB_mono hst5.1 _
                  have h2 : cntB f5 svs.length < cntB (fun j => if j = n then true else f5 j) svs.length := cntB_lt (fun i hi => by split <;> simp_all) ht hfn (by simp)
                  omega
              · rw [e5]
                exact skip fun k' hk' => by rw [hx] at hk'; cases hk'; exact hk
          · rw [e4]
            refine hR4 _ _ ⟨n + 1, f5, by omega, rfl, ⟨k5, o5⟩, hst5, fun hm j c k hc h hx hk => ?_⟩ (by dsimp only; omega)
            by_cases e : j = n
            · subst e
              rcases g2 h9 with h | h
              · exact hclo5 hm j c k hc (by omega) hx hk
              · exact h
            · exact hclo5 hm j c k hc (by omega) hx hk
        · intro j hj
          refine Br.mk (fun hlt => ?_) (fun hlt => ?_)
          · have hlt : b < 256 := by have := of_decide_eq_true hlt; omega
            refine IdxS.getG (t := .bool) hrow5 ht ?_
            exact hj _ _ ⟨rfl, fun h => ⟨hlt, by simpa using h⟩, fun h => .inr (by simpa using h)⟩
          · have hlt := of_decide_eq_false hlt
            exact hj _ _ ⟨rfl, (fun h => by cases h), fun _ => .inl (by omega)⟩
      · have hf : n = svs.length := by have h9 : ¬ (_ : Int) < (svs.length : Int) := of_decide_eq_false hf; omega
        subst hf
        have hc4 := cntB_le f4 svs.length
        refine hR3 _ _ _ ?_ ⟨f4, ⟨k4, o4⟩, hst4.2.1, hclo4, rfl⟩
        cases more with
        | true => have := hst4.2.2.1 rfl; simp; omega
        | false => rw [hst4.2.2.2 rfl]; simp
    · subst hs
      have hc := hclo rfl
      refine hK _ w3 f (n1.keeps.then k3 fun b hb h => by omega) (Row.sl o3 (fun h => h.elim) rowG_len.symm) fun n hn => ⟨fun h => hInv.1 n h, fun h => ?_⟩
      clear hn
      induction h with
      | acc hn ha => exact hInv.2 _ hn ha
      | step hb hx _ ih => exact hc _ _ _ hb (.inl (A.nxt_lt hb hx).2) hx ih
end Go.Fk
end

section
set_option linter.unusedVariables false
namespace Go.Fk
open Go Go.MapKept Go.Maps

/-! ## What a state does, as a key -/

def rCells (f : Nat → Int) (own : Int) : List Value := row256 f ++ [.int .i64 own]
theorem rCells_len {f : Nat → Int} {own : Int} : (rCells f own).length = 257 := by simp [rCells, row256_len]
theorem rCells_get {f : Nat → Int} {own : Int} {i : Nat} (h : i < 256) : (rCells f own)[i]? = some (.int .i64 (f i)) := by
  rw [rCells, List.getElem?_append_left (by rw [row256_len]; exact h), row256_get h]
theorem rCells_own {f : Nat → Int} {own : Int} : (rCells f own)[256]? = some (.int .i64 own) := by
  rw [rCells, List.getElem?_append_right (by rw [row256_len]; omega), row256_len]; rfl
set_option maxRecDepth 20000 in
theorem rCells_set {f : Nat → Int} {own v : Int} {i : Nat} (h : i < 256) : (rCells f own).toArray.setIfInBounds i (.int .i64 v) = (rCells (fun j => if j = i then v else f j) own).toArray := by
  rw [List.setIfInBounds_toArray]
  congr 1
  rw [rCells, List.set_append_left _ _ (by rw [row256_len]; exact h), row256_set h]
  rfl
theorem rCells_one {f : Nat → Int} {own : Int} : ∀ u ∈ rCells f own, u.oneCell' = true := by
  intro u hu
  simp only [rCells, row256, List.mem_append, List.mem_map, List.mem_range, List.mem_cons, List.not_mem_nil, or_false] at hu
  rcases hu with ⟨i, _, rfl⟩ | rfl <;> rfl
theorem rCells_zero : (Array.replicate 257 (.int .i64 0 : Value)) = (rCells (fun _ => 0) 0).toArray := by kernel_rfl
theorem rCells_congr {f g : Nat → Int} {a : Int} (h : ∀ i, i < 256 → f i = g i) : rCells f a = rCells g a := by
  unfold rCells row256
  congr 1
  exact List.map_congr_left fun i hi => by rw [h i (by simpa using hi)]
theorem rCells_inj {f g : Nat → Int} {a b : Int} (h : rCells f a = rCells g b) : (∀ i, i < 256 → f i = g i) ∧ a = b := by
  constructor
  · intro i hi
    have := congrArg (fun l => l[i]?) h
    simp only [rCells_get hi, Option.some.injEq, Value.int.injEq, true_and] at this
    exact this
  · have := congrArg (fun l => l[256]?) h
    simp only [rCells_own, Option.some.injEq, Value.int.injEq, true_and] at this
    exact this

def rowKey (f : Nat → Int) (own : Int) : Value := .agg (rCells f own).toArray
theorem rowKey_inj {f g : Nat → Int} {a b : Int} (h : rowKey f a = rowKey g b) : (∀ i, i < 256 → f i = g i) ∧ a = b := by
  refine rCells_inj ?_
  have := Value.agg.inj h
  exact congrArg Array.toList this
theorem rowKey_congr {f g : Nat → Int} {a : Int} (h : ∀ i, i < 256 → f i = g i) : rowKey f a = rowKey g a := by rw [rowKey, rowKey, rCells_congr h]

set_option maxRecDepth 20000 in
theorem rowWide : (match P.underlying T.least_row with | some (.array _ _) | some (.struct _) => true | _ => false) = true := by kernel_rfl
set_option maxRecDepth 20000 in
theorem rowIntTy : MapTy P T.map_least_row_int T.least_row T.int .raw (.int .i64) := ⟨by kernel_rfl, Keyed.of_law (deep_law (m := 3) (by omega) (by kernel_rfl) (by kernel_rfl) rowWide)⟩

noncomputable def rowFs : Array Field := match P.underlying T.least_row with
  | some (.struct fs) => fs
  | _ => #[]
noncomputable def fA : Field := rowFs[0]!
noncomputable def fB : Field := rowFs[1]!
theorem rowU : P.underlying T.least_row = some (.struct rowFs) := by kernel_rfl
theorem rowL2 : rowFs.toList = [fA, fB] := by kernel_rfl
theorem fA_off : fA.offset = 0 := by kernel_rfl
theorem fB_off : fB.offset = 256 := by kernel_rfl
theorem fB_ty : fB.type = T.int := by kernel_rfl
theorem fA_ty : P.underlying fA.type = some (.array 256 T.int) := by kernel_rfl
theorem fA_cells : P.cellsOf fA.type = 256 := by kernel_rfl
theorem int_cells : P.cellsOf T.int = 1 := by kernel_rfl
theorem row_cells : P.cellsOf T.least_row = 257 := by kernel_rfl
theorem row_names : rowFs.all (·.name != "_") = true := by kernel_rfl
theorem row_kt : P.keyType T.least_row = true := by kernel_rfl
theorem int_u : P.underlying T.int = some (.int .i64) := by kernel_rfl
theorem size_types : 4 ≤ P.types.size := of_decide_eq_true (by kernel_rfl)

theorem mapM_some {α β : Type} {f : α → Option β} : ∀ {l : List α}, (∀ x ∈ l, ∃ y, f x = some y) → ∃ ys, l.mapM f = some ys
  | [], _ => ⟨[], by simp⟩
  | a :: l, h => by
    obtain ⟨y, hy⟩ := h a (by simp)
    obtain ⟨ys, hys⟩ := mapM_some (l := l) fun x hx => h x (by simp [hx])
    exact ⟨y :: ys, by simp [List.mapM_cons, hy, hys]⟩

theorem mapM_two {α β : Type} {g : α → Option β} {a b : α} {x y : β} (h1 : g a = some x) (h2 : g b = some y) : [a, b].mapM g = some [x, y] := by simp [List.mapM_cons, h1, h2]
theorem lits_int {d : Nat} {n : Int} (h : -9223372036854775808 ≤ n ∧ n ≤ 9223372036854775807) : P.keyLits (d + 1) T.int [.int .i64 n] = some [.int .i64 n] := by
  have hu : P.underlying T.int = some (.int .i64) := by kernel_rfl
  have hw : (Lit.int .i64 n).wf = true := by
    have hm : IntKind.i64.min = -9223372036854775808 := by decide
    simp only [Lit.wf, decide_eq_true_eq, Bool.and_eq_true, hm]
    exact h
  simp [Program.keyLits, hu, hw]
theorem lits_arr {d : Nat} {f : Nat → Int} (h : ∀ i, i < 256 → -9223372036854775808 ≤ f i ∧ f i ≤ 9223372036854775807) : ∃ l, P.keyLits (d + 2) fA.type (row256 f) = some l := by
  obtain ⟨ys, hys⟩ := mapM_some (f := fun i => P.keyLits (d + 1) T.int (((row256 f).drop (i * 1)).take 1)) (l := List.range 256) fun i hi => by
    have hi : i < 256 := by simpa using hi
    refine ⟨[.int .i64 (f i)], ?_⟩
    have e : ((row256 f).drop (i * 1)).take 1 = [.int .i64 (f i)] := by
      have hg := row256_get (f := f) hi
      obtain ⟨hl, he⟩ := List.getElem?_eq_some_iff.1 hg
      rw [Nat.mul_one, List.drop_eq_getElem_cons hl, he]; rfl
    rw [e]; exact lits_int (h i hi)
  refine ⟨ys.flatten, ?_⟩
  unfold Program.keyLits
  rw [fA_ty]
  dsimp only
  rw [int_cells, fA_cells, if_pos (row256_len f), hys]; rfl

theorem rowOk {f : Nat → Int} {own : Int} (h : ∀ i, i < 256 → -9223372036854775808 ≤ f i ∧ f i ≤ 9223372036854775807) (ho : -9223372036854775808 ≤ own ∧ own ≤ 9223372036854775807) : OkKey P T.least_row (Ty.raw.enc (rowKey f own)) := by
  obtain ⟨D, hD⟩ : ∃ D, P.types.size = D + 2 := ⟨P.types.size - 2, by have := size_types; omega⟩
  obtain ⟨la, hla⟩ := lits_arr (d := D) h
  have e1 : ((rCells f own).drop fA.offset).take (P.cellsOf fA.type) = row256 f := by
    rw [fA_off, fA_cells, rCells, List.drop_zero, List.take_append_of_le_length (by rw [row256_len]; exact Nat.le_refl _), List.take_of_length_le (by rw [row256_len]; exact Nat.le_refl _)]
  have e2 : ((rCells f own).drop fB.offset).take (P.cellsOf fB.type) = [.int .i64 own] := by
    rw [fB_off, fB_ty, int_cells, rCells, List.drop_append, row256_len, List.drop_of_length_le (by rw [row256_len]; exact Nat.le_refl _)]; rfl
  have hl : P.keyLits (D + 2 + 1) T.least_row (rCells f own) = some [la, [.int .i64 own]].flatten := by
    unfold Program.keyLits
    rw [rowU]
    dsimp only
    rw [row_cells, if_pos ⟨rCells_len, row_names⟩, rowL2, mapM_two (x := la) (y := [.int .i64 own]) (by rw [e1]; exact hla) (by rw [e2, fB_ty]; exact lits_int ho)]
    rfl
  refine Option.isSome_iff_exists.1 ?_
  show (keyOf P T.least_row (.agg (rCells f own).toArray)).isSome = true
  rw [keyOf, rowU]
  dsimp only
  have hf : (Value.agg (rCells f own).toArray).formed P T.least_row = true := by
    rw [Value.formed, rowU]
    dsimp only
    rw [row_cells, List.size_toArray, rCells_len]; rfl
  rw [row_kt, hf, hD]
  simp only [Bool.and_self, if_true]
  show (Option.map _ (P.keyLits (D + 2 + 1) T.least_row (rCells f own))).isSome = true
  rw [hl]
  rfl

/-! ## What a state does -/

def rObj (d : Option Addr) (ll kk : Sl) (n : Int) : Obj := .cells #[.pointer d, .slice ll.a ll.n ll.c, .slice kk.a kk.n kk.c, .int .i64 n] T.least_rounds (0, 0)

variable {svs : List DSt} {cl : Nat → Int} {nc : Int}

/-- Where a byte leads: the kind of a state that lives, or -1. -/
def kNext (svs : List DSt) (lv : Nat → Bool) (kd : Nat → Int) (n b : Nat) : Int := match nxt svs n b with
  | some k => if lv k = true then kd k else -1
  | none => -1

theorem buildRow (k : Int) : P.built T.least_row [(1, .int .i64 k)] = some (rCells (fun _ => 0) k).toArray := by kernel_rfl
theorem sizeRow : (P.info? T.least_row).map (·.size) = some 257 := by kernel_rfl

structure Rn (H : View) (br : Nat) (d : Option Addr) (ll kk : Sl) (nn : Int) (svs : List DSt) (cl : Nat → Int) (nc : Int) (lv : Nat → Bool) (kd : Nat → Int) : Prop where
  obj : H br (rObj d ll kk nn)
  dfa : DfaO H d svs cl nc
  lives : SlT .bool H ll (rowG svs.length lv)
  kinds : SlT (.int .i64) H kk (rowG svs.length kd)

theorem Rn.mono {H H' : View} {br : Nat} {d : Option Addr} {ll kk : Sl} {nn : Int} {lv : Nat → Bool} {kd : Nat → Int} (h : Rn H br d ll kk nn svs cl nc lv kd) (hv : Vle H H') : Rn H' br d ll kk nn svs cl nc lv kd :=
  ⟨hv _ _ h.obj, h.dfa.mono hv, h.lives.mono hv, h.kinds.mono hv⟩

set_option maxRecDepth 20000 in
theorem row_spec {w : World} {br : Nat} {d : Option Addr} {ll kk : Sl} {nn : Int} {lv : Nat → Bool} {kd : Nat → Int} {n : Nat} (h : Rn (V No w) br d ll kk nn svs cl nc lv kd) (A : Aut svs) (hn : n < svs.length) {K : Array Value → World → Prop}
    (hK : ∀ w', Keeps No w w' → K (rCells (kNext svs lv kd n) (kd n)).toArray w') : least_rounds_row.C (some ⟨br, 0, none⟩) n w K := by
  refine least_rounds_row.ok _ _ _ _ ?_
  simp only [least_rounds_row.M, NilC_some, add_eq, rCells_zero, Nat.zero_add]
  refine Al.mk fun b1 w1 n1 => ?_
  have h1 := h.mono (V.keeps0 n1.keeps)
  refine Ld.slv (cell_of h1.obj.2 rfl) ?_
  refine IdxS.getG (t := .int .i64) h1.kinds hn ?_
  refine App.buildG (buildRow _) (Al.mk fun b2 w2 n2 => StA.gen sizeRow n2.at_ (by rw [List.size_toArray, rCells_len]) (by rw [List.size_toArray, rCells_len]) (fun u hu => rCells_one u (by simpa using hu)) fun w3 u3 => ?_)
  have e1 := n1.eq; have z1 := n1.size; have e2 := n2.eq; have z2 := n2.size
  have k3 : Keeps No w1 w3 := u3.keeps0 n2.keeps (by omega)
  refine Loop.mk (fun s w' => Keeps No w1 w' ∧ ∃ (b : Nat) (g : Nat → Int), b ≤ 256 ∧ s = (b : Int) ∧ w'.heap[b2]? = some (.cells (rCells g (kd n)).toArray T.least_row (0, 0)) ∧ ∀ j, j < b → g j = kNext svs lv kd n j) (fun s => 256 - s.toNat) ⟨k3, 0, _, by omega, rfl, u3.at_, fun j hj => by omega⟩ ?_
  rintro s w4 ⟨k4, b, g, hb, rfl, o4, hg⟩ R hR
  refine Br.mk (fun ht => ?_) (fun hf => ?_)
  · have ht : b < 256 := by have := of_decide_eq_true ht; omega
    have e4 : w64 ((b : Int) + 1) = ((b + 1 : Nat) : Int) := by rw [w64_eq (by omega)]; omega
    rw [e4]
    have wr : ∀ {w' : World} {g : Nat → Int} {v : Int} {k : World → Prop}, w'.heap[b2]? = some (.cells (rCells g (kd n)).toArray T.least_row (0, 0)) → (∀ w'', Upd b2 (.cells (rCells (fun j => if j = b then v else g j) (kd n)).toArray T.least_row (0, 0)) w' w'' → k w'') → IdxA 256 ⟨b2, 0, none⟩ (b : Int) 1 fun p => St p (.int .i64 v) w' k := by
      intro w' g v k hw hk
      refine ⟨⟨by omega, by omega⟩, ?_⟩
      rw [add_eq, Nat.mul_one, Int.toNat_natCast, Nat.zero_add]
      refine St.blk hw (by rw [List.size_toArray, rCells_len]; omega) fun w'' u => hk w'' ?_
      rw [rCells_set ht] at u
      exact u
    refine wr o4 fun w5 u5 => ?_
    have k5 : Keeps No w1 w5 := k4.then u5.keeps fun i hi h => by omega
    have h5 := h1.mono (V.keeps0 k5)
    refine Ld.ptr (cell_of h5.obj.2 rfl) ?_
    rw [u8_small ht]
    refine dfa_Next_spec h5.dfa ht ?_
    rw [A.next ht]
    have none' : kNext svs lv kd n b = -1 → R ((b + 1 : Nat) : Int) w5 := fun hx => by
      refine hR _ _ ⟨k5, b + 1, _, by omega, rfl, u5.at_, fun j hj => ?_⟩ (by omega)
      by_cases e : j = b
      · subst e; simp [hx]
      · rw [if_neg e]; exact hg j (by omega)
    cases hx : nxt svs n b with
    | none =>
      simp only [Join, Br_false]
      exact none' (by simp [kNext, hx])
    | some k =>
      have hk := (A.nxt_lt ht hx).1
      simp only [Join, Br_true]
      refine Ld.slv (cell_of h5.obj.2 rfl) ?_
      refine IdxS.getG (t := .bool) h5.lives hk ?_
      refine Br.mk (fun hl => ?_) (fun hl => none' ?_)
      · refine Ld.slv (cell_of h5.obj.2 rfl) ?_
        refine IdxS.getG (t := .int .i64) h5.kinds hk ?_
        refine wr u5.at_ fun w6 u6 => ?_
        refine hR _ _ ⟨k5.then u6.keeps fun i hi h => by omega, b + 1, _, by omega, rfl, u6.at_, fun j hj => ?_⟩ (by omega)
        by_cases e : j = b
        · subst e; simp [kNext, hx, hl]
        · rw [if_neg e, if_neg e]; exact hg j (by omega)
      · simp [kNext, hx, hl]
  · have hf : b = 256 := by have := of_decide_eq_false hf; omega
    subst hf
    refine LdA.gen (c := rCells g (kd n)) rCells_len (fun j u hu => cell_of o4 (by simpa using hu)) ?_
    refine StA.gen sizeRow ((k4.blk0 n1.at_)) (by rw [List.size_toArray, rCells_len]) (by rw [List.size_toArray, rCells_len]) (fun u hu => rCells_one u (by simpa using hu)) fun w5 u5 => ?_
    refine LdA.gen (c := rCells g (kd n)) rCells_len (fun j u hu => cell_of u5.at_ (by simpa using hu)) ?_
    have : rCells (kNext svs lv kd n) (kd n) = rCells g (kd n) := rCells_congr fun j hj => (hg j hj).symm
    have hK' := hK w5 (((n1.keeps.trans k4).then u5.keeps fun i hi h => by omega))
    rw [this] at hK'
    exact hK'
end Go.Fk
end
