/-
  A part of the proof: what the functions of the program come to, read off the model: no premise of its own, no axiom. By an AI agent.
-/
import Derived.Test.YtedphbahdjhckaaGreatA5
import Derived.Test.YtedphbahdjhckaaGreatA4
import Derived.Test.YtedphbahdjhckaaGreatShelf
import Derived.Laws.BytesArg
import Derived.Sort.OwnSortedInts
import Derived.Test.YtedphbahdjhckaaGreatA2
import Derived.Laws.Strings
set_option linter.all false
section
set_option linter.unusedVariables false
namespace Go.Fk
open Go

/-! ## Numbers as a text -/

theorem elU8 : Elem P T.sl_uint8 T.uint8 (.int .u8 0) 1 1 := ⟨by kernel_rfl, by kernel_rfl, rfl, by decide⟩

def twoB (x : Int) : List Int := [x % 256, x / 256 % 256]
def txt (xs : List Int) : ByteArray := strOfNums (xs.flatMap twoB)

theorem u8_wrap {x : Int} (h : 0 ≤ x) : IntKind.wrap .u8 x = x % 256 := by
  have h1 : 0 ≤ x % 256 ∧ x % 256 < 256 := by omega
  have : IntKind.wrap .u8 (x % 256) = x % 256 := IntWalk.u8_in _ (by omega)
  have e : IntKind.wrap .u8 x = IntKind.wrap .u8 (x % 256) := by
    simp only [IntKind.wrap]
    have hb : IntKind.bits .u8 = 8 := rfl
    simp [IntKind.signed, hb, BitVec.toNat_ofInt]
    try omega
  rw [e, this]

theorem strOf_inj {xs ys : List Int} (hx : ∀ x ∈ xs, 0 ≤ x ∧ x < 256) (hy : ∀ x ∈ ys, 0 ≤ x ∧ x < 256) (h : strOfNums xs = strOfNums ys) : xs = ys := by
  have h1 : xs.map (fun n => UInt8.ofNat n.toNat) = ys.map fun n => UInt8.ofNat n.toNat := by
    have := congrArg (fun s : ByteArray => s.data.toList) h
    simpa [strOfNums_data] using this
  have key : ∀ (xs ys : List Int), (∀ x ∈ xs, 0 ≤ x ∧ x < 256) → (∀ x ∈ ys, 0 ≤ x ∧ x < 256) → xs.map (fun n => UInt8.ofNat n.toNat) = ys.map (fun n => UInt8.ofNat n.toNat) → xs = ys := by
    intro xs
    induction xs with
    | nil => intro ys _ _ h; cases ys with | nil => rfl | cons b l => simp at h
    | cons a l ih =>
      intro ys hx hy h
      cases ys with
      | nil => simp at h
      | cons b m =>
        simp only [List.map_cons, List.cons.injEq] at h
        have ha := hx a (by simp); have hb := hy b (by simp)
        have e : a = b := by
          have := congrArg UInt8.toNat h.1
          simp at this
          omega
        rw [e, ih m (fun x hx' => hx x (by simp [hx'])) (fun x hx' => hy x (by simp [hx'])) h.2]
  exact key xs ys hx hy h1

theorem twoB_in {xs : List Int} : ∀ x ∈ xs.flatMap twoB, 0 ≤ x ∧ x < 256 := by
  intro x hx
  obtain ⟨y, _, hy⟩ := List.mem_flatMap.1 hx
  simp [twoB] at hy
  omega

theorem twoB_inj : ∀ {xs ys : List Int}, (∀ x ∈ xs, 0 ≤ x ∧ x < 65536) → (∀ x ∈ ys, 0 ≤ x ∧ x < 65536) → xs.flatMap twoB = ys.flatMap twoB → xs = ys
  | [], [], _, _, _ => rfl
  | [], b :: m, _, _, h => by simp [twoB] at h
  | a :: l, [], _, _, h => by simp [twoB] at h
  | a :: l, b :: m, hx, hy, h => by
    simp only [List.flatMap_cons, twoB, List.cons_append, List.nil_append, List.cons.injEq] at h
    have ha := hx a (by simp); have hb := hy b (by simp)
    have e : a = b := by omega
    rw [e, twoB_inj (fun x hx' => hx x (by simp [hx'])) (fun x hx' => hy x (by simp [hx'])) h.2.2]

theorem txt_inj {xs ys : List Int} (hx : ∀ x ∈ xs, 0 ≤ x ∧ x < 65536) (hy : ∀ x ∈ ys, 0 ≤ x ∧ x < 65536) (h : txt xs = txt ys) : xs = ys :=
  twoB_inj hx hy (strOf_inj twoB_in twoB_in h)

theorem strTy : P.underlying T.string = some .string := by kernel_rfl
theorem u8Ty : P.underlying T.uint8 = some (.int .u8) := by kernel_rfl

theorem dfa_text_spec {M : Nat → Prop} {w : World} {l : Sl} {xs : List Int} {K : ByteArray → World → Prop} (hl : SlT (.int .i64) (V M w) l xs) (hx : ∀ x ∈ xs, 0 ≤ x ∧ x < 65536) (hlen : xs.length ≤ 1000000)
    (hK : ∀ w', Keeps No w w' → K (txt xs) w') : dfa_text.C l w K := by
  have hn := hl.1
  refine dfa_text.ok _ _ _ ?_
  simp only [dfa_text.M]
  rw [w64_eq (by omega)]
  obtain ⟨i, hi, hzz⟩ := Option.map_eq_some_iff.1 elU8.inf
  simp only [Prod.mk.injEq] at hzz
  obtain ⟨w1, hr1, ho1, hg1⟩ := run_make_own (P := P) w w.heap.size T.sl_uint8 T.uint8 i (.int .u8 0) 1 elU8.sl hi hzz.1 hzz.2.1 .i64 .i64 (2 * l.n) (by rw [hzz.2.2]; omega) (by have : (9223372036854775807 : Nat) = maxLen := rfl; omega) (Nat.le_refl _)
  refine ⟨⟨some ⟨w.heap.size, 0, none⟩, 0, 2 * l.n⟩, w1, by simpa [RTy.enc, Ty.enc] using hr1, ?_⟩
  have k1 : Keeps No w w1 := (Keeps.of_grown hg1).mono fun b _ h => by cases h
  have z1 := k1.size
  refine Loop.mk (fun t w' => Keeps No w w' ∧ ∃ k : Nat, k ≤ xs.length ∧ t.2 = (k : Int) ∧ Own w' w.heap.size T.uint8 1 t.1 (((xs.take k).flatMap twoB).map (Ty.int .u8).enc)) (fun t => xs.length - t.2.toNat) ⟨k1, 0, by omega, rfl, by rw [List.take_zero]; exact ho1⟩ ?_
  rintro ⟨o, kk⟩ w2 ⟨k2, k, hk, hkk, ho⟩ R hR
  dsimp only at hkk ho ⊢
  subst hkk
  refine Br.mk (fun ht => ?_) (fun hf => ?_)
  · have ht : k < xs.length := by have := of_decide_eq_true ht; omega
    refine IdxS.get (M := M) (hl.mono (V.keeps0 k2)) (by omega) (by omega) fun x hxk => ⟨by decide, ?_⟩
    simp only [Int.toNat_natCast] at hxk
    have hxr := hx x (List.mem_of_getElem? hxk)
    have e1 : IntKind.wrap .u8 x = x % 256 := u8_wrap hxr.1
    have e2 : Int.fdiv x (2 ^ min (Int.toNat (8 : Int)) (IntKind.bits .i64)) = x / 256 := by
      have : min (Int.toNat (8 : Int)) (IntKind.bits .i64) = 8 := rfl
      rw [this, Int.fdiv_eq_ediv_of_nonneg _ (by decide)]
      rfl
    rw [e1, e2, u8_wrap (Int.ediv_nonneg hxr.1 (by decide))]
    refine Al.mk fun b3 w3 n3 => ?_
    have e3 := n3.eq
    have hol := ho.len
    have hfl : ∀ ys : List Int, (ys.flatMap twoB).length = 2 * ys.length := by
      intro ys
      induction ys with
      | nil => rfl
      | cons y ys ih => simp [List.flatMap_cons, twoB, ih]; omega
    simp only [List.length_map, hfl, List.length_take, Nat.mul_one] at hol
    have z2 := k2.size
    refine append_own (news := [.int .u8 (x % 256), .int .u8 (x / 256 % 256)]) elU8 (ho.keep0 n3.keeps) rfl (fun j u hu => ?_) (fun u hu => ?_) (by omega) (by omega) (by have := n3.size; omega) fun o' w4 o4 m4 k4 g4 => ?_
    · rcases j with _ | _ | j
      · simp at hu; subst hu; exact cell_of n3.at_ rfl
      · simp at hu; subst hu; exact cell_of n3.at_ rfl
      · simp at hu
    · simp at hu; rcases hu with rfl | rfl <;> rfl
    · have e4 : w64 ((k : Int) + 1) = ((k + 1 : Nat) : Int) := by rw [w64_eq (by omega)]; omega
      rw [e4]
      refine hR _ w4 ⟨((k2.trans n3.keeps).no (M := No)).then k4 fun c hc h => by have := (ho.ge h).1; have : c < w.heap.size := hc; omega, k + 1, by omega, rfl, ?_⟩ (by dsimp only; omega)
      rw [List.take_add_one, hxk]
      simpa [twoB, Ty.enc] using o4
  · have hf : k = xs.length := by have := of_decide_eq_false hf; omega
    subst hf
    rw [List.take_length] at ho
    have hr := ho.reads (M := No) fun _ _ h => h
    refine ⟨txt xs, w2, ?_, hK w2 k2⟩
    rcases hr.2 with he | ⟨b, off, cs, E, fr, h1, h2, h3⟩
    · have hn0 := hr.1
      rw [he] at hn0
      have : txt xs = ByteArray.empty := by unfold txt; rw [he]; rfl
      rw [this]
      have hol := ho.2
      rcases hol with ⟨hv, _⟩ | ⟨g, cap, cur, hv, _⟩
      · simp only [Sl.val, Value.slice.injEq] at hv
        rw [hv.1, hv.2.1, hv.2.2]
        exact run_convert_bytes_nil w2 T.sl_uint8 T.uint8 elU8.sl u8Ty 0 0 T.string strTy
      · simp only [Sl.val, Value.slice.injEq] at hv
        rw [hv.1]
        have := run_convert_bytes_arg (P := P) w2 T.sl_uint8 T.uint8 elU8.sl u8Ty g 0 0 o.c [] rfl (by omega) T.string strTy
        have hn0 : o.n = 0 := by simpa using hn0
        rw [hn0]
        exact this
    · rw [h1]
      refine run_convert_bytes_arg (P := P) w2 T.sl_uint8 T.uint8 elU8.sl u8Ty b off o.n o.c (xs.flatMap twoB) hr.1.symm (fun i hi => ?_) T.string strTy
      have hlt : i < (xs.flatMap twoB).length := by rw [← hr.1]; exact hi
      rw [List.getD_eq_getElem?_getD, List.getElem?_eq_getElem hlt]
      exact cell_of h2.2 (h3 i _ (List.getElem?_eq_getElem hlt))

/-! ## slices.Contains, slices.Index of numbers -/

theorem Index_int_spec {M : Nat → Prop} {w : World} {l : Sl} {xs : List Int} {v : Int} {K : Int → World → Prop} (hl : SlT (.int .i64) (V M w) l xs) (hlen : xs.length ≤ 1000000000) (hK : ∀ r, (0 ≤ r ↔ v ∈ xs) → K r w) : slices_Index_int.C l v w K := by
  have hn := hl.1
  refine slices_Index_int.ok _ _ _ _ ?_
  simp only [slices_Index_int.M]
  refine Loop.mk (fun s w' => w' = w ∧ 0 ≤ s ∧ s ≤ xs.length ∧ ∀ i : Nat, i < s → xs[i]? ≠ some v) (fun s => (xs.length : Nat) - s.toNat) ⟨rfl, by omega, by omega, fun i hi => by omega⟩ ?_
  rintro s w1 ⟨rfl, h0, h1, h2⟩ R hR
  refine Br.mk (fun ht => ?_) (fun hf => ?_)
  · have ht : s < xs.length := by simpa [hn] using ht
    refine IdxS.get (M := M) hl h0 ht fun q hq => ?_
    refine Br.mk (fun hz => ?_) (fun hz => ?_)
    · have : v = q := by simpa using hz
      subst this
      exact hK s ⟨fun _ => List.mem_of_getElem? hq, fun _ => h0⟩
    · have hne : v ≠ q := by simpa using hz
      rw [w64_eq (by omega)]
      refine hR _ _ ⟨rfl, by omega, by omega, fun i hi => ?_⟩ (by omega)
      by_cases e : (i : Int) = s
      · have : s.toNat = i := by omega
        rw [this] at hq
        rw [hq]
        rintro ⟨⟩
        exact hne rfl
      · exact h2 i (by omega)
  · have hf : (xs.length : Int) ≤ s := by have := of_decide_eq_false hf; omega
    refine hK (-1) ⟨fun h => by omega, fun h => ?_⟩
    obtain ⟨i, hi⟩ := List.getElem?_of_mem h
    have := (List.getElem?_eq_some_iff.1 hi).1
    exact absurd hi (h2 i (by omega))

theorem Contains_int_spec {M : Nat → Prop} {w : World} {l : Sl} {xs : List Int} {v : Int} {K : Bool → World → Prop} (hl : SlT (.int .i64) (V M w) l xs) (hlen : xs.length ≤ 1000000000) (hK : ∀ b, (b = true ↔ v ∈ xs) → K b w) : slices_Contains_int.C l v w K := by
  refine slices_Contains_int.ok _ _ _ _ ?_
  simp only [slices_Contains_int.M]
  exact Index_int_spec hl hlen fun r hr => hK _ (by rw [decide_eq_true_iff]; exact hr)
end Go.Fk
end

section
set_option linter.unusedVariables false
namespace Go.Fk
open Go

/-! ## What positions accept -/

def lastAt (fs : List ((Nat → Bool) × Int)) (ks : List Kn) (p : Int) : Prop := (knAt ks (ruleAt fs p)).last p
def AccOf (fs : List ((Nat → Bool) × Int)) (ks : List Kn) (at_ : List Int) (a : Int) : Prop :=
  (a = -1 ∧ ∀ p ∈ at_, ¬ lastAt fs ks p) ∨ ((0 ≤ a ∧ ∃ p ∈ at_, lastAt fs ks p ∧ ruleAt fs p = a) ∧ ∀ p ∈ at_, lastAt fs ks p → a ≤ ruleAt fs p)

theorem lastAt_pos {fs : List ((Nat → Bool) × Int)} {ks : List Kn} {p : Int} (h : lastAt fs ks p) : 0 ≤ ruleAt fs p := by
  unfold lastAt at h
  refine Decidable.byContradiction fun hn => ?_
  rw [knAt_out (by omega)] at h
  exact h

theorem AccOf.one {fs : List ((Nat → Bool) × Int)} {ks : List Kn} {at_ : List Int} {a b : Int} (h : AccOf fs ks at_ a) (h' : AccOf fs ks at_ b) : a = b := by
  rcases h with ⟨rfl, h1⟩ | ⟨⟨h0, p, hp, h1, h2⟩, h3⟩ <;> rcases h' with ⟨rfl, g1⟩ | ⟨⟨g0, q, hq, g1, g2⟩, g3⟩
  · rfl
  · exact absurd g1 (h1 q hq)
  · exact absurd h1 (g1 p hp)
  · have := h3 q hq g1; have := g3 p hp h1; omega

theorem dfa_accept_spec {M : Nat → Prop} {w : World} {p : Option Addr} {fs : List ((Nat → Bool) × Int)} {F : Int → Int → Prop} {ks : List Kn} {l : Sl} {xs : List Int} {K : Int → World → Prop} (h : MachO (V No w) p fs F ks) (hl : SlT (.int .i64) (V M w) l xs) (hlen : xs.length ≤ 1000000)
    (hK : ∀ a w', Keeps No w w' → AccOf fs ks xs a → K a w') : dfa_accept.C p l w K := by
  have hn := hl.1
  refine dfa_accept.ok _ _ _ _ ?_
  simp only [dfa_accept.M]
  refine Loop.mk (fun t w' => Keeps No w w' ∧ ∃ k : Nat, k ≤ xs.length ∧ t.2 = (k : Int) ∧ AccOf fs ks (xs.take k) t.1) (fun t => xs.length - t.2.toNat) ⟨.refl, 0, by omega, rfl, .inl ⟨rfl, by simp⟩⟩ ?_
  rintro ⟨best, kk⟩ w1 ⟨k1, k, hk, hkk, hacc⟩ R hR
  dsimp only at hkk hacc ⊢
  subst hkk
  refine Br.mk (fun ht => ?_) (fun hf => ?_)
  · have ht : k < xs.length := by have := of_decide_eq_true ht; omega
    refine IdxS.get (M := M) (hl.mono (V.keeps0 k1)) (by omega) (by omega) fun x hx => ?_
    simp only [Int.toNat_natCast] at hx
    have htake : xs.take (k + 1) = xs.take k ++ [x] := by rw [List.take_add_one, hx]; rfl
    have e4 : w64 ((k : Int) + 1) = ((k + 1 : Nat) : Int) := by rw [w64_eq (by omega)]; omega
    refine nfa_Machine_Rule_spec (h.mono (V.keeps0 k1)) fun w2 k2 => ?_
    have k12 := k1.trans k2
    refine Join.cut (fun (b : Bool) w' => Keeps No w w' ∧ (b = true → lastAt fs ks x ∧ (best = -1 ∨ ruleAt fs x < best)) ∧ (b = false → ¬ lastAt fs ks x ∨ (best ≠ -1 ∧ best ≤ ruleAt fs x))) ?_ ?_
    · rintro b w3 ⟨k3, hb1, hb2⟩
      rw [e4]
      refine Br.mk (fun hb => ?_) (fun hb => ?_)
      · obtain ⟨g1, g2⟩ := hb1 hb
        refine hR _ w3 ⟨k3, k + 1, by omega, rfl, ?_⟩ (by dsimp only; omega)
        dsimp only
        rw [htake]
        refine .inr ⟨⟨lastAt_pos g1, x, by simp, g1, rfl⟩, fun q hq hl => ?_⟩
        rcases List.mem_append.1 hq with hq | hq
        · rcases hacc with ⟨_, h1⟩ | ⟨⟨h0, _⟩, h1⟩
          · exact absurd hl (h1 q hq)
          · have := h1 q hq hl; omega
        · simp at hq; subst hq; omega
      · refine hR _ w3 ⟨k3, k + 1, by omega, rfl, ?_⟩ (by dsimp only; omega)
        dsimp only
        rw [htake]
        rcases hb2 hb with g | ⟨g1, g2⟩
        · rcases hacc with ⟨h0, h1⟩ | ⟨⟨h0, q, hq, h1⟩, h2⟩
          · refine .inl ⟨h0, fun q hq => ?_⟩
            rcases List.mem_append.1 hq with hq | hq
            · exact h1 q hq
            · simp at hq; subst hq; exact g
          · refine .inr ⟨⟨h0, q, by simp [hq], h1⟩, fun q hq hl => ?_⟩
            rcases List.mem_append.1 hq with hq | hq
            · exact h2 q hq hl
            · simp at hq; subst hq; exact absurd hl g
        · rcases hacc with ⟨h0, h1⟩ | ⟨⟨h0, q, hq, h1⟩, h2⟩
          · exact absurd h0 g1
          · refine .inr ⟨⟨h0, q, by simp [hq], h1⟩, fun q hq hl => ?_⟩
            rcases List.mem_append.1 hq with hq | hq
            · exact h2 q hq hl
            · simp at hq; subst hq; exact g2
    · intro j hj
      have look : ∀ {k : Bool → World → Prop}, (∀ b w', Keeps No w w' → (b = true ↔ lastAt fs ks x) → k b w') → nfa_Machine_Last.C p (ruleAt fs x) w2 fun x28 w4 => slices_Contains_int.C x28 x w4 k := by
        intro kk hkk
        refine nfa_Machine_Last_spec (h.mono (V.keeps0 k12)) fun l5 ys w5 k5 o5 r5 => ?_
        have hfew := h.few
        have hyl := rising_len r5 fun q hq => by have := h.kin _ q (.inr hq); omega
        refine Contains_int_spec (M := No) (o5.reads fun _ _ h => h) (by omega) fun b hb => hkk b w5 (k12.trans k5) ?_
        rw [hb, r5.2]
        exact Iff.rfl
      refine Br.mk (fun hb => look fun b w' k' hb' => hj b w' ⟨k', fun e => ⟨hb'.1 e, .inl (by simpa using hb)⟩, fun e => .inl fun hl => by rw [hb'.2 hl] at e; cases e⟩) (fun hb => ?_)
      have hb : best ≠ -1 := by simpa using hb
      refine Br.mk (fun hlt => look fun b w' k' hb' => hj b w' ⟨k', fun e => ⟨hb'.1 e, .inr (of_decide_eq_true hlt)⟩, fun e => .inl fun hl => by rw [hb'.2 hl] at e; cases e⟩) (fun hlt => ?_)
      refine hj false w2 ⟨k12, (fun e => by cases e), fun _ => .inr ⟨hb, ?_⟩⟩
      have := of_decide_eq_false hlt
      omega
  · have hf : k = xs.length := by have := of_decide_eq_false hf; omega
    subst hf
    rw [List.take_length] at hacc
    exact hK best w1 k1 hacc

/-! ## Rows that are joined -/

theorem append_none {P : Program} {T T' E size bytes : Nat} {z : Value} {w : World} {l : Sl} {k : Sl → World → Prop} (hE : Elem P T E z size bytes) (hle : l.n ≤ l.c) (hk : k l w) :
    App P (Builtin.append_ #[T, T] T' #[.slice l.a l.n l.c, .slice none 0 0]) (.one .sl) w k := by
  obtain ⟨i, hi, hzz⟩ := Option.map_eq_some_iff.1 hE.inf
  refine ⟨l, w, ?_, hk⟩
  simp only [Prod.mk.injEq] at hzz
  obtain ⟨hz, hs, hb⟩ := hzz
  cases ha : l.a <;> simp [Builtin.append_, run_underlying hE.sl, Go.run_sizeOf w hi, Builtin.lenOf, Builtin.firstCells, Result.andThen, RTy.enc, Ty.enc, hle, storeCells, ha]

theorem Own.le {w : World} {base E size : Nat} {l : Sl} {xs : List Value} (h : Own w base E size l xs) : l.n ≤ l.c := by
  rcases h.2 with ⟨hv, hn⟩ | ⟨g, cap, cur, hv, _, _, hnc, _⟩
  · omega
  · simp only [Sl.val, Value.slice.injEq] at hv
    omega

theorem append_ints {w : World} {base b2 : Nat} {l l2 : Sl} {xs ys : List Int} {k : Sl → World → Prop} (ho : Own w base T.int 1 l (xs.map (Ty.int .i64).enc)) (h2 : Own w b2 T.int 1 l2 (ys.map (Ty.int .i64).enc)) (hlen : xs.length + ys.length ≤ 1000000000) (hbase : base ≤ w.heap.size)
    (hk : ∀ l' w', Own w' base T.int 1 l' ((xs ++ ys).map (Ty.int .i64).enc) → Keeps l.blk w w' → (∀ c, l'.blk c → l.blk c ∨ w.heap.size ≤ c) → k l' w') :
    App P (Builtin.append_ #[T.sl_int, T.sl_int] T.sl_int #[.slice l.a l.n l.c, .slice l2.a l2.n l2.c]) (.one .sl) w k := by
  have hl := ho.len; have hl2 := h2.len
  simp at hl hl2
  rcases h2.2 with ⟨hv, hn⟩ | ⟨g, cap, cur, hv, hge, hg, hnc, hcm, hcs, htake⟩
  · simp only [Sl.val, Value.slice.injEq] at hv
    obtain ⟨e1, e2, e3⟩ := hv
    have hy : ys = [] := List.eq_nil_of_length_eq_zero (by omega)
    subst hy
    rw [e1, e2, e3]
    exact append_none elInt ho.le (hk l w (by simpa using ho) .refl fun c hc => .inl hc)
  · simp only [Sl.val, Value.slice.injEq] at hv
    rw [hv.1]
    refine append_own (news := ys.map (Ty.int .i64).enc) elInt ho (by simp; omega) (fun j u hu => ?_) (fun u hu => by obtain ⟨y, _, rfl⟩ := List.mem_map.1 hu; rfl) (by omega) (by omega) hbase fun l' w' o' n' k' g' => ?_
    · rw [Nat.zero_add]
      refine cell_of hg ?_
      have hjl : j < ys.length := by have := (List.getElem?_eq_some_iff.1 hu).1; simpa using this
      rw [← htake] at hu
      rw [List.getElem?_take] at hu
      split at hu
      · simpa using hu
      · cases hu
    · refine hk l' w' (by simpa using o') k' fun c hc => ?_
      rcases g' with ⟨h1, _⟩ | ⟨g2, h1, h3⟩
      · obtain ⟨a, ha, _⟩ := hc; rw [h1] at ha; cases ha
      · obtain ⟨a, ha, rfl⟩ := hc
        rw [h1] at ha; cases ha
        exact h3

/-! ## Sort, Compact -/

theorem compact_sorted {d : Array Int} (hs : ∀ i j, i ≤ j → j < d.size → d[i]! ≤ d[j]!) : ∀ m, m ≤ d.size → (Lib.compactUpTo d m).Pairwise (· < ·) ∧ ∀ x, x ∈ Lib.compactUpTo d m ↔ ∃ j, j < m ∧ d[j]! = x := by
  intro m
  induction m with
  | zero => intro _; simp [Lib.compactUpTo]
  | succ m ih =>
    intro hm
    obtain ⟨h1, h2⟩ := ih (by omega)
    rw [Lib.compactUpTo_succ]
    by_cases hk : Lib.keeps d m = true
    · rw [if_pos hk]
      refine ⟨?_, fun x => ?_⟩
      · rw [List.pairwise_append]
        refine ⟨h1, by simp, fun a ha b hb => ?_⟩
        simp at hb; subst hb
        obtain ⟨j, hj, rfl⟩ := (h2 a).1 ha
        have hne : d[m]! ≠ d[m - 1]! := by
          simp only [Lib.keeps, decide_eq_true_eq] at hk
          rcases hk with hk | hk
          · omega
          · exact hk
        have e1 := hs j (m - 1) (by omega) (by omega)
        have e2 := hs (m - 1) m (by omega) (by omega)
        omega
      · rw [List.mem_append, h2]
        constructor
        · rintro (⟨j, hj, rfl⟩ | h)
          · exact ⟨j, by omega, rfl⟩
          · simp at h; subst h; exact ⟨m, by omega, rfl⟩
        · rintro ⟨j, hj, rfl⟩
          by_cases e : j = m
          · subst e; exact .inr (by simp)
          · exact .inl ⟨j, by omega, rfl⟩
    · rw [if_neg hk, List.append_nil]
      refine ⟨h1, fun x => ?_⟩
      rw [h2]
      have hk : Lib.keeps d m = false := by simpa using hk
      have heq : m ≠ 0 ∧ d[m]! = d[m - 1]! := by
        simp only [Lib.keeps, decide_eq_false_iff_not, not_or, Classical.not_not] at hk
        exact hk
      constructor
      · rintro ⟨j, hj, rfl⟩; exact ⟨j, by omega, rfl⟩
      · rintro ⟨j, hj, rfl⟩
        by_cases e : j = m
        · subst e; exact ⟨j - 1, by omega, heq.2.symm⟩
        · exact ⟨j, by omega, rfl⟩

theorem compact_rising {zs : List Int} (hs : zs.Pairwise (· ≤ ·)) : (Lib.compact zs).Pairwise (· < ·) ∧ ∀ x, x ∈ Lib.compact zs ↔ x ∈ zs := by
  have hg : ∀ i, i < zs.length → zs.toArray[i]! = zs.getD i 0 := fun i hi => by simp [hi, List.getD]
  have := compact_sorted (d := zs.toArray) (fun i j hij hj => by
    have hj : j < zs.length := by simpa using hj
    rw [hg i (by omega), hg j hj]
    by_cases e : i = j
    · subst e; exact Int.le_refl _
    · rw [List.pairwise_iff_getElem] at hs
      have := hs i j (by omega) hj (by omega)
      simpa [List.getD, List.getElem?_eq_getElem hj, List.getElem?_eq_getElem (show i < zs.length by omega)] using this) zs.length (by simp)
  refine ⟨this.1, fun x => ?_⟩
  rw [show Lib.compact zs = Lib.compactUpTo zs.toArray zs.length from rfl, this.2]
  constructor
  · rintro ⟨j, hj, rfl⟩
    rw [hg j hj]
    simp [List.getD, List.getElem?_eq_getElem hj]
  · intro hx
    obtain ⟨j, hj⟩ := List.getElem?_of_mem hx
    have hlt := (List.getElem?_eq_some_iff.1 hj).1
    exact ⟨j, hlt, by rw [hg j hlt]; simp [List.getD, hj]⟩
end Go.Fk
end

section
set_option linter.unusedVariables false
namespace Go.Fk
open Go

theorem grow_nil (w : World) : Sort.grow w #[] = w := by simp [Sort.grow]

theorem sort_compact {w : World} {base : Nat} {l : Sl} {zs : List Int} {K : Sl → World → Prop} (ho : Own w base T.int 1 l (zs.map (Ty.int .i64).enc)) (hlen : zs.length ≤ 1000000000)
    (hK : ∀ l' (ys : List Int) w', Keeps l.blk w w' → Own w' base T.int 1 l' (ys.map (Ty.int .i64).enc) → ys.Pairwise (· < ·) → (∀ x, x ∈ ys ↔ x ∈ zs) → K l' w') : slices_Sort.C l w fun _ w5 => slices_Compact_int.C l w5 fun x w6 => K x w6 := by
  have hl := ho.len
  simp at hl
  rcases ho.2 with ⟨hv, hn⟩ | ⟨g, cap, cur, hv, hge, hg, hnc, hcm, hcs, htake⟩
  · simp only [Sl.val, Value.slice.injEq] at hv
    obtain ⟨e1, e2, e3⟩ := hv
    have hz : zs = [] := List.eq_nil_of_length_eq_zero (by omega)
    subst hz
    have el : l = ⟨none, 0, 0⟩ := by cases l; simp_all
    subst el
    refine Calls.mono (Go.Proofs.Tryz.slices_Sort_int_none none 0 w) ?_
    rintro e w1 ⟨rfl, rfl⟩
    refine ⟨(), rfl, ?_⟩
    refine Calls.mono (Go.Proofs.Tryz.slices_Compact_int_empty none 0 w1) ?_
    rintro e w2 ⟨rfl, rfl⟩
    exact ⟨⟨none, 0, 0⟩, rfl, hK _ [] w2 .refl (by simpa using ho) .nil fun x => Iff.rfl⟩
  · simp only [Sl.val, Value.slice.injEq] at hv
    obtain ⟨e1, e2, e3⟩ := hv
    have el : l = ⟨some ⟨g, 0, none⟩, zs.length, cap⟩ := by cases l; simp_all
    rw [hl.symm] at htake hnc
    subst el
    have hblk : ∀ b, (some g = some b) → Sl.blk ⟨some ⟨g, 0, none⟩, zs.length, cap⟩ b := by rintro b ⟨⟩; exact ⟨_, rfl, rfl⟩
    have ht : cur.toList.take zs.length = zs.map (Value.int .i64) := by
      simp only [Nat.mul_one] at htake
      exact htake
    have hcs' : zs.length ≤ cur.size := by omega
    have hb31 : zs.length < 4611686018427387904 := by omega
    refine Calls.mono (Go.Proofs.Tryz.slices_Sort_int g 0 cap zs w (holds_of_blockI hg ht) (lt_of_some hg) hb31) ?_
    rintro e w1 ⟨rfl, n, os, rfl⟩
    refine ⟨(), rfl, ?_⟩
    generalize hs : zs.mergeSort (fun x y => decide (x ≤ y)) = ss
    have hperm : ss.Perm zs := hs ▸ List.mergeSort_perm zs _
    have hsl : ss.length = zs.length := hperm.length_eq
    have hsorted : ss.Pairwise (· ≤ ·) := by
      have h1 := List.pairwise_mergeSort (le := fun x y : Int => decide (x ≤ y)) (fun a b c h1 h2 => by simp only [decide_eq_true_eq] at *; omega) (fun a b => by simp only [Bool.or_eq_true, decide_eq_true_eq]; omega) zs
      rw [hs] at h1
      exact h1.imp fun h => by simpa using h
    have hb1 := heap_sortedI (n := n) (os := os) ss.toArray hg
    have k1 : Keeps (fun b => some g = some b) w (Sort.grow (Sort.putRow (Value.int .i64) (Sort.ahead w n) g 0 ss.toArray) os) := Keeps.of_grown (grownBy_sortedI _)
    generalize Sort.grow (Sort.putRow (Value.int .i64) (Sort.ahead w n) g 0 ss.toArray) os = w1 at *
    have ht1 := take_putCellsI cur ss (by omega)
    have hc : slices_Compact_int.C ⟨some ⟨g, 0, none⟩, ss.length, cap⟩ w1 fun x w6 => K x w6 := by
      refine Calls.mono (Go.Proofs.Tryz.slices_Compact_int g 0 cap ss w1 (holds_of_blockI hb1 ht1) (by omega) (by omega)) ?_
      rintro e w2 ⟨rfl, q, rfl⟩
      refine ⟨⟨some ⟨g, 0, none⟩, (Lib.compact ss).length, cap⟩, rfl, ?_⟩
      obtain ⟨r1, r2⟩ := compact_rising hsorted
      have hcl : (Lib.compact ss).length ≤ ss.length := by
        unfold Lib.compact Lib.compactUpTo
        rw [List.length_map]
        exact Nat.le_trans (List.length_filter_le _ _) (by simp)
      generalize hd : Lib.compact ss ++ List.replicate (ss.length - (Lib.compact ss).length) 0 = d2
      have hdl : d2.length = ss.length := by rw [← hd]; simp; omega
      have hb2 := heap_sortedI (n := q) (os := #[]) d2.toArray hb1
      have k2 : Keeps (fun b => some g = some b) w1 (Sort.grow (Sort.putRow (Value.int .i64) (Sort.ahead w1 q) g 0 d2.toArray) #[]) := Keeps.of_grown (grownBy_sortedI _)
      rw [grow_nil] at hb2 k2
      generalize Sort.putRow (Value.int .i64) (Sort.ahead w1 q) g 0 d2.toArray = w2 at *
      have ht2 := take_putCellsI (Sort.putCells (Value.int .i64) 0 ss.toArray cur) d2 (by simp [Sort.putCells]; omega)
      refine hK _ (Lib.compact ss) w2 ((k1.trans k2).mono fun b _ h => hblk b h) ⟨by simp, .inr ⟨g, cap, _, rfl, hge, hb2, by show (Lib.compact ss).length ≤ cap; omega, hcm, by simp [Sort.putCells, hcs], ?_⟩⟩ r1 fun x => by rw [r2]; exact hperm.mem_iff
      rw [Nat.mul_one]
      have : List.take (Lib.compact ss).length (List.take d2.length (Sort.putCells (Value.int .i64) 0 d2.toArray (Sort.putCells (Value.int .i64) 0 ss.toArray cur)).toList) = List.take (Lib.compact ss).length (d2.map (Value.int .i64)) := by rw [ht2]
      rw [List.take_take, Nat.min_eq_left (by omega)] at this
      rw [this, ← hd, List.map_append, List.take_left' (by simp)]
      rfl
    rw [hsl] at hc
    exact hc

/-! ## What may come next -/

def nextSet (fs : List ((Nat → Bool) × Int)) (F : Int → Int → Prop) (ks : List Kn) (at_ : List Int) (q : Int) : Prop := (at_ = [] ∧ ∃ r : Nat, r < ks.length ∧ (knAt ks r).first q) ∨ ∃ p ∈ at_, F p q

theorem dfa_behind_spec {M : Nat → Prop} {w : World} {p : Option Addr} {fs : List ((Nat → Bool) × Int)} {F : Int → Int → Prop} {ks : List Kn} {l : Sl} {xs : List Int} {K : Sl → World → Prop} (h : MachO (V No w) p fs F ks) (hl : SlT (.int .i64) (V M w) l xs) (hnil : l.a.isNone = true ↔ xs = []) (hin : ∀ x ∈ xs, 0 ≤ x ∧ x < fs.length)
    (hlen : xs.length ≤ 2000) (hks : ks.length ≤ 2000) (hK : ∀ l' (ys : List Int) w', Keeps No w w' → Own w' w.heap.size T.int 1 l' (ys.map (Ty.int .i64).enc) → Rising ys (nextSet fs F ks xs) → K l' w') : dfa_behind.C p l w K := by
  have hn := hl.1
  have hfew := h.few
  refine dfa_behind.ok _ _ _ _ ?_
  simp only [dfa_behind.M]
  -- lists are short
  refine Join.cut (fun (o : Sl) w' => Keeps No w w' ∧ ∃ zs : List Int, Own w' w.heap.size T.int 1 o (zs.map (Ty.int .i64).enc) ∧ zs.length ≤ 10000000 ∧ ∀ q, q ∈ zs ↔ xs = [] ∧ ∃ r : Nat, r < ks.length ∧ (knAt ks r).first q) ?_ ?_
  · rintro o w1 ⟨k1, zs, ho, hzl, hz⟩
    refine Loop.mk (fun t w' => Keeps No w w' ∧ ∃ (k : Nat) (ys : List Int), k ≤ xs.length ∧ t.2 = (k : Int) ∧ Own w' w.heap.size T.int 1 t.1 (ys.map (Ty.int .i64).enc) ∧ ys.length ≤ 10000000 + k * 2000 ∧ ∀ q, q ∈ ys ↔ (q ∈ zs ∨ ∃ p ∈ xs.take k, F p q)) (fun t => xs.length - t.2.toNat) ⟨k1, 0, zs, by omega, rfl, ho, by omega, by simp⟩ ?_
    rintro ⟨o2, kk⟩ w2 ⟨k2, k, ys, hk, hkk, ho2, hyl, hy⟩ R hR
    dsimp only at hkk ho2 ⊢
    subst hkk
    refine Br.mk (fun ht => ?_) (fun hf => ?_)
    · have ht : k < xs.length := by have := of_decide_eq_true ht; omega
      refine IdxS.get (M := M) (hl.mono (V.keeps0 k2)) (by omega) (by omega) fun x hx => ?_
      simp only [Int.toNat_natCast] at hx
      have hxin := hin x (List.mem_of_getElem? hx)
      refine nfa_Machine_Follow_spec (h.mono (V.keeps0 k2)) fun l3 us w3 k3 o3 r3 => ?_
      have hul : us.length ≤ 2000 := nodup_bound 2000 us (r3.1.imp fun {a b} h e => by omega) fun q hq => by
        have := (r3.2 q).1 hq
        have := h.fin this.1 this.2; omega
      have z2 := (k2.trans k3).size
      refine append_ints (ho2.keep0 k3) o3 (by omega) z2 fun l4 w4 o4 k4 _ => ?_
      have e4 : w64 ((k : Int) + 1) = ((k + 1 : Nat) : Int) := by rw [w64_eq (by omega)]; omega
      rw [e4]
      refine hR _ w4 ⟨((k2.trans k3).no (M := No)).then k4 fun c hc hb => by have := (ho2.ge hb).1; have : c < w.heap.size := hc; omega, k + 1, ys ++ us, by omega, rfl, o4, by simp; omega, fun q => ?_⟩ (by dsimp only; omega)
      rw [List.mem_append, hy, r3.2, List.take_add_one, hx]
      constructor
      · rintro ((h1 | ⟨p, h1, h2⟩) | ⟨_, h1⟩)
        · exact .inl h1
        · exact .inr ⟨p, by simp [h1], h2⟩
        · exact .inr ⟨x, by simp, h1⟩
      · rintro (h1 | ⟨p, h1, h2⟩)
        · exact .inl (.inl h1)
        · rcases List.mem_append.1 h1 with h1 | h1
          · exact .inl (.inr ⟨p, h1, h2⟩)
          · simp at h1; subst h1; exact .inr ⟨hxin, h2⟩
    · have hf : k = xs.length := by have := of_decide_eq_false hf; omega
      subst hf
      refine sort_compact ho2 (by omega) fun l' vs w' k' o' r1 r2 => ?_
      refine hK l' vs w' ((k2.no (M := No)).then k' fun c hc hb => by have := (ho2.ge hb).1; have : c < w.heap.size := hc; omega) o' ⟨r1, fun q => ?_⟩
      rw [r2, hy, List.take_length, hz]
      rfl
  · intro j hj
    refine Br.mk (fun hb => ?_) (fun hb => ?_)
    · have hx := hnil.1 hb
      refine nfa_Machine_Rules_spec h ?_
      refine Loop.mk (fun t w' => Keeps No w w' ∧ ∃ (k : Nat) (ys : List Int), k ≤ ks.length ∧ t.2 = (k : Int) ∧ Own w' w.heap.size T.int 1 t.1 (ys.map (Ty.int .i64).enc) ∧ ys.length ≤ k * 2000 ∧ ∀ q, q ∈ ys ↔ ∃ r : Nat, r < k ∧ (knAt ks r).first q) (fun t => ks.length - t.2.toNat) ⟨.refl, 0, [], by omega, rfl, Own.nil _ _ _ _, by simp, by simp⟩ ?_
      rintro ⟨o2, kk⟩ w2 ⟨k2, k, ys, hk, hkk, ho2, hyl, hy⟩ R hR
      dsimp only at hkk ho2 ⊢
      subst hkk
      refine Br.mk (fun ht => ?_) (fun hf => ?_)
      · have ht : k < ks.length := by have := of_decide_eq_true ht; omega
        refine nfa_Machine_First_spec (h.mono (V.keeps0 k2)) fun l3 us w3 k3 o3 r3 => ?_
        have hul : us.length ≤ 2000 := nodup_bound 2000 us (r3.1.imp fun {a b} h e => by omega) fun q hq => by
          have := h.kin k q (.inl ((r3.2 q).1 hq)); omega
        have z2 := (k2.trans k3).size
        refine append_ints (ho2.keep0 k3) o3 (by omega) z2 fun l4 w4 o4 k4 _ => ?_
        have e4 : w64 ((k : Int) + 1) = ((k + 1 : Nat) : Int) := by rw [w64_eq (by omega)]; omega
        rw [e4]
        refine hR _ w4 ⟨((k2.trans k3).no (M := No)).then k4 fun c hc hb => by have := (ho2.ge hb).1; have : c < w.heap.size := hc; omega, k + 1, ys ++ us, by omega, rfl, o4, by simp; omega, fun q => ?_⟩ (by dsimp only; omega)
        rw [List.mem_append, hy, r3.2]
        constructor
        · rintro (⟨r, h1, h2⟩ | h1)
          · exact ⟨r, by omega, h2⟩
          · exact ⟨k, by omega, h1⟩
        · rintro ⟨r, h1, h2⟩
          by_cases e : r = k
          · subst e; exact .inr h2
          · exact .inl ⟨r, by omega, h2⟩
      · have hf : k = ks.length := by have := of_decide_eq_false hf; omega
        subst hf
        exact hj _ w2 ⟨k2, ys, ho2, by omega, fun q => by rw [hy]; simp [hx]⟩
    · have hx : xs ≠ [] := fun e => by rw [hnil.2 e] at hb; cases hb
      exact hj _ w ⟨.refl, [], Own.nil _ _ _ _, by simp, fun q => by simp [hx]⟩
end Go.Fk
end

section
set_option linter.unusedVariables false
namespace Go.Fk
open Go Go.MapKept Go.Maps
open Go.ChangeMaps (setBlock)

/-! ## Maps: 'v, ok := m[k]'; how many there are; a key that is new -/

theorem encB (b : Bool) : (Ty.bool).enc b = .bool b := rfl

section
variable {P : Program} {T kT vT : TypeId} {kt vt : Ty} {H H' : View} {m : Nat} {R R' : kt.T → vt.T → Prop}

theorem App.look2 (hT : MapTy P T kT vT kt vt) {w : World} {M : Nat → Prop} {mo : Option Nat} {x : kt.T} {z : vt.T} {K : (vt.T × Bool) → World → Prop} (hz : (zeroValue vT).run P w = .ok (vt.enc z) w)
    (h : MapO P kT kt vt (V M w) mo R) (hk : OkKey P kT (kt.enc x)) (h1 : ∀ y, R x y → K (y, true) w) (h0 : (∀ y, ¬ R x y) → K (z, false) w) :
    App P (Instr.lookup T (.map mo) (kt.enc x) true) (.tup [.one vt, .one .bool]) w K := by
  obtain ⟨lx, hlx⟩ := hk
  cases mo with
  | none =>
    refine ⟨(z, false), w, ?_, h0 fun y' => h x y'⟩
    rcases hT.keyed.find w hlx [] (by simp) with ⟨g1, _⟩ | ⟨j, e0, _, h2, _⟩
    · simp [Instr.lookup, run_underlying hT.ty, hT.keyed.check w true hlx, g1, hz, Result.andThen, RTy.enc, RTy.encs, encB]
    · simp at h2
  | some m =>
    obtain ⟨es, clock, ⟨_, hb⟩, hs, h3, h4⟩ := h
    rcases hT.keyed.find w hlx es.toList (fun e he => (h3 e he).1) with ⟨g1, h2⟩ | ⟨j, e0, g1, h2, h5⟩
    · refine ⟨(z, false), w, ?_, h0 fun y' hr => ?_⟩
      · simp [Instr.lookup, run_underlying hT.ty, MapKept.run_getObj_map hb, hT.keyed.check w _ hlx, g1, hz, Result.andThen, RTy.enc, RTy.encs, encB]
      · obtain ⟨e, he, h6, _⟩ := h4 x y' hr
        exact h2 e he h6
    · obtain ⟨_, x', y', h7, h8, h9⟩ := h3 e0 (List.mem_of_getElem? h2)
      have hx : x' = x := Ty.enc_inj (h7.symm.trans h5)
      subst hx
      refine ⟨(y', true), w, ?_, h1 y' h9⟩
      simp [Instr.lookup, run_underlying hT.ty, MapKept.run_getObj_map hb, hT.keyed.check w _ hlx, g1, Result.andThen, RTy.enc, RTy.encs, encB, h8]

/-- How many entries the block has. -/
def MapSz (w : World) (m n : Nat) : Prop := ∃ es clock, w.heap[m]? = some (.map es clock) ∧ es.size = n

theorem MapSz.keep {N : Nat → Prop} {w w' : World} {n : Nat} (h : MapSz w m n) (hk : Keeps N w w') (hn : ¬ N m) : MapSz w' m n := by
  obtain ⟨es, clock, h1, h2⟩ := h
  exact ⟨es, clock, hk.blk h1 hn, h2⟩

theorem App.len (hT : P.underlying T = some (.map kT vT)) {T' : TypeId} {w : World} {n : Nat} {K : Int → World → Prop} (h : MapSz w m n) (hK : K n w) : App P (Builtin.len_ #[T] T' #[.map (some m)]) (.one (.int .i64)) w K := by
  obtain ⟨es, clock, h1, h2⟩ := h
  refine ⟨(n : Int), w, ?_, hK⟩
  simp [Builtin.len_, run_underlying hT, MapKept.run_getObj_map h1, Result.andThen, RTy.enc, Ty.enc, goInt, h2]

theorem AppS.len (hT : P.underlying T = some (.map kT vT)) {T' : TypeId} {S : World → Prop} {n : Nat} {K : Int → Prop} (h : ∀ w, S w → MapSz w m n) (hK : K n) : AppS P S (Builtin.len_ #[T] T' #[.map (some m)]) (.one (.int .i64)) K := by
  refine ⟨(n : Int), fun w hw => ?_, hK⟩
  obtain ⟨es, clock, h1, h2⟩ := h w hw
  simp [Builtin.len_, run_underlying hT, MapKept.run_getObj_map h1, Result.andThen, RTy.enc, Ty.enc, goInt, h2]

/-- 'm[k] = v', k new. -/
theorem App0.putNew (hT : MapTy P T kT vT kt vt) {w : World} {x : kt.T} {y : vt.T} {K : World → Prop} {M : Nat → Prop} {n : Nat} (h : MapAt P kT kt vt (V M w) m R) (hsz : MapSz w m n) (hk : OkKey P kT (kt.enc x)) (hnew : ∀ y', ¬ R x y')
    (hK : ∀ w', Keeps (· = m) w w' → w'.heap.size = w.heap.size → MapAt P kT kt vt (V M w') m (fun a b => (a = x ∧ b = y) ∨ (a ≠ x ∧ R a b)) → MapSz w' m (n + 1) → K w') :
    App0 P (Instr.mapUpdate T (.map (some m)) (kt.enc x) (vt.enc y)) w K := by
  obtain ⟨es, clock, ⟨hM, hb⟩, hs, h3, h4⟩ := h
  obtain ⟨es', clock', hb', hn⟩ := hsz
  rw [hb] at hb'
  cases hb'
  obtain ⟨lx, hlx⟩ := hk
  rcases hT.keyed.find w hlx es.toList (fun e he => (h3 e he).1) with ⟨h1, h2⟩ | ⟨j, e0, h1, h2, h5⟩
  · have hu := keepsSetBlock hb (.map (es.push ⟨kt.enc x, vt.enc y, clock⟩) (clock + 1))
    refine ⟨setBlock w m (.map (es.push ⟨kt.enc x, vt.enc y, clock⟩) (clock + 1)), ?_, hK _ hu.keeps hu.size ?_ ⟨_, _, hu.at_, by simp [hn]⟩⟩
    · simp [Instr.mapUpdate, run_underlying hT.ty, MapKept.run_getObj_map hb, hT.keyed.check w false hlx, h1, MapKept.run_setObj_map _ hb, Result.andThen, setBlock]
    · refine ⟨_, _, ⟨hM, hu.at_⟩, stamped_push hs h2, ?_, ?_⟩
      · intro e he
        simp only [Array.toList_push, List.mem_append, List.mem_singleton] at he
        rcases he with he | rfl
        · obtain ⟨h6, x', y', h7, h8, h9⟩ := h3 e he
          exact ⟨h6, x', y', h7, h8, .inr ⟨fun e1 => h2 e he (by rw [h7, e1]), h9⟩⟩
        · exact ⟨⟨lx, hlx⟩, x, y, rfl, rfl, .inl ⟨rfl, rfl⟩⟩
      · rintro a b (⟨rfl, rfl⟩ | ⟨ha, hr⟩)
        · exact ⟨⟨kt.enc a, vt.enc b, clock⟩, by simp, rfl, rfl⟩
        · obtain ⟨e, he, h6, h7⟩ := h4 a b hr
          exact ⟨e, by simp; exact .inl (by simpa using he), h6, h7⟩
  · obtain ⟨_, x', y', h7, h8, h9⟩ := h3 e0 (List.mem_of_getElem? h2)
    have hx : x' = x := Ty.enc_inj (h7.symm.trans h5)
    subst hx
    exact absurd h9 (hnew y')

theorem MapSz.empty {w : World} {b : Nat} (h : w.heap[b]? = some (.map #[] 0)) : MapSz w b 0 := ⟨_, _, h, rfl⟩
end
end Go.Fk
end

section
set_option linter.unusedVariables false
namespace Go.Fk
open Go Go.MapKept Go.Maps Go.ChangeMaps

/-! ## An automaton that is made: its memory -/

theorem App.buildG {T : TypeId} {w : World} {parts : Array (Nat × Value)} {cs : Array Value} {K : Array Value → World → Prop} (h : P.built T parts.toList = some cs) (hK : K cs w) : App P (Instr.build T parts) .big w K :=
  ⟨cs, w, run_build w _ parts cs h, hK⟩
theorem AppS.buildG {T : TypeId} {S : World → Prop} {parts : Array (Nat × Value)} {cs : Array Value} {K : Array Value → Prop} (h : P.built T parts.toList = some cs) (hK : K cs) : AppS P S (Instr.build T parts) .big K :=
  ⟨cs, fun w _ => run_build w _ parts cs h, hK⟩

theorem App.slice1G {Tsl T : TypeId} {sz bytes : Nat} {z : Array Value} (hE : Elem P Tsl T (.agg z) sz bytes) {w : World} {c : Array Value} {K : Sl → World → Prop} (hc : c.size = sz) (hs1 : sz ≤ 100000) (hb1 : bytes ≤ 1000000)
    (hK : ∀ b w', New b (.cells c T (0, 0)) w w' → K ⟨some ⟨b, 0, none⟩, 1, 1⟩ w') : App P (Instr.buildSlice Tsl 1 #[(0, .agg c)]) (.one .sl) w K := by
  obtain ⟨i, hi, hzz⟩ := Option.map_eq_some_iff.1 hE.inf
  simp only [Prod.mk.injEq] at hzz
  obtain ⟨hz, hs, hb⟩ := hzz
  have hpos := hE.pos
  have hf := Go.Great.fill_whole (s := sz) hpos [Value.agg c] ((Array.range (1 * sz)).map ((Value.agg z).cells[· % (Value.agg z).cells.size]!)) (fun v hv => by simp at hv; subst hv; simp [Value.cells, hc]) (by simp)
  have e : [Value.agg c].flatMap (fun v => v.cells.toList) = c.toList := by simp [Value.cells]
  rw [e] at hf
  refine Al.mk (o := .cells c T) (w := w) (k := fun b w' => b = w.heap.size → App P (Instr.buildSlice Tsl 1 #[(0, .agg c)]) (.one .sl) w K) (fun b w' hb' hbe => ?_) rfl
  refine Al.mk (o := .cells c T) (w := w) (k := fun b w' => w' = w.alloc (.cells c T) → App P (Instr.buildSlice Tsl 1 #[(0, .agg c)]) (.one .sl) w K) (fun b2 w2 hb2 hbe2 => ?_) rfl
  refine ⟨⟨some ⟨w.heap.size, 0, none⟩, 1, 1⟩, w2, ?_, ?_⟩
  · rw [hbe2]
    refine run_buildSlice w _ _ 1 _ _ i _ hE.sl hi hz (by rw [hs]; omega) (by rw [hs]; omega) ?_
    rw [hs]
    simpa using hf
  · have := hK b2 w2 hb2
    rw [hb2.eq] at this
    exact this

def row256 (f : Nat → Int) : List Value := (List.range 256).map fun i => .int .i64 (f i)
theorem row256_len (f : Nat → Int) : (row256 f).length = 256 := by simp [row256]
theorem row256_get {f : Nat → Int} {i : Nat} (h : i < 256) : (row256 f)[i]? = some (.int .i64 (f i)) := by simp [row256, h]
theorem row256_set {f : Nat → Int} {i : Nat} {v : Int} (h : i < 256) : (row256 f).set i (.int .i64 v) = row256 fun j => if j = i then v else f j := by
  refine List.ext_getElem? fun j => ?_
  rw [List.getElem?_set, row256_len]
  by_cases hj : j < 256
  · rw [row256_get hj, row256_get hj]
    by_cases e : i = j
    · subst e; simp [h]
    · simp [e, Ne.symm e]
  · have e1 : ∀ g : Nat → Int, (row256 g)[j]? = none := fun g => List.getElem?_eq_none (by rw [row256_len]; omega)
    rw [e1, e1]
    have : i ≠ j := by omega
    simp [this]

/-- A state: where its positions lie; the positions; where bytes lead; what it accepts. -/
structure DSt where
  at_ : Sl
  xs : List Int
  nx : Nat → Int
  acc : Int
def DSt.cells (v : DSt) : List Value := .slice v.at_.a v.at_.n v.at_.c :: (row256 v.nx ++ [.int .i64 v.acc])
theorem DSt.len (v : DSt) : v.cells.length = 258 := by simp [DSt.cells, row256_len]
theorem DSt.lens {svs : List DSt} : ∀ c ∈ svs.map DSt.cells, c.length = 258 := fun c hc => by obtain ⟨v, _, rfl⟩ := List.mem_map.1 hc; exact v.len
theorem DSt.get0 (v : DSt) : v.cells[0]? = some (.slice v.at_.a v.at_.n v.at_.c) := rfl
theorem DSt.getN (v : DSt) {i : Nat} (h : i < 256) : v.cells[1 + i]? = some (.int .i64 (v.nx i)) := by
  rw [Nat.add_comm, DSt.cells, List.getElem?_cons_succ, List.getElem?_append_left (by rw [row256_len]; exact h), row256_get h]
theorem DSt.getA (v : DSt) : v.cells[257]? = some (.int .i64 v.acc) := by
  show (row256 v.nx ++ [_])[256]? = _
  rw [List.getElem?_append_right (by rw [row256_len]; omega), row256_len]; rfl
theorem DSt.one (v : DSt) : ∀ u ∈ v.cells, u.oneCell' = true := by
  intro u hu
  simp only [DSt.cells, row256, List.mem_cons, List.mem_append, List.mem_map, List.mem_range, List.not_mem_nil, or_false] at hu
  rcases hu with rfl | ⟨i, _, rfl⟩ | rfl <;> rfl

abbrev stObj (v : DSt) : Obj := .cells v.cells.toArray T.dfa_state (0, 0)
def dCells (p : Option Addr) (l : Sl) (cl : Nat → Int) (nc : Int) : List Value := .pointer p :: .slice l.a l.n l.c :: (row256 cl ++ [.int .i64 nc])
abbrev dObj (p : Option Addr) (l : Sl) (cl : Nat → Int) (nc : Int) : Obj := .cells (dCells p l cl nc).toArray T.dfa_Dfa (0, 0)
theorem dCells_l {p : Option Addr} {l : Sl} {cl : Nat → Int} {nc : Int} : (dCells p l cl nc).toArray[1]? = some (.slice l.a l.n l.c) := rfl

theorem dCells_len {p : Option Addr} {l : Sl} {cl : Nat → Int} {nc : Int} : (dCells p l cl nc).length = 259 := by simp [dCells, row256_len]
theorem dCells_setl {p : Option Addr} {l l' : Sl} {cl : Nat → Int} {nc : Int} : (dCells p l cl nc).toArray.setIfInBounds 1 (.slice l'.a l'.n l'.c) = (dCells p l' cl nc).toArray := by
  rw [List.setIfInBounds_toArray]; rfl

theorem elSt : Elem P T.sl_dfa_state T.dfa_state (.agg (DSt.cells ⟨⟨none, 0, 0⟩, [], fun _ => 0, 0⟩).toArray) 258 2080 := ⟨by kernel_rfl, by kernel_rfl, by simp [Value.cells, DSt.len], by decide⟩
theorem buildSt (a : Option Addr) (n c : Nat) (k : Int) : P.built T.dfa_state [(0, .slice a n c), (2, .int .i64 k)] = some (DSt.cells ⟨⟨a, n, c⟩, [], fun _ => 0, k⟩).toArray := by kernel_rfl
theorem buildSt0 (k : Int) : P.built T.dfa_state [(2, .int .i64 k)] = some (DSt.cells ⟨⟨none, 0, 0⟩, [], fun _ => 0, k⟩).toArray := by kernel_rfl
theorem buildDfa (p a : Option Addr) (n c : Nat) : P.built T.dfa_Dfa [(0, .pointer p), (1, .slice a n c)] = some (dCells p ⟨a, n, c⟩ (fun _ => 0) 0).toArray := by kernel_rfl

theorem strIntTy : MapTy P T.map_string_int T.string T.int .str (.int .i64) := ⟨by kernel_rfl, string_keyed strTy⟩
theorem strKey {s : ByteArray} (h : s.size ≤ maxLen) : OkKey P T.string (.string s) := ⟨.string s.data.toList, by
  have : mapKey P T.string (.string s) = some (.string s.data.toList) := by
    unfold mapKey
    rw [strTy]
    simp [h]
  exact keyOf_of_mapKey this⟩
theorem run_zeroInt (w : World) : (zeroValue T.int).run P w = .ok (.int .i64 0) w := run_zero (by kernel_rfl) w

structure Sts (fs : List ((Nat → Bool) × Int)) (ks : List Kn) (svs : List DSt) : Prop where
  zero : ∃ sv, svs[0]? = some sv ∧ sv.xs = []
  ne : ∀ (i : Nat) sv, svs[i]? = some sv → 0 < i → sv.xs ≠ []
  rise : ∀ sv ∈ svs, sv.xs.Pairwise (· < ·) ∧ ∀ q ∈ sv.xs, 0 ≤ q ∧ q < fs.length
  inj : ∀ (i j : Nat) sv sv', svs[i]? = some sv → svs[j]? = some sv' → sv.xs = sv'.xs → i = j
  acc : ∀ sv ∈ svs, AccOf fs ks sv.xs sv.acc

def KeyR (svs : List DSt) (k : ByteArray) (v : Int) : Prop := ∃ (i : Nat) (sv : DSt), svs[i]? = some sv ∧ 0 < i ∧ k = txt sv.xs ∧ v = i

abbrev Bft (bb bd mm : Nat) (l : Sl) : Nat → Prop := fun b => b = bb ∨ b = bd ∨ b = mm ∨ l.blk b

abbrev bObj (bd mm : Nat) : Obj := .cells #[.pointer (some ⟨bd, 0, none⟩), .map (some mm)] T.dfa_build (0, 0)

structure Bd (w : World) (base bb bd mm : Nat) (p : Option Addr) (fs : List ((Nat → Bool) × Int)) (F : Int → Int → Prop) (ks : List Kn) (l : Sl) (svs : List DSt) : Prop where
  mach : MachO (V (fun b => base ≤ b) w) p fs F ks
  hb : w.heap[bb]? = some (bObj bd mm)
  hd : w.heap[bd]? = some (dObj p l (fun _ => 0) 0)
  own : Own w base T.dfa_state 258 l (svs.map DSt.cells).flatten
  map : MapAt P T.string .str (.int .i64) (V No w) mm (KeyR svs)
  ge : base ≤ bb ∧ base ≤ bd ∧ base ≤ mm
  ne : bb ≠ bd ∧ bb ≠ mm ∧ bd ≠ mm
  foot : ¬ l.blk bb ∧ ¬ l.blk bd ∧ ¬ l.blk mm
  ats : ∀ (i : Nat) sv, svs[i]? = some sv → SlT (.int .i64) (V (Bft bb bd mm l) w) sv.at_ sv.xs ∧ (sv.at_.a.isNone = true ↔ sv.xs = [])
  sts : Sts fs ks svs

section
variable {w : World} {base bb bd mm : Nat} {p : Option Addr} {fs : List ((Nat → Bool) × Int)} {F : Int → Int → Prop} {ks : List Kn} {l : Sl} {svs : List DSt}

theorem Bd.n (h : Bd w base bb bd mm p fs F ks l svs) : l.n = svs.length := by
  have := h.own.len
  rw [flatten_len DSt.lens, List.length_map] at this
  omega
theorem Bd.lt (h : Bd w base bb bd mm p fs F ks l svs) : base ≤ w.heap.size := by have := lt_of_some h.hb; have := h.ge.1; omega

theorem Bd.keep0 {w' : World} (h : Bd w base bb bd mm p fs F ks l svs) (k : Keeps No w w') : Bd w' base bb bd mm p fs F ks l svs where
  mach := h.mach.mono (V.keeps0 k)
  hb := k.blk0 h.hb
  hd := k.blk0 h.hd
  own := h.own.keep0 k
  map := MapAt.mono h.map (V.keeps0 k)
  ge := h.ge
  ne := h.ne
  foot := h.foot
  ats := fun i sv hi => ⟨(h.ats i sv hi).1.mono (V.keeps0 k), (h.ats i sv hi).2⟩
  sts := h.sts

/-- What 'place' comes to. -/
def Placed (fs : List ((Nat → Bool) × Int)) (ks : List Kn) (at_ : Sl) (xs : List Int) (svs svs' : List DSt) (k : Int) : Prop :=
  (xs = [] ∧ k = -1 ∧ svs' = svs) ∨ (xs ≠ [] ∧ ∃ (i : Nat) (sv : DSt), 0 < i ∧ k = i ∧ svs'[i]? = some sv ∧ sv.xs = xs ∧ (svs' = svs ∨ (svs' = svs ++ [⟨at_, xs, fun _ => 0, sv.acc⟩] ∧ i = svs.length)))

theorem Sts.snoc (h : Sts fs ks svs) {at_ : Sl} {xs : List Int} {a : Int} (hne : xs ≠ []) (hr : xs.Pairwise (· < ·) ∧ ∀ q ∈ xs, 0 ≤ q ∧ q < fs.length) (hnew : ∀ (i : Nat) sv, svs[i]? = some sv → sv.xs ≠ xs) (ha : AccOf fs ks xs a) :
    Sts fs ks (svs ++ [⟨at_, xs, fun _ => 0, a⟩]) := by
  have hpos : 0 < svs.length := by
    obtain ⟨sv, h0, _⟩ := h.zero
    exact (List.getElem?_eq_some_iff.1 h0).1
  have key : ∀ (i : Nat) sv, (svs ++ [⟨at_, xs, fun _ => 0, a⟩])[i]? = some sv → svs[i]? = some sv ∨ (i = svs.length ∧ sv = ⟨at_, xs, fun _ => 0, a⟩) := by
    intro i sv hi
    by_cases hl : i < svs.length
    · rw [List.getElem?_append_left hl] at hi; exact .inl hi
    · have := (List.getElem?_eq_some_iff.1 hi).1
      simp at this
      have e : i = svs.length := by omega
      subst e
      simp at hi
      exact .inr ⟨rfl, hi.symm⟩
  refine ⟨?_, ?_, ?_, ?_, ?_⟩
  · obtain ⟨sv, h0, h1⟩ := h.zero
    exact ⟨sv, by rw [List.getElem?_append_left hpos]; exact h0, h1⟩
  · intro i sv hi h0
    rcases key i sv hi with hi | ⟨_, rfl⟩
    · exact h.ne i sv hi h0
    · exact hne
  · intro sv hsv
    rcases List.mem_append.1 hsv with hsv | hsv
    · exact h.rise sv hsv
    · simp at hsv; subst hsv; exact hr
  · intro i j sv sv' hi hj he
    rcases key i sv hi with hi | ⟨e1, rfl⟩ <;> rcases key j sv' hj with hj | ⟨e2, rfl⟩
    · exact h.inj i j sv sv' hi hj he
    · exact absurd he (hnew i sv hi)
    · exact absurd he.symm (hnew j sv' hj)
    · omega
  · intro sv hsv
    rcases List.mem_append.1 hsv with hsv | hsv
    · exact h.acc sv hsv
    · simp at hsv; subst hsv; exact ha

theorem txt_size {xs : List Int} : (txt xs).size = 2 * xs.length := by
  unfold txt
  rw [strOfNums_size]
  induction xs with
  | nil => rfl
  | cons x xs ih => simp [List.flatMap_cons, twoB, ih]; omega

theorem place_spec (h : Bd w base bb bd mm p fs F ks l svs) {at_ : Sl} {xs : List Int} {K : Int → World → Prop} (hat : SlT (.int .i64) (V (Bft bb bd mm l) w) at_ xs) (hnil : at_.a.isNone = true ↔ xs = []) (hr : xs.Pairwise (· < ·) ∧ ∀ q ∈ xs, 0 ≤ q ∧ q < fs.length) (hlen : svs.length ≤ 1000000)
    (hK : ∀ k w' l' svs', Keeps (Bft bb bd mm l) w w' → (∀ c, l'.blk c → l.blk c ∨ w.heap.size ≤ c) → Bd w' base bb bd mm p fs F ks l' svs' → Placed fs ks at_ xs svs svs' k → K k w') : dfa_build_place.C (some ⟨bb, 0, none⟩) at_ w K := by
  have hn := hat.1
  have hfew := h.mach.few
  have hxl : xs.length ≤ 2000 := nodup_bound 2000 xs (hr.1.imp fun {a b} h e => by omega) fun q hq => by have := hr.2 q hq; omega
  have hx16 : ∀ (ys : List Int), (∀ q ∈ ys, 0 ≤ q ∧ q < fs.length) → ∀ x ∈ ys, 0 ≤ x ∧ x < 65536 := fun ys hy x hx => by have := hy x hx; omega
  refine dfa_build_place.ok _ _ _ _ ?_
  simp only [dfa_build_place.M, NilC_some]
  refine Br.mk (fun h0 => ?_) (fun h0 => ?_)
  · have hx : xs = [] := by
      have : (at_.n : Int) = 0 := by simpa using h0
      exact List.eq_nil_of_length_eq_zero (by omega)
    exact hK _ w l svs .refl (fun _ h => .inl h) h (.inl ⟨hx, rfl, rfl⟩)
  · have hx : xs ≠ [] := fun e => by subst e; simp [hn] at h0
    refine dfa_text_spec hat (hx16 xs hr.2) (by omega) fun w1 k1 => ?_
    have h1 := h.keep0 k1
    simp only [add_eq]
    refine Ld.map (cell_of h1.hb rfl) ?_
    have hkey : OkKey P T.string (Ty.str.enc (txt xs)) := strKey (by rw [txt_size]; have : (9223372036854775807 : Nat) = maxLen := rfl; omega)
    refine App.look2 (kt := .str) (vt := .int .i64) (z := 0) strIntTy (run_zeroInt w1) (mo := some mm) h1.map hkey (fun y hy => ?_) (fun hno => ?_)
    · obtain ⟨i, sv, hi, h0', htx, rfl⟩ := hy
      have hxs : sv.xs = xs := (txt_inj (hx16 xs hr.2) (hx16 sv.xs (h.sts.rise sv (List.mem_of_getElem? hi)).2) htx).symm
      exact hK _ w1 l svs k1.no (fun _ h => .inl h) h1 (.inr ⟨hx, i, sv, h0', rfl, hi, hxs, .inl rfl⟩)
    · refine Ld.ptr (cell_of h1.hb rfl) (Ld.sl (cell_of h1.hd dCells_l) (Ld.map (cell_of h1.hb rfl) ?_))
      have hln := h1.n
      rw [hln]
      have hnew : ∀ (i : Nat) sv, svs[i]? = some sv → sv.xs ≠ xs := by
        intro i sv hi e
        by_cases hi0 : 0 < i
        · exact hno i ⟨i, sv, hi, hi0, by rw [e], rfl⟩
        · have : i = 0 := by omega
          subst this
          obtain ⟨sv0, g1, g2⟩ := h.sts.zero
          rw [hi] at g1; cases g1
          exact hx (e ▸ g2)
      refine App0.put (kt := .str) (vt := .int .i64) (x := txt xs) (y := (svs.length : Int)) strIntTy h1.map hkey fun w3 k3 z3 hm3 => ?_
      obtain ⟨ne1, ne2, ne3⟩ := h.ne
      obtain ⟨f1, f2, f3⟩ := h.foot
      have hb3 : w3.heap[bb]? = some (bObj bd mm) := k3.blk h1.hb ne2
      have hd3 : w3.heap[bd]? = some (dObj p l (fun _ => 0) 0) := k3.blk h1.hd ne3
      have hkr : ∀ (a : Int) k v, ((k = txt xs ∧ v = (svs.length : Int)) ∨ (k ≠ txt xs ∧ KeyR svs k v)) ↔ KeyR (svs ++ [⟨at_, xs, fun _ => 0, a⟩]) k v := by
        intro a k v
        have hpos : 0 < svs.length := by
          obtain ⟨sv, h0, _⟩ := h.sts.zero
          exact (List.getElem?_eq_some_iff.1 h0).1
        constructor
        · rintro (⟨rfl, rfl⟩ | ⟨_, i, sv, hi, h0, rfl, rfl⟩)
          · exact ⟨svs.length, ⟨at_, xs, fun _ => 0, a⟩, by simp, hpos, rfl, rfl⟩
          · exact ⟨i, sv, by rw [List.getElem?_append_left (List.getElem?_eq_some_iff.1 hi).1]; exact hi, h0, rfl, rfl⟩
        · rintro ⟨i, sv, hi, h0, rfl, rfl⟩
          by_cases hl : i < svs.length
          · rw [List.getElem?_append_left hl] at hi
            refine .inr ⟨fun e => hno i ⟨i, sv, hi, h0, e.symm, rfl⟩, i, sv, hi, h0, rfl, rfl⟩
          · have := (List.getElem?_eq_some_iff.1 hi).1
            simp at this
            have e : i = svs.length := by omega
            subst e
            simp at hi
            subst hi
            exact .inl ⟨rfl, rfl⟩
      have map4 : MapAt P T.string .str (.int .i64) (V No w3.drew) mm (fun k v => (k = txt xs ∧ v = (svs.length : Int)) ∨ (k ≠ txt xs ∧ KeyR svs k v)) := MapAt.mono hm3 (V.keeps0 .drew)
      refine ⟨fun x => x.heap[bb]? = some (bObj bd mm) ∧ ∃ l', x.heap[bd]? = some (dObj p l' (fun _ => 0) 0), ⟨hb3, l, hd3⟩, ?_⟩
      have kd : Keeps (· = mm) w1 w3.drew := k3.then0 .drew
      generalize w3.drew = w4 at *
      have hb4 : w4.heap[bb]? = some (bObj bd mm) := kd.blk h1.hb ne2
      have hd4 : w4.heap[bd]? = some (dObj p l (fun _ => 0) 0) := kd.blk h1.hd ne3
      have s4 := kd.size
      have hlt := h1.lt
      have kb4 : Keeps (Bft bb bd mm l) w w4 := (k1.no (M := Bft bb bd mm l)).then kd fun c _ hc => .inr (.inr (.inl hc))
      have hat4 : SlT (.int .i64) (V (Bft bb bd mm l) w4) at_ xs := (hat.mono (V.keeps0 k1)).mono (V.move kd (fun c _ hc => .inr (.inr (.inl hc))) fun _ _ h => h)
      have hmach4 : MachO (V (fun b => base ≤ b) w4) p fs F ks := h1.mach.mono (V.move kd (fun c _ hc => by rw [hc]; exact h.ge.2.2) fun _ _ h => h)
      have hmachN : MachO (V No w4) p fs F ks := hmach4.mono (V.sub fun _ _ h => h.elim)
      have hS : ∀ {w' : World}, Keeps No w4 w' → w'.heap[bb]? = some (bObj bd mm) ∧ ∃ l', w'.heap[bd]? = some (dObj p l' (fun _ => 0) 0) := fun k => ⟨k.blk0 hb4, l, k.blk0 hd4⟩
      have own4 : Own w4 base T.dfa_state 258 l (svs.map DSt.cells).flatten := h1.own.keep kd fun c hc hl => f3 (hc ▸ hl)
      have ats4 : ∀ (i : Nat) sv, svs[i]? = some sv → SlT (.int .i64) (V (Bft bb bd mm l) w4) sv.at_ sv.xs ∧ (sv.at_.a.isNone = true ↔ sv.xs = []) := fun i sv hi => ⟨(h1.ats i sv hi).1.mono (V.move kd (fun c _ hc => .inr (.inr (.inl hc))) fun _ _ h => h), (h1.ats i sv hi).2⟩
      -- the state is appended, the row is laid
      have tail : ∀ {w' : World} {b : Nat} {a : Int}, Keeps No w4 w' → w4.heap.size ≤ b → AccOf fs ks xs a → w'.heap[b]? = some (stObj ⟨at_, xs, fun _ => 0, a⟩) →
          App P (Builtin.append_ #[T.sl_dfa_state, T.sl_dfa_state] T.sl_dfa_state #[.slice l.a l.n l.c, .slice (some ⟨b, 0, none⟩) 1 1]) (.one .sl) w' fun x61 w7 => ((w7.heap[bb]? = some (bObj bd mm) ∧ ∃ l', w7.heap[bd]? = some (dObj p l' (fun _ => 0) 0)) ∧
            St ⟨bd, 0 + 1, none⟩ (.slice x61.a x61.n x61.c) w7 fun w8 => ((w8.heap[bb]? = some (bObj bd mm) ∧ ∃ l', w8.heap[bd]? = some (dObj p l' (fun _ => 0) 0)) ∧ K (svs.length : Int) w8)) := by
        intro w' b a k' hbge ha hbn
        have z' := k'.size
        refine appendC (c := DSt.cells ⟨at_, xs, fun _ => 0, a⟩) elSt (own4.keep0 k') (DSt.len _) hbn (DSt.one _) (by omega) (by omega) (by omega) fun l' w7 o7 n7 k7 g7 => ?_
        obtain ⟨g, hg1, hg2⟩ := g7
        have hblk : ∀ c, l'.blk c → l.blk c ∨ w4.heap.size ≤ c := by
          rintro c ⟨ad, ha', rfl⟩
          rw [hg1] at ha'; cases ha'
          exact hg2.imp id fun h => by show w4.heap.size ≤ g; omega
        have hb7 : w7.heap[bb]? = some (bObj bd mm) := k7.blk (k'.blk0 hb4) f1
        have hd7 : w7.heap[bd]? = some (dObj p l (fun _ => 0) 0) := k7.blk (k'.blk0 hd4) f2
        refine ⟨⟨hb7, l, hd7⟩, ?_⟩
        refine St.blk hd7 (by rw [List.size_toArray, dCells_len]; omega) fun w8 u8 => ?_
        have hd8 : w8.heap[bd]? = some (dObj p l' (fun _ => 0) 0) := by have := u8.at_; rw [show (0 + 1) = 1 from rfl, dCells_setl] at this; exact this
        have hb8 : w8.heap[bb]? = some (bObj bd mm) := u8.keeps.blk hb7 ne1
        refine ⟨⟨hb8, l', hd8⟩, ?_⟩
        have lt_bb := lt_of_some hb4; have lt_bd := lt_of_some hd4; have lt_mm := MapAt.lt map4
        have f1' : ¬ l'.blk bb := fun h => (hblk _ h).elim f1 fun h' => by omega
        have f2' : ¬ l'.blk bd := fun h => (hblk _ h).elim f2 fun h' => by omega
        have f3' : ¬ l'.blk mm := fun h => (hblk _ h).elim f3 fun h' => by omega
        have k48 : Keeps (fun c => c = bd ∨ l.blk c) w4 w8 := ((k'.no (M := fun c => c = bd ∨ l.blk c)).trans (k7.mono fun c _ hc => .inr hc)).trans (u8.keeps.mono fun c _ hc => .inl hc)
        have mv : Vle (V (Bft bb bd mm l) w4) (V (Bft bb bd mm l') w8) := V.move k48 (fun c _ hc => by rcases hc with h | h; { exact .inr (.inl h) }; { exact .inr (.inr (.inr h)) }) fun c hc hm => by
          rcases hm with h | h | h | h
          · exact .inl h
          · exact .inr (.inl h)
          · exact .inr (.inr (.inl h))
          · exact .inr (.inr (.inr ((hblk c h).resolve_right (by omega))))
        refine hK _ w8 l' (svs ++ [⟨at_, xs, fun _ => 0, a⟩]) (kb4.then k48 fun c _ hc => by rcases hc with hc | hc; { exact .inr (.inl hc) }; { exact .inr (.inr (.inr hc)) }) (fun c hc => (hblk c hc).imp id fun h' => by have := kb4.size; omega) ⟨?_, hb8, hd8, ?_, ?_, h.ge, ⟨ne1, ne2, ne3⟩, ⟨f1', f2', f3'⟩, ?_, h.sts.snoc hx hr hnew ha⟩ (.inr ⟨hx, svs.length, ⟨at_, xs, fun _ => 0, a⟩, ?_, rfl, by simp, rfl, .inr ⟨rfl, rfl⟩⟩)
        · exact hmach4.mono (V.move k48 (fun c _ hc => by rcases hc with rfl | hc; { exact h.ge.2.1 }; { exact (own4.ge hc).1 }) fun _ _ h => h)
        · have := o7.keep u8.keeps fun c hc hl => f2' (hc ▸ hl)
          simpa using this
        · exact MapAt.congr (map4.keep k48 (fun hc => by rcases hc with e | hc; { exact ne3 e.symm }; { exact f3 hc }) id) (hkr a)
        · intro i sv hi
          by_cases hl : i < svs.length
          · rw [List.getElem?_append_left hl] at hi
            exact ⟨(ats4 i sv hi).1.mono mv, (ats4 i sv hi).2⟩
          · have := (List.getElem?_eq_some_iff.1 hi).1
            simp at this
            have e : i = svs.length := by omega
            subst e
            simp at hi
            subst hi
            exact ⟨hat4.mono mv, hnil⟩
        · obtain ⟨sv, h0, _⟩ := h.sts.zero
          exact (List.getElem?_eq_some_iff.1 h0).1
      have ldp : ∀ {k : Option Addr → Prop}, k (some ⟨bd, 0, none⟩) → LdS (fun x => x.heap[bb]? = some (bObj bd mm) ∧ ∃ l', x.heap[bd]? = some (dObj p l' (fun _ => 0) 0)) .ptr ⟨bb, 0, none⟩ k := fun {k} hk => LdS.of (t := .ptr) (v := some ⟨bd, 0, none⟩) (fun w' hw' => cell_of hw'.1 rfl) hk
      have ldm : ∀ {k : Option Addr → Prop}, k p → LdS (fun x => x.heap[bb]? = some (bObj bd mm) ∧ ∃ l', x.heap[bd]? = some (dObj p l' (fun _ => 0) 0)) .ptr ⟨bd, 0, none⟩ k := fun {k} hk => LdS.of (t := .ptr) (v := p) (fun w' hw' => by obtain ⟨_, l', hw'⟩ := hw'; exact cell_of hw' rfl) hk
      have bld : ∀ {w' : World} {a : Int} {k : Sl → World → Prop}, Keeps No w4 w' → (∀ b w'', Keeps No w4 w'' → w4.heap.size ≤ b → w''.heap[b]? = some (stObj ⟨at_, xs, fun _ => 0, a⟩) → k ⟨some ⟨b, 0, none⟩, 1, 1⟩ w'') →
          App P (Instr.buildSlice T.sl_dfa_state 1 #[(0, .agg (DSt.cells ⟨at_, [], fun _ => 0, a⟩).toArray)]) (.one .sl) w' k := by
        intro w' a k k' hk
        refine App.slice1G elSt (by simp [DSt.len]) (by omega) (by omega) fun b w'' n => hk b w'' (k'.trans n.keeps) (by have := n.eq; have := k'.size; omega) n.at_
      refine ldp (ldp (ldp (ldm ⟨?_, ?_⟩)))
      · refine Ld.sl (cell_of hd4 dCells_l) ⟨hS .refl, ?_⟩
        refine dfa_accept_spec hmachN hat4 (by omega) fun a w5 k5 ha => ⟨hS k5, ?_⟩
        refine AppS.buildG (buildSt _ _ _ _) ?_
        exact bld k5 fun b w6 k6 g6 h6 => ⟨hS k6, tail k6 g6 ha h6⟩
      · refine dfa_accept_spec hmachN hat4 (by omega) fun a w5 k5 ha => ⟨hS k5, ?_⟩
        refine AppS.buildG (buildSt _ _ _ _) ⟨?_, ?_⟩
        · refine Ld.sl (cell_of (k5.blk0 hd4) dCells_l) ⟨hS k5, ?_⟩
          exact bld k5 fun b w6 k6 g6 h6 => ⟨hS k6, tail k6 g6 ha h6⟩
        · refine bld k5 fun b w6 k6 g6 h6 => ⟨hS k6, ?_⟩
          exact Ld.sl (cell_of (k6.blk0 hd4) dCells_l) ⟨hS k6, tail k6 g6 ha h6⟩
end
end Go.Fk
end

section
set_option linter.unusedVariables false
namespace Go.Fk
open Go Go.MapKept

/-! ## Records that are written -/

theorem Own.cellput {w : World} {base E size : Nat} {l : Sl} {xs : List Value} {k : Nat} {v : Value} (h : Own w base E size l xs) (hk : k < xs.length) :
    ∃ g cur, l.a = some ⟨g, 0, none⟩ ∧ w.heap[g]? = some (.cells cur E (0, 0)) ∧ k < cur.size ∧ ∀ w', Upd g (.cells (cur.setIfInBounds k v) E (0, 0)) w w' → Own w' base E size l (xs.set k v) := by
  rcases h.2 with ⟨hv, hn⟩ | ⟨g, cap, cur, hv, hge, hg, hnc, hcm, hcs, htake⟩
  · have := h.1
    simp only [hn, Nat.zero_mul] at this
    omega
  · have hlen := h.1
    have hks : k < cur.size := by
      have : (cur.toList.take (l.n * size)).length ≤ cur.toList.length := List.length_take_le' _ _
      rw [htake] at this
      simp at this
      omega
    have hv' := hv
    simp only [Sl.val, Value.slice.injEq] at hv'
    refine ⟨g, cur, hv'.1, hg, hks, fun w' u => ⟨by simpa using hlen, .inr ⟨g, cap, _, hv, hge, u.at_, hnc, hcm, by simpa using hcs, ?_⟩⟩⟩
    rw [Array.toList_setIfInBounds, List.take_set, htake]

theorem flatten_set {α : Type} {sz : Nat} : ∀ {xs : List (List α)}, (∀ c ∈ xs, c.length = sz) → ∀ {i j : Nat} {c : List α} {u : α}, xs[i]? = some c → j < sz → xs.flatten.set (i * sz + j) u = (xs.set i (c.set j u)).flatten
  | [], _, i, j, c, u, h, _ => by simp at h
  | x :: xs, hl, 0, j, c, u, h, hj => by
    simp at h; subst h
    have := hl x (by simp)
    simp only [Nat.zero_mul, Nat.zero_add, List.flatten_cons, List.set_cons_zero]
    rw [List.set_append_left _ _ (by omega)]
  | x :: xs, hl, i + 1, j, c, u, h, hj => by
    simp at h
    have h2 := hl x (by simp)
    rw [List.flatten_cons, List.set_cons_succ, List.flatten_cons, ← flatten_set (fun c hc => hl c (by simp [hc])) h hj]
    rw [List.set_append_right _ _ (by rw [h2, Nat.add_mul]; omega), h2]
    congr 2
    rw [Nat.add_mul]; omega
end Go.Fk
end

section
set_option linter.unusedVariables false
namespace Go.Fk
open Go Go.MapKept

/-! ## Where a state leads -/

def stepS (fs : List ((Nat → Bool) × Int)) (F : Int → Int → Prop) (ks : List Kn) (xs : List Int) (c : Nat) (q : Int) : Prop := nextSet fs F ks xs q ∧ hasAt fs q c = true
def GoodN (fs : List ((Nat → Bool) × Int)) (F : Int → Int → Prop) (ks : List Kn) (svs : List DSt) (xs : List Int) (k : Int) (c : Nat) : Prop :=
  (k = -1 ∧ ∀ q, ¬ stepS fs F ks xs c q) ∨ ∃ (i : Nat) (sv : DSt), 0 < i ∧ k = i ∧ svs[i]? = some sv ∧ ∀ q, q ∈ sv.xs ↔ stepS fs F ks xs c q

/-- States' positions stay where they are. -/
def Ext (svs svs' : List DSt) : Prop := ∀ (i : Nat) sv, svs[i]? = some sv → ∃ sv', svs'[i]? = some sv' ∧ sv'.xs = sv.xs
theorem Ext.refl {svs : List DSt} : Ext svs svs := fun i sv h => ⟨sv, h, rfl⟩
theorem Ext.trans {a b c : List DSt} (h : Ext a b) (h' : Ext b c) : Ext a c := fun i sv hi => by
  obtain ⟨s1, h1, e1⟩ := h i sv hi
  obtain ⟨s2, h2, e2⟩ := h' i s1 h1
  exact ⟨s2, h2, e2.trans e1⟩
theorem Ext.app {svs l : List DSt} : Ext svs (svs ++ l) := fun i sv h => ⟨sv, by rw [List.getElem?_append_left (List.getElem?_eq_some_iff.1 h).1]; exact h, rfl⟩

section
variable {fs : List ((Nat → Bool) × Int)} {F : Int → Int → Prop} {ks : List Kn} {svs svs' : List DSt} {xs : List Int} {k : Int} {c : Nat}
theorem GoodN.mono (h : GoodN fs F ks svs xs k c) (he : Ext svs svs') : GoodN fs F ks svs' xs k c := by
  rcases h with h | ⟨i, sv, h0, h1, h2, h3⟩
  · exact .inl h
  · obtain ⟨sv', g1, g2⟩ := he i sv h2
    exact .inr ⟨i, sv', h0, h1, g1, fun q => by rw [g2]; exact h3 q⟩
end

/-- The highest number met, if each is at most one more than what was met. -/
def goTop : List Int → Int → Option Int
  | [], t => some t
  | k :: l, t => if k < 0 then goTop l t else if t + 1 < k then none else goTop l (if t < k then k else t)
theorem goTop_append (l m : List Int) : ∀ t, goTop (l ++ m) t = (goTop l t).bind (goTop m) := by
  induction l with
  | nil => intro t; rfl
  | cons k l ih =>
    intro t
    simp only [List.cons_append, goTop]
    split
    · exact ih t
    · split
      · rfl
      · exact ih _

def nxAt (svs : List DSt) (i : Nat) : Nat → Int := ((svs[i]?).map DSt.nx).getD fun _ => 0
def rowL (f : Nat → Int) : List Int := (List.range 256).map f
def seqOf (n c : Nat) (svs : List DSt) : List Int := (List.range n).flatMap (fun i => rowL (nxAt svs i)) ++ (List.range c).map (nxAt svs n)

theorem seqOf_full {n : Nat} {svs : List DSt} : seqOf (n + 1) 0 svs = seqOf n 256 svs := by
  unfold seqOf
  rw [List.range_succ, List.flatMap_append]
  simp only [List.flatMap_cons, List.flatMap_nil, List.append_nil, List.range_zero, List.map_nil]
  rfl
theorem seqOf_succ {n c : Nat} {svs : List DSt} : seqOf n (c + 1) svs = seqOf n c svs ++ [nxAt svs n c] := by
  unfold seqOf
  rw [List.range_succ, List.map_append, ← List.append_assoc]
  rfl
theorem flatMap_congr' {α β : Type} {l : List α} {f g : α → List β} (h : ∀ x ∈ l, f x = g x) : l.flatMap f = l.flatMap g := by
  rw [List.flatMap_def, List.flatMap_def, List.map_congr_left h]
theorem seqOf_congr {n c : Nat} {svs svs' : List DSt} (h : ∀ i, i < n → nxAt svs i = nxAt svs' i) (h' : ∀ j, j < c → nxAt svs n j = nxAt svs' n j) : seqOf n c svs = seqOf n c svs' := by
  unfold seqOf
  congr 1
  · exact flatMap_congr' fun i hi => by rw [h i (by simpa using hi)]
  · exact List.map_congr_left fun j hj => h' j (by simpa using hj)

structure Done (fs : List ((Nat → Bool) × Int)) (F : Int → Int → Prop) (ks : List Kn) (n c : Nat) (svs : List DSt) : Prop where
  rows : ∀ (i : Nat) sv, i < n → svs[i]? = some sv → ∀ c', c' < 256 → GoodN fs F ks svs sv.xs (sv.nx c') c'
  part : ∀ sv, svs[n]? = some sv → ∀ c', c' < c → GoodN fs F ks svs sv.xs (sv.nx c') c'
  top : goTop (seqOf n c svs) 0 = some ((svs.length : Int) - 1)
  met : ∀ v : Nat, 0 < v → v < svs.length → ∃ j b : Nat, j < v ∧ ((j < n ∧ b < 256) ∨ (j = n ∧ b < c)) ∧ nxAt svs j b = v

theorem Done.next {fs : List ((Nat → Bool) × Int)} {F : Int → Int → Prop} {ks : List Kn} {n : Nat} {svs : List DSt} (h : Done fs F ks n 256 svs) : Done fs F ks (n + 1) 0 svs :=
  ⟨fun i sv hi hs c' hc => by
    by_cases e : i = n
    · subst e; exact h.part sv hs c' hc
    · exact h.rows i sv (by omega) hs c' hc, fun sv hs c' hc => by omega, by rw [seqOf_full]; exact h.top, fun v h0 hv => by
    obtain ⟨j, b, h1, h2, h3⟩ := h.met v h0 hv
    exact ⟨j, b, h1, by omega, h3⟩⟩

/-- The next is laid. -/
def DSt.put (v : DSt) (c : Nat) (k : Int) : DSt := { v with nx := fun j => if j = c then k else v.nx j }
theorem DSt.put_cells (v : DSt) {c : Nat} {k : Int} (h : c < 256) : v.cells.set (1 + c) (.int .i64 k) = (v.put c k).cells := by
  rw [Nat.add_comm, DSt.cells, List.set_cons_succ, List.set_append_left _ _ (by rw [row256_len]; exact h), row256_set h]
  rfl

theorem Ext.put {svs : List DSt} {n : Nat} {v : DSt} {c : Nat} {k : Int} (h : svs[n]? = some v) : Ext svs (svs.set n (v.put c k)) := by
  intro i sv hi
  by_cases e : n = i
  · subst e
    rw [h] at hi; cases hi
    exact ⟨v.put c k, by rw [List.getElem?_set]; simp [(List.getElem?_eq_some_iff.1 h).1], rfl⟩
  · exact ⟨sv, by rw [List.getElem?_set_ne e]; exact hi, rfl⟩

theorem Done.step {fs : List ((Nat → Bool) × Int)} {F : Int → Int → Prop} {ks : List Kn} {n c : Nat} {svs svs1 : List DSt} {v : DSt} {k : Int} (h : Done fs F ks n c svs) (hn : svs[n]? = some v) (hn1 : svs1[n]? = some v)
    (hs : svs1 = svs ∧ k < svs.length ∨ (∃ u, svs1 = svs ++ [u]) ∧ k = svs.length) (hg : GoodN fs F ks svs1 v.xs k c) (hk : -1 ≤ k) : Done fs F ks n (c + 1) (svs1.set n (v.put c k)) := by
  have hlt := (List.getElem?_eq_some_iff.1 hn).1
  have he1 : Ext svs svs1 := by
    rcases hs with ⟨rfl, _⟩ | ⟨⟨u, rfl⟩, _⟩
    · exact .refl
    · exact .app
  have hput : (svs1.set n (v.put c k))[n]? = some (v.put c k) := by rw [List.getElem?_set]; simp [(List.getElem?_eq_some_iff.1 hn1).1]
  have he2 : Ext svs1 (svs1.set n (v.put c k)) := .put hn1
  have hold : ∀ i, i ≠ n → i < svs.length → (svs1.set n (v.put c k))[i]? = svs[i]? := by
    intro i hi hl
    rw [List.getElem?_set_ne (Ne.symm hi)]
    rcases hs with ⟨rfl, _⟩ | ⟨⟨u, rfl⟩, _⟩
    · rfl
    · rw [List.getElem?_append_left hl]
  have oldMet : ∀ v' : Nat, 0 < v' → v' < svs.length → ∃ j b : Nat, j < v' ∧ ((j < n ∧ b < 256) ∨ (j = n ∧ b < c + 1)) ∧ nxAt (svs1.set n (v.put c k)) j b = v' := by
    intro v' h0 hv
    obtain ⟨j, b, h1, h2, h3⟩ := h.met v' h0 hv
    refine ⟨j, b, h1, by omega, ?_⟩
    rw [← h3]
    rcases h2 with ⟨h4, _⟩ | ⟨rfl, h4⟩
    · unfold nxAt; rw [hold j (by omega) (by omega)]
    · unfold nxAt
      rw [hput, hn]
      have : b ≠ c := by omega
      simp [DSt.put, this]
  refine ⟨fun i sv hi hsv c' hc => ?_, fun sv hsv c' hc => ?_, ?_, fun v' h0 hv => ?_⟩
  · rw [hold i (by omega) (by omega)] at hsv
    exact (h.rows i sv hi hsv c' hc).mono (he1.trans he2)
  · rw [hput] at hsv
    cases hsv
    by_cases e : c' = c
    · subst e
      simp only [DSt.put, if_true]
      exact hg.mono he2
    · simp only [DSt.put, e, if_false]
      exact (h.part v hn c' (by omega)).mono (he1.trans he2)
  · have e1 : seqOf n (c + 1) (svs1.set n (v.put c k)) = seqOf n c svs ++ [k] := by
      rw [seqOf_succ]
      congr 1
      · refine seqOf_congr (fun i hi => ?_) fun j hj => ?_
        · unfold nxAt; rw [hold i (by omega) (by omega)]
        · unfold nxAt
          rw [hput, hn]
          have : j ≠ c := by omega
          simp [DSt.put, this]
      · unfold nxAt
        rw [hput]
        simp [DSt.put]
    rw [e1, goTop_append, h.top]
    simp only [Option.bind_some, goTop, List.length_set]
    rcases hs with ⟨rfl, hk2⟩ | ⟨⟨u, rfl⟩, rfl⟩
    · by_cases hk0 : k < 0
      · simp [hk0]
      · rw [if_neg hk0, if_neg (by omega), if_neg (by omega)]
    · rw [if_neg (by omega), if_neg (by omega), if_pos (by omega)]
      simp
  · rw [List.length_set] at hv
    by_cases hlt' : v' < svs.length
    · exact oldMet v' h0 hlt'
    · rcases hs with ⟨rfl, _⟩ | ⟨⟨u, rfl⟩, rfl⟩
      · exact absurd hv hlt'
      · simp only [List.length_append, List.length_cons, List.length_nil] at hv
        have : v' = svs.length := by omega
        subst this
        refine ⟨n, c, hlt, by omega, ?_⟩
        unfold nxAt
        rw [hput]
        simp [DSt.put]

theorem cell_keep {w w' : World} {a : Addr} {u : Value} (h : w.cell? a = some u) (k : Keeps No w w') : w'.cell? a = some u := by
  unfold World.cell? at h ⊢
  split at h
  · rename_i c e fr hb
    rw [k.blk0 hb]
    exact h
  · cases h

section
variable {w : World} {base bb bd mm : Nat} {p : Option Addr} {fs : List ((Nat → Bool) × Int)} {F : Int → Int → Prop} {ks : List Kn} {l : Sl} {svs : List DSt}

set_option maxRecDepth 20000 in
theorem fill_spec (h : Bd w base bb bd mm p fs F ks l svs) {n : Nat} {v : DSt} {K : Unit → World → Prop} (hv : svs[n]? = some v) (hd : Done fs F ks n 0 svs) (hlen : svs.length ≤ 2000) (hks : ks.length ≤ 2000)
    (hK : ∀ w' l' svs', Keeps (fun b => base ≤ b) w w' → Bd w' base bb bd mm p fs F ks l' svs' → Done fs F ks (n + 1) 0 svs' → svs.length ≤ svs'.length → svs'.length ≤ svs.length + 256 → K () w') : dfa_build_fill.C (some ⟨bb, 0, none⟩) n w K := by
  have hln := h.n
  have hnl := (List.getElem?_eq_some_iff.1 hv).1
  have hvm := List.mem_of_getElem? hv
  have hfew := h.mach.few
  have hxr := h.sts.rise v hvm
  have hxl : v.xs.length ≤ 2000 := nodup_bound 2000 v.xs (hxr.1.imp fun {a b} h e => by omega) fun q hq => by have := hxr.2 q hq; omega
  refine dfa_build_fill.ok _ _ _ _ ?_
  simp only [dfa_build_fill.M, NilC_some]
  refine ⟨fun x => Keeps No w x, .drew, ?_⟩
  have ldp : ∀ {k : Option Addr → Prop}, k (some ⟨bd, 0, none⟩) → LdS (fun x => Keeps No w x) .ptr ⟨bb, 0, none⟩ k := fun {k} hk => LdS.of (t := .ptr) (v := some ⟨bd, 0, none⟩) (fun w' hw' => cell_of (hw'.blk0 h.hb) rfl) hk
  refine ldp ?_
  simp only [NilC_some]
  refine LdS.of (t := .ptr) (v := p) (fun w' hw' => cell_of (hw'.blk0 h.hd) rfl) (ldp ?_)
  simp only [NilC_some, add_eq]
  refine LdS.of (t := .sl) (v := l) (fun w' hw' => cell_of (hw'.blk0 h.hd) dCells_l) ?_
  refine IdxS.recd (h.own.readsC (M := No) (by omega) DSt.lens fun _ _ h => h) (by omega) (by simp; omega) fun g off c hc hcell => ?_
  simp only [Int.toNat_natCast, List.getElem?_map, hv, Option.map_some, Option.some.injEq] at hc
  subst hc
  refine LdS.of (t := .sl) (v := v.at_) (fun w' hw' => cell_keep (hcell 0 _ v.get0) hw') ?_
  have h1 := h.keep0 (Keeps.drew (w := w))
  have kd : Keeps No w w.drew := .drew
  generalize w.drew = w1 at *
  have hm1 : MachO (V No w1) p fs F ks := h1.mach.mono (V.sub fun _ _ h => h.elim)
  refine dfa_behind_spec hm1 (h1.ats n v hv).1 (h1.ats n v hv).2 hxr.2 hxl hks fun lb ys w2 k2 ob rb => ⟨kd.trans k2, ?_⟩
  have h2 := h1.keep0 k2
  have hyl : ys.length ≤ 2000 := nodup_bound 2000 ys (rb.1.imp fun {a b} h e => by omega) fun q hq => by
    rcases (rb.2 q).1 hq with ⟨_, r, hr, hf⟩ | ⟨p', hp', hf⟩
    · have := hm1.kin r q (.inl hf); omega
    · have := hm1.fin (hxr.2 p' hp') hf; omega
  have hyin : ∀ q ∈ ys, 0 ≤ q ∧ q < fs.length := fun q hq => by
    rcases (rb.2 q).1 hq with ⟨_, r, hr, hf⟩ | ⟨p', hp', hf⟩
    · exact hm1.kin r q (.inl hf)
    · exact hm1.fin (hxr.2 p' hp') hf
  have hbn : lb.n = ys.length := by have := ob.len; simpa using this.symm
  have lt1 : ∀ c, Bft bb bd mm l c → c < w1.heap.size := fun c hc => by
    rcases hc with rfl | rfl | rfl | hc
    · exact lt_of_some h1.hb
    · exact lt_of_some h1.hd
    · exact MapAt.lt h1.map
    · exact (h1.own.ge hc).2
  have hsb : SlT (.int .i64) (V (Bft bb bd mm l) w2) lb ys := ob.reads fun c hc hm => by have := (ob.ge hc).1; have := lt1 c hm; omega
  have k12 : Keeps (fun b => base ≤ b) w w2 := (kd.trans k2).no
  -- the bytes
  refine Loop.mk (fun s w' => Keeps (fun b => base ≤ b) w w' ∧ ∃ (c : Nat) (l' : Sl) (svs' : List DSt), c ≤ 256 ∧ s = (c : Int) ∧ Bd w' base bb bd mm p fs F ks l' svs' ∧ SlT (.int .i64) (V (Bft bb bd mm l') w') lb ys ∧ Done fs F ks n c svs' ∧ (∃ v', svs'[n]? = some v' ∧ v'.xs = v.xs) ∧ svs.length ≤ svs'.length ∧ svs'.length ≤ svs.length + c) (fun s => 256 - s.toNat)
    ⟨k12, 0, l, svs, by omega, rfl, h2, hsb, hd, ⟨v, hv, rfl⟩, by omega, by omega⟩ ?_
  rintro s w3 ⟨k3, c, l3, svs3, hc, rfl, h3, hsb3, hd3, ⟨v3, hv3, hvx⟩, hle3, hge3⟩ R hR
  refine Br.mk (fun ht => ?_) (fun hf => ?_)
  · have ht : c < 256 := by have := of_decide_eq_true ht; omega
    have hln3 := h3.n
    have hnl3 := (List.getElem?_eq_some_iff.1 hv3).1
    have lt3 : ∀ b, Bft bb bd mm l3 b → b < w3.heap.size := fun b hb => by
      rcases hb with rfl | rfl | rfl | hb
      · exact lt_of_some h3.hb
      · exact lt_of_some h3.hd
      · exact MapAt.lt h3.map
      · exact (h3.own.ge hb).2
    refine Loop.mk (fun t w' => Keeps No w3 w' ∧ ∃ (i : Nat) (zs : List Int), i ≤ ys.length ∧ t.2 = (i : Int) ∧ Own w' w3.heap.size T.int 1 t.1 (zs.map (Ty.int .i64).enc) ∧ zs = (ys.take i).filter (fun q => hasAt fs q c) ∧ (t.1.a.isNone = true ↔ zs = [])) (fun t => ys.length - t.2.toNat) ⟨.refl, 0, [], by omega, rfl, Own.nil _ _ _ _, by simp, by simp⟩ ?_
    rintro ⟨o, ii⟩ w4 ⟨k4, i, zs, hi, hii, ho, hz, hon⟩ R2 hR2
    dsimp only at hii ho hon ⊢
    subst hii
    have h4 := h3.keep0 k4
    have hzl : zs.length ≤ ys.length := by rw [hz]; exact Nat.le_trans (List.length_filter_le _ _) (by rw [List.length_take]; omega)
    refine Br.mk (fun ht2 => ?_) (fun hf2 => ?_)
    · have ht2 : i < ys.length := by have := of_decide_eq_true ht2; omega
      refine IdxS.get (hsb3.mono (V.keeps0 k4)) (by omega) (by omega) fun q hq => ?_
      simp only [Int.toNat_natCast] at hq
      refine Ld.ptr (cell_of h4.hb rfl) ?_
      simp only [NilC_some]
      refine Ld.ptr (cell_of h4.hd rfl) ?_
      have hwr : IntKind.wrap .u8 (c : Int) = (c : Int) := IntWalk.u8_in _ (by omega)
      rw [hwr]
      have hm4 : MachO (V No w4) p fs F ks := h4.mach.mono (V.sub fun _ _ h => h.elim)
      refine nfa_Machine_Has_spec hm4 ht fun w5 k5 => ?_
      have ho5 := ho.keep0 k5
      have hol := ho5.len
      simp at hol
      have e4 : w64 ((i : Int) + 1) = ((i + 1 : Nat) : Int) := by rw [w64_eq (by omega)]; omega
      rw [e4]
      have htk : ys.take (i + 1) = ys.take i ++ [q] := by rw [List.take_add_one, hq]; rfl
      refine Br.mk (fun hq2 => ?_) (fun hq2 => ?_)
      · have z5 := (k4.trans k5).size
        refine append1 (t := .int .i64) (x := q) elInt ho5 rfl (by omega) (by omega) z5 fun o' w6 o6 m6 k6 g6 => ?_
        refine hR2 _ w6 ⟨((k4.trans k5).no (M := No)).then k6 fun b hb hbl => by have := (ho5.ge hbl).1; have : b < w3.heap.size := hb; omega, i + 1, zs ++ [q], by omega, rfl, o6, ?_, ?_⟩ (by dsimp only; omega)
        · rw [htk, List.filter_append, ← hz]; simp [hq2]
        · obtain ⟨g', hg', _⟩ := g6
          dsimp only
          rw [hg']; simp
      · refine hR2 _ w5 ⟨k4.trans k5, i + 1, zs, by omega, rfl, ho5, ?_, hon⟩ (by dsimp only; omega)
        rw [htk, List.filter_append, ← hz]; simp [hq2]
    · have hf2 : i = ys.length := by have := of_decide_eq_false hf2; omega
      subst hf2
      rw [List.take_length] at hz
      have hzm : ∀ q, q ∈ zs ↔ stepS fs F ks v.xs c q := fun q => by rw [hz, List.mem_filter, rb.2]; rfl
      have hzr : zs.Pairwise (· < ·) ∧ ∀ q ∈ zs, 0 ≤ q ∧ q < fs.length := ⟨by rw [hz]; exact rb.1.filter _, fun q hq => hyin q (by rw [hz] at hq; exact (List.mem_filter.1 hq).1)⟩
      have hso : SlT (.int .i64) (V (Bft bb bd mm l3) w4) o zs := ho.reads fun b hb hm => by have := (ho.ge hb).1; have := lt3 b hm; omega
      refine place_spec h4 hso hon hzr (by omega) fun k w5 l5 svs5 k5 hbl5 h5 hpl => ?_
      refine Ld.ptr (cell_of h5.hb rfl) ?_
      simp only [NilC_some, add_eq]
      refine Ld.sl (cell_of h5.hd dCells_l) ?_
      -- what was placed
      have hsv5 : (svs5 = svs3 ∧ k < svs3.length ∨ (∃ u, svs5 = svs3 ++ [u]) ∧ k = svs3.length) ∧ GoodN fs F ks svs5 v.xs k c ∧ -1 ≤ k := by
        rcases hpl with ⟨h0, rfl, rfl⟩ | ⟨h0, i, sv, hi0, rfl, hi, hxs, h'⟩
        · refine ⟨.inl ⟨rfl, by omega⟩, .inl ⟨rfl, fun q hq => ?_⟩, by omega⟩
          have := (hzm q).2 hq
          rw [h0] at this
          simp at this
        · have hil := (List.getElem?_eq_some_iff.1 hi).1
          refine ⟨?_, .inr ⟨i, sv, hi0, rfl, hi, fun q => by rw [hxs, hzm]⟩, by omega⟩
          rcases h' with rfl | ⟨h', rfl⟩
          · exact .inl ⟨rfl, by omega⟩
          · exact .inr ⟨⟨_, h'⟩, rfl⟩
      obtain ⟨hs5, hg5, hk5⟩ := hsv5
      have hv5 : svs5[n]? = some v3 := by
        rcases hs5 with ⟨rfl, _⟩ | ⟨⟨u, rfl⟩, _⟩
        · exact hv3
        · rw [List.getElem?_append_left hnl3]; exact hv3
      have hln5 := h5.n
      have hnl5 := (List.getElem?_eq_some_iff.1 hv5).1
      have hlen5 : svs3.length ≤ svs5.length ∧ svs5.length ≤ svs3.length + 1 := by
        rcases hs5 with ⟨rfl, _⟩ | ⟨⟨u, rfl⟩, _⟩
        · omega
        · simp
      -- it is written down
      obtain ⟨g5, cur5, ha5, hc5, hk5', hput5⟩ := h5.own.cellput (k := n * 258 + (1 + c)) (v := .int .i64 k) (by rw [flatten_len DSt.lens, List.length_map]; omega)
      have hfl : (svs5.map DSt.cells).flatten.set (n * 258 + (1 + c)) (.int .i64 k) = ((svs5.set n (v3.put c k)).map DSt.cells).flatten := by
        rw [flatten_set DSt.lens (i := n) (c := v3.cells) (by rw [List.getElem?_map, hv5]; rfl) (by omega), v3.put_cells ht, List.map_set]
      rw [hfl] at hput5
      refine ⟨_, ha5, ⟨by omega, by show (n : Int) < l5.n; omega⟩, ?_⟩
      refine ⟨⟨by omega, by omega⟩, ?_⟩
      dsimp only
      rw [add_eq, add_eq, add_eq]
      have eoff : 0 + (n : Int).toNat * 258 + 1 + (c : Int).toNat * 1 = n * 258 + (1 + c) := by omega
      rw [eoff]
      refine St.blk hc5 hk5' fun w6 u6 => ?_
      have hblk5 : l5.blk g5 := ⟨_, ha5, rfl⟩
      have e4 : w64 ((c : Int) + 1) = ((c + 1 : Nat) : Int) := by rw [w64_eq (by omega)]; omega
      rw [e4]
      obtain ⟨f1, f2, f3⟩ := h5.foot
      have n1 : bb ≠ g5 := fun e => f1 (e ▸ hblk5)
      have n2 : bd ≠ g5 := fun e => f2 (e ▸ hblk5)
      have n3 : mm ≠ g5 := fun e => f3 (e ▸ hblk5)
      have mv6 : Vle (V (Bft bb bd mm l5) w5) (V (Bft bb bd mm l5) w6) := V.move u6.keeps (fun b _ hb => .inr (.inr (.inr (by have : b = g5 := hb; subst this; exact hblk5)))) fun _ _ h => h
      have z4 := k4.size
      have mv5 : Vle (V (Bft bb bd mm l3) w4) (V (Bft bb bd mm l5) w5) := V.move k5 (fun _ _ h => h) fun b hb hm => by
        rcases hm with h | h | h | h
        · exact .inl h
        · exact .inr (.inl h)
        · exact .inr (.inr (.inl h))
        · exact .inr (.inr (.inr ((hbl5 b h).resolve_right (by omega))))
      have hd6 := hd3.step hv3 hv5 hs5 (by rw [hvx]; exact hg5) hk5
      refine hR _ w6 ⟨?_, c + 1, l5, svs5.set n (v3.put c k), by omega, rfl, ?_, ((hsb3.mono (V.keeps0 k4)).mono mv5).mono mv6, hd6, ⟨v3.put c k, by rw [List.getElem?_set]; simp [hnl5], hvx⟩, by rw [List.length_set]; omega, by rw [List.length_set]; omega⟩ (by omega)
      · refine ((k3.then0 k4).trans (k5.mono fun b _ hb => ?_)).trans (u6.keeps.mono fun b _ hb => ?_)
        · rcases hb with rfl | rfl | rfl | hb
          · exact h.ge.1
          · exact h.ge.2.1
          · exact h.ge.2.2
          · exact (h4.own.ge hb).1
        · have : b = g5 := hb
          subst this
          exact (h5.own.ge hblk5).1
      · have hmem : ∀ sv, sv ∈ svs5.set n (v3.put c k) → ∃ sv' ∈ svs5, sv.xs = sv'.xs ∧ sv.acc = sv'.acc := by
          intro sv hsv
          obtain ⟨i, hi⟩ := List.getElem?_of_mem hsv
          rw [List.getElem?_set] at hi
          split at hi
          · rename_i e
            simp at hi
            obtain ⟨_, rfl⟩ := hi
            exact ⟨v3, List.mem_of_getElem? hv5, rfl, rfl⟩
          · exact ⟨sv, List.mem_of_getElem? hi, rfl, rfl⟩
        have hget : ∀ (i : Nat) sv, (svs5.set n (v3.put c k))[i]? = some sv → ∃ sv', svs5[i]? = some sv' ∧ sv.xs = sv'.xs ∧ sv.acc = sv'.acc ∧ sv.at_ = sv'.at_ := by
          intro i sv hi
          rw [List.getElem?_set] at hi
          split at hi
          · rename_i e
            subst e
            simp at hi
            obtain ⟨_, rfl⟩ := hi
            exact ⟨v3, hv5, rfl, rfl, rfl⟩
          · exact ⟨sv, hi, rfl, rfl, rfl⟩
        have hback : ∀ (i : Nat) sv, svs5[i]? = some sv → ∃ sv', (svs5.set n (v3.put c k))[i]? = some sv' ∧ sv'.xs = sv.xs := Ext.put hv5
        refine ⟨h5.mach.mono (V.move u6.keeps (fun b _ hb => by have : b = g5 := hb; subst this; exact (h5.own.ge hblk5).1) fun _ _ h => h), u6.keeps.blk h5.hb n1, u6.keeps.blk h5.hd n2, hput5 w6 u6, ?_, h5.ge, h5.ne, h5.foot, fun i sv hi => ?_, ?_⟩
        · refine MapAt.congr (MapAt.keep h5.map u6.keeps n3 id) fun k' v' => ?_
          constructor
          · rintro ⟨i, sv, hi, h0, rfl, rfl⟩
            obtain ⟨sv', g1, g2⟩ := hback i sv hi
            exact ⟨i, sv', g1, h0, by rw [g2], rfl⟩
          · rintro ⟨i, sv, hi, h0, rfl, rfl⟩
            obtain ⟨sv', g1, g2, _⟩ := hget i sv hi
            exact ⟨i, sv', g1, h0, by rw [g2], rfl⟩
        · obtain ⟨sv', g1, g2, g3, g4⟩ := hget i sv hi
          rw [g2, g4]
          exact ⟨(h5.ats i sv' g1).1.mono mv6, (h5.ats i sv' g1).2⟩
        · refine ⟨?_, fun i sv hi h0 => ?_, fun sv hsv => ?_, fun i j sv sv' hi hj he => ?_, fun sv hsv => ?_⟩
          · obtain ⟨sv, g1, g2⟩ := h5.sts.zero
            obtain ⟨sv', g3, g4⟩ := hback 0 sv g1
            exact ⟨sv', g3, g4.trans g2⟩
          · obtain ⟨sv', g1, g2, _⟩ := hget i sv hi
            rw [g2]; exact h5.sts.ne i sv' g1 h0
          · obtain ⟨sv', g1, g2, _⟩ := hmem sv hsv
            rw [g2]; exact h5.sts.rise sv' g1
          · obtain ⟨s1, g1, g2, _⟩ := hget i sv hi
            obtain ⟨s2, g3, g4, _⟩ := hget j sv' hj
            exact h5.sts.inj i j s1 s2 g1 g3 (by rw [← g2, ← g4]; exact he)
          · obtain ⟨sv', g1, g2, g3⟩ := hmem sv hsv
            rw [g2, g3]; exact h5.sts.acc sv' g1
  · have hf : c = 256 := by have := of_decide_eq_false hf; omega
    subst hf
    exact hK w3 l3 svs3 k3 h3 hd3.next hle3 hge3
end
end Go.Fk
end

section
set_option linter.unusedVariables false
namespace Go.Fk
open Go Go.MapKept

/-! ## Classes of bytes -/

theorem App.makeOwn {Tsl T : TypeId} {bytes : Nat} {z : Value} (hE : Elem P Tsl T z 1 bytes) {w : World} {c : Nat} {K : Sl → World → Prop} (hb : bytes * c ≤ 281474976710656) (hc : c ≤ 1000000000)
    (hK : ∀ l w', Keeps No w w' → Own w' w.heap.size T 1 l [] → K l w') : App P (Instr.makeSlice Tsl (.int .i64 0) (.int .i64 (c : Int))) (.one .sl) w K := by
  obtain ⟨i, hi, hzz⟩ := Option.map_eq_some_iff.1 hE.inf
  simp only [Prod.mk.injEq] at hzz
  obtain ⟨w1, hr1, ho1, hg1⟩ := run_make_own (P := P) w w.heap.size Tsl T i z 1 hE.sl hi hzz.1 hzz.2.1 .i64 .i64 c (by rw [hzz.2.2]; exact hb) (by have : (9223372036854775807 : Nat) = maxLen := rfl; omega) (Nat.le_refl _)
  exact ⟨⟨some ⟨w.heap.size, 0, none⟩, 0, c⟩, w1, by simpa [RTy.enc, Ty.enc] using hr1, hK _ w1 ((Keeps.of_grown hg1).mono fun b _ h => by cases h) ho1⟩

theorem StA.gen {w : World} {b n : Nat} {T : TypeId} {cur cs : Array Value} {E : TypeId} {k : World → Prop} (hs : (P.info? T).map (·.size) = some n) (hb : w.heap[b]? = some (.cells cur E (0, 0))) (h1 : cur.size = n) (h2 : cs.size = n) (h3 : ∀ u ∈ cs.toList, u.oneCell' = true)
    (hk : ∀ w', Upd b (.cells cs E (0, 0)) w w' → k w') : StA P T ⟨b, 0, none⟩ cs w k := by
  refine ⟨w.setRow b cs, ?_, hk _ ?_⟩
  · refine run_storeVar_row w b _ _ _ _ hb (by rw [hs, h2]) (by rw [h1, h2]) ?_
    rw [Array.all_eq_true_iff_forall_mem]
    intro x hx
    exact h3 x (by simpa using hx)
  · have hr := setRow_heap w b _ cs _ _ hb
    refine ⟨hr, ⟨rfl, rfl, rfl, by simp [World.setRow], fun i _ hi => ?_⟩, by simp [World.setRow]⟩
    simp only [World.setRow, Array.getElem?_modify]
    rw [if_neg (fun h => hi h.symm)]

theorem LdA.gen {w : World} {g off n : Nat} {c : List Value} {k : Array Value → Prop} (hn : c.length = n) (hc : ∀ j u, c[j]? = some u → w.cell? ⟨g, off + j, none⟩ = some u) (hk : k c.toArray) : LdA n ⟨g, off, none⟩ w k := by
  refine ⟨c.toArray, ⟨by simpa using hn, fun i u hu => ?_⟩, hk⟩
  rw [add_eq]
  exact hc i u (by simpa using hu)

theorem sizeSt : (P.info? T.dfa_state).map (·.size) = some 258 := by kernel_rfl
theorem zeroSt : (#[(.slice none 0 0 : Value)] ++ Array.replicate 257 (.int .i64 0 : Value)) = (DSt.cells ⟨⟨none, 0, 0⟩, [], fun _ => 0, 0⟩).toArray := by kernel_rfl

def colOf (svs : List DSt) (c : Nat) : List Int := svs.map fun s => s.nx c + 1
structure Classes (svs : List DSt) (cl : Nat → Int) (nc : Int) : Prop where
  iff : ∀ a b, a < 256 → b < 256 → (cl a = cl b ↔ colOf svs a = colOf svs b)
  top : goTop (rowL cl) (-1) = some (nc - 1)
  pos : ∀ a, a < 256 → 0 ≤ cl a

set_option maxRecDepth 20000 in
theorem dCells_setc {p : Option Addr} {l : Sl} {cl : Nat → Int} {nc v : Int} {c : Nat} (h : c < 256) : (dCells p l cl nc).toArray.setIfInBounds (2 + c) (.int .i64 v) = (dCells p l (fun j => if j = c then v else cl j) nc).toArray := by
  rw [List.setIfInBounds_toArray]
  congr 1
  rw [Nat.add_comm]
  show Value.pointer p :: Value.slice l.a l.n l.c :: ((row256 cl ++ [Value.int .i64 nc]).set c (.int .i64 v)) = _
  rw [List.set_append_left _ _ (by rw [row256_len]; exact h), row256_set h]
  rfl
set_option maxRecDepth 20000 in
theorem dCells_setn {p : Option Addr} {l : Sl} {cl : Nat → Int} {nc v : Int} : (dCells p l cl nc).toArray.setIfInBounds 258 (.int .i64 v) = (dCells p l cl v).toArray := by
  rw [List.setIfInBounds_toArray]
  congr 1

set_option maxRecDepth 20000 in
theorem group_spec {w : World} {bd : Nat} {p : Option Addr} {l : Sl} {cl0 : Nat → Int} {nc0 : Int} {svs : List DSt} {K : Unit → World → Prop} (hd : w.heap[bd]? = some (dObj p l cl0 nc0)) (hl : SlC (V (· = bd) w) l 258 (svs.map DSt.cells))
    (hr : ∀ sv ∈ svs, ∀ c, c < 256 → -1 ≤ sv.nx c ∧ sv.nx c < 60000) (hlen : svs.length ≤ 3000)
    (hK : ∀ w' cl nc, Keeps (· = bd) w w' → w'.heap[bd]? = some (dObj p l cl nc) → Classes svs cl nc → K () w') : dfa_Dfa_group.C (some ⟨bd, 0, none⟩) w K := by
  have hn := hl.1
  simp only [List.length_map] at hn
  refine dfa_Dfa_group.ok _ _ _ ?_
  simp only [dfa_Dfa_group.M, NilC_some, add_eq, zeroSt]
  refine Al.mk fun m1 w1 n1 => ?_
  have e1 := n1.eq; have z1 := n1.size
  have hbl := lt_of_some hd
  have hne : bd ≠ m1 := by omega
  have hcol : ∀ c, c < 256 → ∀ x ∈ colOf svs c, 0 ≤ x ∧ x < 65536 := fun c hc x hx => by
    obtain ⟨s, hs, rfl⟩ := List.mem_map.1 hx
    have := hr s hs c hc
    omega
  have colLen : ∀ c, (colOf svs c).length = svs.length := fun c => by simp [colOf]
  refine Loop.mk (fun s w' => Keeps (fun b => b = bd ∨ b = m1) w1 w' ∧ ∃ (c : Nat) (cl : Nat → Int) (num : Nat), c ≤ 256 ∧ s = (c : Int) ∧ num ≤ c ∧ w'.heap[bd]? = some (dObj p l cl nc0) ∧ MapAt P T.string .str (.int .i64) (V No w') m1 (fun k v => ∃ j, j < c ∧ k = txt (colOf svs j) ∧ v = cl j) ∧ MapSz w' m1 num ∧
      goTop ((List.range c).map cl) (-1) = some ((num : Int) - 1) ∧ (∀ j, j < c → 0 ≤ cl j ∧ cl j < num) ∧ ∀ i j, i < c → j < c → (cl i = cl j ↔ colOf svs i = colOf svs j)) (fun s => 256 - s.toNat) ⟨.refl, 0, cl0, 0, by omega, rfl, by omega, n1.keeps.blk0 hd, ?_, .empty n1.at_, rfl, fun j hj => by omega, fun i j hi => by omega⟩ ?_
  · exact (MapAt.empty (kt := .str) (vt := .int .i64) ⟨id, n1.at_⟩).congr fun x y => by simp
  rintro s w2 ⟨k2, c, cl, num, hc, rfl, hnum, hd2, hm2, hsz2, htop, hcl, hiff⟩ R hR
  refine Br.mk (fun ht => ?_) (fun hf => ?_)
  · have ht : c < 256 := by have := of_decide_eq_true ht; omega
    refine Ld.sl (cell_of hd2 dCells_l) ?_
    refine App.makeOwn elInt (by show 8 * l.n ≤ _; omega) (by show l.n ≤ _; omega) fun l3 w3 k3 o3 => ?_
    have hd3 := k3.blk0 hd2
    refine Ld.sl (cell_of hd3 dCells_l) ?_
    have k23 := k2.then0 k3
    have hrow : ∀ {w'}, Keeps (fun b => b = bd ∨ b = m1) w1 w' → SlC (V (fun b => b = bd ∨ b = m1) w') l 258 (svs.map DSt.cells) := fun {w'} k => hl.mono ((V.move n1.keeps (fun _ _ h => h.elim) (M' := fun b => b = bd ∨ b = m1) fun b hb h => h.resolve_right (by omega)).trans (V.keeps k))
    refine Loop.mk (fun t w' => Keeps No w2 w' ∧ ∃ i : Nat, i ≤ svs.length ∧ t.2 = (i : Int) ∧ Own w' w2.heap.size T.int 1 t.1 (((colOf svs c).take i).map (Ty.int .i64).enc)) (fun t => svs.length - t.2.toNat) ⟨k3, 0, by omega, rfl, by rw [List.take_zero]; exact o3⟩ ?_
    rintro ⟨o, ii⟩ w4 ⟨k4, i, hi, hii, ho⟩ R2 hR2
    dsimp only at hii ho ⊢
    subst hii
    have k24 := k2.then0 k4
    have hol := ho.len
    simp [colLen] at hol
    refine Br.mk (fun ht2 => ?_) (fun hf2 => ?_)
    · have ht2 : i < svs.length := by have := of_decide_eq_true ht2; omega
      have hsv : svs[i]? = some svs[i] := List.getElem?_eq_getElem ht2
      generalize svs[i] = sv at hsv
      refine IdxS.recd (hrow k24) (by omega) (by simp; omega) fun g off cs hcs hcell => ?_
      simp only [Int.toNat_natCast, List.getElem?_map, hsv, Option.map_some, Option.some.injEq] at hcs
      subst hcs
      refine LdA.gen sv.len hcell ?_
      refine Al.mk fun b6 w5 n5 => StA.gen sizeSt n5.at_ (by simp [DSt.len]) (by simp [DSt.len]) (fun u hu => sv.one u (by simpa using hu)) fun w6 u6 => ?_
      have k46 : Keeps No w4 w6 := u6.keeps0 n5.keeps (by have := n5.eq; omega)
      refine ⟨⟨by omega, by omega⟩, ?_⟩
      rw [add_eq, Nat.mul_one, Int.toNat_natCast]
      refine Ld.int (cell_of u6.at_ (by rw [List.getElem?_toArray]; exact sv.getN ht)) ?_
      have hsr := hr sv (List.mem_of_getElem? hsv) c ht
      rw [w64_eq (by omega)]
      have z6 := (k4.trans k46).size
      refine append1 (t := .int .i64) (x := sv.nx c + 1) elInt (ho.keep0 k46) rfl (by omega) (by omega) z6 fun o' w7 o7 m7 k7 g7 => ?_
      have e4 : w64 ((i : Int) + 1) = ((i + 1 : Nat) : Int) := by rw [w64_eq (by omega)]; omega
      rw [e4]
      refine hR2 _ w7 ⟨?_, i + 1, by omega, rfl, ?_⟩ (by dsimp only; omega)
      · refine ((k4.trans k46).no (M := No)).then k7 fun b hb hbl => ?_
        have := (ho.ge hbl).1
        have : b < w2.heap.size := hb
        omega
      · have : (colOf svs c).take (i + 1) = (colOf svs c).take i ++ [sv.nx c + 1] := by
          rw [List.take_add_one, colOf, List.getElem?_map, hsv]; rfl
        rw [this]
        exact o7
    · have hf2 : i = svs.length := by have := of_decide_eq_false hf2; omega
      subst hf2
      rw [← colLen c, List.take_length] at ho
      refine dfa_text_spec (ho.reads (M := No) fun _ _ h => h) (hcol c ht) (by rw [colLen]; omega) fun w5 k5 => ?_
      have k25 := k24.then0 k5
      have kk : Keeps No w2 w5 := k4.trans k5
      have hm5 : MapAt P T.string .str (.int .i64) (V No w5) m1 _ := MapAt.mono hm2 (V.keeps0 kk)
      have hsz5 := hsz2.keep kk id
      have hd5 := kk.blk0 hd2
      have hkey : OkKey P T.string (Ty.str.enc (txt (colOf svs c))) := strKey (by rw [txt_size, colLen]; have : (9223372036854775807 : Nat) = maxLen := rfl; omega)
      have e4 : w64 ((c : Int) + 1) = ((c + 1 : Nat) : Int) := by rw [w64_eq (by omega)]; omega
      -- what is written
      refine App.look2 (kt := .str) (vt := .int .i64) (z := 0) strIntTy (run_zeroInt w5) (mo := some m1) hm5 hkey (fun y hy => ?_) (fun hno => ?_)
      · obtain ⟨j0, hj0, htx, rfl⟩ := hy
        have hce := txt_inj (hcol c ht) (hcol j0 (by omega)) htx
        refine Join.cut (fun s8 w' => w' = w5 ∧ s8 = cl j0) ?_ fun j hj => hj _ _ ⟨rfl, rfl⟩
        rintro s8 w' ⟨rfl, rfl⟩
        refine ⟨⟨by omega, by omega⟩, ?_⟩
        rw [add_eq, Nat.mul_one, Int.toNat_natCast, Nat.zero_add]
        refine St.blk hd5 (by rw [List.size_toArray, dCells_len]; omega) fun w6 u6 => ?_
        rw [dCells_setc ht] at u6
        rw [e4]
        have hold : ∀ j, j < c → (fun j => if j = c then cl j0 else cl j) j = cl j := fun j hj => by
          have : j ≠ c := by omega
          simp [this]
        refine hR _ w6 ⟨k25.trans (u6.keeps.mono fun b _ hb => .inl hb), c + 1, fun j => if j = c then cl j0 else cl j, num, by omega, rfl, by omega, u6.at_, ?_, hsz5.keep u6.keeps (by omega), ?_, fun j hj => ?_, fun i j hi hj => ?_⟩ (by omega)
        · refine MapAt.congr (MapAt.keep hm5 u6.keeps (by omega) id) fun k v => ?_
          constructor
          · rintro ⟨j, hj, rfl, rfl⟩; exact ⟨j, by omega, rfl, (hold j hj).symm⟩
          · rintro ⟨j, hj, rfl, rfl⟩
            by_cases e : j = c
            · subst e; exact ⟨j0, hj0, by rw [hce], by simp⟩
            · exact ⟨j, by omega, rfl, hold j (by omega)⟩
        · rw [List.range_succ, List.map_append, goTop_append, List.map_congr_left fun j hj => hold j (by simpa using hj), htop]
          have := hcl j0 hj0
          simp only [Option.bind_some, List.map_cons, List.map_nil, goTop, if_true]
          rw [if_neg (by omega), if_neg (by omega), if_neg (by omega)]
        · by_cases e : j = c
          · subst e; simpa using hcl j0 hj0
          · simp only [e, if_false]; exact hcl j (by omega)
        · have ei : ∀ i, i < c + 1 → ∃ i', i' < c ∧ (if i = c then cl j0 else cl i) = cl i' ∧ colOf svs i = colOf svs i' := fun i hi => by
            by_cases e : i = c
            · subst e; exact ⟨j0, hj0, by simp, hce⟩
            · exact ⟨i, by omega, by simp [e], rfl⟩
          obtain ⟨i', h1, h2, h3⟩ := ei i hi
          obtain ⟨j', h4, h5, h6⟩ := ei j hj
          show (if i = c then cl j0 else cl i) = (if j = c then cl j0 else cl j) ↔ _
          rw [h2, h5, h3, h6]
          exact hiff i' j' h1 h4
      · have hnewk : ∀ j, j < c → colOf svs j ≠ colOf svs c := fun j hj e => hno (cl j) ⟨j, hj, by rw [e], rfl⟩
        refine Join.cut (fun s8 w' => Keeps (· = m1) w5 w' ∧ s8 = (num : Int) ∧ MapAt P T.string .str (.int .i64) (V No w') m1 (fun k v => (k = txt (colOf svs c) ∧ v = (num : Int)) ∨ (k ≠ txt (colOf svs c) ∧ ∃ j, j < c ∧ k = txt (colOf svs j) ∧ v = cl j)) ∧ MapSz w' m1 (num + 1)) ?_ fun j hj => ?_
        · rintro s8 w' ⟨k', rfl, hm', hsz'⟩
          refine ⟨⟨by omega, by omega⟩, ?_⟩
          rw [add_eq, Nat.mul_one, Int.toNat_natCast, Nat.zero_add]
          refine St.blk (k'.blk hd5 hne) (by rw [List.size_toArray, dCells_len]; omega) fun w6 u6 => ?_
          rw [dCells_setc ht] at u6
          rw [e4]
          have hold : ∀ j, j < c → (fun j => if j = c then (num : Int) else cl j) j = cl j := fun j hj => by
            have : j ≠ c := by omega
            simp [this]
          refine hR _ w6 ⟨(k25.trans (k'.mono fun b _ hb => .inr hb)).trans (u6.keeps.mono fun b _ hb => .inl hb), c + 1, fun j => if j = c then (num : Int) else cl j, num + 1, by omega, rfl, by omega, u6.at_, ?_, hsz'.keep u6.keeps (by omega), ?_, fun j hj => ?_, fun i j hi hj => ?_⟩ (by omega)
          · refine MapAt.congr (MapAt.keep hm' u6.keeps (by omega) id) fun k v => ?_
            constructor
            · rintro (⟨rfl, rfl⟩ | ⟨_, j, hj, rfl, rfl⟩)
              · exact ⟨c, by omega, rfl, by simp⟩
              · exact ⟨j, by omega, rfl, (hold j hj).symm⟩
            · rintro ⟨j, hj, rfl, rfl⟩
              by_cases e : j = c
              · subst e; exact .inl ⟨rfl, by simp⟩
              · refine .inr ⟨fun e2 => hnewk j (by omega) (txt_inj (hcol j (by omega)) (hcol c ht) e2), j, by omega, rfl, hold j (by omega)⟩
          · rw [List.range_succ, List.map_append, goTop_append, List.map_congr_left fun j hj => hold j (by simpa using hj), htop]
            simp only [Option.bind_some, List.map_cons, List.map_nil, goTop, if_true]
            rw [if_neg (by omega), if_neg (by omega), if_pos (by omega)]
            simp
          · by_cases e : j = c
            · subst e; simp; omega
            · have := hcl j (by omega)
              simp only [e, if_false]; omega
          · by_cases e1 : i = c <;> by_cases e2 : j = c
            · subst e1 e2; simp
            · subst e1
              have := hcl j (by omega)
              simp only [if_true, e2, if_false]
              exact ⟨fun h => by omega, fun h => absurd h.symm (hnewk j (by omega))⟩
            · subst e2
              have := hcl i (by omega)
              simp only [if_true, e1, if_false]
              exact ⟨fun h => by omega, fun h => absurd h (hnewk i (by omega))⟩
            · simp only [e1, e2, if_false]
              exact hiff i j (by omega) (by omega)
        · refine App.len strIntTy.ty hsz5 ?_
          exact App0.putNew (kt := .str) (vt := .int .i64) (x := txt (colOf svs c)) (y := (num : Int)) strIntTy hm5 hsz5 hkey (fun y hy => hno y hy) fun w' k' _ hm' hsz' => hj _ _ ⟨k', rfl, hm', hsz'⟩
  · have hf : c = 256 := by have := of_decide_eq_false hf; omega
    subst hf
    refine App.len strIntTy.ty hsz2 ?_
    refine St.blk hd2 (by rw [List.size_toArray, dCells_len]; omega) fun w3 u3 => ?_
    rw [show (0 + 258 : Nat) = 258 from rfl, dCells_setn] at u3
    refine hK w3 cl num (((n1.keeps.no (M := fun b => b = bd)).then k2 fun b hb h => h.resolve_right (by omega)).trans u3.keeps) u3.at_ ⟨fun a b ha hb => hiff a b ha hb, htop, fun a ha => (hcl a ha).1⟩
end Go.Fk
end

section
set_option linter.unusedVariables false
namespace Go.Fk
open Go Go.MapKept

/-! ## An automaton that is ready -/

def DfaV (H : View) (d : Option Addr) (svs : List DSt) (cl : Nat → Int) (nc : Int) : Prop :=
  ∃ bd p l, d = some ⟨bd, 0, none⟩ ∧ H bd (dObj p l cl nc) ∧ SlC H l 258 (svs.map DSt.cells) ∧ ∀ sv ∈ svs, SlT (.int .i64) H sv.at_ sv.xs ∧ (sv.at_.a.isNone = true ↔ sv.xs = [])

theorem DfaV.mono {H H' : View} {d : Option Addr} {svs : List DSt} {cl : Nat → Int} {nc : Int} (h : DfaV H d svs cl nc) (hv : Vle H H') : DfaV H' d svs cl nc := by
  obtain ⟨bd, p, l, h1, h2, h3, h4⟩ := h
  exact ⟨bd, p, l, h1, hv _ _ h2, h3.mono hv, fun sv hs => ⟨(h4 sv hs).1.mono hv, (h4 sv hs).2⟩⟩

structure DfaOK (fs : List ((Nat → Bool) × Int)) (F : Int → Int → Prop) (ks : List Kn) (svs : List DSt) (cl : Nat → Int) (nc : Int) : Prop where
  sts : Sts fs ks svs
  done : Done fs F ks svs.length 0 svs
  cls : Classes svs cl nc
  few : svs.length ≤ 2000

theorem DfaOK.good {fs : List ((Nat → Bool) × Int)} {F : Int → Int → Prop} {ks : List Kn} {svs : List DSt} {cl : Nat → Int} {nc : Int} (h : DfaOK fs F ks svs cl nc) {sv : DSt} (hs : sv ∈ svs) {c : Nat} (hc : c < 256) : GoodN fs F ks svs sv.xs (sv.nx c) c := by
  obtain ⟨i, hi⟩ := List.getElem?_of_mem hs
  exact h.done.rows i sv (List.getElem?_eq_some_iff.1 hi).1 hi c hc
theorem GoodN.range {fs : List ((Nat → Bool) × Int)} {F : Int → Int → Prop} {ks : List Kn} {svs : List DSt} {xs : List Int} {k : Int} {c : Nat} (h : GoodN fs F ks svs xs k c) : -1 ≤ k ∧ k < svs.length ∨ (k = -1) := by
  rcases h with ⟨h, _⟩ | ⟨i, sv, h0, rfl, hi, _⟩
  · exact .inr h
  · have := (List.getElem?_eq_some_iff.1 hi).1
    left; omega

theorem Ld.slv {a : Addr} {w : World} {k : Sl → Prop} {l : Sl} (h : w.cell? a = some (.slice l.a l.n l.c)) (hk : k l) : Ld .sl a w k := ⟨l, h, hk⟩

set_option maxRecDepth 20000 in
theorem dfa_New_spec {w : World} {p : Option Addr} {fs : List ((Nat → Bool) × Int)} {F : Int → Int → Prop} {ks : List Kn} {K : (Option Addr × Int) → World → Prop} (h : MachO (V No w) p fs F ks) (hp : p ≠ none) (hks : ks.length ≤ 2000)
    (hK0 : ∀ d svs cl nc w', Keeps No w w' → DfaV (V No w') d svs cl nc → DfaOK fs F ks svs cl nc → K (d, 0) w')
    (hK1 : ∀ w', Keeps No w w' → (∃ svs, Sts fs ks svs ∧ 2000 < svs.length) → K (none, 3) w') : dfa_New.C p w K := by
  refine dfa_New.ok _ _ _ ?_
  simp only [dfa_New.M]
  refine Br.mk (fun h0 => by cases p with | none => exact absurd rfl hp | some a => cases h0) (fun _ => ?_)
  refine App.buildG (buildSt0 (-1)) (App.slice1G elSt (by simp [DSt.len]) (by omega) (by omega) fun bs w1 n1 => App.buildG (buildDfa p _ _ _) (Al.mk fun bd w2 n2 => Al.mk fun mm w3 n3 => Al.mk fun bb w4 n4 => ?_))
  have e1 := n1.eq; have z1 := n1.size; have e2 := n2.eq; have z2 := n2.size; have e3 := n3.eq; have z3 := n3.size; have e4 := n4.eq; have z4 := n4.size
  have k14 : Keeps No w1 w4 := (n2.keeps.trans n3.keeps).trans n4.keeps
  have k04 : Keeps No w w4 := n1.keeps.trans k14
  let sv0 : DSt := ⟨⟨none, 0, 0⟩, [], fun _ => 0, -1⟩
  have hb0 : Bd w4 w.heap.size bb bd mm p fs F ks ⟨some ⟨bs, 0, none⟩, 1, 1⟩ [sv0] := {
    mach := h.mono (V.move k04 (fun _ _ h => h.elim) fun b hb h => by have : w.heap.size ≤ b := h; omega)
    hb := n4.at_
    hd := (n3.keeps.trans n4.keeps).blk0 n2.at_
    own := ⟨by simp [DSt.len], .inr ⟨bs, 1, _, rfl, by omega, k14.blk0 n1.at_, Nat.le_refl _, by have : (9223372036854775807 : Nat) = maxLen := rfl; omega, by simp [DSt.len], by simp [DSt.cells, List.take_of_length_le, row256_len, sv0]⟩⟩
    map := (MapAt.empty (kt := .str) (vt := .int .i64) ⟨id, n4.keeps.blk0 n3.at_⟩).congr fun k v => ⟨fun h => h.elim, fun ⟨i, sv, hi, h0, _⟩ => by
      cases i with
      | zero => omega
      | succ i => simp at hi⟩
    ge := ⟨by omega, by omega, by omega⟩
    ne := ⟨by omega, by omega, by omega⟩
    foot := by
      have hl : ∀ b, Sl.blk ⟨some ⟨bs, 0, none⟩, 1, 1⟩ b → b = bs := fun b hb => blk_one rfl hb
      exact ⟨fun hb => by have := hl _ hb; omega, fun hb => by have := hl _ hb; omega, fun hb => by have := hl _ hb; omega⟩
    ats := fun i sv hi => by
      cases i with
      | zero => simp at hi; subst hi; exact ⟨SlT.nil, by simp [sv0]⟩
      | succ i => simp at hi
    sts := ⟨⟨sv0, rfl, rfl⟩, fun i sv hi h0 => by cases i with | zero => omega | succ i => simp at hi, fun sv hs => by simp at hs; subst hs; exact ⟨.nil, fun q hq => by simp [sv0] at hq⟩,
      fun i j sv sv' hi hj _ => by cases i with | zero => (cases j with | zero => rfl | succ j => simp at hj) | succ i => simp at hi, fun sv hs => by simp at hs; subst hs; exact .inl ⟨rfl, by simp [sv0]⟩⟩ }
  have hd0 : Done fs F ks 0 0 [sv0] := ⟨fun i sv hi => by omega, fun sv hs c hc => by omega, by simp [seqOf, goTop], fun v h0 hv => by simp at hv; omega⟩
  refine Loop.mk (fun s w' => Keeps No w w' ∧ ∃ (i : Nat) (l : Sl) (svs : List DSt), i ≤ svs.length ∧ s = (i : Int) ∧ Bd w' w.heap.size bb bd mm p fs F ks l svs ∧ Done fs F ks i 0 svs ∧ svs.length ≤ 2000) (fun s => 2001 - s.toNat) ⟨k04, 0, _, _, by simp, rfl, hb0, hd0, by simp⟩ ?_
  rintro s w5 ⟨k5, i, l, svs, hi, rfl, hb, hd, hlen⟩ R hR
  have hln := hb.n
  refine Ld.slv (cell_of hb.hd dCells_l) ?_
  refine Br.mk (fun ht => ?_) (fun hf => ?_)
  · have ht : i < svs.length := by have := of_decide_eq_true ht; omega
    have hsv : svs[i]? = some svs[i] := List.getElem?_eq_getElem ht
    refine fill_spec hb hsv hd hlen hks fun w6 l' svs' k6 hb6 hd6 hle hge => ?_
    have k06 : Keeps No w w6 := (k5.no (M := No)).then k6 fun b hb' h' => by have : w.heap.size ≤ b := h'; omega
    refine Ld.slv (cell_of hb6.hd dCells_l) ?_
    have hln6 := hb6.n
    refine Br.mk (fun hl => ?_) (fun hl => ?_)
    · have hl : 2000 < svs'.length := by have := of_decide_eq_true hl; omega
      exact hK1 w6 k06 ⟨svs', hb6.sts, hl⟩
    · have hl : svs'.length ≤ 2000 := by have := of_decide_eq_false hl; omega
      have e4 : w64 ((i : Int) + 1) = ((i + 1 : Nat) : Int) := by rw [w64_eq (by omega)]; omega
      rw [e4]
      exact hR _ w6 ⟨k06, i + 1, l', svs', by omega, rfl, hb6, hd6, hl⟩ (by omega)
  · have hf : i = svs.length := by have := of_decide_eq_false hf; omega
    subst hf
    obtain ⟨f1, f2, f3⟩ := hb.foot
    have hrow : SlC (V (· = bd) w5) l 258 (svs.map DSt.cells) := hb.own.readsC (by omega) DSt.lens fun b hbl hm => f2 (by have : b = bd := hm; exact this ▸ hbl)
    refine group_spec hb.hd hrow (fun sv hs c hc => ?_) (by omega) fun w6 cl nc k6 hd6 hcl => ?_
    · obtain ⟨j, hj⟩ := List.getElem?_of_mem hs
      have := (hd.rows j sv (List.getElem?_eq_some_iff.1 hj).1 hj c hc).range
      omega
    · have mv : Vle (V (Bft bb bd mm l) w5) (V No w6) := V.move k6 (fun b _ hm => .inr (.inl hm)) fun _ _ h => h.elim
      refine hK0 _ svs cl nc w6 ((k5.no (M := No)).then k6 fun b hb' h' => by have : b = bd := h'; have := hb.ge.2.1; omega) ⟨bd, p, l, rfl, ⟨id, hd6⟩, hrow.mono (V.move k6 (fun _ _ h => h) fun _ _ h => h.elim), fun sv hs => ?_⟩ ⟨hb.sts, hd, hcl, hlen⟩
      obtain ⟨j, hj⟩ := List.getElem?_of_mem hs
      exact ⟨(hb.ats j sv hj).1.mono mv, (hb.ats j sv hj).2⟩
end Go.Fk
end

section
set_option linter.unusedVariables false
namespace Go.Fk
open Go Go.MapKept

/-! ## What is asked of an automaton -/

def DfaO (H : View) (d : Option Addr) (svs : List DSt) (cl : Nat → Int) (nc : Int) : Prop := (d = none ∧ svs = [] ∧ cl = (fun _ => -1) ∧ nc = 0) ∨ DfaV H d svs cl nc
theorem DfaO.mono {H H' : View} {d : Option Addr} {svs : List DSt} {cl : Nat → Int} {nc : Int} (h : DfaO H d svs cl nc) (hv : Vle H H') : DfaO H' d svs cl nc := h.imp id fun h => h.mono hv

def stAt (svs : List DSt) (n : Int) : Option DSt := if 0 ≤ n then svs[n.toNat]? else none
def nextOf (svs : List DSt) (n : Int) (b : Nat) : Int × Bool := match stAt svs n with
  | some sv => if sv.nx b = -1 then (0, false) else (sv.nx b, true)
  | none => (0, false)
def accOf (svs : List DSt) (n : Int) : Int := ((stAt svs n).map DSt.acc).getD (-1)
/-- From the place j on. -/
def runFrom (svs : List DSt) (s : List UInt8) : Int × Bool → Int × Bool
  | st => s.foldl (fun (st : Int × Bool) c => if st.2 = true then nextOf svs st.1 c.toNat else st) st

section
variable {w : World} {d : Option Addr} {svs : List DSt} {cl : Nat → Int} {nc : Int}

theorem stAt_in {n : Int} {sv : DSt} (h0 : 0 ≤ n) (h : svs[n.toNat]? = some sv) : stAt svs n = some sv := by simp [stAt, h0, h]
theorem stAt_out {n : Int} (h : ¬ (0 ≤ n ∧ n < svs.length)) : stAt svs n = none := by
  unfold stAt
  split
  · exact List.getElem?_eq_none (by omega)
  · rfl

theorem dfa_States_spec (h : DfaO (V No w) d svs cl nc) {K : Int → World → Prop} (hK : K svs.length w) : dfa_Dfa_States.C d w K := by
  refine dfa_Dfa_States.ok _ _ _ ?_
  simp only [dfa_Dfa_States.M]
  rcases h with ⟨rfl, rfl, _⟩ | ⟨bd, p, l, rfl, h2, h3, h4⟩
  · exact hK
  · show Ld _ _ _ _
    rw [add_eq]
    refine Ld.slv (cell_of h2.2 dCells_l) ?_
    have := h3.1
    simp only [List.length_map] at this
    rw [this]; exact hK

theorem dfa_has_spec (h : DfaO (V No w) d svs cl nc) {n : Int} {K : Bool → World → Prop} (hK : K (decide (0 ≤ n ∧ n < svs.length)) w) : dfa_Dfa_has.C d n w K := by
  refine dfa_Dfa_has.ok _ _ _ _ ?_
  simp only [dfa_Dfa_has.M]
  refine Br.mk (fun h0 => dfa_States_spec h ?_) (fun h0 => ?_)
  · have h0 := of_decide_eq_true h0
    have : decide (n < (svs.length : Int)) = decide (0 ≤ n ∧ n < svs.length) := by rw [decide_eq_decide]; omega
    rw [this]; exact hK
  · have h0 := of_decide_eq_false h0
    rwa [decide_eq_false (by omega)] at hK

theorem dfa_Next_spec (h : DfaO (V No w) d svs cl nc) {n : Int} {b : Nat} (hb : b < 256) {K : (Int × Bool) → World → Prop} (hK : K (nextOf svs n b) w) : dfa_Dfa_Next.C d n b w K := by
  refine dfa_Dfa_Next.ok _ _ _ _ _ ?_
  simp only [dfa_Dfa_Next.M]
  have cellN : ∀ {bd : Nat} {p : Option Addr} {l : Sl} {sv : DSt} {k : Int → Prop}, SlC (V No w) l 258 (svs.map DSt.cells) → 0 ≤ n → n < svs.length → svs[n.toNat]? = some sv → k (sv.nx b) → IdxS l n 258 fun p19 => IdxA 256 (p19.add 1) b 1 fun p21 => Ld (.int .i64) p21 w k := by
    intro bd p l sv k h3 h0 h1 hsv hk
    refine IdxS.recd h3 h0 (by simpa using h1) fun g off cs hcs hcell => ?_
    simp only [List.getElem?_map, hsv, Option.map_some, Option.some.injEq] at hcs
    subst hcs
    refine ⟨⟨by omega, by omega⟩, ?_⟩
    dsimp only
    rw [add_eq, add_eq, Nat.mul_one, Int.toNat_natCast, Nat.add_assoc]
    exact Ld.int (hcell (1 + b) _ (sv.getN hb)) hk
  refine Join.cut (fun s w' => w' = w ∧ (s = true → nextOf svs n b = (0, false)) ∧ (s = false → ∃ sv, 0 ≤ n ∧ n < svs.length ∧ svs[n.toNat]? = some sv ∧ sv.nx b ≠ -1)) ?_ ?_
  · rintro s w' ⟨rfl, g1, g2⟩
    refine Br.mk (fun ht => ?_) (fun hf => ?_)
    · rw [g1 ht] at hK; exact hK
    · obtain ⟨sv, h0, h1, hsv, hne⟩ := g2 hf
      rcases h with ⟨_, rfl, _⟩ | ⟨bd, p, l, rfl, h2, h3, h4⟩
      · simp at h1; omega
      · simp only [NilC_some, add_eq]
        refine Ld.slv (cell_of h2.2 dCells_l) ?_
        refine cellN (bd := bd) (p := p) h3 h0 h1 hsv ?_
        have : nextOf svs n b = (sv.nx b, true) := by simp [nextOf, stAt_in h0 hsv, hne]
        rw [this] at hK; exact hK
  · intro j hj
    refine dfa_has_spec h ?_
    refine Br.mk (fun hn => ?_) (fun hn => ?_)
    · have hn : ¬ (0 ≤ n ∧ n < svs.length) := of_decide_eq_false ((Bool.not_eq_true' _).mp hn)
      exact hj _ _ ⟨rfl, fun _ => by simp [nextOf, stAt_out hn], fun e => by cases e⟩
    · have hn : 0 ≤ n ∧ n < svs.length := by simpa using hn
      have hsv : svs[n.toNat]? = some svs[n.toNat] := List.getElem?_eq_getElem (by omega)
      generalize svs[n.toNat] = sv at hsv
      rcases h with ⟨_, rfl, _⟩ | ⟨bd, p, l, rfl, h2, h3, h4⟩
      · simp at hn; omega
      · simp only [NilC_some, add_eq]
        refine Ld.slv (cell_of h2.2 dCells_l) ?_
        refine cellN (bd := bd) (p := p) h3 hn.1 hn.2 hsv ?_
        refine hj _ _ ⟨rfl, fun e => ?_, fun e => ⟨sv, hn.1, hn.2, hsv, by simpa using e⟩⟩
        have : sv.nx b = -1 := by simpa using e
        simp [nextOf, stAt_in hn.1 hsv, this]

theorem dfa_Accept_spec (h : DfaO (V No w) d svs cl nc) {n : Int} {K : Int → World → Prop} (hK : K (accOf svs n) w) : dfa_Dfa_Accept.C d n w K := by
  refine dfa_Dfa_Accept.ok _ _ _ _ ?_
  simp only [dfa_Dfa_Accept.M]
  refine dfa_has_spec h ?_
  refine Br.mk (fun hn => ?_) (fun hn => ?_)
  · have hn : ¬ (0 ≤ n ∧ n < svs.length) := of_decide_eq_false ((Bool.not_eq_true' _).mp hn)
    have : accOf svs n = -1 := by simp [accOf, stAt_out hn]
    rw [this] at hK; exact hK
  · have hn : 0 ≤ n ∧ n < svs.length := by simpa using hn
    have hsv : svs[n.toNat]? = some svs[n.toNat] := List.getElem?_eq_getElem (by omega)
    generalize svs[n.toNat] = sv at hsv
    rcases h with ⟨_, rfl, _⟩ | ⟨bd, p, l, rfl, h2, h3, h4⟩
    · simp at hn; omega
    · simp only [NilC_some, add_eq]
      refine Ld.slv (cell_of h2.2 dCells_l) ?_
      refine IdxS.recd h3 hn.1 (by simpa using hn.2) fun g off cs hcs hcell => ?_
      simp only [List.getElem?_map, hsv, Option.map_some, Option.some.injEq] at hcs
      subst hcs
      rw [add_eq]
      refine Ld.int (hcell 257 _ sv.getA) ?_
      have : accOf svs n = sv.acc := by simp [accOf, stAt_in hn.1 hsv]
      rw [this] at hK; exact hK

theorem Clone_int_spec {M : Nat → Prop} {l : Sl} {xs : List Int} {K : Sl → World → Prop} (hl : SlT (.int .i64) (V M w) l xs) (hlen : xs.length ≤ 1000000000)
    (hK : ∀ l' w', Keeps No w w' → SlT (.int .i64) (V (LtV w.heap.size) w') l' xs → K l' w') : slices_Clone_int.C l w K := by
  have hn := hl.1
  have of_own : ∀ {v' : Value} {w' : World} {n : Nat} {zs : List Int}, n = zs.length → w'.ownsRow w.heap.size T.int 1 v' n (zs.map (Value.int .i64)) → RowKit.Below w.heap.size w w' → zs = xs → ∃ r : Sl, v' = (RTy.one Ty.sl).enc r ∧ K r w' := by
    intro v' w' n zs hnz ho hb hzx
    obtain ⟨a, m, c, rfl, rfl⟩ : ∃ a m c, v' = .slice a m c ∧ m = n := by
      rcases ho.2 with ⟨rfl, h⟩ | ⟨g, cap, cur, rfl, _⟩
      · exact ⟨_, _, _, rfl, h.symm⟩
      · exact ⟨_, _, _, rfl, rfl⟩
    subst hzx
    have ho' : Own w' w.heap.size T.int 1 ⟨a, m, c⟩ (zs.map (Ty.int .i64).enc) := ho
    exact ⟨⟨a, m, c⟩, rfl, hK _ w' (Keeps.of_below hb) (ho'.reads fun b hb' hm => by have := (ho'.ge hb').1; have : b < w.heap.size := hm; omega)⟩
  obtain ⟨la, ln, lc⟩ := l
  dsimp only at hn
  cases la with
  | none =>
    have hx : xs = [] := by
      rcases hl.2 with h | ⟨b, off, cs, E, fr, h1, _⟩
      · exact h
      · cases h1
    refine Calls.mono (Go.Proofs.Tryz.slices_Clone_int_nil ln lc w) ?_
    rintro e w' ⟨rfl, rfl⟩
    exact ⟨⟨none, 0, 0⟩, rfl, hK _ _ .refl (by rw [hx]; exact SlT.nil)⟩
  | some a =>
    by_cases hx : xs = []
    · subst hx
      have h0 : ln = 0 := by simpa using hn
      subst h0
      refine Calls.mono (Go.Proofs.Tryz.slices_Clone_int_zero a lc w) ?_
      rintro e w' ⟨v', rfl, ho, _, hb⟩
      obtain ⟨r, rfl, h⟩ := of_own (zs := []) (by simp) ho hb rfl
      exact ⟨r, rfl, h⟩
    · rcases hl.2 with h | ⟨b, off, cs, E, fr, h1, h2, h3⟩
      · exact absurd h hx
      · cases h1
        refine Calls.mono (Go.Proofs.Tryz.slices_Clone_int b off ln lc xs w (by omega) (by omega) fun j hj => ?_) ?_
        · have hx : xs[j]? = some xs[j] := List.getElem?_eq_getElem hj
          refine cell_of h2.2 ?_
          rw [h3 j _ hx]
          simp [List.getD, hx, Ty.enc]
        · rintro e w' ⟨v', rfl, ho, _, hb⟩
          rw [hn, List.take_length] at ho
          obtain ⟨r, rfl, h⟩ := of_own (n := xs.length) rfl ho hb rfl
          exact ⟨r, rfl, h⟩

theorem dfa_Positions_spec (h : DfaO (V No w) d svs cl nc) (hr : ∀ sv ∈ svs, sv.xs.length ≤ 2000) {n : Int} {K : Sl → World → Prop} (hK : ∀ l w', Keeps No w w' → SlT (.int .i64) (V No w') l (((stAt svs n).map DSt.xs).getD []) → K l w') : dfa_Dfa_Positions.C d n w K := by
  refine dfa_Dfa_Positions.ok _ _ _ _ ?_
  simp only [dfa_Dfa_Positions.M]
  refine dfa_has_spec h ?_
  refine Br.mk (fun hn => ?_) (fun hn => ?_)
  · have hn : ¬ (0 ≤ n ∧ n < svs.length) := of_decide_eq_false ((Bool.not_eq_true' _).mp hn)
    exact hK _ w .refl (by simp only [stAt_out hn]; exact SlT.nil)
  · have hn : 0 ≤ n ∧ n < svs.length := by simpa using hn
    have hsv : svs[n.toNat]? = some svs[n.toNat] := List.getElem?_eq_getElem (by omega)
    generalize svs[n.toNat] = sv at hsv
    rcases h with ⟨_, rfl, _⟩ | ⟨bd, p, l, rfl, h2, h3, h4⟩
    · simp at hn; omega
    · simp only [NilC_some, add_eq]
      refine Ld.slv (cell_of h2.2 dCells_l) ?_
      refine IdxS.recd h3 hn.1 (by simpa using hn.2) fun g off cs hcs hcell => ?_
      simp only [List.getElem?_map, hsv, Option.map_some, Option.some.injEq] at hcs
      subst hcs
      refine Ld.slv (hcell 0 _ sv.get0) ?_
      have hm := List.mem_of_getElem? hsv
      refine Clone_int_spec (h4 sv hm).1 (by have := hr sv hm; omega) fun l' w' k' hl' => hK l' w' k' ?_
      simp only [stAt_in hn.1 hsv]
      exact hl'.mono (V.sub fun _ _ h => h.elim)

theorem dfa_Classes_spec (h : DfaO (V No w) d svs cl nc) {K : Int → World → Prop} (hK : K nc w) : dfa_Dfa_Classes.C d w K := by
  refine dfa_Dfa_Classes.ok _ _ _ ?_
  simp only [dfa_Dfa_Classes.M]
  rcases h with ⟨rfl, _, _, rfl⟩ | ⟨bd, p, l, rfl, h2, h3, h4⟩
  · exact hK
  · show Ld _ _ _ _
    rw [add_eq]
    refine Ld.int (cell_of h2.2 ?_) hK
    rw [List.getElem?_toArray]
    show (row256 cl ++ [_])[256]? = _
    rw [List.getElem?_append_right (by rw [row256_len]; omega), row256_len]; rfl

theorem dfa_Class_spec (h : DfaO (V No w) d svs cl nc) {b : Nat} (hb : b < 256) {K : Int → World → Prop} (hK : K (cl b) w) : dfa_Dfa_Class.C d b w K := by
  refine dfa_Dfa_Class.ok _ _ _ _ ?_
  simp only [dfa_Dfa_Class.M]
  rcases h with ⟨rfl, _, rfl, rfl⟩ | ⟨bd, p, l, rfl, h2, h3, h4⟩
  · exact hK
  · refine ⟨⟨by omega, by omega⟩, ?_⟩
    show Ld _ _ _ _
    rw [add_eq, add_eq, Nat.mul_one, Int.toNat_natCast, Nat.zero_add]
    refine Ld.int (cell_of h2.2 ?_) hK
    rw [List.getElem?_toArray, Nat.add_comm]
    show (row256 cl ++ [_])[b]? = _
    rw [List.getElem?_append_left (by rw [row256_len]; exact hb), row256_get hb]

theorem dfa_Run_spec (h : DfaO (V No w) d svs cl nc) {s : ByteArray} (hs : s.size ≤ 1000000) {K : (Int × Bool) → World → Prop} (hK : K (runFrom svs (bs s) (0, !d.isNone)) w) : dfa_Dfa_Run.C d s w K := by
  have hsz := size_bs s
  refine dfa_Dfa_Run.ok _ _ _ _ ?_
  simp only [dfa_Dfa_Run.M]
  refine Loop.mk (fun t w' => w' = w ∧ ∃ j : Nat, j ≤ s.size ∧ t.2.2 = (j : Int) ∧ runFrom svs ((bs s).drop j) (t.1, t.2.1) = runFrom svs (bs s) (0, !d.isNone)) (fun t => s.size - t.2.2.toNat) ⟨rfl, 0, by omega, rfl, by simp⟩ ?_
  rintro ⟨n, ok, jj⟩ w' ⟨rfl, j, hj, hjj, hrun⟩ R hR
  dsimp only at hjj hrun ⊢
  subst hjj
  refine Join.cut (fun (b : Bool) w'' => w'' = w' ∧ (b = true → j < s.size ∧ ok = true) ∧ (b = false → ¬ (j < s.size ∧ ok = true))) ?_ ?_
  · rintro b w'' ⟨rfl, g1, g2⟩
    refine Br.mk (fun hb => ?_) (fun hb => ?_)
    · obtain ⟨h1, rfl⟩ := g1 hb
      refine IdxStr.get (by omega) (by omega) fun c hc => ?_
      simp only [Int.toNat_natCast] at hc
      refine dfa_Next_spec h (by have := c.toNat_lt; omega) ?_
      rw [w64_eq (by omega)]
      refine hR _ _ ⟨rfl, j + 1, by omega, by simp, ?_⟩ (by dsimp only; omega)
      rw [← hrun]
      have hd : (bs s).drop j = c :: (bs s).drop (j + 1) := by
        have hlt := (List.getElem?_eq_some_iff.1 hc)
        obtain ⟨hl, he⟩ := hlt
        rw [List.drop_eq_getElem_cons hl, he]
      rw [hd]
      simp [runFrom]
    · have hno := g2 hb
      have : runFrom svs ((bs s).drop j) (n, ok) = (n, ok) := by
        by_cases h1 : j < s.size
        · have hok : ok = false := by cases ok with | false => rfl | true => exact absurd ⟨h1, rfl⟩ hno
          subst hok
          have : ∀ l : List UInt8, runFrom svs l (n, false) = (n, false) := by
            intro l
            induction l with
            | nil => rfl
            | cons c l ih => simpa [runFrom] using ih
          exact this _
        · rw [List.drop_of_length_le (by omega)]; rfl
      rw [← hrun, this] at hK
      exact hK
  · intro jk hjk
    refine Br.mk (fun hlt => ?_) (fun hlt => ?_)
    · have hlt : j < s.size := by have := of_decide_eq_true hlt; omega
      exact hjk _ _ ⟨rfl, fun e => ⟨hlt, e⟩, fun e h => by rw [h.2] at e; cases e⟩
    · have hlt : ¬ j < s.size := by have := of_decide_eq_false hlt; omega
      exact hjk _ _ ⟨rfl, (fun e => by cases e), fun _ h => hlt h.1⟩
end
end Go.Fk
end

section
set_option linter.unusedVariables false
namespace Go.Fk
open Go

/-! ## The reference: where matches end -/

def rowB (N : Nat) (f : Nat → Bool) : List Bool := (List.range N).map f
theorem rowB_len {N : Nat} {f : Nat → Bool} : (rowB N f).length = N := by simp [rowB]
theorem rowB_get {N : Nat} {f : Nat → Bool} {i : Nat} (h : i < N) : (rowB N f)[i]? = some (f i) := by simp [rowB, h]
theorem rowB_congr {N : Nat} {f g : Nat → Bool} (h : ∀ i, i < N → f i = g i) : rowB N f = rowB N g := List.map_congr_left fun i hi => h i (by simpa using hi)
theorem rowB_set {N : Nat} {f : Nat → Bool} {i : Nat} {v : Bool} : (rowB N f).set i v = rowB N fun j => if j = i then v else f j := by
  refine List.ext_getElem? fun j => ?_
  rw [List.getElem?_set]
  by_cases hj : j < N
  · rw [rowB_get hj, rowB_get hj, rowB_len]
    by_cases e : i = j
    · subst e; simp [hj]
    · simp [e, Ne.symm e]
  · have e1 : ∀ h : Nat → Bool, (rowB N h)[j]? = none := fun h => List.getElem?_eq_none (by rw [rowB_len]; omega)
    rw [e1, e1, rowB_len]
    by_cases e : i = j
    · subst e; simp [hj]
    · simp [e]
theorem rowB_none {N : Nat} : List.replicate N false = rowB N fun _ => false := by simp [rowB, List.map_const']

def cntB (f : Nat → Bool) : Nat → Nat
  | 0 => 0
  | n + 1 => cntB f n + (if f n then 1 else 0)
theorem cntB_le (f : Nat → Bool) (n : Nat) : cntB f n ≤ n := by
  induction n with
  | zero => exact Nat.le_refl _
  | succ n ih => simp only [cntB]; split <;> omega
theorem cntB_mono {f g : Nat → Bool} (h : ∀ i, f i = true → g i = true) (n : Nat) : cntB f n ≤ cntB g n := by
  induction n with
  | zero => exact Nat.le_refl _
  | succ n ih =>
    simp only [cntB]
    have := h n
    cases hf : f n <;> cases hg : g n <;> simp_all <;> omega
theorem cntB_lt {f g : Nat → Bool} (h : ∀ i, f i = true → g i = true) {n i : Nat} (hi : i < n) (h1 : f i = false) (h2 : g i = true) : cntB f n < cntB g n := by
  induction n with
  | zero => omega
  | succ n ih =>
    simp only [cntB]
    by_cases e : i = n
    · subst e
      have := cntB_mono h i
      simp [h1, h2]; omega
    · have := ih (by omega)
      have := h n
      cases hf : f n <;> cases hg : g n <;> simp_all <;> omega
theorem cntB_pos {f : Nat → Bool} {n i : Nat} (hi : i < n) (h : f i = true) : 0 < cntB f n := by
  have := cntB_lt (f := fun _ => false) (g := f) (fun i h => by cases h) hi rfl h
  omega

theorem IdxS.bool {M : Nat → Prop} {w : World} {l : Sl} {N : Nat} {f : Nat → Bool} {i : Nat} {K : Bool → Prop} (h : SlT .bool (V M w) l (rowB N f)) (hi : i < N) (hk : K (f i)) : IdxS l (i : Int) 1 fun p => Ld .bool p w K := by
  refine IdxS.get h (by omega) (by rw [rowB_len]; omega) fun x hx => ?_
  rw [Int.toNat_natCast, rowB_get hi] at hx
  cases hx; exact hk
theorem IdxS.putB {N : Nat} {f : Nat → Bool} {w : World} {b : Nat} {c i : Nat} {v : Bool} {k : World → Prop} (h : w.heap[b]? = some (rowObj .bool tBool (rowB N f))) (hi : i < N)
    (hk : ∀ w', Upd b (rowObj .bool tBool (rowB N fun j => if j = i then v else f j)) w w' → k w') : IdxS ⟨some ⟨b, 0, none⟩, N, c⟩ (i : Int) 1 fun p => St p (.bool v) w k := by
  refine IdxS.put (t := .bool) (v := v) h (by omega) (by omega) rowB_len.symm fun w' u => hk w' ?_
  rw [Int.toNat_natCast, rowB_set] at u
  exact u

theorem IdxA.bit {w : World} {b : Nat} {v : NV} {c : UInt8} {k : Bool → Prop} (hb : w.heap[b]? = some (nodeObj v)) (hk : k (v.B c.toNat)) : IdxA 256 ⟨b, 1, none⟩ (c.toNat : Int) 1 fun p => Ld .bool p w k := by
  have := c.toNat_lt
  refine ⟨⟨by omega, by omega⟩, ?_⟩
  rw [add_eq, Int.toNat_natCast, Nat.mul_one]
  exact Ld.bool (cell_of hb (by rw [List.getElem?_toArray]; exact v.getB (by omega))) hk

/-- One byte further. -/
def stepB (s : List UInt8) (B f : Nat → Bool) : Nat → Bool
  | 0 => false
  | i + 1 => f i && (match s[i]? with | some c => B c.toNat | none => false)
theorem stepB_some {s : List UInt8} {B f : Nat → Bool} {i : Nat} {c : UInt8} (h : s[i]? = some c) : stepB s B f (i + 1) = (f i && B c.toNat) := by simp only [stepB, h]

/-- The ends of an expression's matches. -/
def EndsOf (s : List UInt8) (x : Re) (N : Nat) (f g : Nat → Bool) : Prop := ∀ j, j < N → (g j = true ↔ ∃ i, i < N ∧ f i = true ∧ x.m s i j)

theorem Ends_spec : ∀ (n : Nat) (x : Re), x.size ≤ n → ∀ {w : World} {v : NV} {s : ByteArray} {l : Sl} {f : Nat → Bool} {K : Sl → World → Prop}, s.size ≤ 1000000 → RNd (V No w) v x → SlT .bool (V No w) l (rowB (s.size + 1) f) →
    (∀ l' g w', Keeps No w w' → SlT .bool (V (LtV w.heap.size) w') l' (rowB (s.size + 1) g) → EndsOf (bs s) x (s.size + 1) f g → K l' w') → frisketref05_Ends.C v.cells.toArray s l w K := by
  intro n
  induction n with
  | zero => intro x hx; have := size_pos x; omega
  | succ n ih =>
    intro x hx w v s l f K hs h hl hK
    have hsz := size_bs s
    refine frisketref05_Ends.ok _ _ _ _ _ ?_
    simp only [frisketref05_Ends.M]
    refine Al.mk fun b1 w1 n1 => ?_
    rw [w64_eq (by omega)]
    have eN : ((s.size : Int) + 1) = ((s.size + 1 : Nat) : Int) := by omega
    rw [eN]
    refine App.make1 (t := .bool) (z := false) elBool rfl (by omega) (by omega) fun b2 w2 n2 => ?_
    have k02 : Keeps No w w2 := n1.keeps.trans n2.keeps
    have e1 := n1.eq; have e2 := n2.eq; have z1 := n1.size; have z2 := n2.size
    have hb1 : w2.heap[b1]? = some (nodeObj v) := n2.keeps.blk0 n1.at_
    have hb2 : w2.heap[b2]? = some (rowObj .bool tBool (rowB (s.size + 1) fun _ => false)) := by rw [← rowB_none]; exact n2.at_
    have hl2 := hl.mono (V.keeps0 k02)
    have N1 : 0 < s.size + 1 := by omega
    have fin : ∀ {w' : World} {g : Nat → Bool}, Keeps (· = b2) w2 w' → w'.heap[b2]? = some (rowObj .bool tBool (rowB (s.size + 1) g)) → EndsOf (bs s) x (s.size + 1) f g → K ⟨some ⟨b2, 0, none⟩, s.size + 1, s.size + 1⟩ w' := by
      intro w' g k hb hg
      exact hK _ g w' ((k02.no (M := No)).then k fun i hi e => by omega) (Row.sl hb (fun h => by have : b2 < w.heap.size := h; omega) rowB_len.symm) hg
    have hlk : ∀ {w' : World}, Keeps (· = b2) w2 w' → SlT .bool (V No w') l (rowB (s.size + 1) f) := fun {w'} k => hl.mono (V.keeps0 ((k02.no (M := No)).then k fun i hi e => by omega))
    refine Ld.int (cell_of hb1 (by rw [List.getElem?_toArray]; exact v.get0)) ?_
    cases h with
    | @set B =>
      refine Br.mk (fun _ => ?_) (fun h => by cases h)
      generalize hgd : stepB (bs s) B f = g
      refine Loop.mk (fun i w' => Keeps (· = b2) w2 w' ∧ ∃ k : Nat, k ≤ s.size ∧ i = (k : Int) ∧ w'.heap[b2]? = some (rowObj .bool tBool (rowB (s.size + 1) fun j => decide (j ≤ k) && g j))) (fun i => s.size - i.toNat) ⟨.refl, 0, by omega, rfl, ?_⟩ ?_
      · rw [hb2]
        congr 2
        rw [rowB_congr fun j hj => ?_]
        cases j with
        | zero => rw [← hgd]; rfl
        | succ j => simp
      rintro i w3 ⟨k3, k, hk, rfl, hr⟩ R hR
      refine Br.mk (fun ht => ?_) (fun hf => ?_)
      · have ht : k < s.size := by have := of_decide_eq_true ht; omega
        refine IdxS.bool (hlk k3) (by omega) ?_
        have e3 : w64 ((k : Int) + 1) = ((k + 1 : Nat) : Int) := by rw [w64_eq (by omega)]; omega
        have hput : ∀ {v : Bool} {w' : World}, v = g (k + 1) → Upd b2 (rowObj .bool tBool (rowB (s.size + 1) fun j => if j = k + 1 then v else (decide (j ≤ k) && g j))) w3 w' → R (w64 ((k : Int) + 1)) w' := by
          intro v w' hv u
          rw [e3]
          refine hR _ w' ⟨k3.trans u.keeps, k + 1, by omega, rfl, ?_⟩ (by omega)
          rw [u.at_]
          congr 2
          rw [rowB_congr fun j hj => ?_]
          by_cases e : j = k + 1
          · subst e; simp [hv]
          · have : decide (j ≤ k) = decide (j ≤ k + 1) := by rw [decide_eq_decide]; omega
            simp [e, this]
        rw [e3] at hput ⊢
        refine Br.mk (fun hb => ?_) (fun hb => ?_)
        · refine IdxStr.get (by omega) (by omega) fun c hc => ?_
          refine IdxA.bit (k3.blk hb1 (by omega)) ?_
          refine IdxS.putB hr (by omega) fun w4 u4 => hput ?_ u4
          simp only [Int.toNat_natCast] at hc
          rw [← hgd, stepB_some hc, hb]; rfl
        · refine IdxS.putB hr (by omega) fun w4 u4 => hput ?_ u4
          rw [← hgd]
          simp [stepB, hb]
      · have hf : k = s.size := by have := of_decide_eq_false hf; omega
        subst hf
        refine fin k3 hr fun j hj => ?_
        have : decide (j ≤ s.size) = true := by rw [decide_eq_true_iff]; omega
        simp only [this, Bool.true_and]
        constructor
        · intro hg
          subst hgd
          cases j with
          | zero => cases hg
          | succ i =>
            cases hc : (bs s)[i]? with
            | none => simp [stepB, hc] at hg
            | some c =>
              rw [stepB_some hc, Bool.and_eq_true] at hg
              exact ⟨i, by omega, hg.1, rfl, c, hc, hg.2⟩
        · rintro ⟨i, hi, hfi, rfl, c, hc, hB⟩
          rw [← hgd, stepB_some hc, hfi, hB]; rfl
    | empty =>
      refine Br.mk (fun h => by cases h) (fun _ => Br.mk (fun _ => ?_) (fun h => by cases h))
      refine App.copy1 (t := .bool) elBool hb2 rowB_len.symm hl2 (by rw [rowB_len, rowB_len]) (by intro e; have := congrArg List.length e; rw [rowB_len] at this; simp at this) (fun y _ => rfl) fun w3 u3 => ?_
      refine fin u3.keeps u3.at_ fun j hj => ?_
      constructor
      · intro h; exact ⟨j, hj, h, rfl⟩
      · rintro ⟨i, hi, h, rfl⟩; exact h
    | @cat b va vb xa xb hc ha hb =>
      refine Br.mk (fun h => by cases h) (fun _ => Br.mk (fun h => by cases h) (fun _ => Br.mk (fun _ => ?_) (fun h => by cases h)))
      simp only [Re.size] at hx
      refine ⟨fun x => Keeps No w2 x, Keeps.drew, ?_⟩
      have hS : ∀ w', Keeps No w2 w' → Vle (V No w2) (V No w') := fun w' k => V.keeps0 k
      have ld : ∀ {k : Sl → Prop}, k ⟨some ⟨b, 0, none⟩, 2, 2⟩ → LdS (fun x => Keeps No w2 x) .sl ⟨b1, 257, none⟩ k := fun {k} h => LdS.of (t := .sl) (v := ⟨some ⟨b, 0, none⟩, 2, 2⟩) (fun w' hw' => cell_of (hw'.blk0 hb1) (by rw [List.getElem?_toArray]; exact NV.getL _)) h
      have hrow : SlC (V No w2) ⟨some ⟨b, 0, none⟩, 2, 2⟩ 258 ([va, vb].map NV.cells) := (cells2 hc).mono (V.keeps0 k02)
      refine ld (IdxS.nodeS hrow hS (by omega) (by simp) fun u hu => ld (IdxS.nodeS hrow hS (by omega) (by simp) fun u' hu' => ?_))
      simp at hu hu'
      subst hu hu'
      have kd : Keeps No w w2.drew := k02.trans .drew
      refine ih xa (by omega) hs (ha.mono (V.keeps0 kd)) (hl.mono (V.keeps0 kd)) fun l1 g1 w4 k4 hl1 he1 => ⟨Keeps.drew.trans k4, ?_⟩
      have zd := kd.size; have z4 := k4.size
      refine ih xb (by omega) hs (hb.mono (V.keeps0 (kd.trans k4))) (hl1.mono (V.sub fun _ _ h => h.elim)) fun l2 g2 w5 k5 hl2 he2 => ⟨(Keeps.drew.trans k4).trans k5, ?_⟩
      refine hK l2 g2 w5 ((kd.trans k4).trans k5) (hl2.mono (V.sub fun c _ hc => by have : c < w.heap.size := hc; show c < w4.heap.size; omega)) fun j hj => ?_
      rw [he2 j hj]
      constructor
      · rintro ⟨k, hk, hgk, hm⟩
        obtain ⟨i, hi, hfi, hm2⟩ := (he1 k hk).1 hgk
        exact ⟨i, hi, hfi, k, hm2, hm⟩
      · rintro ⟨i, hi, hfi, k, hm1, hm2⟩
        have hk : k < s.size + 1 := by have := Re.m_le hm1; omega
        exact ⟨k, hk, (he1 k hk).2 ⟨i, hi, hfi, hm1⟩, hm2⟩
    | @or b va vb xa xb hc ha hb =>
      refine Br.mk (fun h => by cases h) (fun _ => Br.mk (fun h => by cases h) (fun _ => Br.mk (fun h => by cases h) (fun _ => Br.mk (fun _ => ?_) (fun h => by cases h))))
      simp only [Re.size] at hx
      refine ⟨fun x => Keeps No w2 x, Keeps.drew, ?_⟩
      have hS : ∀ w', Keeps No w2 w' → Vle (V No w2) (V No w') := fun w' k => V.keeps0 k
      have ld : ∀ {k : Sl → Prop}, k ⟨some ⟨b, 0, none⟩, 2, 2⟩ → LdS (fun x => Keeps No w2 x) .sl ⟨b1, 257, none⟩ k := fun {k} h => LdS.of (t := .sl) (v := ⟨some ⟨b, 0, none⟩, 2, 2⟩) (fun w' hw' => cell_of (hw'.blk0 hb1) (by rw [List.getElem?_toArray]; exact NV.getL _)) h
      have hrow : SlC (V No w2) ⟨some ⟨b, 0, none⟩, 2, 2⟩ 258 ([va, vb].map NV.cells) := (cells2 hc).mono (V.keeps0 k02)
      refine ld (IdxS.nodeS hrow hS (by omega) (by simp) fun u hu => ld (IdxS.nodeS hrow hS (by omega) (by simp) fun u' hu' => ?_))
      simp at hu hu'
      subst hu hu'
      have kd : Keeps No w w2.drew := k02.trans .drew
      refine ih xa (by omega) hs (ha.mono (V.keeps0 kd)) (hl.mono (V.keeps0 kd)) fun l1 g1 w4 k4 hl1 he1 => ⟨Keeps.drew.trans k4, ?_⟩
      refine ih xb (by omega) hs (hb.mono (V.keeps0 (kd.trans k4))) (hl.mono (V.keeps0 (kd.trans k4))) fun l2 g2 w5 k5 hl2 he2 => ⟨(Keeps.drew.trans k4).trans k5, ?_⟩
      have k25 : Keeps No w2 w5 := (Keeps.drew.trans k4).trans k5
      have z5 := k25.size
      refine Loop.mk (fun i w' => Keeps (· = b2) w5 w' ∧ ∃ k : Nat, k ≤ s.size + 1 ∧ i = (k : Int) ∧ w'.heap[b2]? = some (rowObj .bool tBool (rowB (s.size + 1) fun j => decide (j < k) && (g1 j || g2 j)))) (fun i => s.size + 1 - i.toNat) ⟨.refl, 0, by omega, rfl, ?_⟩ ?_
      · rw [k25.blk0 hb2]
        congr 2
      rintro i w6 ⟨k6, k, hk, rfl, hr⟩ R hR
      have k56 : Keeps No w w6 := (((kd.trans k4).trans k5).no (M := No)).then k6 fun i hi e => by omega
      refine Br.mk (fun ht => ?_) (fun hf => ?_)
      · have ht : k < s.size + 1 := by have := of_decide_eq_true ht; omega
        have hl1' : SlT .bool (V (fun c => c = b2) w6) l1 (rowB (s.size + 1) g1) := hl1.mono (V.move ((k5.no (M := (· = b2))).trans k6) (fun c _ hc => by show c < w2.heap.size; omega) (fun c _ hc => by have : c = b2 := hc; show c < w2.heap.size; omega))
        have hl2' : SlT .bool (V (fun c => c = b2) w6) l2 (rowB (s.size + 1) g2) := hl2.mono (V.move k6 (fun c _ hc => by have := k4.size; have : w2.heap.size ≤ w4.heap.size := (Keeps.drew.trans k4).size; show c < w4.heap.size; omega) (fun c _ hc => by have : c = b2 := hc; have : w2.heap.size ≤ w4.heap.size := (Keeps.drew.trans k4).size; show c < w4.heap.size; omega))
        have e3 : w64 ((k : Int) + 1) = ((k + 1 : Nat) : Int) := by rw [w64_eq (by omega)]; omega
        have hput : ∀ {v : Bool} {w' : World}, v = (g1 k || g2 k) → Upd b2 (rowObj .bool tBool (rowB (s.size + 1) fun j => if j = k then v else (decide (j < k) && (g1 j || g2 j)))) w6 w' → R (w64 ((k : Int) + 1)) w' := by
          intro v w' hv u
          rw [e3]
          refine hR _ w' ⟨k6.trans u.keeps, k + 1, by omega, rfl, ?_⟩ (by omega)
          rw [u.at_]
          congr 2
          rw [rowB_congr fun j hj => ?_]
          by_cases e : j = k
          · subst e; simp [hv]
          · have : decide (j < k) = decide (j < k + 1) := by rw [decide_eq_decide]; omega
            simp [e, this]
        refine IdxS.bool hl1' ht ?_
        refine Br.mk (fun h1 => ?_) (fun h1 => ?_)
        · exact IdxS.putB hr ht fun w7 u7 => hput (by simp [h1]) u7
        · refine IdxS.bool hl2' ht ?_
          exact IdxS.putB hr ht fun w7 u7 => hput (by simp [h1]) u7
      · have hf : k = s.size + 1 := by have := of_decide_eq_false hf; omega
        subst hf
        refine hK _ _ w6 k56 (Row.sl hr (fun h => by have : b2 < w.heap.size := h; omega) rowB_len.symm) fun j hj => ?_
        have : decide (j < s.size + 1) = true := by rw [decide_eq_true_iff]; omega
        simp only [this, Bool.true_and, Bool.or_eq_true]
        rw [he1 j hj, he2 j hj]
        constructor
        · rintro (⟨i, hi, hfi, hm⟩ | ⟨i, hi, hfi, hm⟩)
          · exact ⟨i, hi, hfi, .inl hm⟩
          · exact ⟨i, hi, hfi, .inr hm⟩
        · rintro ⟨i, hi, hfi, hm | hm⟩
          · exact .inl ⟨i, hi, hfi, hm⟩
          · exact .inr ⟨i, hi, hfi, hm⟩
    | @star b va xa hc ha =>
      refine Br.mk (fun h => by cases h) (fun _ => Br.mk (fun h => by cases h) (fun _ => Br.mk (fun h => by cases h) (fun _ => Br.mk (fun h => by cases h) (fun _ => ?_))))
      simp only [Re.size] at hx
      have hrow : SlC (V No w) ⟨some ⟨b, 0, none⟩, 1, 1⟩ 258 ([va].map NV.cells) := cells1 hc
      refine App.copy1 (t := .bool) elBool hb2 rowB_len.symm hl2 (by rw [rowB_len, rowB_len]) (by intro e; have := congrArg List.length e; rw [rowB_len] at this; simp at this) (fun y _ => rfl) fun w3 u3 => ?_
      -- what is gathered
      refine Loop.mk (fun i w' => Keeps (· = b2) w2 w' ∧ ∃ (k : Nat) (g : Nat → Bool), k ≤ s.size + 1 ∧ i = (k : Int) ∧ w'.heap[b2]? = some (rowObj .bool tBool (rowB (s.size + 1) g)) ∧ (∀ j, j < s.size + 1 → g j = true → ∃ i, i < s.size + 1 ∧ f i = true ∧ Clo (xa.m (bs s)) i j) ∧ (∀ i, i < s.size + 1 → f i = true → g i = true) ∧ (0 < k → k < cntB g (s.size + 1))) (fun i => s.size + 1 - i.toNat)
        ⟨u3.keeps, 0, f, by omega, rfl, u3.at_, fun j hj h => ⟨j, hj, h, .refl⟩, fun i _ h => h, by omega⟩ ?_
      rintro i w4 ⟨k4, k, g, hk, rfl, hr, hg1, hg2, hg3⟩ R hR
      have k04 : Keeps No w w4 := (k02.no (M := No)).then k4 fun i hi e => by omega
      have hcle := cntB_le g (s.size + 1)
      refine Br.mk (fun ht => ?_) (fun hf => ?_)
      · have ht : k ≤ s.size := by have := of_decide_eq_true ht; omega
        refine Ld.sl (p := some ⟨b, 0, none⟩) (n := 1) (c := 1) (cell_of (k4.blk hb1 (by omega)) (by rw [List.getElem?_toArray]; exact NV.getL _)) ?_
        refine IdxS.node (M := No) (hrow.mono (V.keeps0 k04)) (by omega) (by simp) fun u hu => ?_
        simp at hu
        subst hu
        refine ih xa (by omega) hs (ha.mono (V.keeps0 k04)) (Row.sl hr id rowB_len.symm) fun l5 g5 w5 k5 hl5 he5 => ?_
        have z4 := lt_of_some hr
        -- one round
        refine Loop.mk (fun (t : Bool × Int) w' => Keeps (· = b2) w5 w' ∧ ∃ q : Nat, q ≤ s.size + 1 ∧ t.2 = (q : Int) ∧ (t.1 = true ↔ ∃ j, j < q ∧ g5 j = true ∧ g j = false) ∧ w'.heap[b2]? = some (rowObj .bool tBool (rowB (s.size + 1) fun j => if j < q then g j || g5 j else g j))) (fun t => s.size + 1 - t.2.toNat)
          ⟨.refl, 0, by omega, rfl, by simp, ?_⟩ ?_
        · rw [k5.blk0 hr]
          rw [rowB_congr fun j hj => ?_]
          simp
        rintro ⟨more, qq⟩ w6 ⟨k6, q, hq, hqq, hmore, hr6⟩ R2 hR2
        dsimp only at hqq hmore
        subst hqq
        have k46 : Keeps (· = b2) w4 w6 := (k5.no (M := (· = b2))).trans k6
        dsimp only
        refine Br.mk (fun ht2 => ?_) (fun hf2 => ?_)
        · have ht2 : q < s.size + 1 := by have := of_decide_eq_true ht2; omega
          have hl6 : SlT .bool (V (fun c => c = b2) w6) l5 (rowB (s.size + 1) g5) := hl5.mono (V.move k6 (fun c _ hc => by show c < w4.heap.size; omega) (fun c _ hc => by have : c = b2 := hc; show c < w4.heap.size; omega))
          have hrq : SlT .bool (V No w6) ⟨some ⟨b2, 0, none⟩, s.size + 1, s.size + 1⟩ (rowB (s.size + 1) fun j => if j < q then g j || g5 j else g j) := Row.sl hr6 id rowB_len.symm
          have hgq : (if q < q then g q || g5 q else g q) = g q := by simp
          have e3 : w64 ((q : Int) + 1) = ((q + 1 : Nat) : Int) := by rw [w64_eq (by omega)]; omega
          refine Join.cut (fun (b : Bool) w' => w' = w6 ∧ (b = true ↔ ∃ j, j < q + 1 ∧ g5 j = true ∧ g j = false)) ?_ ?_
          · rintro b w' ⟨rfl, hb⟩
            have hput : ∀ {v : Bool} {w7 : World}, v = (g q || g5 q) → Upd b2 (rowObj .bool tBool (rowB (s.size + 1) fun j => if j = q then v else (if j < q then g j || g5 j else g j))) w' w7 → R2 (b, w64 ((q : Int) + 1)) w7 := by
              intro v w7 hv u
              rw [e3]
              refine hR2 _ w7 ⟨k6.trans u.keeps, q + 1, by omega, rfl, hb, ?_⟩ (by dsimp only; omega)
              rw [u.at_]
              rw [rowB_congr fun j hj => ?_]
              by_cases e : j = q
              · subst e; simp [hv]
              · by_cases e2 : j < q
                · have : j < q + 1 := by omega
                  simp [e, e2, this]
                · have : ¬ j < q + 1 := by omega
                  simp [e, e2, this]
            refine IdxS.bool hrq ht2 ?_
            simp only [Nat.lt_irrefl, if_false]
            refine Br.mk (fun h1 => ?_) (fun h1 => ?_)
            · exact IdxS.putB hr6 ht2 fun w7 u7 => hput (by simp [h1]) u7
            · refine IdxS.bool hl6 ht2 ?_
              exact IdxS.putB hr6 ht2 fun w7 u7 => hput (by simp [h1]) u7
          · intro j hj
            have step : (∃ j, j < q + 1 ∧ g5 j = true ∧ g j = false) ↔ (more = true ∨ (g5 q = true ∧ g q = false)) := by
              rw [hmore]
              constructor
              · rintro ⟨j, h1, h2, h3⟩
                by_cases e : j = q
                · subst e; exact .inr ⟨h2, h3⟩
                · exact .inl ⟨j, by omega, h2, h3⟩
              · rintro (⟨j, h1, h2, h3⟩ | ⟨h2, h3⟩)
                · exact ⟨j, by omega, h2, h3⟩
                · exact ⟨q, by omega, h2, h3⟩
            refine Br.mk (fun h1 => hj _ _ ⟨rfl, by rw [step]; simp [h1]⟩) (fun h1 => ?_)
            refine IdxS.bool hl6 ht2 (Br.mk (fun h2 => ?_) (fun h2 => hj _ _ ⟨rfl, by rw [step]; simp [h1, h2]⟩))
            refine IdxS.bool hrq ht2 ?_
            simp only [Nat.lt_irrefl, if_false]
            exact hj _ _ ⟨rfl, by rw [step]; simp [h1, h2]⟩
        · have hf2 : q = s.size + 1 := by have := of_decide_eq_false hf2; omega
          subst hf2
          have hr6' : w6.heap[b2]? = some (rowObj .bool tBool (rowB (s.size + 1) fun j => g j || g5 j)) := by
            rw [hr6, rowB_congr fun j hj => ?_]
            simp [hj]
          have k26 : Keeps (· = b2) w2 w6 := k4.trans k46
          refine Br.mk (fun hm => ?_) (fun hm => ?_)
          · -- nothing more
            have hm : more = false := by simpa using hm
            subst hm
            have hle : ∀ j, j < s.size + 1 → g5 j = true → g j = true := fun j hj h => by
              cases hgj : g j with
              | true => rfl
              | false => have := hmore.2 ⟨j, hj, h, hgj⟩; cases this
            have hr7 : w6.heap[b2]? = some (rowObj .bool tBool (rowB (s.size + 1) g)) := by
              rw [hr6', rowB_congr fun j hj => ?_]
              have := hle j hj
              cases h5 : g5 j with
              | false => rw [Bool.or_false]
              | true => rw [this h5]; rfl
            refine fin k26 hr7 fun j hj => ?_
            constructor
            · exact hg1 j hj
            · rintro ⟨i, hi, hfi, hm⟩
              change Clo (xa.m (bs s)) i j at hm
              induction hm with
              | refl => exact hg2 i hi hfi
              | @snoc j k hc r ih2 =>
                have hjk := Re.m_le r
                have hcl := Re.m_le (x := .star xa) (i := i) (j := j) hc
                exact hle k hj ((he5 k hj).2 ⟨j, by omega, ih2 (by omega), r⟩)
          · have hm : more = true := by simpa using hm
            subst hm
            obtain ⟨j0, h01, h02, h03⟩ := hmore.1 rfl
            have e3 : w64 ((k : Int) + 1) = ((k + 1 : Nat) : Int) := by rw [w64_eq (by omega)]; omega
            rw [e3]
            refine hR _ w6 ⟨k26, k + 1, fun j => g j || g5 j, by omega, rfl, hr6', fun j hj h => ?_, fun i hi h => by simp [hg2 i hi h], fun _ => ?_⟩ (by omega)
            · rcases (Bool.or_eq_true _ _).mp h with h | h
              · exact hg1 j hj h
              · obtain ⟨i, hi, hgi, hm⟩ := (he5 j hj).1 h
                obtain ⟨i0, hi0, hf0, hc0⟩ := hg1 i hi hgi
                exact ⟨i0, hi0, hf0, .snoc hc0 hm⟩
            · have h1 := cntB_lt (f := g) (g := fun j => g j || g5 j) (fun i h => by simp [h]) h01 h03 (by simp [h02])
              obtain ⟨i, hi, hgi, _⟩ := (he5 j0 h01).1 h02
              have := cntB_pos hi hgi
              by_cases hk0 : k = 0
              · subst hk0; omega
              · have := hg3 (by omega); omega
      · have hf : k = s.size + 1 := by have := of_decide_eq_false hf; omega
        have := hg3 (by omega)
        omega
end Go.Fk
end

section
set_option linter.unusedVariables false
namespace Go.Fk
open Go

theorem Matches_spec {w : World} {v : NV} {x : Re} {s : ByteArray} {K : Bool → World → Prop} (hs : s.size ≤ 1000000) (h : RNd (V No w) v x) (hK : ∀ r w', Keeps No w w' → (r = true ↔ x.m (bs s) 0 s.size) → K r w') : frisketref05_Matches.C v.cells.toArray s w K := by
  refine frisketref05_Matches.ok _ _ _ _ ?_
  simp only [frisketref05_Matches.M]
  refine Al.mk fun b1 w1 n1 => ?_
  rw [w64_eq (by omega)]
  have eN : ((s.size : Int) + 1) = ((s.size + 1 : Nat) : Int) := by omega
  rw [eN]
  refine App.make1 (t := .bool) (z := false) elBool rfl (by omega) (by omega) fun b2 w2 n2 => ?_
  have k02 : Keeps No w w2 := n1.keeps.trans n2.keeps
  have e1 := n1.eq; have e2 := n2.eq; have z1 := n1.size; have z2 := n2.size
  have hb1 : w2.heap[b1]? = some (nodeObj v) := n2.keeps.blk0 n1.at_
  have hb2 : w2.heap[b2]? = some (rowObj .bool tBool (rowB (s.size + 1) fun _ => false)) := by rw [← rowB_none]; exact n2.at_
  refine IdxS.putB (i := 0) hb2 (by omega) fun w3 u3 => ?_
  have k03 : Keeps No w w3 := u3.keeps0 k02 (by omega)
  refine LdA.node (u3.keeps.blk hb1 (by omega)) ?_
  refine Ends_spec x.size x (Nat.le_refl _) hs (h.mono (V.keeps0 k03)) (Row.sl u3.at_ id rowB_len.symm) fun l g w4 k4 hl he => ?_
  refine IdxS.bool (i := s.size) hl (by omega) ?_
  refine hK _ w4 (k03.trans k4) ?_
  rw [he s.size (by omega)]
  constructor
  · rintro ⟨i, hi, hf, hm⟩
    by_cases e : i = 0
    · subst e; exact hm
    · simp [e] at hf
  · intro hm; exact ⟨0, by omega, by simp, hm⟩

theorem All2.get2 {α β : Type} {R : α → β → Prop} {l : List α} {m : List β} (x : All2 R l m) : ∀ (i : Nat) (b : β), m[i]? = some b → ∃ a, l[i]? = some a ∧ R a b := by
  induction x with
  | nil => intro i a h; simp at h
  | cons hd _ ih =>
    intro i a h
    cases i with
    | zero => simp at h; subst h; exact ⟨_, rfl, hd⟩
    | succ i => simp at h; simpa using ih i a h

end Go.Fk
end

section
set_option linter.unusedVariables false
namespace Go.Fk
open Go

/-! ## How many states there can be -/

theorem nodup_le {α : Type} [DecidableEq α] : ∀ (l m : List α), l.Nodup → (∀ x ∈ l, x ∈ m) → l.length ≤ m.length
  | [], m, _, _ => by simp
  | a :: l, m, hn, h => by
    rw [List.nodup_cons] at hn
    have ha := h a (by simp)
    have := nodup_le l (m.erase a) hn.2 fun x hx => by
      have hne : x ≠ a := fun e => hn.1 (e ▸ hx)
      exact (List.mem_erase_of_ne hne).2 (h x (by simp [hx]))
    rw [List.length_erase_of_mem ha] at this
    have : 0 < m.length := List.length_pos_of_mem ha
    simp; omega

def allR : Nat → List (List Int)
  | 0 => [[]]
  | n + 1 => allR n ++ (allR n).map (· ++ [(n : Int)])
theorem allR_len (n : Nat) : (allR n).length = 2 ^ n := by
  induction n with
  | zero => rfl
  | succ n ih => simp [allR, ih, Nat.pow_succ]; omega
theorem allR_mem (n : Nat) : ∀ xs : List Int, xs.Pairwise (· < ·) → (∀ q ∈ xs, 0 ≤ q ∧ q < n) → xs ∈ allR n := by
  induction n with
  | zero =>
    intro xs _ h
    cases xs with
    | nil => simp [allR]
    | cons a l => have := h a (by simp); omega
  | succ n ih =>
    intro xs hp h
    simp only [allR, List.mem_append, List.mem_map]
    rcases List.eq_nil_or_concat xs with rfl | ⟨ys, z, rfl⟩
    · exact .inl (ih [] .nil (by simp))
    · rw [List.concat_eq_append] at hp h ⊢
      rw [List.pairwise_append] at hp
      have hz := h z (by simp)
      by_cases e : z = n
      · subst e
        refine .inr ⟨ys, ih ys hp.1 fun q hq => ?_, rfl⟩
        have h1 := h q (by simp [hq])
        have h2 := hp.2.2 q hq (n : Int) (by simp)
        omega
      · refine .inl (ih _ (List.pairwise_append.2 hp) fun q hq => ?_)
        have h1 := h q hq
        rcases List.mem_append.1 hq with hq | hq
        · have h2 := hp.2.2 q hq z (by simp); omega
        · simp at hq; subst hq; omega

theorem Sts.few {fs : List ((Nat → Bool) × Int)} {ks : List Kn} {svs : List DSt} (h : Sts fs ks svs) : svs.length ≤ 2 ^ fs.length := by
  have hn : (svs.map DSt.xs).Nodup := by
    rw [List.Nodup, List.pairwise_iff_getElem]
    intro i j hi hj hij he
    simp at hi hj
    have := h.inj i j svs[i] svs[j] (List.getElem?_eq_getElem hi) (List.getElem?_eq_getElem hj) (by simpa using he)
    omega
  have := nodup_le (svs.map DSt.xs) (allR fs.length) hn fun x hx => by
    obtain ⟨sv, hs, rfl⟩ := List.mem_map.1 hx
    exact allR_mem _ _ (h.rise sv hs).1 (h.rise sv hs).2
  rw [allR_len, List.length_map] at this
  exact this

/-! ## The law of a run -/

def NowS (fs : List ((Nat → Bool) × Int)) (F : Int → Int → Prop) (ks : List Kn) (s : List UInt8) (t : Nat) (q : Int) : Prop := ∃ r : Nat, r < ks.length ∧ nowP fs F (knAt ks r) s t q

section
variable {fs : List ((Nat → Bool) × Int)} {F : Int → Int → Prop} {ks : List Kn} {svs : List DSt} {cl : Nat → Int} {nc : Int} {s : List UInt8}

theorem step_zero {c : UInt8} (hc : s[0]? = some c) {q : Int} : stepS fs F ks [] c.toNat q ↔ NowS fs F ks s 1 q := by
  unfold stepS NowS nextSet
  constructor
  · rintro ⟨⟨_, r, hr, hf⟩ | ⟨p, hp, _⟩, hh⟩
    · exact ⟨r, hr, (nowP_succ hc).2 ⟨.inl ⟨rfl, hf⟩, hh⟩⟩
    · simp at hp
  · rintro ⟨r, hr, hn⟩
    obtain ⟨hx, hh⟩ := (nowP_succ hc).1 hn
    rcases hx with ⟨_, hf⟩ | ⟨p, hp, _⟩
    · exact ⟨.inl ⟨rfl, r, hr, hf⟩, hh⟩
    · exact (nowP_zero hp).elim
theorem step_succ {t : Nat} {c : UInt8} (hc : s[t + 1]? = some c) {xs : List Int} (hne : xs ≠ []) (hx : ∀ q, q ∈ xs ↔ NowS fs F ks s (t + 1) q) {q : Int} : stepS fs F ks xs c.toNat q ↔ NowS fs F ks s (t + 2) q := by
  unfold stepS nextSet
  constructor
  · rintro ⟨⟨h0, _⟩ | ⟨p, hp, hf⟩, hh⟩
    · exact absurd h0 hne
    · obtain ⟨r, hr, hn⟩ := (hx p).1 hp
      exact ⟨r, hr, (nowP_succ hc).2 ⟨nextP_succ.2 ⟨p, hn, hf⟩, hh⟩⟩
  · rintro ⟨r, hr, hn⟩
    obtain ⟨h1, hh⟩ := (nowP_succ hc).1 hn
    obtain ⟨p, hp, hf⟩ := nextP_succ.1 h1
    exact ⟨.inr ⟨p, (hx p).2 ⟨r, hr, hp⟩, hf⟩, hh⟩

/-- Where a beginning of a text has led. -/
def StateOf (fs : List ((Nat → Bool) × Int)) (F : Int → Int → Prop) (ks : List Kn) (svs : List DSt) (s : List UInt8) (t : Nat) (st : Int × Bool) : Prop :=
  (t = 0 ∧ st = (0, true)) ∨ (0 < t ∧ ((∃ (i : Nat) (sv : DSt), st = ((i : Int), true) ∧ 0 < i ∧ svs[i]? = some sv ∧ ∀ q, q ∈ sv.xs ↔ NowS fs F ks s t q) ∨ (st = (0, false) ∧ ∀ q, ¬ NowS fs F ks s t q)))

theorem runFrom_snoc (l : List UInt8) (c : UInt8) (st : Int × Bool) : runFrom svs (l ++ [c]) st = if (runFrom svs l st).2 = true then nextOf svs (runFrom svs l st).1 c.toNat else runFrom svs l st := by
  unfold runFrom
  rw [List.foldl_append]
  rfl

theorem now_dead {t : Nat} (h : ∀ q, ¬ NowS fs F ks s (t + 1) q) : ∀ q, ¬ NowS fs F ks s (t + 2) q := by
  rintro q ⟨r, hr, p, hp, hpth⟩
  generalize hj : t + 2 = j at hpth
  cases hpth with
  | one => omega
  | snoc t' f hc hh =>
    rename_i j' q0 c
    have : j' = t + 1 := by omega
    subst this
    exact h _ ⟨r, hr, p, hp, t'⟩

theorem run_state (h : DfaOK fs F ks svs cl nc) : ∀ t, t ≤ s.length → StateOf fs F ks svs s t (runFrom svs (s.take t) (0, true)) := by
  intro t
  induction t with
  | zero => intro _; exact .inl ⟨rfl, by simp [runFrom]⟩
  | succ t ih =>
    intro ht
    have hst := ih (by omega)
    have hc : s[t]? = some s[t] := List.getElem?_eq_getElem (by omega)
    generalize s[t] = c at hc
    have htk : s.take (t + 1) = s.take t ++ [c] := by rw [List.take_add_one, hc]; rfl
    rw [htk, runFrom_snoc]
    have hc256 : c.toNat < 256 := by have := c.toNat_lt; omega
    -- one step from a state
    have step : ∀ (i : Nat) (sv : DSt), svs[i]? = some sv → (∀ q, stepS fs F ks sv.xs c.toNat q ↔ NowS fs F ks s (t + 1) q) → StateOf fs F ks svs s (t + 1) (nextOf svs i c.toNat) := by
      intro i sv hi hq
      have hat : stAt svs (i : Int) = some sv := stAt_in (by omega) (by simpa using hi)
      right
      refine ⟨by omega, ?_⟩
      rcases h.good (List.mem_of_getElem? hi) hc256 with ⟨h1, h2⟩ | ⟨k, sv', hk, hk2, hk3, hk4⟩
      · right
        exact ⟨by simp [nextOf, hat, h1], fun q hn => h2 q ((hq q).2 hn)⟩
      · left
        refine ⟨k, sv', ?_, hk, hk3, fun q => by rw [hk4, hq]⟩
        have : ¬ (k : Int) = -1 := by omega
        simp [nextOf, hat, this, hk2]
    rcases hst with ⟨rfl, e⟩ | ⟨h0, ⟨i, sv, e, hi0, hi, hq⟩ | ⟨e, hq⟩⟩
    · rw [e, if_pos rfl]
      obtain ⟨sv, g1, g2⟩ := h.sts.zero
      exact step 0 sv g1 fun q => by rw [g2]; exact step_zero hc
    · rw [e, if_pos rfl]
      obtain ⟨t', rfl⟩ : ∃ k, t = k + 1 := ⟨t - 1, by omega⟩
      exact step i sv hi fun q => step_succ hc (h.sts.ne i sv hi hi0) hq
    · rw [e]
      obtain ⟨t', rfl⟩ : ∃ k, t = k + 1 := ⟨t - 1, by omega⟩
      exact .inr ⟨by omega, .inr ⟨rfl, now_dead hq⟩⟩
end

/-- The least number below n that is so; -1: there is none. -/
def LeastI (M : Nat → Prop) (n : Nat) (a : Int) : Prop := (a = -1 ∧ ∀ i, i < n → ¬ M i) ∨ ∃ i : Nat, i < n ∧ a = i ∧ M i ∧ ∀ j, j < n → M j → i ≤ j
theorem LeastI.one {M : Nat → Prop} {n : Nat} {a b : Int} (h : LeastI M n a) (h' : LeastI M n b) : a = b := by
  rcases h with ⟨rfl, h1⟩ | ⟨i, hi, rfl, h2, h3⟩ <;> rcases h' with ⟨rfl, g1⟩ | ⟨j, hj, rfl, g2, g3⟩
  · rfl
  · exact absurd g2 (h1 j hj)
  · exact absurd h2 (g1 i hi)
  · have := h3 j hj g2; have := g3 i hi h2; omega
theorem LeastI.congr {M M' : Nat → Prop} {n : Nat} {a : Int} (h : LeastI M n a) (e : ∀ i, i < n → (M i ↔ M' i)) : LeastI M' n a := by
  rcases h with ⟨rfl, h1⟩ | ⟨i, hi, rfl, h2, h3⟩
  · exact .inl ⟨rfl, fun i hi h => h1 i hi ((e i hi).2 h)⟩
  · exact .inr ⟨i, hi, rfl, (e i hi).1 h2, fun j hj h => h3 j hj ((e j hj).2 h)⟩

def Means (ys : List Re) (s : List UInt8) (t : Nat) (i : Nat) : Prop := ∃ y, ys[i]? = some y ∧ y.m s 0 t

section
variable {ys : List Re} {svs : List DSt} {cl : Nat → Int} {nc : Int} {s : List UInt8}

theorem now_rule {t : Nat} {r : Nat} {q : Int} (h : nowP (mFs 0 ys) (mFol 0 ys) (knAt (mKs 0 ys) r) s t q) : ruleAt (mFs 0 ys) q = r := by
  obtain ⟨p, hp, t⟩ := h
  have h0 := ruleAt_first (.inl hp)
  induction t with
  | one => exact h0
  | snoc _ f _ _ ih => rw [ruleAt_fol f]; exact ih

theorem acc_least {t : Nat} (ht : 0 < t) {xs : List Int} {a : Int} (hx : ∀ q, q ∈ xs ↔ NowS (mFs 0 ys) (mFol 0 ys) (mKs 0 ys) s t q) (ha : AccOf (mFs 0 ys) (mKs 0 ys) xs a) : LeastI (Means ys s t) ys.length a := by
  have hlen : (mKs 0 ys).length = ys.length := mKs_len ys 0
  -- what means it, by positions
  have fwd : ∀ i, i < ys.length → Means ys s t i → ∃ q ∈ xs, lastAt (mFs 0 ys) (mKs 0 ys) q ∧ ruleAt (mFs 0 ys) q = i := by
    rintro i hi ⟨y, hy, hm⟩
    rcases (okP_iff hy s t).2 hm with ⟨h0, _⟩ | ⟨q, hn, hl⟩
    · omega
    · have hr := now_rule hn
      exact ⟨q, (hx q).2 ⟨i, by omega, hn⟩, by unfold lastAt; rw [hr]; exact hl, hr⟩
  have back : ∀ q ∈ xs, lastAt (mFs 0 ys) (mKs 0 ys) q → ∃ i, i < ys.length ∧ ruleAt (mFs 0 ys) q = (i : Int) ∧ Means ys s t i := by
    intro q hq hl
    obtain ⟨r, hr, hn⟩ := (hx q).1 hq
    have hrl := now_rule hn
    have hy : ys[r]? = some ys[r] := List.getElem?_eq_getElem (by omega)
    refine ⟨r, by omega, hrl, ys[r], hy, (okP_iff hy s t).1 (.inr ⟨q, hn, ?_⟩)⟩
    unfold lastAt at hl
    rw [hrl] at hl; exact hl
  rcases ha with ⟨rfl, h1⟩ | ⟨⟨h0, p, hp, h1, rfl⟩, h2⟩
  · refine .inl ⟨rfl, fun i hi hm => ?_⟩
    obtain ⟨q, hq, hl, _⟩ := fwd i hi hm
    exact h1 q hq hl
  · obtain ⟨i, hi, he, hm⟩ := back p hp h1
    refine .inr ⟨i, hi, he, hm, fun j hj hmj => ?_⟩
    obtain ⟨q, hq, hl, hr⟩ := fwd j hj hmj
    have := h2 q hq hl
    omega

theorem run_law (h : DfaOK (mFs 0 ys) (mFol 0 ys) (mKs 0 ys) svs cl nc) (hs : 0 < s.length) :
    ((runFrom svs s (0, true)).2 = false → (runFrom svs s (0, true)).1 = 0 ∧ LeastI (Means ys s s.length) ys.length (-1)) ∧ ((runFrom svs s (0, true)).2 = true → LeastI (Means ys s s.length) ys.length (accOf svs (runFrom svs s (0, true)).1)) := by
  have := run_state (s := s) h s.length (Nat.le_refl _)
  rw [List.take_length] at this
  rcases this with ⟨h0, _⟩ | ⟨_, ⟨i, sv, e, hi0, hi, hq⟩ | ⟨e, hq⟩⟩
  · omega
  · rw [e]
    refine ⟨fun h => by simp at h, fun _ => ?_⟩
    have hat : stAt svs (i : Int) = some sv := stAt_in (by omega) (by simpa using hi)
    have : accOf svs (i : Int) = sv.acc := by simp [accOf, hat]
    show LeastI _ _ (accOf svs (i : Int))
    rw [this]
    exact acc_least hs hq (h.sts.acc sv (List.mem_of_getElem? hi))
  · rw [e]
    refine ⟨fun _ => ⟨rfl, acc_least (xs := []) hs (fun q => by simp [hq q]) (.inl ⟨rfl, by simp⟩)⟩, fun h => by simp at h⟩

theorem acc_zero (h : DfaOK (mFs 0 ys) (mFol 0 ys) (mKs 0 ys) svs cl nc) : accOf svs 0 = -1 := by
  obtain ⟨sv, g1, g2⟩ := h.sts.zero
  have hat : stAt svs 0 = some sv := stAt_in (by omega) (by simpa using g1)
  have ha := h.sts.acc sv (List.mem_of_getElem? g1)
  rw [g2] at ha
  have : accOf svs 0 = sv.acc := by simp [accOf, hat]
  rw [this]
  rcases ha with ⟨h, _⟩ | ⟨⟨_, p, hp, _⟩, _⟩
  · exact h
  · simp at hp
end
end Go.Fk
end

section
set_option linter.unusedVariables false
namespace Go.Fk
open Go

/-! ## The law's helpers: Great, Make, awake -/

theorem App.max2 {P : Program} {ts : Array TypeId} {t : TypeId} {k k' : IntKind} {x y : Int} {w : World} {K : Int → World → Prop} (hK : K (if y > x then y else x) w) : App P (Builtin.max_ ts t #[.int k x, .int k' y]) (.one (.int k)) w K :=
  ⟨_, w, run_max_int2 w ts t k k' x y, hK⟩

theorem Great_spec {M : Nat → Prop} {w : World} {l : Sl} {ss : List ByteArray} {K : Int → World → Prop} (hl : SlT .str (V M w) l ss) (hlen : ss.length ≤ 1048576) (hsz : ∀ s ∈ ss, s.size ≤ 1048576)
    (hK : ∀ n, (¬ 0 < n → ss.length ≤ 6 ∧ ∀ s ∈ ss, s.size ≤ 40) → K n w) : frisketlaw07_Great.C l w K := by
  have hn := hl.1
  refine frisketlaw07_Great.ok _ _ _ ?_
  simp only [frisketlaw07_Great.M]
  refine App.max2 ?_
  refine Loop.mk (fun t w' => w' = w ∧ ∃ k : Nat, k ≤ ss.length ∧ t.2 = (k : Int) ∧ 0 ≤ t.1 ∧ t.1 ≤ 1048576 + k * 1048576 ∧ (¬ 0 < t.1 → ss.length ≤ 6 ∧ ∀ s ∈ ss.take k, s.size ≤ 40)) (fun t => ss.length - t.2.toNat) ⟨rfl, 0, by omega, rfl, ?_, ?_, ?_⟩ ?_
  · dsimp only; rw [w64_eq (by omega)]; split <;> omega
  · dsimp only; rw [w64_eq (by omega)]; split <;> omega
  · intro h
    have h : ¬ 0 < (if (0 : Int) > w64 ((l.n : Int) - 6) then (0 : Int) else w64 ((l.n : Int) - 6)) := h
    rw [w64_eq (by omega)] at h
    refine ⟨?_, by simp⟩
    split at h <;> omega
  rintro ⟨n, kk⟩ w' ⟨rfl, k, hk, hkk, h0, h1, h2⟩ R hR
  dsimp only at hkk h0 h1 h2 ⊢
  subst hkk
  refine Br.mk (fun ht => ?_) (fun hf => ?_)
  · have ht : k < ss.length := by have := of_decide_eq_true ht; omega
    refine IdxS.get (M := M) hl (by omega) (by omega) fun s hs => App.max2 ?_
    simp only [Int.toNat_natCast] at hs
    have hss := hsz s (List.mem_of_getElem? hs)
    rw [w64_eq (x := (s.size : Int) - 40) (by omega)]
    have hmx : 0 ≤ (if (0 : Int) > (s.size : Int) - 40 then (0 : Int) else (s.size : Int) - 40) ∧ (if (0 : Int) > (s.size : Int) - 40 then (0 : Int) else (s.size : Int) - 40) ≤ 1048576 ∧ (¬ 0 < (if (0 : Int) > (s.size : Int) - 40 then (0 : Int) else (s.size : Int) - 40) → s.size ≤ 40) := by
      split <;> refine ⟨by omega, by omega, fun h => by omega⟩
    generalize (if (0 : Int) > (s.size : Int) - 40 then (0 : Int) else (s.size : Int) - 40) = m at hmx
    obtain ⟨m0, m1, m2⟩ := hmx
    rw [w64_eq (by omega), w64_eq (by omega)]
    refine hR _ _ ⟨rfl, k + 1, by omega, by simp, by dsimp only; omega, by dsimp only; omega, fun h => ?_⟩ (by dsimp only; omega)
    have h : ¬ 0 < n + m := h
    obtain ⟨g1, g2⟩ := h2 (by omega)
    refine ⟨g1, fun s' hs' => ?_⟩
    rw [List.take_add_one, hs] at hs'
    rcases List.mem_append.1 hs' with hs' | hs'
    · exact g2 s' hs'
    · simp at hs'; subst hs'; exact m2 (by omega)
  · have hf : k = ss.length := by have := of_decide_eq_false hf; omega
    subst hf
    rw [List.take_length] at h2
    exact hK n h2

theorem dfa_New_nil {w : World} {K : (Option Addr × Int) → World → Prop} (hK : K (none, 1) w) : dfa_New.C none w K := by
  refine dfa_New.ok _ _ _ ?_
  simp only [dfa_New.M]
  exact hK

/-- All that Make hands back. -/
structure Made (w : World) (d : Option Addr) (b : Sl) (ys xs : List Re) (vs : List NV) (svs : List DSt) (cl : Nat → Int) (nc : Int) : Prop where
  dv : DfaV (V No w) d svs cl nc
  ok : DfaOK (mFs 0 ys) (mFol 0 ys) (mKs 0 ys) svs cl nc
  rb : SlC (V No w) b 258 (vs.map NV.cells)
  nb : All2 (RNd (V No w)) vs xs
  nm : ys.map Re.norm = xs.map Re.norm
theorem Made.keep {w w' : World} {d : Option Addr} {b : Sl} {ys xs : List Re} {vs : List NV} {svs : List DSt} {cl : Nat → Int} {nc : Int} (h : Made w d b ys xs vs svs cl nc) (k : Keeps No w w') : Made w' d b ys xs vs svs cl nc :=
  ⟨h.dv.mono (V.keeps0 k), h.ok, h.rb.mono (V.keeps0 k), h.nb.mono fun _ _ x => x.mono (V.keeps0 k), h.nm⟩

theorem Make_spec {M : Nat → Prop} {w : World} {l : Sl} {ss : List ByteArray} {K : (Option Addr × Sl) → World → Prop} (hl : SlT .str (V M w) l ss) (hss : ∀ s ∈ ss, Small s) (hlen : ss.length ≤ 2000)
    (h0 : ∀ w', Keeps No w w' → (rulesF ss = [] ∨ 2000 < mCnt (rulesF ss) ∨ ∃ svs, Sts (mFs 0 (rulesF ss)) (mKs 0 (rulesF ss)) svs ∧ 2000 < svs.length) → K (none, ⟨none, 0, 0⟩) w')
    (h1 : ∀ d b xs vs svs cl nc w', Keeps No w w' → Made w' d b (rulesF ss) xs vs svs cl nc → K (d, b) w') : frisketlaw07_Make.C l w K := by
  refine frisketlaw07_Make.ok _ _ _ ?_
  simp only [frisketlaw07_Make.M]
  refine Rules_spec hl hss (by omega) fun a b bad ps ys vs xs w4 k4 tw hnorm hyl hys hyr => ?_
  obtain ⟨an, bn⟩ := tw.n
  have hal := tw.na.length; have hbl := tw.nb.length
  have hsa : SlT .ptr (V No w4) a ps := tw.oa.reads fun _ _ h => h
  have hsb : SlC (V No w4) b 258 (vs.map NV.cells) := tw.ob.readsC (by omega) cellsN_len fun _ _ h => h
  subst hyr
  by_cases hps : ps = []
  · refine nfa_New_none hsa (by omega) (.inl hps) (dfa_New_nil ?_)
    subst hps
    exact h0 w4 k4 (.inl (List.eq_nil_of_length_eq_zero (by simpa using hal.symm)))
  have hna : All2 (Nd (V No w4)) ps (rulesF ss) := tw.na.mono fun _ _ x => x.mono (V.sub fun _ _ h => h.elim)
  have hnb : All2 (RNd (V No w4)) vs xs := tw.nb.mono fun _ _ x => x.mono (V.sub fun _ _ h => h.elim)
  refine nfa_New_spec (fun _ h => h.elim) hsa hna hps (by omega) (fun y hy => by have := hys y hy; omega) fun m e w5 k5 g1 g2 => ?_
  have k05 := k4.trans k5
  by_cases hc : mCnt (rulesF ss) ≤ 2000
  · obtain ⟨rfl, hm⟩ := g1 hc
    have hmo : MachO (V No w5) m _ _ _ := .inr hm
    have hmn : m ≠ none := by
      obtain ⟨bm, _, _, _, _, rfl, _⟩ := hm.ex
      simp
    refine dfa_New_spec hmo hmn (by rw [mKs_len]; omega) (fun d svs cl nc w6 k6 hd hok => ?_) (fun w6 k6 hg => ?_)
    · exact h1 d b xs vs svs cl nc w6 (k05.trans k6) ⟨hd, hok, hsb.mono (V.keeps0 (k5.trans k6)), hnb.mono fun _ _ x => x.mono (V.keeps0 (k5.trans k6)), hnorm⟩
    · exact h0 w6 (k05.trans k6) (.inr (.inr hg))
  · obtain ⟨rfl, rfl⟩ := g2 (by omega)
    exact dfa_New_nil (h0 w5 k05 (.inr (.inl (by omega))))

theorem str2 {H : View} {c : Nat} {p q : ByteArray} {E : Nat} (h : H c (.cells #[.string p, .string q] E (0, 0))) : SlT .str H ⟨some ⟨c, 0, none⟩, 2, 2⟩ [p, q] :=
  ⟨rfl, .inr ⟨c, 0, _, _, _, rfl, h, fun i x hx => by
    rcases i with _ | _ | i
    · simp at hx; subst hx; rfl
    · simp at hx; subst hx; rfl
    · simp at hx⟩⟩

theorem rules_awake : rulesF [⟨#[97, 98]⟩, ⟨#[97, 42]⟩] = [.cat (.set fun i => i == 97) (.set fun i => i == 98), .star (.set fun i => i == 97)] := by rfl

theorem DfaV.some {H : View} {d : Option Addr} {svs : List DSt} {cl : Nat → Int} {nc : Int} (h : DfaV H d svs cl nc) : (!d.isNone) = true := by
  obtain ⟨bd, p, l, rfl, _⟩ := h
  rfl

theorem awake7_spec {w : World} {K : Bool → World → Prop} (hK : ∀ w', Keeps No w w' → K true w') : frisketlaw07_awake.C w K := by
  refine frisketlaw07_awake.ok _ _ ?_
  simp only [frisketlaw07_awake.M]
  refine Al.mk fun b1 w1 n1 => ?_
  refine Make_spec (M := No) (str2 ⟨id, n1.at_⟩) (fun s hs => by simp at hs; rcases hs with rfl | rfl <;> (unfold Small; decide)) (by simp) (fun w2 k2 h => ?_) fun d b xs vs svs cl nc w2 k2 hm => ?_
  · rw [rules_awake] at h
    rcases h with h | h | ⟨svs, h, hl⟩
    · cases h
    · simp [mCnt, Re.cnt] at h
    · have := h.few
      simp [mFs, Re.poss] at this
      omega
  · have hm := hm
    rw [rules_awake] at hm
    have hd : DfaO (V No w2) d svs cl nc := .inr hm.dv
    have r1 := run_law (s := bs ⟨#[97, 97]⟩) hm.ok (by decide)
    have r2 := run_law (s := bs ⟨#[97, 98]⟩) hm.ok (by decide)
    refine dfa_Run_spec hd (by decide) ?_
    refine dfa_Run_spec hd (by decide) ?_
    rw [hm.dv.some]
    generalize runFrom svs (bs ⟨#[97, 97]⟩) (0, true) = p1 at *
    generalize runFrom svs (bs ⟨#[97, 98]⟩) (0, true) = p2 at *
    -- the first text is the second expression's, the other the first one's
    have l1 : LeastI (Means [.cat (.set fun i => i == 97) (.set fun i => i == 98), .star (.set fun i => i == 97)] (bs ⟨#[97, 97]⟩) 2) 2 1 := by
      refine .inr ⟨1, by omega, rfl, ⟨_, rfl, ?_⟩, fun j hj hmj => ?_⟩
      · exact Clo.snoc (Clo.snoc .refl ⟨rfl, 97, rfl, rfl⟩) ⟨rfl, 97, rfl, rfl⟩
      · rcases j with _ | j
        · obtain ⟨y, hy, hmy⟩ := hmj
          cases hy
          obtain ⟨k, ⟨rfl, _⟩, _, c, hc, h98⟩ := hmy
          have : c = 97 := by
            have : (bs ⟨#[97, 97]⟩)[0 + 1]? = Option.some 97 := rfl
            rw [this] at hc; cases hc; rfl
          subst this
          cases h98
        · omega
    have l2 : LeastI (Means [.cat (.set fun i => i == 97) (.set fun i => i == 98), .star (.set fun i => i == 97)] (bs ⟨#[97, 98]⟩) 2) 2 0 := by
      refine .inr ⟨0, by omega, rfl, ⟨_, rfl, ⟨1, ⟨rfl, 97, rfl, rfl⟩, ⟨rfl, 98, rfl, rfl⟩⟩⟩, fun j hj _ => by omega⟩
    have a1 : p1.2 = true ∧ accOf svs p1.1 = 1 := by
      cases h : p1.2 with
      | false => have := (r1.1 h).2.one l1; cases this
      | true => exact ⟨rfl, (r1.2 h).one l1⟩
    have a2 : p2.2 = true ∧ accOf svs p2.1 = 0 := by
      cases h : p2.2 with
      | false => have := (r2.1 h).2.one l2; cases this
      | true => exact ⟨rfl, (r2.2 h).one l2⟩
    refine dfa_Accept_spec hd ?_
    rw [a1.2]
    refine dfa_Accept_spec hd ?_
    rw [a2.2]
    refine dfa_Accept_spec hd ?_
    rw [acc_zero hm.ok]
    exact hK w2 (n1.keeps.trans k2)
end Go.Fk
end

section
set_option linter.unusedVariables false
namespace Go.Fk
open Go

theorem str_empty (s : ByteArray) : (!(s.toList == ((⟨#[]⟩) : ByteArray).toList)) = decide (0 < s.size) := by
  rw [ByteArray.toList_eq, ByteArray.toList_eq]
  have hs : s.size = s.data.toList.length := by show s.data.size = _; simp
  cases h : s.data.toList with
  | nil =>
    have : ¬ 0 < s.size := by rw [hs, h]; simp
    rw [decide_eq_false this]
    rfl
  | cons a l =>
    have : 0 < s.size := by rw [hs, h]; simp
    rw [decide_eq_true this]
    rfl

/-- The least number from k on that is so. -/
def LeastF (M : Nat → Prop) (k n : Nat) (a : Int) : Prop := (a = -1 ∧ ∀ i, k ≤ i → i < n → ¬ M i) ∨ ∃ i : Nat, k ≤ i ∧ i < n ∧ a = i ∧ M i ∧ ∀ j, k ≤ j → j < n → M j → i ≤ j

theorem DfaRuns_spec {M : Nat → Prop} {w : World} {l : Sl} {ss : List ByteArray} {s : ByteArray} {K : Bool → World → Prop} (hl : SlT .str (V M w) l ss) (hlen : ss.length ≤ 1048576) (hsz : ∀ s ∈ ss, s.size ≤ 1048576) (hK : ∀ w', Keeps No w w' → K true w') : frisketlaw07_DfaRuns.C l s w K := by
  refine frisketlaw07_DfaRuns.ok _ _ _ _ ?_
  simp only [frisketlaw07_DfaRuns.M]
  refine Join.cut (fun b w1 => Keeps No w w1 ∧ (b = false → (ss.length ≤ 6 ∧ ∀ s ∈ ss, s.size ≤ 40) ∧ s.size ≤ 16)) ?_ ?_
  · rintro b w1 ⟨k1, hb⟩
    refine Br.mk (fun _ => awake7_spec fun w2 k2 => hK w2 (k1.trans k2)) (fun hbf => ?_)
    obtain ⟨⟨h6, h40⟩, h16⟩ := hb hbf
    have hszs := size_bs s
    refine Make_spec (hl.mono (V.keeps0 k1)) (fun s hs => by have := h40 s hs; unfold Small; omega) (by omega) (fun w2 k2 _ => ?_) fun d b xs vs svs cl nc w2 k2 hm => ?_
    · exact hK w2 (k1.trans k2)
    · have hsome : d.isNone = false := by have := hm.dv.some; simpa using this
      dsimp only
      rw [hsome]
      have hbn := hm.rb.1
      simp only [List.length_map] at hbn
      have hvx := hm.nb.length
      have hyx : (rulesF ss).length = xs.length := by simpa using congrArg List.length hm.nm
      have hvl : vs.length ≤ 6 := by
        have : (rulesF ss).length ≤ ss.length := by unfold rulesF; exact List.length_filterMap_le _ _
        omega
      show Loop _ _ _
      refine Loop.mk (fun t w' => Keeps No w2 w' ∧ ∃ k : Nat, k ≤ vs.length ∧ t.2 = (k : Int) - 1 ∧ LeastF (fun i => 0 < s.size ∧ Means xs (bs s) s.size i) k vs.length t.1) (fun t => (t.2 + 1).toNat) ⟨.refl, vs.length, by omega, by rw [w64_eq (by omega)]; omega, .inl ⟨rfl, fun i h1 h2 => by omega⟩⟩ ?_
      rintro ⟨want, kk⟩ w3 ⟨k3, k, hk, hkk, hlf⟩ R hR
      dsimp only at hkk hlf ⊢
      subst hkk
      have hm3 := hm.keep k3
      refine Br.mk (fun ht => ?_) (fun hf => ?_)
      · have ht : 0 < k := by have := of_decide_eq_true ht; omega
        have e4 : w64 ((k : Int) - 1 - 1) = (((k - 1 : Nat) : Int)) - 1 := by rw [w64_eq (by omega)]; omega
        rw [e4]
        refine Join.cut (fun (b : Bool) w' => Keeps No w2 w' ∧ (b = true ↔ 0 < s.size ∧ Means xs (bs s) s.size (k - 1))) ?_ ?_
        · rintro b w4 ⟨k4, hb4⟩
          refine Br.mk (fun hb => ?_) (fun hb => ?_)
          · refine hR _ w4 ⟨k4, k - 1, by omega, rfl, .inr ⟨k - 1, by omega, by omega, by dsimp only; omega, hb4.1 hb, fun j h1 h2 _ => h1⟩⟩ (by dsimp only; omega)
          · have hno : ¬ (0 < s.size ∧ Means xs (bs s) s.size (k - 1)) := fun h => by rw [hb4.2 h] at hb; cases hb
            refine hR _ w4 ⟨k4, k - 1, by omega, rfl, ?_⟩ (by dsimp only; omega)
            rcases hlf with ⟨rfl, h1⟩ | ⟨i, h0, h1, rfl, h2, h3⟩
            · refine .inl ⟨rfl, fun i h4 h5 => ?_⟩
              by_cases e : i = k - 1
              · subst e; exact hno
              · exact h1 i (by omega) h5
            · refine .inr ⟨i, by omega, h1, rfl, h2, fun j h4 h5 h6 => ?_⟩
              by_cases e : j = k - 1
              · subst e; exact absurd h6 hno
              · exact h3 j (by omega) h5 h6
        · intro j5 hj5
          rw [str_empty]
          refine Br.mk (fun he => ?_) (fun he => ?_)
          · have he := of_decide_eq_true he
            refine IdxS.node (M := No) hm3.rb (by omega) (by omega) fun v hv => ?_
            have ek : ((k : Int) - 1).toNat = k - 1 := by omega
            rw [ek] at hv
            obtain ⟨x, hx, hN⟩ := hm3.nb.get _ _ hv
            refine Matches_spec (by omega) hN fun r w5 k5 hr => hj5 r w5 ⟨k3.trans k5, ?_⟩
            rw [hr]
            constructor
            · intro h; exact ⟨he, x, hx, h⟩
            · rintro ⟨_, x', hx', h⟩; rw [hx] at hx'; cases hx'; exact h
          · have he := of_decide_eq_false he
            exact hj5 false w3 ⟨k3, (fun e => by cases e), fun h => absurd h.1 he⟩
      · have hf : k = 0 := by have := of_decide_eq_false hf; omega
        subst hf
        have hd : DfaO (V No w3) d svs cl nc := .inr hm3.dv
        refine dfa_Run_spec hd (by omega) ?_
        rw [hsome, Bool.not_false]
        have hmx : ∀ i, Means (rulesF ss) (bs s) s.size i ↔ Means xs (bs s) s.size i := by
          intro i
          have hg := congrArg (fun l => l[i]?) hm.nm
          simp only [List.getElem?_map] at hg
          constructor
          · rintro ⟨y, hy, hmy⟩
            rw [hy] at hg
            cases hx : xs[i]? with
            | none => rw [hx] at hg; cases hg
            | some x => rw [hx] at hg; exact ⟨x, hx, (m_of_norm (Option.some.inj hg)).1 hmy⟩
          · rintro ⟨x, hx, hmx⟩
            rw [hx] at hg
            cases hy : (rulesF ss)[i]? with
            | none => rw [hy] at hg; cases hg
            | some y => rw [hy] at hg; exact ⟨y, hy, (m_of_norm (Option.some.inj hg)).2 hmx⟩
        have hfin : K true w3 := hK w3 ((k1.trans k2).trans k3)
        by_cases hs0 : 0 < s.size
        · have hlw : LeastI (Means (rulesF ss) (bs s) s.size) (rulesF ss).length want := by
            rcases hlf with ⟨rfl, h1⟩ | ⟨i, h0, h1, rfl, h2, h3⟩
            · exact .inl ⟨rfl, fun i hi hmi => h1 i (by omega) (by omega) ⟨hs0, (hmx i).1 hmi⟩⟩
            · exact .inr ⟨i, by omega, rfl, (hmx i).2 h2.2, fun j hj hmj => h3 j (by omega) (by omega) ⟨hs0, (hmx j).1 hmj⟩⟩
          have hrl := run_law (s := bs s) hm.ok (by omega)
          rw [← hszs] at hrl
          generalize runFrom svs (bs s) (0, true) = p at *
          refine Br.mk (fun hp => ?_) (fun hp => ?_)
          · have hp : p.2 = false := by simpa using hp
            obtain ⟨g1, g2⟩ := hrl.1 hp
            rw [g1, hlw.one g2]
            exact hfin
          · have hp : p.2 = true := by simpa using hp
            refine dfa_Accept_spec hd ?_
            rw [(hrl.2 hp).one hlw]
            simpa using hfin
        · have hbs : bs s = [] := List.eq_nil_of_length_eq_zero (by omega)
          have hw : want = -1 := by
            rcases hlf with ⟨rfl, _⟩ | ⟨i, _, _, _, h2, _⟩
            · rfl
            · exact absurd h2.1 hs0
          subst hw
          rw [hbs]
          show dfa_Dfa_Accept.C d 0 w3 _
          refine dfa_Accept_spec hd ?_
          rw [acc_zero hm.ok]
          exact hfin
  · intro j hj
    refine Great_spec hl hlen hsz fun n hn => ?_
    refine Br.mk (fun _ => hj _ _ ⟨.refl, fun e => by cases e⟩) (fun hf => Br.mk (fun _ => hj _ _ ⟨.refl, fun e => by cases e⟩) (fun hf2 => ?_))
    refine awake7_spec fun w1 k1 => hj _ _ ⟨k1, fun _ => ⟨hn (of_decide_eq_false hf), ?_⟩⟩
    have := of_decide_eq_false hf2
    omega

theorem DfaNone_spec {w : World} {n : Int} {b : Nat} (hb : b < 256) {s : ByteArray} {K : Bool → World → Prop} (hK : ∀ w', Keeps No w w' → K true w') : frisketlaw07_DfaNone.C n b s w K := by
  refine frisketlaw07_DfaNone.ok _ _ _ _ _ ?_
  simp only [frisketlaw07_DfaNone.M]
  refine Br.mk (fun _ => awake7_spec hK) (fun hf => ?_)
  have hf := of_decide_eq_false hf
  have hd : DfaO (V No w) none [] (fun _ => -1) 0 := .inl ⟨rfl, rfl, rfl, rfl⟩
  refine dfa_New_nil (dfa_Next_spec hd hb (dfa_Run_spec hd (by omega) ?_))
  have e1 : nextOf [] n b = (0, false) := by simp [nextOf, stAt_out (svs := []) (n := n) (by simp)]
  have e2 : runFrom [] (bs s) (0, false) = (0, false) := by
    have : ∀ l : List UInt8, runFrom [] l (0, false) = (0, false) := by
      intro l
      induction l with
      | nil => rfl
      | cons c l ih => simpa [runFrom] using ih
    exact this _
  simp only [e1, Option.isNone_none, Bool.not_true, e2, Bool.not_false, beq_self_eq_true, Br_true]
  refine dfa_States_spec hd ?_
  simp only [List.length_nil, Int.natCast_zero, beq_self_eq_true, Br_true]
  refine dfa_Accept_spec hd ?_
  have e3 : accOf [] n = -1 := by simp [accOf, stAt_out (svs := []) (n := n) (by simp)]
  simp only [e3, beq_self_eq_true, Br_true]
  refine dfa_Positions_spec hd (by simp) fun l' w' k' hl' => ?_
  have e4 : stAt [] n = none := stAt_out (by simp)
  rw [e4] at hl'
  have hn := hl'.1
  have hn0 : l'.n = 0 := by simpa using hn
  rw [hn0]
  simp only [Int.natCast_zero, beq_self_eq_true, Br_true]
  have hd' := hd.mono (V.keeps0 k')
  refine dfa_Classes_spec hd' ?_
  simp only [beq_self_eq_true, Br_true]
  refine dfa_Class_spec hd' hb ?_
  simp only [beq_self_eq_true, Br_true]
  exact awake7_spec fun w2 k2 => hK w2 (k'.trans k2)
end Go.Fk
end
