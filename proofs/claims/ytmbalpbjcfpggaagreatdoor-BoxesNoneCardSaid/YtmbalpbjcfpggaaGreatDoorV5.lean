/-
  A part of the proof: what the functions of the program come to, read off the model: no premise of its own, no axiom. Blank space is spared. By an AI agent.
-/
import Derived.Test.YtmbalpbjcfpggaaGreatDoorV1
import Derived.Test.YtmbalpbjcfpggaaGreatDoorMaps
import Derived.Test.YtmbalpbjcfpggaaGreatDoorV3
import Derived.Test.YtmbalpbjcfpggaaGreatDoorV4
set_option linter.all false
set_option maxRecDepth 100000
noncomputable section
section
namespace Go.Fk
open Go Go.Ev Go.MapKept Go.Maps
open Go.WideElems (Fit rd rg rg_of)
theorem cell_al1 (w : World) (cs : Array Value) (t : TypeId) (fr : Nat × Nat) (i : Nat) : (w.alloc (.cells cs t fr)).cell? ⟨w.heap.size, i, none⟩ = cs[i]? := by
  have h1 : (w.alloc (.cells cs t fr)).heap[w.heap.size]? = some (.cells cs t fr) := World.alloc_heap_new w _
  simp only [World.cell?, h1]; simp
theorem cell_al0 (w : World) (o : Obj) (b i : Nat) (h : b < w.heap.size) : (w.alloc o).cell? ⟨b, i, none⟩ = w.cell? ⟨b, i, none⟩ := by
  have h1 : (w.alloc o).heap[b]? = w.heap[b]? := Go.RowKit.Below.heap_alloc w o b h
  simp only [World.cell?, h1]
theorem compare_C (x y : Int) (w : World) {K : Int → World → Prop} (h : K (cmpI x y) w) : cmp_Compare.C x y w K := by
  refine cmp_Compare.ok _ _ _ _ ?_
  simp only [cmp_Compare.M]
  refine cmp_isNaN.ok _ _ _ ?_
  simp only [cmp_isNaN.M]
  refine cmp_isNaN.ok _ _ _ ?_
  simp only [cmp_isNaN.M, bne_self_eq_false, Br_false]
  refine Br.mk (fun e => ?_) (fun e => Br.mk (fun e2 => ?_) (fun e2 => ?_))
  · have := of_decide_eq_true e; simpa [cmpI, this] using h
  · have h1 := of_decide_eq_false e; have h2 := of_decide_eq_true e2; simpa [cmpI, h1, h2] using h
  · have h1 := of_decide_eq_false e; have h2 := of_decide_eq_false e2; simpa [cmpI, h1, h2] using h
theorem symCmp (x y : B1) (w : World) : Calls P 182 #[.agg (SB.enc x).toArray, .agg (SB.enc y).toArray] w fun e w' => e = .returned (.int .i64 (cfB x y)) ∧ Gr w w' := by
  refine Calls.mono (table_symbols_S1.ok x y (fun r w' => r = cfB x y ∧ Gr w w') w ?_) fun e w' ⟨r, he, h1, h2⟩ => ⟨by rw [he, h1]; rfl, h2⟩
  simp only [table_symbols_S1.M, Al]
  generalize hw1 : w.alloc (.cells #[.bool x.1, .int .i64 x.2] T.sets_Symbol (0, 0)) = w1
  generalize hw2 : w1.alloc (.cells #[.bool y.1, .int .i64 y.2] T.sets_Symbol (0, 0)) = w2
  have g2 : Gr w w2 := by rw [← hw2, ← hw1]; exact ((Gr.refl w).alloc _).alloc _
  have s1 : w.heap.size < w1.heap.size := by rw [← hw1]; simp
  have a0 : ∀ i, w2.cell? ⟨w.heap.size, i, none⟩ = (#[.bool x.1, .int .i64 x.2] : Array Value)[i]? := fun i => by rw [← hw2, cell_al0 _ _ _ _ s1, ← hw1, cell_al1]
  have b0 : ∀ i, w2.cell? ⟨w1.heap.size, i, none⟩ = (#[.bool y.1, .int .i64 y.2] : Array Value)[i]? := fun i => by rw [← hw2, cell_al1]
  refine Ld.bool (a0 0) (Ld.bool (b0 0) ?_)
  refine Br.mk (fun e => Ld.bool (b0 0) (Br.mk (fun e2 => ⟨?_, g2⟩) (fun e2 => ⟨?_, g2⟩))) (fun e => Ld.int (a0 1) (Ld.int (b0 1) (compare_C _ _ _ ⟨?_, g2⟩)))
  · have e : x.1 ≠ y.1 := by simpa using e
    show -1 = cfB x y
    unfold cfB; rw [if_pos e, if_pos e2]
  · have e : x.1 ≠ y.1 := by simpa using e
    show 1 = cfB x y
    unfold cfB; rw [if_pos e, if_neg (by simp [e2])]
  · have e : x.1 = y.1 := by simpa using e
    simp [cfB, e]
theorem or_C (a b c : Int) (bk : Nat) (w : World) {K : Int → World → Prop} (h0 : w.cell? ⟨bk, 0, none⟩ = some (.int .i64 a)) (h1 : w.cell? ⟨bk, 1, none⟩ = some (.int .i64 b)) (h2 : w.cell? ⟨bk, 2, none⟩ = some (.int .i64 c)) (h : K (or3 a b c) w) : cmp_Or.C ⟨some ⟨bk, 0, none⟩, 3, 3⟩ w K := by
  refine cmp_Or.ok _ _ _ ?_
  simp only [cmp_Or.M]
  intro R hR
  refine hR 0 w ?_
  refine Br.mk (fun _ => ⟨⟨bk, 0, none⟩, rfl, ⟨by decide, by simp⟩, Ld.int (show w.cell? ((⟨bk, 0, none⟩ : Addr).add 0) = _ from h0) ?_⟩) (fun e => by simp at e)
  refine Br.mk (fun e => ?_) (fun e => ?_)
  · have e : a ≠ 0 := by simpa using e
    simpa [or3, e] using h
  have ea : a = 0 := by simpa using e
  refine hR 1 w ?_
  refine Br.mk (fun _ => ⟨⟨bk, 0, none⟩, rfl, ⟨by decide, by simp⟩, Ld.int (show w.cell? ((⟨bk, 0, none⟩ : Addr).add 1) = _ from h1) ?_⟩) (fun e => by simp at e)
  refine Br.mk (fun e => ?_) (fun e => ?_)
  · have e : b ≠ 0 := by simpa using e
    simpa [or3, ea, e] using h
  have eb : b = 0 := by simpa using e
  refine hR 2 w ?_
  refine Br.mk (fun _ => ⟨⟨bk, 0, none⟩, rfl, ⟨by decide, by simp⟩, Ld.int (show w.cell? ((⟨bk, 0, none⟩ : Addr).add 2) = _ from h2) ?_⟩) (fun e => by simp at e)
  refine Br.mk (fun e => ?_) (fun e => ?_)
  · simpa [or3, ea, eb] using h
  have ec : c = 0 := by simpa using e
  refine hR 3 w ?_
  refine Br.mk (fun e => by simp at e) (fun _ => ?_)
  simpa [or3, ea, eb, ec] using h
theorem itemCmp (x y : I3) (w : World) : Calls P 241 #[.agg (S3.enc x).toArray, .agg (S3.enc y).toArray] w fun e w' => e = .returned (.int .i64 (cf3 x y)) ∧ Gr w w' := by
  refine Calls.mono (items_compare.ok x y (fun r w' => r = cf3 x y ∧ Gr w w') w ?_) fun e w' ⟨r, he, h1, h2⟩ => ⟨by rw [he, h1]; rfl, h2⟩
  simp only [items_compare.M, Al]
  generalize hw1 : w.alloc (.cells #[.int .i64 x.1, .int .i64 x.2.1, .int .i64 x.2.2] T.items_Item (0, 0)) = w1
  generalize hw2 : w1.alloc (.cells #[.int .i64 y.1, .int .i64 y.2.1, .int .i64 y.2.2] T.items_Item (0, 0)) = w2
  have g2 : Gr w w2.drew := by rw [← hw2, ← hw1]; exact (((Gr.refl w).alloc _).alloc _).drew
  have s1 : w.heap.size < w1.heap.size := by rw [← hw1]; simp
  have s2 : w1.heap.size < w2.heap.size := by rw [← hw2]; simp
  have a0 : ∀ i, w2.cell? ⟨w.heap.size, i, none⟩ = (#[.int .i64 x.1, .int .i64 x.2.1, .int .i64 x.2.2] : Array Value)[i]? := fun i => by rw [← hw2, cell_al0 _ _ _ _ s1, ← hw1, cell_al1]
  have b0 : ∀ i, w2.cell? ⟨w1.heap.size, i, none⟩ = (#[.int .i64 y.1, .int .i64 y.2.1, .int .i64 y.2.2] : Array Value)[i]? := fun i => by rw [← hw2, cell_al1]
  let S : World → Prop := fun w' => (∀ i, w'.cell? ⟨w.heap.size, i, none⟩ = (#[.int .i64 x.1, .int .i64 x.2.1, .int .i64 x.2.2] : Array Value)[i]?) ∧ ∀ i, w'.cell? ⟨w1.heap.size, i, none⟩ = (#[.int .i64 y.1, .int .i64 y.2.1, .int .i64 y.2.2] : Array Value)[i]?
  have hS : S w2.drew := ⟨a0, b0⟩
  refine ⟨S, hS, ?_⟩
  refine ⟨x.1, fun w' h => h.1 0, y.1, fun w' h => h.2 0, x.2.1, fun w' h => h.1 1, y.2.1, fun w' h => h.2 1, x.2.2, fun w' h => h.1 2, y.2.2, fun w' h => h.2 2, ?_⟩
  refine compare_C _ _ _ ⟨hS, compare_C _ _ _ ⟨hS, compare_C _ _ _ ⟨hS, ?_⟩⟩⟩
  generalize hw4 : w2.drew.alloc (.cells #[.int .i64 (cmpI x.1 y.1), .int .i64 (cmpI x.2.1 y.2.1), .int .i64 (cmpI x.2.2 y.2.2)] T.int (0, 0)) = w4
  have g4 : Gr w w4 := by rw [← hw4]; exact g2.alloc _
  have c0 : ∀ i, w4.cell? ⟨w2.drew.heap.size, i, none⟩ = (#[.int .i64 (cmpI x.1 y.1), .int .i64 (cmpI x.2.1 y.2.1), .int .i64 (cmpI x.2.2 y.2.2)] : Array Value)[i]? := fun i => by rw [← hw4, cell_al1]
  have d2 : w2.drew.heap.size = w2.heap.size := rfl
  have hS4 : S w4 := ⟨fun i => by rw [← hw4, cell_al0 _ _ _ _ (by omega)]; exact a0 i, fun i => by rw [← hw4, cell_al0 _ _ _ _ (by omega)]; exact b0 i⟩
  exact ⟨hS4, or_C _ _ _ _ _ (c0 0) (c0 1) (c0 2) ⟨hS4, rfl, g4⟩⟩
theorem symBody (x y : Value) (w : World) (K : Value → World → Prop) (h : Calls P 243 #[x] w fun e w1 => ∃ r : Sl, e = .returned (.slice r.a r.n r.c) ∧ Calls P 244 #[.slice r.a r.n r.c, y] w1 fun e2 w2 => e2 = .returned (.tuple #[]) ∧ K (.slice r.a r.n r.c) w2) : Calls P 180 #[x, y] w fun e w' => ∃ v, e = .returned v ∧ K v w' := by
  refine Calls.mono (slices_SortedFunc_sets_Symbol.ok x y (fun r w' => K (.slice r.a r.n r.c) w') w ?_) fun e w' ⟨r, he, hk⟩ => ⟨_, he, hk⟩
  exact Calls.mono h fun e w1 ⟨r, he, hc⟩ => ⟨r, he, Calls.mono hc fun e2 w2 ⟨h1, h2⟩ => ⟨(), h1, h2⟩⟩
theorem itemBody (x y : Value) (w : World) (K : Value → World → Prop) (h : Calls P 315 #[x] w fun e w1 => ∃ r : Sl, e = .returned (.slice r.a r.n r.c) ∧ Calls P 316 #[.slice r.a r.n r.c, y] w1 fun e2 w2 => e2 = .returned (.tuple #[]) ∧ K (.slice r.a r.n r.c) w2) : Calls P 280 #[x, y] w fun e w' => ∃ v, e = .returned v ∧ K v w' := by
  refine Calls.mono (slices_SortedFunc_items_Item.ok x y (fun r w' => K (.slice r.a r.n r.c) w') w ?_) fun e w' ⟨r, he, hk⟩ => ⟨_, he, hk⟩
  exact Calls.mono h fun e w1 ⟨r, he, hc⟩ => ⟨r, he, Calls.mono hc fun e2 w2 ⟨h1, h2⟩ => ⟨(), h1, h2⟩⟩
end Go.Fk
namespace Go.Fk
open Go Go.MapKept Go.Maps Go.RowKit Go.Shelf Go.Proofs Go.Sort Go.Ev
open Go.ChangeMaps (setBlock)
set_option maxHeartbeats 1000000 in
theorem sym_keys1 (F : Fence) (n : Nat) (h10 : F.fn 245) (hro : F.round = none) (hn : 1 ≤ n) (l Bm b clock : Nat) (es : Array MapEntry) (hs : Stamped es clock) (hE : ∀ x ∈ es.toList.map (·.key), RecV 2 x) (J : List Value → World → Prop)
    (hY : ∀ pre x W, J pre W → pre.length < es.size → x ∈ es.toList.map (·.key) → YieldAt F (n - 1) P l #[x] W fun e W' => e = .returned (.bool true) ∧ J (pre ++ [x]) W' ∧ KeepsWalks W W')
    (W : World) (hJ : AbidesFrom W.heap.size J) (hm : W.cell? ⟨Bm, 0, none⟩ = some (.map (some b))) (hb : W.heap[b]? = some (.map es clock)) (h0 : J [] W) :
    CallsIn F n P 245 #[.func (.yield l) #[] #[], .pointer (some ⟨Bm, 0, none⟩)] W fun e W' => (∃ v, e = .returned v) ∧ ∃ ss : List Value, ss.Perm (es.toList.map (·.key)) ∧ J ss W' := by
  have mixed : P.follows .mixedOrders = true := P_mixed; have t0 := Tryz.underlying0; have a0 := Tryz.isAgg0; have z0 := Tryz.sizeOf0; have v0 := Tryz.zeroValue0; have u0 := run_underlying Tryz.underlying0; have t4 := Tryz.underlying4; have a4 := Tryz.isAgg4; have z4 := Tryz.sizeOf4; have v4 := Tryz.zeroValue4; have u4 := run_underlying Tryz.underlying4; have t23 := Tryz.underlying351; have a23 := Tryz.isAgg351; have z23 := Tryz.sizeOf351; have v23 := Tryz.zeroValue351; have u23 := run_underlying Tryz.underlying351; have t33 := Tryz.underlying426; have a33 := Tryz.isAgg426; have z33 := Tryz.sizeOf426; have v33 := Tryz.zeroValue426; have u33 := run_underlying Tryz.underlying426
  refine callsIn_of_wp Tryz.func245 rfl h10 ?_ hro
  simp only [Tryz.ntmps245, List.size_toArray, List.length_cons, List.length_nil, Nat.reduceAdd, Nat.reduceSub, Array.replicate_succ, Array.replicate_zero, List.push_toArray, List.append_toArray, List.nil_append, List.cons_append]
  gi_wp2_with (first
    | (gi_at_range; refine wpListIn_range_raw _ rfl _ 351 rfl 189 4 t23 b es clock rfl hb ?_; intro w0 hw0)
    | gi_in)
  have hrg0 : w0.heap[W.heap.size]? = some (.mapIter (some b) clock #[] clock) := by rw [hw0]; exact World.alloc_heap_new W _
  have hg0 : W.grownBy w0 none := by rw [hw0]; exact World.grownBy_alloc W _ none
  have hb0 : w0.heap[b]? = some (.map es clock) := (hg0.block b (lt_of_some hb) (fun e => by cases e)).trans hb
  clear hw0
  go_frame
  gi_loopw [3] (fun _ wr => ∃ (seen : Array Nat) (ss : List Value), wr.heap[W.heap.size]? = some (.mapIter (some b) clock seen clock) ∧ wr.heap[b]? = some (.map es clock) ∧ Coll es seen ss ∧ J ss wr)
    (fun _ wr => wr.rangeLeft b W.heap.size)
  case atStart =>
    exact ⟨#[], [], hrg0, hb0, Coll.start es, hJ [] W w0 none h0 hg0 (fun r e => by cases e)⟩
  case round =>
    obtain ⟨seen, ss, hrg, hbr, hC, hJs⟩ := hrel
    gi_wp2_with (first
      | (gi_at_next; refine wpListIn_next_raw _ rfl _ rfl b W.heap.size clock seen es rfl hrg hbr hs ?_ ?_)
      | gi_in)
    · intro hz
      gi_wp2
      go_end0
      exact ⟨⟨_, rfl⟩, ss, hC.perm hs (by simpa using hz), hJs⟩
    · intro e he w2 hg2 hrg2 hb2 hen
      have he : e ∈ (leftOf es seen).toList := by simpa using he
      have hJ2 : J ss w2 := hJ ss wr w2 (some W.heap.size) hJs hg2 (fun r e => by cases e; exact ⟨Nat.le_refl _, _, hrg, rfl⟩)
      obtain ⟨c, hkey, hck, hco⟩ := hE e.key (List.mem_map_of_mem (mem_left he).1)
      gi_wp2_with (first
        | (refine wpListIn_allocR _ rfl 189 rfl #[.bool false, .int .i64 0] Tryz.zeroValue189 ?_; intro w3 hw3
           have hb3 : w3.heap[w2.heap.size]? = some (.cells #[.bool false, .int .i64 0] 189 (0, 0)) := by rw [hw3]; exact World.alloc_heap_new w2 _
           have hg3 : w2.grownBy w3 none := by rw [hw3]; exact World.grownBy_alloc w2 _ none
           clear hw3)
        | (refine wpListIn_storeR _ rfl 189 _ _ rfl 2 w2.heap.size c #[.bool false, .int .i64 0] Tryz.sizeOf189 rfl (by first | rfl | exact hkey) hb3 rfl hck hco ?_; intro w4 hg4 hs4 hb4
           have hg5 : w2.grownBy w4 none := hg3.andThen hg4 (fun j e => .inl (by cases e; exact Nat.le_refl _))
           have hJ4 : J ss w4 := hJ ss w2 w4 none hJ2 hg5 (fun r e => by cases e)
           have hrg4 : w4.heap[W.heap.size]? = some (.mapIter (some b) clock (seen.push e.born) clock) := (hg5.block _ (lt_of_some hrg2) (fun e => by cases e)).trans hrg2
           have hb5 : w4.heap[b]? = some (.map es clock) := (hg5.block _ (lt_of_some hb2) (fun e => by cases e)).trans hb2
           obtain ⟨fn, tmps, assign, body, hy, hR⟩ := hY ss (.agg c) w4 hJ4 (hC.more he) (hkey ▸ List.mem_map_of_mem (mem_left he).1))
        | (refine wpListIn_loadR _ rfl 189 _ rfl 2 w2.heap.size c Tryz.isAgg189 Tryz.sizeOf189 rfl hb4 hck ?_)
        | gi_in)
      refine hR.mono ?_
      rintro e' W3 ⟨rfl, hJ3, hk3⟩
      gi_wp2
      have hrg3 := hk3.same _ _ hrg4 rfl
      have hb3' := hk3.same _ _ hb5 rfl
      go_roundw
      case rel => exact ⟨_, ss ++ [.agg c], hrg3, hb3', hkey ▸ hC.step hs he, hJ3⟩
      case measure =>
        simp only [World.rangeLeft, hbr, hrg, hb3', hrg3]
        exact left_shrinks es seen e he
theorem sym_gives (F : Fence) (n : Nat) (h10 : F.fn 245) (hro : F.round = none) (hn : 1 ≤ n) (Bm b clock : Nat) (es : Array MapEntry) (hs : Stamped es clock) (hE : ∀ x ∈ es.toList.map (·.key), RecV 2 x) (w : World) (hBm : Bm < w.heap.size)
    (hm : w.cell? ⟨Bm, 0, none⟩ = some (.map (some b))) (hb : w.heap[b]? = some (.map es clock)) :
    SeqR F n P 245 #[.pointer (some ⟨Bm, 0, none⟩)] (fun x => x ∈ es.toList.map (·.key)) (fun ss => ss.Perm (es.toList.map (·.key))) es.size w := fun l J W hW hJ hY h0 =>
  sym_keys1 F n h10 hro hn l Bm b clock es hs hE J hY W hJ ((hW.cell (p := ⟨Bm, 0, none⟩) hBm).trans hm) ((hW.block b (lt_of_some hb)).trans hb) h0
noncomputable def sym_ab : Code × Code := rfAt Tryz.f282
theorem sym_yield (F : Fence) (m : Nat) (w0 : World) (fn : FuncId) (hfn : F.fn fn) (sv : Value) (Bs l D : Nat) (hBl : Bs ≠ l) (hDl : D ≠ l) (hDB : D ≠ Bs) (h0B : w0.heap.size ≤ Bs) (h0l : w0.heap.size ≤ l)
    (N : Nat) (hN : N ≤ maxLen) (hNb : N * 16 ≤ 140737488355328) (ss : List Value) (x : Value) (hx : RecV 2 x) (W : World) (h : ApAtR 177 189 sym_ab 2 w0 fn sv Bs l D ss W) (hlen : ss.length < N) :
    YieldAt F m P l #[x] W fun e W' => e = .returned (.bool true) ∧ ApAtR 177 189 sym_ab 2 w0 fn sv Bs l D (ss ++ [x]) W' ∧ KeepsWalks W W' := by
  have mixed : P.follows .mixedOrders = true := P_mixed; have t0 := Tryz.underlying0; have a0 := Tryz.isAgg0; have z0 := Tryz.sizeOf0; have v0 := Tryz.zeroValue0; have u0 := run_underlying Tryz.underlying0; have t24 := Tryz.underlying177; have a24 := Tryz.isAgg177; have z24 := Tryz.sizeOf177; have v24 := Tryz.zeroValue177; have u24 := run_underlying Tryz.underlying177; have t28 := Tryz.underlying356; have a28 := Tryz.isAgg356; have z28 := Tryz.sizeOf356; have v28 := Tryz.zeroValue356; have u28 := run_underlying Tryz.underlying356
  have a26 := Tryz.isAgg189
  have hne : 177 ≠ 189 := fun e => by cases e
  obtain ⟨i0, hi, hz0, hz1, hz2⟩ := info_parts (show (P.info? 189).map (fun i => (i.zero, i.size, i.bytes)) = some (some (.agg #[.bool false, .int .i64 0]), 2, 16) by kernel_rfl)
  obtain ⟨v, hv, hrow, _⟩ := h.box
  obtain ⟨c, rfl, hck, hco⟩ := hx
  refine ⟨fn, #[.slice none 0 0, sv, .pointer (some ⟨Bs, 0, none⟩), undef, .slice none 0 0, undef, sv, .agg c, undef, undef, undef, undef, undef], sym_ab.1, sym_ab.2, by simpa [apRecS] using run_yield (P := P) (args := #[.agg c]) h.L rfl, roundIn_of_wpIn hfn ?_⟩
  have hl : l < W.heap.size := lt_of_some h.L
  have hBlt : Bs < W.heap.size := lt_of_some hv
  have hDlt : D < W.heap.size := lt_of_some h.K
  have hNb2 : (ss.length + 1) * 16 ≤ 140737488355328 := Nat.le_trans (Nat.mul_le_mul_right _ (by omega)) hNb
  dsimp only [sym_ab, rfAt, rfOf, Tryz.f282]
  gi_wp2_with (first
    | (refine wpListIn_allocR _ rfl 189 rfl #[.bool false, .int .i64 0] Tryz.zeroValue189 ?_; intro W21 hw3
       have hb3 : W21.heap[W.heap.size]? = some (.cells #[.bool false, .int .i64 0] 189 (0, 0)) := by rw [hw3]; exact World.alloc_heap_new W _
       have hg21 : W.grownBy W21 none := by rw [hw3]; exact World.grownBy_alloc W _ none
       clear hw3)
    | (refine wpListIn_storeR _ rfl 189 _ _ rfl 2 W.heap.size c #[.bool false, .int .i64 0] Tryz.sizeOf189 rfl rfl hb3 rfl hck hco ?_; intro Wb hg4 hs4 hb4
       have hgn : W.grownBy Wb none := hg21.andThen hg4 (fun j e => .inl (by cases e; exact Nat.le_refl _))
       have hvb : Wb.heap[Bs]? = some (.cells #[v] 177 (0, 0)) := (hgn.block _ hBlt (fun e => by cases e)).trans hv
       have hKb : Wb.heap[D]? = some (.deferred (some [])) := (hgn.block _ hDlt (fun e => by cases e)).trans h.K
       have hLb : Wb.heap[l]? = some (.loop (apRecS sym_ab fn sv Bs D .ready none)) := (hgn.block _ hl (fun e => by cases e)).trans h.L
       have hrowb : Wb.ownsRow w0.heap.size 189 2 v ss.length (ss.flatMap vc) := hrow.kept hgn (by cases v.ownBlock <;> simp)
       have hbb : Go.RowKit.Below w0.heap.size w0 Wb := h.below.grown hgn h.below.size (fun k e => by cases e)
       have hbr := run_beginRound (P := P) hLb rfl
       obtain ⟨W22, hW2⟩ : ∃ W22, Wb.putObj l (.loop { apRecS sym_ab fn sv Bs D .ready none with state := .busy }) = W22 := ⟨_, rfl⟩
       rw [hW2] at hbr
       have hgp : Wb.grownBy W22 (some l) := by rw [← hW2]; exact grownBy_putObj_a _ _ _
       have hk22 : KeepsWalks W W22 := (KeepsWalks.of_grownBy hgn (fun r o e _ => by cases e)).trans (by rw [← hW2]; exact KeepsWalks.putObj _ hLb rfl)
       have hv22 : W22.heap[Bs]? = some (.cells #[v] 177 (0, 0)) := by rw [← hW2]; exact (World.putObj_heap_other hBl).trans hvb
       have hK22 : W22.heap[D]? = some (.deferred (some [])) := by rw [← hW2]; exact (World.putObj_heap_other hDl).trans hKb
       have hL22 : W22.heap[l]? = some (.loop { apRecS sym_ab fn sv Bs D .ready none with state := .busy }) := by rw [← hW2]; exact World.putObj_heap_same (lt_of_some hLb)
       have hb4' : W22.heap[W.heap.size]? = some (.cells c 189 (0, 0)) := by rw [← hW2]; exact (World.putObj_heap_other (by omega)).trans hb4
       have hrow22 : W22.ownsRow w0.heap.size 189 2 v ss.length (ss.flatMap vc) := hrowb.kept hgp (ownsRow_ne_a hrowb hLb (fun cur e => by first | cases e | exact hne (Obj.cells.inj e).2.1))
       have hb22 : Go.RowKit.Below w0.heap.size w0 W22 := hbb.grown hgp hbb.size (fun k e => by cases e; exact h0l)
       have hBlt22 : Bs < W22.heap.size := lt_of_some hv22
       have hl22 : l < W22.heap.size := lt_of_some hL22
       have hDlt22 : D < W22.heap.size := lt_of_some hK22
       have ne_of22 : ∀ {j : Nat} {o : Obj}, W22.heap[j]? = some o → (∀ cur, o ≠ .cells cur 189 (0, 0)) → some j ≠ v.ownBlock := fun hj hno => by
         rcases ownsRow_ne_a hrow22 hj hno with e | e
         · rw [e]; simp
         · exact fun e' => e e'.symm
       obtain ⟨hc22, hf22⟩ := cell_of_box_a hv22
       clear hW2)
    | (refine wpListIn_loadR _ rfl 189 _ rfl 2 W.heap.size c Tryz.isAgg189 Tryz.sizeOf189 rfl hb4' hck ?_)
    | (refine wpListIn_slice1 _ rfl 177 _ rfl 189 2 c #[.bool false, .int .i64 0] t24 Tryz.sizeOf189 Tryz.zeroValue189 rfl rfl hck (by decide) (by decide) ?_; intro w21 hw21; subst hw21)
    | (gi_at_builtin; refine wpListIn_append_own _ rfl _ _ 177 rfl w0.heap.size 189 i0 (.agg #[.bool false, .int .i64 0]) 2 16 t24 hi hz0 hz1 hz2 rfl (by decide) _ _ _ rfl (hrow22.alloc _) ⟨W22.heap.size, 0, none⟩ 1 1 c.toList rfl (by simp [hck]) (cell_new _ _ _) hco (by omega) hNb2 (by have := hb22.size; simp; omega) ?_; intro v' w3 hown' hg3 hnil3
       have hv3 : w3.heap[Bs]? = some (.cells #[v] 177 (0, 0)) := (hg3.block Bs (by simp; omega) (ne_of22 hv22 (fun cur e => by first | cases e | exact hne (Obj.cells.inj e).2.1))).trans ((Below.heap_alloc _ _ Bs hBlt22).trans hv22)
       obtain ⟨hc3, hf3⟩ := cell_of_box_a hv3
       obtain ⟨g', cap', cur', rfl, hbase', hgb', hr1, hr2, hr3, hr4⟩ : ∃ g' cap' cur', v' = .slice (some ⟨g', 0, none⟩) (ss.length + 1) cap' ∧ w0.heap.size ≤ g' ∧ w3.heap[g']? = some (.cells cur' 189 (0, 0)) ∧ ss.length + 1 ≤ cap' ∧ cap' ≤ maxLen ∧ cur'.size = cap' * 2 ∧ cur'.toList.take ((ss.length + 1) * 2) = ss.flatMap vc ++ c.toList := by
         rcases hown'.2 with ⟨_, h0⟩ | h'
         · exact absurd h0 (by omega)
         · exact h'
       go_frame)
    | gi_round_op_a)
  have hg3' : (W22.alloc (.cells c 189)).grownBy w3 v.ownBlock := hg3
  have hL3 : w3.heap[l]? = some (.loop { apRecS sym_ab fn sv Bs D .ready none with state := .busy }) := (hg3'.block l (by simp; omega) (ne_of22 hL22 (fun cur e => by first | cases e | exact hne (Obj.cells.inj e).2.1))).trans ((Below.heap_alloc _ _ l hl22).trans hL22)
  have hK3 : w3.heap[D]? = some (.deferred (some [])) := (hg3'.block D (by simp; omega) (ne_of22 hK22 (fun cur e => by first | cases e | exact hne (Obj.cells.inj e).2.1))).trans ((Below.heap_alloc _ _ D hDlt22).trans hK22)
  obtain ⟨w4, hw4⟩ : ∃ w4, w3.setCell ⟨Bs, 0, none⟩ (.slice (some ⟨g', 0, none⟩) (ss.length + 1) cap') = w4 := ⟨_, rfl⟩
  rw [hw4]
  have hg4 : w3.grownBy w4 (some Bs) := by rw [← hw4]; exact grownBy_setCell0_a _ _ _
  have hv4 : w4.heap[Bs]? = some (.cells #[.slice (some ⟨g', 0, none⟩) (ss.length + 1) cap'] 177 (0, 0)) := by rw [← hw4]; exact heap_setCell_box_a _ hv3
  have hL4 : w4.heap[l]? = some (.loop { apRecS sym_ab fn sv Bs D .ready none with state := .busy }) := (hg4.block l (Array.getElem?_eq_some_iff.1 hL3).1 (fun e => hBl (by cases e; rfl))).trans hL3
  have hK4 : w4.heap[D]? = some (.deferred (some [])) := (hg4.block D (Array.getElem?_eq_some_iff.1 hK3).1 (fun e => hDB (by cases e; rfl))).trans hK3
  have hrow4 := hown'.kept hg4 (ownsRow_ne_a hown' hv3 (fun cur e => by first | cases e | exact hne (Obj.cells.inj e).2.1))
  have hl4 : l < w4.heap.size := (Array.getElem?_eq_some_iff.1 hL4).1
  have hb3 : Go.RowKit.Below w0.heap.size w0 w3 := (hb22.alloc hb22.size _).grown hg3' (by have := hb22.size; simp; omega) (fun k e => (hrow22.lt k e).1)
  have hb4 : Go.RowKit.Below w0.heap.size w0 w4 := hb3.grown hg4 hb3.size (fun k e => by cases e; exact h0B)
  have hk4 : KeepsWalks W w4 := ((hk22.trans (KeepsWalks.alloc _ _)).trans (KeepsWalks.of_grownBy hg3' (ownsRow_not_walk_a (hrow22.alloc _)))).trans (by rw [← hw4]; exact KeepsWalks.setCell _ _ _)
  clear hw4
  refine ⟨_, _, run_endRound none hL4, rfl, ⟨⟨_, (World.putObj_heap_other hBl).trans hv4, ?_, by simp⟩, World.putObj_heap_same hl4, (World.putObj_heap_other hDl).trans hK4, hb4.grown (grownBy_putObj_a _ _ _) hb4.size (fun k e => by cases e; exact h0l)⟩, hk4.trans (KeepsWalks.putObj _ hL4 rfl)⟩
  have := hrow4.kept (grownBy_putObj_a w4 l (.loop { { apRecS sym_ab fn sv Bs D .ready none with state := .busy } with state := if (none : Option Code).isNone then .ready else .done, pending := none })) (ownsRow_ne_a hrow4 hL4 (fun cur e => by first | cases e | exact hne (Obj.cells.inj e).2.1))
  simpa [vc, Value.cells] using this
set_option maxHeartbeats 2000000 in
theorem sym_append (F : Fence) (n : Nat) (h11 : F.fn 282) (hro : F.round = none) (hn : 2 ≤ n) (g : Nat) (lb : Array Value) (hFg : F.fn g) (eg : ∀ args w, (callFunc g args).run P w = .ok (.enter g args) w)
    (E : Value → Prop) (hE : ∀ x, E x → RecV 2 x) (S : List Value → Prop) (N : Nat) (hN : N ≤ maxLen) (hNb : N * 16 ≤ 140737488355328) (w : World) (hseq : SeqR F (n - 1) P g lb E S N w) :
    CallsIn F n P 282 #[.slice none 0 0, .func (.func g) #[] lb] w fun e w' => ∃ (v : Value) (ss : List Value), e = .returned v ∧ S ss ∧ w'.ownsRow w.heap.size 189 2 v ss.length (ss.flatMap vc) ∧ (v = .slice none 0 0 ↔ ss = []) ∧ Go.RowKit.Below w.heap.size w w' := by
  have h1 : 1 ≤ n := by omega
  have mixed : P.follows .mixedOrders = true := P_mixed; have t0 := Tryz.underlying0; have a0 := Tryz.isAgg0; have z0 := Tryz.sizeOf0; have v0 := Tryz.zeroValue0; have u0 := run_underlying Tryz.underlying0; have t24 := Tryz.underlying177; have a24 := Tryz.isAgg177; have z24 := Tryz.sizeOf177; have v24 := Tryz.zeroValue177; have u24 := run_underlying Tryz.underlying177; have t28 := Tryz.underlying356; have a28 := Tryz.isAgg356; have z28 := Tryz.sizeOf356; have v28 := Tryz.zeroValue356; have u28 := run_underlying Tryz.underlying356
  have hne : 177 ≠ 189 := fun e => by cases e
  refine callsIn_of_wp_marks Tryz.func282 rfl h11 ?_ hro
  simp only [Tryz.ntmps282, List.size_toArray, List.length_cons, List.length_nil, Nat.reduceAdd, Nat.reduceSub, Array.replicate_succ, Array.replicate_zero, List.push_toArray, List.append_toArray, List.nil_append, List.cons_append]
  gi_wp2
  refine wpIn_rangeFunc ?_
  intro fn hfn
  rw [hro]
  obtain ⟨W0, hW0⟩ : ∃ W0, w.alloc (.cells #[.slice none 0 0] 177) = W0 := ⟨_, rfl⟩
  have hs0 : W0.heap.size = w.heap.size + 1 := by rw [← hW0]; simp
  have hv0 : W0.heap[w.heap.size]? = some (.cells #[.slice none 0 0] 177 (0, 0)) := by rw [← hW0]; exact World.alloc_heap_new w _
  have hb0 : Go.RowKit.Below w.heap.size w W0 := by rw [← hW0]; exact (Below.refl _ w).alloc (Nat.le_refl _) _
  rw [hW0]
  obtain ⟨W1, hW1⟩ : ∃ W1, (W0.alloc (.deferred (some []))).alloc (.loop (apRecS sym_ab fn (.func (.func g) #[] lb) w.heap.size W0.heap.size .ready none)) = W1 := ⟨_, rfl⟩
  have hold : ∀ k, k < W0.heap.size → W1.heap[k]? = W0.heap[k]? := fun k hk => by
    rw [← hW1]; exact (Below.heap_alloc _ _ k (by simp; omega)).trans (Below.heap_alloc _ _ k hk)
  have hb1 : Go.RowKit.Below w.heap.size w W1 := by rw [← hW1]; exact (hb0.alloc hb0.size _).alloc (by have := hb0.size; simp; omega) _
  have hs1 : W1.heap.size = W0.heap.size + 2 := by rw [← hW1]; simp
  have hM : ApAtR 177 189 sym_ab 2 w fn (.func (.func g) #[] lb) w.heap.size (W0.heap.size + 1) W0.heap.size [] W1 :=
    ⟨⟨_, (hold w.heap.size (by omega)).trans hv0, ⟨by simp, .inl ⟨rfl, rfl⟩⟩, by simp⟩,
     by rw [← hW1]; have := World.alloc_heap_new (W0.alloc (.deferred (some []))) (.loop (apRecS sym_ab fn (.func (.func g) #[] lb) w.heap.size W0.heap.size .ready none)); rwa [World.size_alloc] at this,
     by rw [← hW1]; exact (Below.heap_alloc _ _ _ (by simp)).trans (World.alloc_heap_new W0 _), hb1⟩
  refine ⟨W0.heap.size + 1, [{ target := .collected W0.heap.size, args := #[] }], W1, { target := .fn (.func g) lb, args := #[.func (.yield (W0.heap.size + 1)) #[] #[]] }, W1, g,
    #[.func (.yield (W0.heap.size + 1)) #[] #[]] ++ lb, W1, ?_, ?_, ?_, ?_, fun _ => h1, ?_⟩
  · rw [← hW1]; exact run_enterLoop_outer _ _ _ _ _
  · simp [resolve, go_sem]
  · intro f' hf'; simp [Target.leads] at hf'; subst hf'; exact hFg
  · simp [invoke, go_sem, eg]
  · refine (hseq (W0.heap.size + 1) (ApAtR 177 189 sym_ab 2 w fn (.func (.func g) #[] lb) w.heap.size (W0.heap.size + 1) W0.heap.size) W1 hb1 (apR_abides 177 189 sym_ab 2 _ _ _ _ _ _ _ hb1.size)
      (fun pre x W hJ hl hx => sym_yield F (n - 1 - 1) w fn hfn _ w.heap.size (W0.heap.size + 1) W0.heap.size (by omega) (by omega) (by omega) (Nat.le_refl _) (by omega) N hN hNb pre x (hE x hx) W hJ hl) hM).mono ?_
    rintro e W2 ⟨⟨v0, rfl⟩, ss, hS, h2⟩
    obtain ⟨v, hv, hrow, hnil⟩ := h2.box
    have hend := run_endLoop (P := P) h2.L (by simp [apRecS])
    obtain ⟨W3, hW3⟩ : ∃ W3, W2.putObj (W0.heap.size + 1) (.loop { apRecS sym_ab fn (.func (.func g) #[] lb) w.heap.size W0.heap.size .ready none with state := .exhausted }) = W3 := ⟨_, rfl⟩
    rw [hW3] at hend
    have hg3 : W2.grownBy W3 (some (W0.heap.size + 1)) := by rw [← hW3]; exact grownBy_putObj_a _ _ _
    have hv3 : W3.heap[w.heap.size]? = some (.cells #[v] 177 (0, 0)) := by rw [← hW3]; exact (World.putObj_heap_other (by omega)).trans hv
    have hK3 : W3.heap[W0.heap.size]? = some (.deferred (some [])) := by rw [← hW3]; exact (World.putObj_heap_other (by omega)).trans h2.K
    have hrow3 := hrow.kept hg3 (ownsRow_ne_a hrow h2.L (fun cur e => by first | cases e | exact hne (Obj.cells.inj e).2.1))
    have hb3 : Go.RowKit.Below w.heap.size w W3 := h2.below.grown hg3 h2.below.size (fun k e => by cases e; omega)
    obtain ⟨hc3, hf3⟩ := cell_of_box_a hv3
    clear hW3
    refine ⟨none, W3, hend, ?_⟩
    gi_wp2
    rw [← hs0]
    refine ⟨by simp, .inl ⟨_, _, rfl, run_takeDeferred hK3, ?_⟩⟩
    exact ⟨_, results_tmp rfl _ _ _, v, ss, rfl, hS, hrow3.kept (grownBy_putObj_a _ _ _) (ownsRow_ne_a hrow3 hK3 (fun cur e => by first | cases e | exact hne (Obj.cells.inj e).2.1)), hnil, hb3.grown (grownBy_putObj_a _ _ _) hb3.size (fun k e => by cases e; omega)⟩
set_option maxHeartbeats 1000000 in
theorem sym_collect (F : Fence) (n : Nat) (h8 : F.fn 243) (h11 : F.fn 282) (hro : F.round = none) (hn : 3 ≤ n) (g : Nat) (lb : Array Value) (hFg : F.fn g) (eg : ∀ args w, (callFunc g args).run P w = .ok (.enter g args) w)
    (E : Value → Prop) (hE : ∀ x, E x → RecV 2 x) (S : List Value → Prop) (N : Nat) (hN : N ≤ maxLen) (hNb : N * 16 ≤ 140737488355328) (w : World) (hseq : SeqR F (n - 1 - 1) P g lb E S N w) :
    CallsIn F n P 243 #[.func (.func g) #[] lb] w fun e w' => ∃ (v : Value) (ss : List Value), e = .returned v ∧ S ss ∧ w'.ownsRow w.heap.size 189 2 v ss.length (ss.flatMap vc) ∧ (v = .slice none 0 0 ↔ ss = []) ∧ Go.RowKit.Below w.heap.size w w' := by
  have h1 : 1 ≤ n := by omega
  have e11 : ∀ args w, (callFunc 282 args).run P w = .ok (.enter 282 args) w := enters_of Tryz.func282 (by kernel_rfl) rfl
  have mixed : P.follows .mixedOrders = true := P_mixed; have t0 := Tryz.underlying0; have a0 := Tryz.isAgg0; have z0 := Tryz.sizeOf0; have v0 := Tryz.zeroValue0; have u0 := run_underlying Tryz.underlying0; have t24 := Tryz.underlying177; have a24 := Tryz.isAgg177; have z24 := Tryz.sizeOf177; have v24 := Tryz.zeroValue177; have u24 := run_underlying Tryz.underlying177; have t28 := Tryz.underlying356; have a28 := Tryz.isAgg356; have z28 := Tryz.sizeOf356; have v28 := Tryz.zeroValue356; have u28 := run_underlying Tryz.underlying356
  refine callsIn_of_wp Tryz.func243 rfl h8 ?_ hro
  simp only [Tryz.ntmps243, List.size_toArray, List.length_cons, List.length_nil, Nat.reduceAdd, Nat.reduceSub, Array.replicate_succ, Array.replicate_zero, List.push_toArray, List.append_toArray, List.nil_append, List.cons_append]
  gi_wp2_with (gi_at_fn 282; refine (sym_append F (n - 1) h11 hro (by omega) g lb hFg eg E hE S N hN hNb _ hseq).mono ?_; rintro e w' ⟨v, ss, rfl, hS, hrow, hnil, hb⟩)
  go_ret
  exact ⟨v, ss, rfl, hS, hrow, hnil, hb⟩
theorem sym_col (a b : Nat) (arr : Array MapEntry) (clock : Nat) (w : World) (ha : w.cell? ⟨a, 0, none⟩ = some (.map (some b))) (hb : w.heap[b]? = some (.map arr clock)) (hst : Stamped arr clock) (hE : ∀ x ∈ arr.toList.map (·.key), RecV 2 x) (hlen : arr.size ≤ 1000000) :
    Calls P 243 #[.func (.func 245) #[] #[.pointer (some ⟨a, 0, none⟩)]] w fun e w' => ∃ (v : Value) (ss : List Value), e = .returned v ∧ ss.Perm (arr.toList.map (·.key)) ∧ w'.ownsRow w.heap.size 189 2 v ss.length (ss.flatMap vc) ∧ (v = .slice none 0 0 ↔ ss = []) ∧ Go.RowKit.Below w.heap.size w w' := by
  have haB : a < w.heap.size := by
    simp only [World.cell?] at ha
    cases h : w.heap[a]? with
    | none => rw [h] at ha; cases ha
    | some o => exact lt_of_some h
  have hml0 : (1000000 : Nat) ≤ maxLen := by decide
  exact callsIn_wide.1 (sym_collect Fence.wide 5 trivial trivial rfl (by omega) 245 #[.pointer (some ⟨a, 0, none⟩)] trivial (enters_of Tryz.func245 (by kernel_rfl) rfl) _ hE _ arr.size (by omega) (by omega) w
    (sym_gives Fence.wide 3 trivial rfl (by omega) a b clock arr hst hE w haB ha hb))
end Go.Fk
namespace Go.Fk
open Go Go.MapKept Go.Maps Go.RowKit Go.Shelf Go.Proofs Go.Sort Go.Ev
open Go.ChangeMaps (setBlock)
set_option maxHeartbeats 1000000 in
theorem item_keys1 (F : Fence) (n : Nat) (h10 : F.fn 317) (hro : F.round = none) (hn : 1 ≤ n) (l Bm b clock : Nat) (es : Array MapEntry) (hs : Stamped es clock) (hE : ∀ x ∈ es.toList.map (·.key), RecV 3 x) (J : List Value → World → Prop)
    (hY : ∀ pre x W, J pre W → pre.length < es.size → x ∈ es.toList.map (·.key) → YieldAt F (n - 1) P l #[x] W fun e W' => e = .returned (.bool true) ∧ J (pre ++ [x]) W' ∧ KeepsWalks W W')
    (W : World) (hJ : AbidesFrom W.heap.size J) (hm : W.cell? ⟨Bm, 0, none⟩ = some (.map (some b))) (hb : W.heap[b]? = some (.map es clock)) (h0 : J [] W) :
    CallsIn F n P 317 #[.func (.yield l) #[] #[], .pointer (some ⟨Bm, 0, none⟩)] W fun e W' => (∃ v, e = .returned v) ∧ ∃ ss : List Value, ss.Perm (es.toList.map (·.key)) ∧ J ss W' := by
  have mixed : P.follows .mixedOrders = true := P_mixed; have t0 := Tryz.underlying0; have a0 := Tryz.isAgg0; have z0 := Tryz.sizeOf0; have v0 := Tryz.zeroValue0; have u0 := run_underlying Tryz.underlying0; have t4 := Tryz.underlying4; have a4 := Tryz.isAgg4; have z4 := Tryz.sizeOf4; have v4 := Tryz.zeroValue4; have u4 := run_underlying Tryz.underlying4; have t23 := Tryz.underlying416; have a23 := Tryz.isAgg416; have z23 := Tryz.sizeOf416; have v23 := Tryz.zeroValue416; have u23 := run_underlying Tryz.underlying416; have t33 := Tryz.underlying417; have a33 := Tryz.isAgg417; have z33 := Tryz.sizeOf417; have v33 := Tryz.zeroValue417; have u33 := run_underlying Tryz.underlying417
  refine callsIn_of_wp Tryz.func317 rfl h10 ?_ hro
  simp only [Tryz.ntmps317, List.size_toArray, List.length_cons, List.length_nil, Nat.reduceAdd, Nat.reduceSub, Array.replicate_succ, Array.replicate_zero, List.push_toArray, List.append_toArray, List.nil_append, List.cons_append]
  gi_wp2_with (first
    | (gi_at_range; refine wpListIn_range_raw _ rfl _ 416 rfl 349 4 t23 b es clock rfl hb ?_; intro w0 hw0)
    | gi_in)
  have hrg0 : w0.heap[W.heap.size]? = some (.mapIter (some b) clock #[] clock) := by rw [hw0]; exact World.alloc_heap_new W _
  have hg0 : W.grownBy w0 none := by rw [hw0]; exact World.grownBy_alloc W _ none
  have hb0 : w0.heap[b]? = some (.map es clock) := (hg0.block b (lt_of_some hb) (fun e => by cases e)).trans hb
  clear hw0
  go_frame
  gi_loopw [3] (fun _ wr => ∃ (seen : Array Nat) (ss : List Value), wr.heap[W.heap.size]? = some (.mapIter (some b) clock seen clock) ∧ wr.heap[b]? = some (.map es clock) ∧ Coll es seen ss ∧ J ss wr)
    (fun _ wr => wr.rangeLeft b W.heap.size)
  case atStart =>
    exact ⟨#[], [], hrg0, hb0, Coll.start es, hJ [] W w0 none h0 hg0 (fun r e => by cases e)⟩
  case round =>
    obtain ⟨seen, ss, hrg, hbr, hC, hJs⟩ := hrel
    gi_wp2_with (first
      | (gi_at_next; refine wpListIn_next_raw _ rfl _ rfl b W.heap.size clock seen es rfl hrg hbr hs ?_ ?_)
      | gi_in)
    · intro hz
      gi_wp2
      go_end0
      exact ⟨⟨_, rfl⟩, ss, hC.perm hs (by simpa using hz), hJs⟩
    · intro e he w2 hg2 hrg2 hb2 hen
      have he : e ∈ (leftOf es seen).toList := by simpa using he
      have hJ2 : J ss w2 := hJ ss wr w2 (some W.heap.size) hJs hg2 (fun r e => by cases e; exact ⟨Nat.le_refl _, _, hrg, rfl⟩)
      obtain ⟨c, hkey, hck, hco⟩ := hE e.key (List.mem_map_of_mem (mem_left he).1)
      gi_wp2_with (first
        | (refine wpListIn_allocR _ rfl 349 rfl #[.int .i64 0, .int .i64 0, .int .i64 0] Tryz.zeroValue349 ?_; intro w3 hw3
           have hb3 : w3.heap[w2.heap.size]? = some (.cells #[.int .i64 0, .int .i64 0, .int .i64 0] 349 (0, 0)) := by rw [hw3]; exact World.alloc_heap_new w2 _
           have hg3 : w2.grownBy w3 none := by rw [hw3]; exact World.grownBy_alloc w2 _ none
           clear hw3)
        | (refine wpListIn_storeR _ rfl 349 _ _ rfl 3 w2.heap.size c #[.int .i64 0, .int .i64 0, .int .i64 0] Tryz.sizeOf349 rfl (by first | rfl | exact hkey) hb3 rfl hck hco ?_; intro w4 hg4 hs4 hb4
           have hg5 : w2.grownBy w4 none := hg3.andThen hg4 (fun j e => .inl (by cases e; exact Nat.le_refl _))
           have hJ4 : J ss w4 := hJ ss w2 w4 none hJ2 hg5 (fun r e => by cases e)
           have hrg4 : w4.heap[W.heap.size]? = some (.mapIter (some b) clock (seen.push e.born) clock) := (hg5.block _ (lt_of_some hrg2) (fun e => by cases e)).trans hrg2
           have hb5 : w4.heap[b]? = some (.map es clock) := (hg5.block _ (lt_of_some hb2) (fun e => by cases e)).trans hb2
           obtain ⟨fn, tmps, assign, body, hy, hR⟩ := hY ss (.agg c) w4 hJ4 (hC.more he) (hkey ▸ List.mem_map_of_mem (mem_left he).1))
        | (refine wpListIn_loadR _ rfl 349 _ rfl 3 w2.heap.size c Tryz.isAgg349 Tryz.sizeOf349 rfl hb4 hck ?_)
        | gi_in)
      refine hR.mono ?_
      rintro e' W3 ⟨rfl, hJ3, hk3⟩
      gi_wp2
      have hrg3 := hk3.same _ _ hrg4 rfl
      have hb3' := hk3.same _ _ hb5 rfl
      go_roundw
      case rel => exact ⟨_, ss ++ [.agg c], hrg3, hb3', hkey ▸ hC.step hs he, hJ3⟩
      case measure =>
        simp only [World.rangeLeft, hbr, hrg, hb3', hrg3]
        exact left_shrinks es seen e he
theorem item_gives (F : Fence) (n : Nat) (h10 : F.fn 317) (hro : F.round = none) (hn : 1 ≤ n) (Bm b clock : Nat) (es : Array MapEntry) (hs : Stamped es clock) (hE : ∀ x ∈ es.toList.map (·.key), RecV 3 x) (w : World) (hBm : Bm < w.heap.size)
    (hm : w.cell? ⟨Bm, 0, none⟩ = some (.map (some b))) (hb : w.heap[b]? = some (.map es clock)) :
    SeqR F n P 317 #[.pointer (some ⟨Bm, 0, none⟩)] (fun x => x ∈ es.toList.map (·.key)) (fun ss => ss.Perm (es.toList.map (·.key))) es.size w := fun l J W hW hJ hY h0 =>
  item_keys1 F n h10 hro hn l Bm b clock es hs hE J hY W hJ ((hW.cell (p := ⟨Bm, 0, none⟩) hBm).trans hm) ((hW.block b (lt_of_some hb)).trans hb) h0
noncomputable def item_ab : Code × Code := rfAt Tryz.f349
theorem item_yield (F : Fence) (m : Nat) (w0 : World) (fn : FuncId) (hfn : F.fn fn) (sv : Value) (Bs l D : Nat) (hBl : Bs ≠ l) (hDl : D ≠ l) (hDB : D ≠ Bs) (h0B : w0.heap.size ≤ Bs) (h0l : w0.heap.size ≤ l)
    (N : Nat) (hN : N ≤ maxLen) (hNb : N * 24 ≤ 140737488355328) (ss : List Value) (x : Value) (hx : RecV 3 x) (W : World) (h : ApAtR 263 349 item_ab 3 w0 fn sv Bs l D ss W) (hlen : ss.length < N) :
    YieldAt F m P l #[x] W fun e W' => e = .returned (.bool true) ∧ ApAtR 263 349 item_ab 3 w0 fn sv Bs l D (ss ++ [x]) W' ∧ KeepsWalks W W' := by
  have mixed : P.follows .mixedOrders = true := P_mixed; have t0 := Tryz.underlying0; have a0 := Tryz.isAgg0; have z0 := Tryz.sizeOf0; have v0 := Tryz.zeroValue0; have u0 := run_underlying Tryz.underlying0; have t24 := Tryz.underlying263; have a24 := Tryz.isAgg263; have z24 := Tryz.sizeOf263; have v24 := Tryz.zeroValue263; have u24 := run_underlying Tryz.underlying263; have t28 := Tryz.underlying464; have a28 := Tryz.isAgg464; have z28 := Tryz.sizeOf464; have v28 := Tryz.zeroValue464; have u28 := run_underlying Tryz.underlying464
  have a26 := Tryz.isAgg349
  have hne : 263 ≠ 349 := fun e => by cases e
  obtain ⟨i0, hi, hz0, hz1, hz2⟩ := info_parts (show (P.info? 349).map (fun i => (i.zero, i.size, i.bytes)) = some (some (.agg #[.int .i64 0, .int .i64 0, .int .i64 0]), 3, 24) by kernel_rfl)
  obtain ⟨v, hv, hrow, _⟩ := h.box
  obtain ⟨c, rfl, hck, hco⟩ := hx
  refine ⟨fn, #[.slice none 0 0, sv, .pointer (some ⟨Bs, 0, none⟩), undef, .slice none 0 0, undef, sv, .agg c, undef, undef, undef, undef, undef], item_ab.1, item_ab.2, by simpa [apRecS] using run_yield (P := P) (args := #[.agg c]) h.L rfl, roundIn_of_wpIn hfn ?_⟩
  have hl : l < W.heap.size := lt_of_some h.L
  have hBlt : Bs < W.heap.size := lt_of_some hv
  have hDlt : D < W.heap.size := lt_of_some h.K
  have hNb2 : (ss.length + 1) * 24 ≤ 140737488355328 := Nat.le_trans (Nat.mul_le_mul_right _ (by omega)) hNb
  dsimp only [item_ab, rfAt, rfOf, Tryz.f349]
  gi_wp2_with (first
    | (refine wpListIn_allocR _ rfl 349 rfl #[.int .i64 0, .int .i64 0, .int .i64 0] Tryz.zeroValue349 ?_; intro W21 hw3
       have hb3 : W21.heap[W.heap.size]? = some (.cells #[.int .i64 0, .int .i64 0, .int .i64 0] 349 (0, 0)) := by rw [hw3]; exact World.alloc_heap_new W _
       have hg21 : W.grownBy W21 none := by rw [hw3]; exact World.grownBy_alloc W _ none
       clear hw3)
    | (refine wpListIn_storeR _ rfl 349 _ _ rfl 3 W.heap.size c #[.int .i64 0, .int .i64 0, .int .i64 0] Tryz.sizeOf349 rfl rfl hb3 rfl hck hco ?_; intro Wb hg4 hs4 hb4
       have hgn : W.grownBy Wb none := hg21.andThen hg4 (fun j e => .inl (by cases e; exact Nat.le_refl _))
       have hvb : Wb.heap[Bs]? = some (.cells #[v] 263 (0, 0)) := (hgn.block _ hBlt (fun e => by cases e)).trans hv
       have hKb : Wb.heap[D]? = some (.deferred (some [])) := (hgn.block _ hDlt (fun e => by cases e)).trans h.K
       have hLb : Wb.heap[l]? = some (.loop (apRecS item_ab fn sv Bs D .ready none)) := (hgn.block _ hl (fun e => by cases e)).trans h.L
       have hrowb : Wb.ownsRow w0.heap.size 349 3 v ss.length (ss.flatMap vc) := hrow.kept hgn (by cases v.ownBlock <;> simp)
       have hbb : Go.RowKit.Below w0.heap.size w0 Wb := h.below.grown hgn h.below.size (fun k e => by cases e)
       have hbr := run_beginRound (P := P) hLb rfl
       obtain ⟨W22, hW2⟩ : ∃ W22, Wb.putObj l (.loop { apRecS item_ab fn sv Bs D .ready none with state := .busy }) = W22 := ⟨_, rfl⟩
       rw [hW2] at hbr
       have hgp : Wb.grownBy W22 (some l) := by rw [← hW2]; exact grownBy_putObj_a _ _ _
       have hk22 : KeepsWalks W W22 := (KeepsWalks.of_grownBy hgn (fun r o e _ => by cases e)).trans (by rw [← hW2]; exact KeepsWalks.putObj _ hLb rfl)
       have hv22 : W22.heap[Bs]? = some (.cells #[v] 263 (0, 0)) := by rw [← hW2]; exact (World.putObj_heap_other hBl).trans hvb
       have hK22 : W22.heap[D]? = some (.deferred (some [])) := by rw [← hW2]; exact (World.putObj_heap_other hDl).trans hKb
       have hL22 : W22.heap[l]? = some (.loop { apRecS item_ab fn sv Bs D .ready none with state := .busy }) := by rw [← hW2]; exact World.putObj_heap_same (lt_of_some hLb)
       have hb4' : W22.heap[W.heap.size]? = some (.cells c 349 (0, 0)) := by rw [← hW2]; exact (World.putObj_heap_other (by omega)).trans hb4
       have hrow22 : W22.ownsRow w0.heap.size 349 3 v ss.length (ss.flatMap vc) := hrowb.kept hgp (ownsRow_ne_a hrowb hLb (fun cur e => by first | cases e | exact hne (Obj.cells.inj e).2.1))
       have hb22 : Go.RowKit.Below w0.heap.size w0 W22 := hbb.grown hgp hbb.size (fun k e => by cases e; exact h0l)
       have hBlt22 : Bs < W22.heap.size := lt_of_some hv22
       have hl22 : l < W22.heap.size := lt_of_some hL22
       have hDlt22 : D < W22.heap.size := lt_of_some hK22
       have ne_of22 : ∀ {j : Nat} {o : Obj}, W22.heap[j]? = some o → (∀ cur, o ≠ .cells cur 349 (0, 0)) → some j ≠ v.ownBlock := fun hj hno => by
         rcases ownsRow_ne_a hrow22 hj hno with e | e
         · rw [e]; simp
         · exact fun e' => e e'.symm
       obtain ⟨hc22, hf22⟩ := cell_of_box_a hv22
       clear hW2)
    | (refine wpListIn_loadR _ rfl 349 _ rfl 3 W.heap.size c Tryz.isAgg349 Tryz.sizeOf349 rfl hb4' hck ?_)
    | (refine wpListIn_slice1 _ rfl 263 _ rfl 349 3 c #[.int .i64 0, .int .i64 0, .int .i64 0] t24 Tryz.sizeOf349 Tryz.zeroValue349 rfl rfl hck (by decide) (by decide) ?_; intro w21 hw21; subst hw21)
    | (gi_at_builtin; refine wpListIn_append_own _ rfl _ _ 263 rfl w0.heap.size 349 i0 (.agg #[.int .i64 0, .int .i64 0, .int .i64 0]) 3 24 t24 hi hz0 hz1 hz2 rfl (by decide) _ _ _ rfl (hrow22.alloc _) ⟨W22.heap.size, 0, none⟩ 1 1 c.toList rfl (by simp [hck]) (cell_new _ _ _) hco (by omega) hNb2 (by have := hb22.size; simp; omega) ?_; intro v' w3 hown' hg3 hnil3
       have hv3 : w3.heap[Bs]? = some (.cells #[v] 263 (0, 0)) := (hg3.block Bs (by simp; omega) (ne_of22 hv22 (fun cur e => by first | cases e | exact hne (Obj.cells.inj e).2.1))).trans ((Below.heap_alloc _ _ Bs hBlt22).trans hv22)
       obtain ⟨hc3, hf3⟩ := cell_of_box_a hv3
       obtain ⟨g', cap', cur', rfl, hbase', hgb', hr1, hr2, hr3, hr4⟩ : ∃ g' cap' cur', v' = .slice (some ⟨g', 0, none⟩) (ss.length + 1) cap' ∧ w0.heap.size ≤ g' ∧ w3.heap[g']? = some (.cells cur' 349 (0, 0)) ∧ ss.length + 1 ≤ cap' ∧ cap' ≤ maxLen ∧ cur'.size = cap' * 3 ∧ cur'.toList.take ((ss.length + 1) * 3) = ss.flatMap vc ++ c.toList := by
         rcases hown'.2 with ⟨_, h0⟩ | h'
         · exact absurd h0 (by omega)
         · exact h'
       go_frame)
    | gi_round_op_a)
  have hg3' : (W22.alloc (.cells c 349)).grownBy w3 v.ownBlock := hg3
  have hL3 : w3.heap[l]? = some (.loop { apRecS item_ab fn sv Bs D .ready none with state := .busy }) := (hg3'.block l (by simp; omega) (ne_of22 hL22 (fun cur e => by first | cases e | exact hne (Obj.cells.inj e).2.1))).trans ((Below.heap_alloc _ _ l hl22).trans hL22)
  have hK3 : w3.heap[D]? = some (.deferred (some [])) := (hg3'.block D (by simp; omega) (ne_of22 hK22 (fun cur e => by first | cases e | exact hne (Obj.cells.inj e).2.1))).trans ((Below.heap_alloc _ _ D hDlt22).trans hK22)
  obtain ⟨w4, hw4⟩ : ∃ w4, w3.setCell ⟨Bs, 0, none⟩ (.slice (some ⟨g', 0, none⟩) (ss.length + 1) cap') = w4 := ⟨_, rfl⟩
  rw [hw4]
  have hg4 : w3.grownBy w4 (some Bs) := by rw [← hw4]; exact grownBy_setCell0_a _ _ _
  have hv4 : w4.heap[Bs]? = some (.cells #[.slice (some ⟨g', 0, none⟩) (ss.length + 1) cap'] 263 (0, 0)) := by rw [← hw4]; exact heap_setCell_box_a _ hv3
  have hL4 : w4.heap[l]? = some (.loop { apRecS item_ab fn sv Bs D .ready none with state := .busy }) := (hg4.block l (Array.getElem?_eq_some_iff.1 hL3).1 (fun e => hBl (by cases e; rfl))).trans hL3
  have hK4 : w4.heap[D]? = some (.deferred (some [])) := (hg4.block D (Array.getElem?_eq_some_iff.1 hK3).1 (fun e => hDB (by cases e; rfl))).trans hK3
  have hrow4 := hown'.kept hg4 (ownsRow_ne_a hown' hv3 (fun cur e => by first | cases e | exact hne (Obj.cells.inj e).2.1))
  have hl4 : l < w4.heap.size := (Array.getElem?_eq_some_iff.1 hL4).1
  have hb3 : Go.RowKit.Below w0.heap.size w0 w3 := (hb22.alloc hb22.size _).grown hg3' (by have := hb22.size; simp; omega) (fun k e => (hrow22.lt k e).1)
  have hb4 : Go.RowKit.Below w0.heap.size w0 w4 := hb3.grown hg4 hb3.size (fun k e => by cases e; exact h0B)
  have hk4 : KeepsWalks W w4 := ((hk22.trans (KeepsWalks.alloc _ _)).trans (KeepsWalks.of_grownBy hg3' (ownsRow_not_walk_a (hrow22.alloc _)))).trans (by rw [← hw4]; exact KeepsWalks.setCell _ _ _)
  clear hw4
  refine ⟨_, _, run_endRound none hL4, rfl, ⟨⟨_, (World.putObj_heap_other hBl).trans hv4, ?_, by simp⟩, World.putObj_heap_same hl4, (World.putObj_heap_other hDl).trans hK4, hb4.grown (grownBy_putObj_a _ _ _) hb4.size (fun k e => by cases e; exact h0l)⟩, hk4.trans (KeepsWalks.putObj _ hL4 rfl)⟩
  have := hrow4.kept (grownBy_putObj_a w4 l (.loop { { apRecS item_ab fn sv Bs D .ready none with state := .busy } with state := if (none : Option Code).isNone then .ready else .done, pending := none })) (ownsRow_ne_a hrow4 hL4 (fun cur e => by first | cases e | exact hne (Obj.cells.inj e).2.1))
  simpa [vc, Value.cells] using this
set_option maxHeartbeats 2000000 in
theorem item_append (F : Fence) (n : Nat) (h11 : F.fn 349) (hro : F.round = none) (hn : 2 ≤ n) (g : Nat) (lb : Array Value) (hFg : F.fn g) (eg : ∀ args w, (callFunc g args).run P w = .ok (.enter g args) w)
    (E : Value → Prop) (hE : ∀ x, E x → RecV 3 x) (S : List Value → Prop) (N : Nat) (hN : N ≤ maxLen) (hNb : N * 24 ≤ 140737488355328) (w : World) (hseq : SeqR F (n - 1) P g lb E S N w) :
    CallsIn F n P 349 #[.slice none 0 0, .func (.func g) #[] lb] w fun e w' => ∃ (v : Value) (ss : List Value), e = .returned v ∧ S ss ∧ w'.ownsRow w.heap.size 349 3 v ss.length (ss.flatMap vc) ∧ (v = .slice none 0 0 ↔ ss = []) ∧ Go.RowKit.Below w.heap.size w w' := by
  have h1 : 1 ≤ n := by omega
  have mixed : P.follows .mixedOrders = true := P_mixed; have t0 := Tryz.underlying0; have a0 := Tryz.isAgg0; have z0 := Tryz.sizeOf0; have v0 := Tryz.zeroValue0; have u0 := run_underlying Tryz.underlying0; have t24 := Tryz.underlying263; have a24 := Tryz.isAgg263; have z24 := Tryz.sizeOf263; have v24 := Tryz.zeroValue263; have u24 := run_underlying Tryz.underlying263; have t28 := Tryz.underlying464; have a28 := Tryz.isAgg464; have z28 := Tryz.sizeOf464; have v28 := Tryz.zeroValue464; have u28 := run_underlying Tryz.underlying464
  have hne : 263 ≠ 349 := fun e => by cases e
  refine callsIn_of_wp_marks Tryz.func349 rfl h11 ?_ hro
  simp only [Tryz.ntmps349, List.size_toArray, List.length_cons, List.length_nil, Nat.reduceAdd, Nat.reduceSub, Array.replicate_succ, Array.replicate_zero, List.push_toArray, List.append_toArray, List.nil_append, List.cons_append]
  gi_wp2
  refine wpIn_rangeFunc ?_
  intro fn hfn
  rw [hro]
  obtain ⟨W0, hW0⟩ : ∃ W0, w.alloc (.cells #[.slice none 0 0] 263) = W0 := ⟨_, rfl⟩
  have hs0 : W0.heap.size = w.heap.size + 1 := by rw [← hW0]; simp
  have hv0 : W0.heap[w.heap.size]? = some (.cells #[.slice none 0 0] 263 (0, 0)) := by rw [← hW0]; exact World.alloc_heap_new w _
  have hb0 : Go.RowKit.Below w.heap.size w W0 := by rw [← hW0]; exact (Below.refl _ w).alloc (Nat.le_refl _) _
  rw [hW0]
  obtain ⟨W1, hW1⟩ : ∃ W1, (W0.alloc (.deferred (some []))).alloc (.loop (apRecS item_ab fn (.func (.func g) #[] lb) w.heap.size W0.heap.size .ready none)) = W1 := ⟨_, rfl⟩
  have hold : ∀ k, k < W0.heap.size → W1.heap[k]? = W0.heap[k]? := fun k hk => by
    rw [← hW1]; exact (Below.heap_alloc _ _ k (by simp; omega)).trans (Below.heap_alloc _ _ k hk)
  have hb1 : Go.RowKit.Below w.heap.size w W1 := by rw [← hW1]; exact (hb0.alloc hb0.size _).alloc (by have := hb0.size; simp; omega) _
  have hs1 : W1.heap.size = W0.heap.size + 2 := by rw [← hW1]; simp
  have hM : ApAtR 263 349 item_ab 3 w fn (.func (.func g) #[] lb) w.heap.size (W0.heap.size + 1) W0.heap.size [] W1 :=
    ⟨⟨_, (hold w.heap.size (by omega)).trans hv0, ⟨by simp, .inl ⟨rfl, rfl⟩⟩, by simp⟩,
     by rw [← hW1]; have := World.alloc_heap_new (W0.alloc (.deferred (some []))) (.loop (apRecS item_ab fn (.func (.func g) #[] lb) w.heap.size W0.heap.size .ready none)); rwa [World.size_alloc] at this,
     by rw [← hW1]; exact (Below.heap_alloc _ _ _ (by simp)).trans (World.alloc_heap_new W0 _), hb1⟩
  refine ⟨W0.heap.size + 1, [{ target := .collected W0.heap.size, args := #[] }], W1, { target := .fn (.func g) lb, args := #[.func (.yield (W0.heap.size + 1)) #[] #[]] }, W1, g,
    #[.func (.yield (W0.heap.size + 1)) #[] #[]] ++ lb, W1, ?_, ?_, ?_, ?_, fun _ => h1, ?_⟩
  · rw [← hW1]; exact run_enterLoop_outer _ _ _ _ _
  · simp [resolve, go_sem]
  · intro f' hf'; simp [Target.leads] at hf'; subst hf'; exact hFg
  · simp [invoke, go_sem, eg]
  · refine (hseq (W0.heap.size + 1) (ApAtR 263 349 item_ab 3 w fn (.func (.func g) #[] lb) w.heap.size (W0.heap.size + 1) W0.heap.size) W1 hb1 (apR_abides 263 349 item_ab 3 _ _ _ _ _ _ _ hb1.size)
      (fun pre x W hJ hl hx => item_yield F (n - 1 - 1) w fn hfn _ w.heap.size (W0.heap.size + 1) W0.heap.size (by omega) (by omega) (by omega) (Nat.le_refl _) (by omega) N hN hNb pre x (hE x hx) W hJ hl) hM).mono ?_
    rintro e W2 ⟨⟨v0, rfl⟩, ss, hS, h2⟩
    obtain ⟨v, hv, hrow, hnil⟩ := h2.box
    have hend := run_endLoop (P := P) h2.L (by simp [apRecS])
    obtain ⟨W3, hW3⟩ : ∃ W3, W2.putObj (W0.heap.size + 1) (.loop { apRecS item_ab fn (.func (.func g) #[] lb) w.heap.size W0.heap.size .ready none with state := .exhausted }) = W3 := ⟨_, rfl⟩
    rw [hW3] at hend
    have hg3 : W2.grownBy W3 (some (W0.heap.size + 1)) := by rw [← hW3]; exact grownBy_putObj_a _ _ _
    have hv3 : W3.heap[w.heap.size]? = some (.cells #[v] 263 (0, 0)) := by rw [← hW3]; exact (World.putObj_heap_other (by omega)).trans hv
    have hK3 : W3.heap[W0.heap.size]? = some (.deferred (some [])) := by rw [← hW3]; exact (World.putObj_heap_other (by omega)).trans h2.K
    have hrow3 := hrow.kept hg3 (ownsRow_ne_a hrow h2.L (fun cur e => by first | cases e | exact hne (Obj.cells.inj e).2.1))
    have hb3 : Go.RowKit.Below w.heap.size w W3 := h2.below.grown hg3 h2.below.size (fun k e => by cases e; omega)
    obtain ⟨hc3, hf3⟩ := cell_of_box_a hv3
    clear hW3
    refine ⟨none, W3, hend, ?_⟩
    gi_wp2
    rw [← hs0]
    refine ⟨by simp, .inl ⟨_, _, rfl, run_takeDeferred hK3, ?_⟩⟩
    exact ⟨_, results_tmp rfl _ _ _, v, ss, rfl, hS, hrow3.kept (grownBy_putObj_a _ _ _) (ownsRow_ne_a hrow3 hK3 (fun cur e => by first | cases e | exact hne (Obj.cells.inj e).2.1)), hnil, hb3.grown (grownBy_putObj_a _ _ _) hb3.size (fun k e => by cases e; omega)⟩
set_option maxHeartbeats 1000000 in
theorem item_collect (F : Fence) (n : Nat) (h8 : F.fn 315) (h11 : F.fn 349) (hro : F.round = none) (hn : 3 ≤ n) (g : Nat) (lb : Array Value) (hFg : F.fn g) (eg : ∀ args w, (callFunc g args).run P w = .ok (.enter g args) w)
    (E : Value → Prop) (hE : ∀ x, E x → RecV 3 x) (S : List Value → Prop) (N : Nat) (hN : N ≤ maxLen) (hNb : N * 24 ≤ 140737488355328) (w : World) (hseq : SeqR F (n - 1 - 1) P g lb E S N w) :
    CallsIn F n P 315 #[.func (.func g) #[] lb] w fun e w' => ∃ (v : Value) (ss : List Value), e = .returned v ∧ S ss ∧ w'.ownsRow w.heap.size 349 3 v ss.length (ss.flatMap vc) ∧ (v = .slice none 0 0 ↔ ss = []) ∧ Go.RowKit.Below w.heap.size w w' := by
  have h1 : 1 ≤ n := by omega
  have e11 : ∀ args w, (callFunc 349 args).run P w = .ok (.enter 349 args) w := enters_of Tryz.func349 (by kernel_rfl) rfl
  have mixed : P.follows .mixedOrders = true := P_mixed; have t0 := Tryz.underlying0; have a0 := Tryz.isAgg0; have z0 := Tryz.sizeOf0; have v0 := Tryz.zeroValue0; have u0 := run_underlying Tryz.underlying0; have t24 := Tryz.underlying263; have a24 := Tryz.isAgg263; have z24 := Tryz.sizeOf263; have v24 := Tryz.zeroValue263; have u24 := run_underlying Tryz.underlying263; have t28 := Tryz.underlying464; have a28 := Tryz.isAgg464; have z28 := Tryz.sizeOf464; have v28 := Tryz.zeroValue464; have u28 := run_underlying Tryz.underlying464
  refine callsIn_of_wp Tryz.func315 rfl h8 ?_ hro
  simp only [Tryz.ntmps315, List.size_toArray, List.length_cons, List.length_nil, Nat.reduceAdd, Nat.reduceSub, Array.replicate_succ, Array.replicate_zero, List.push_toArray, List.append_toArray, List.nil_append, List.cons_append]
  gi_wp2_with (gi_at_fn 349; refine (item_append F (n - 1) h11 hro (by omega) g lb hFg eg E hE S N hN hNb _ hseq).mono ?_; rintro e w' ⟨v, ss, rfl, hS, hrow, hnil, hb⟩)
  go_ret
  exact ⟨v, ss, rfl, hS, hrow, hnil, hb⟩
theorem item_col (a b : Nat) (arr : Array MapEntry) (clock : Nat) (w : World) (ha : w.cell? ⟨a, 0, none⟩ = some (.map (some b))) (hb : w.heap[b]? = some (.map arr clock)) (hst : Stamped arr clock) (hE : ∀ x ∈ arr.toList.map (·.key), RecV 3 x) (hlen : arr.size ≤ 1000000) :
    Calls P 315 #[.func (.func 317) #[] #[.pointer (some ⟨a, 0, none⟩)]] w fun e w' => ∃ (v : Value) (ss : List Value), e = .returned v ∧ ss.Perm (arr.toList.map (·.key)) ∧ w'.ownsRow w.heap.size 349 3 v ss.length (ss.flatMap vc) ∧ (v = .slice none 0 0 ↔ ss = []) ∧ Go.RowKit.Below w.heap.size w w' := by
  have haB : a < w.heap.size := by
    simp only [World.cell?] at ha
    cases h : w.heap[a]? with
    | none => rw [h] at ha; cases ha
    | some o => exact lt_of_some h
  have hml0 : (1000000 : Nat) ≤ maxLen := by decide
  exact callsIn_wide.1 (item_collect Fence.wide 5 trivial trivial rfl (by omega) 317 #[.pointer (some ⟨a, 0, none⟩)] trivial (enters_of Tryz.func317 (by kernel_rfl) rfl) _ hE _ arr.size (by omega) (by omega) w
    (item_gives Fence.wide 3 trivial rfl (by omega) a b clock arr hst hE w haB ha hb))
end Go.Fk
namespace Go.Fk
open Go Go.Ev Go.MapKept Go.Maps Go.Proofs
open Go.WideElems (Fit rd rg rg_of)
theorem symSF_calls (a b : Nat) (arr : Array MapEntry) (clock : Nat) (w : World) (ys : List B1) (ha : w.cell? ⟨a, 0, none⟩ = some (.map (some b))) (hb : w.heap[b]? = some (.map arr clock)) (hst : Stamped arr clock) (hys : arr.toList.map (·.key) = ys.map (fun x => .agg (SB.enc x).toArray)) (hlen : ys.length < 1000000) :
    Calls P 180 #[.func (.func 245) #[] #[.pointer (some ⟨a, 0, none⟩)], .func (.func 182) #[] #[]] w fun e w' => ∃ v : Value, e = .returned v ∧ (v = .slice none 0 0 ↔ ys = []) ∧ Keeps No w w' ∧ w'.ownsRow w.heap.size 189 SB.k v ys.length ((ys.mergeSort fun x y => !SB.lt y x).flatMap SB.enc) :=
  sortedFunc_calls SB_ok ltB_eq Tryz.sortSymL Tryz.isAgg189 Tryz.sizeOf189 sym_col (enters_of Tryz.func182 (by kernel_rfl) rfl) symCmp symBody a b arr clock w ys ha hb hst hys hlen
theorem itemSF_calls (a b : Nat) (arr : Array MapEntry) (clock : Nat) (w : World) (ys : List I3) (ha : w.cell? ⟨a, 0, none⟩ = some (.map (some b))) (hb : w.heap[b]? = some (.map arr clock)) (hst : Stamped arr clock) (hys : arr.toList.map (·.key) = ys.map (fun x => .agg (S3.enc x).toArray)) (hlen : ys.length < 1000000) :
    Calls P 280 #[.func (.func 317) #[] #[.pointer (some ⟨a, 0, none⟩)], .func (.func 241) #[] #[]] w fun e w' => ∃ v : Value, e = .returned v ∧ (v = .slice none 0 0 ↔ ys = []) ∧ Keeps No w w' ∧ w'.ownsRow w.heap.size 349 S3.k v ys.length ((ys.mergeSort fun x y => !S3.lt y x).flatMap S3.enc) :=
  sortedFunc_calls S3_ok lt3_eq Tryz.sortItemL Tryz.isAgg349 Tryz.sizeOf349 item_col (enters_of Tryz.func241 (by kernel_rfl) rfl) itemCmp itemBody a b arr clock w ys ha hb hst hys hlen
theorem nodup_bound : ∀ (n : Nat) (l : List Int), l.Nodup → (∀ k ∈ l, 0 ≤ k ∧ k < n) → l.length ≤ n := by
  intro n
  induction n with
  | zero =>
    intro l _ h
    cases l with
    | nil => simp
    | cons a l => have := h a (by simp); omega
  | succ n ih =>
    intro l hn h
    have h1 : (l.erase (n : Int)).length ≤ n := ih _ (hn.erase _) fun k hk => by
      have h2 := (hn.mem_erase_iff).1 hk
      have h3 := h k h2.2
      have h4 : k ≠ (n : Int) := h2.1
      omega
    have := List.length_erase (a := (n : Int)) (l := l)
    split at this <;> omega
theorem intTyS : P.underlying T.int = some (.int .i64) := by kernel_rfl
theorem srt_nil (w : World) : Calls P 307 #[.map none] w fun e w' => e = .returned (.slice none 0 0) ∧ Keeps No w w' := by
  refine Calls.mono (nfa_set_sorted.ok none (fun r w' => r = ⟨none, 0, 0⟩ ∧ Keeps No w w') w ?_) fun e w' ⟨r, he, h1, h2⟩ => ⟨by rw [he, h1]; rfl, h2⟩
  simp only [nfa_set_sorted.M]
  refine Calls.mono (Tryz.maps_Keys none w) ?_
  rintro e w1 ⟨rfl, rfl⟩
  refine ⟨.func (.func 359) #[] #[.pointer (some ⟨w.heap.size, 0, none⟩)], rfl, ?_⟩
  have hk0 : Keeps No w (w.alloc (.cells #[.map none] 317)) := ((Gr.refl w).alloc _).keeps
  refine Calls.mono (Tryz.slices_Sorted_nil w) ?_
  rintro e w2 ⟨rfl, hb⟩
  exact ⟨⟨none, 0, 0⟩, rfl, rfl, hk0.trans (Keeps.of_below (by simpa using hb))⟩
theorem srt_calls (m : Nat) (es : Array MapEntry) (clock : Nat) (w : World) (hb : w.heap[m]? = some (.map es clock)) (hs : Stamped es clock) (h3 : ∀ e ∈ es.toList, ∃ (n : Nat) (c : Bool), e.key = .int .i64 (Int.ofNat n) ∧ e.val = .bool c ∧ n ≤ 1000000) :
    Calls P 307 #[.map (some m)] w fun e w' => ∃ (v : Value) (ss : List Int), e = .returned v ∧ ss.Pairwise (· < ·) ∧ (∀ k, k ∈ ss ↔ ∃ e ∈ es.toList, e.key = .int .i64 k) ∧ (v = .slice none 0 0 ↔ ss = []) ∧ Keeps No w w' ∧ w'.ownsRow w.heap.size 3 1 v ss.length (ss.map fun k => .int .i64 k) := by
  refine Calls.mono (nfa_set_sorted.ok (some m) (fun r w' => ∃ ss : List Int, ss.Pairwise (· < ·) ∧ (∀ k, k ∈ ss ↔ ∃ e ∈ es.toList, e.key = .int .i64 k) ∧ (Value.slice r.a r.n r.c = .slice none 0 0 ↔ ss = []) ∧ Keeps No w w' ∧ w'.ownsRow w.heap.size 3 1 (.slice r.a r.n r.c) ss.length (ss.map fun k => .int .i64 k)) w ?_) fun e w' ⟨r, he, ss, h⟩ => ⟨_, ss, he, h⟩
  simp only [nfa_set_sorted.M]
  refine Calls.mono (Tryz.maps_Keys (some m) w) ?_
  rintro e w1 ⟨rfl, rfl⟩
  refine ⟨.func (.func 359) #[] #[.pointer (some ⟨w.heap.size, 0, none⟩)], rfl, ?_⟩
  have hk0 : Keeps No w (w.alloc (.cells #[.map (some m)] 317)) := ((Gr.refl w).alloc _).keeps
  let R0 : Value → Option (DataW Unit × List MemPlace) := fun _ => some (.nil, [])
  have hwf : ∀ n : Nat, n ≤ 1000000 → (Lit.int .i64 (Int.ofNat n)).wf = true := fun n hn => by
    have e1 : IntKind.min .i64 = -9223372036854775808 := rfl
    have e2 : IntKind.max .i64 = 9223372036854775807 := rfl
    simp only [Lit.wf, Bool.and_eq_true, decide_eq_true_eq, e1, e2, Int.ofNat_eq_natCast]
    omega
  have hread : ∀ e ∈ es.toList, ∃ n : Nat, e.key = .int .i64 (Int.ofNat n) ∧ n ≤ 1000000 ∧ rd P T.int R0 e = some (.int .i64 (Int.ofNat n), .nil) := by
    intro e he
    obtain ⟨n, c, h5, h6, h7⟩ := h3 e he
    have hkk := keyOf_int_mk intTyS (hwf n h7)
    exact ⟨n, h5, h7, by simp only [rd, h5, hkk]; rfl⟩
  have hrg : ∀ e ∈ es.toList, ∃ n : Nat, e.key = .int .i64 (Int.ofNat n) ∧ n ≤ 1000000 ∧ rg P T.int R0 e = (.int .i64 (Int.ofNat n), .nil) := by
    intro e he
    obtain ⟨n, h5, h6, h7⟩ := hread e he
    exact ⟨n, h5, h6, rg_of h7⟩
  have hkeys : ∀ k, k ∈ es.toList.map (fun e => intOf (rg P T.int R0 e).1) ↔ ∃ e ∈ es.toList, e.key = .int .i64 k := by
    intro k
    rw [List.mem_map]
    constructor
    · rintro ⟨e, he, rfl⟩
      obtain ⟨n, h5, h6, h7⟩ := hrg e he
      exact ⟨e, he, by rw [h7]; exact h5⟩
    · rintro ⟨e, he, h5⟩
      obtain ⟨n, h8, h6, h7⟩ := hrg e he
      rw [h5] at h8
      cases h8
      exact ⟨e, he, by rw [h7]; rfl⟩
  have hnd : (es.toList.map (fun e => intOf (rg P T.int R0 e).1)).Nodup := by
    rw [List.Nodup, List.pairwise_map]
    refine List.Pairwise.imp_of_mem ?_ ((stamped_iff es clock).1 hs).2.2
    intro a b ha hb hne he
    obtain ⟨k, h5, _, h7⟩ := hrg a ha
    obtain ⟨k', h5', _, h7'⟩ := hrg b hb
    rw [h7, h7'] at he
    simp only [intOf] at he
    exact hne (by rw [h5, h5', he])
  have hlen : es.size ≤ 1000001 := by
    have := nodup_bound 1000001 _ hnd fun k hk => by
      obtain ⟨e, he, h5⟩ := (hkeys k).1 hk
      obtain ⟨n, h6, h7, _⟩ := hrg e he
      rw [h5] at h6
      cases h6
      exact ⟨Int.natCast_nonneg n, by show (n : Int) < 1000001; omega⟩
    simpa using this
  have hown : World.ownsMap w P T.int R0 m es.size (.map ((es.toList.map (rg P T.int R0)).foldr DataW.insert [])) := by
    refine ⟨es, clock, hb, ⟨?_, hs, fun e he => ?_⟩, Nat.le_refl _, rfl⟩
    · have : (1000001 : Nat) ≤ maxLen := by decide
      omega
    · obtain ⟨k, _, _, h7⟩ := hread e he
      exact ⟨_, h7⟩
  have hsize : Maps.size (DataW.map ((es.toList.map (rg P T.int R0)).foldr DataW.insert [])) = es.size := by
    rw [size_eq, length_sorted]; simp
  refine Calls.mono (Tryz.slices_Sorted m es.size _ R0 w hown ?_ ?_) ?_
  · rw [hsize]
    have : (1000001 : Nat) ≤ maxLen := by decide
    omega
  · rw [hsize]; omega
  · rintro e w2 ⟨v, ss, rfl, hperm, hrow, hnil, hbelow⟩
    have hperm2 : ss.Perm (es.toList.map (fun e => intOf (rg P T.int R0 e).1)) := by
      refine hperm.trans ?_
      have : intKeys (DataW.map ((es.toList.map (rg P T.int R0)).foldr DataW.insert [])) = ((es.toList.map (rg P T.int R0)).foldr DataW.insert []).map fun p => intOf p.1 := rfl
      rw [this]
      have h9 := (Go.WideShapes.sorted_perm (es.toList.map (rg P T.int R0))).map fun p => intOf p.1
      rw [List.map_map] at h9
      simpa only [Function.comp_def] using h9
    have hms := List.mergeSort_perm ss (fun x y => decide (x ≤ y))
    have hnd2 : (ss.mergeSort (fun x y => decide (x ≤ y))).Nodup := (hms.trans hperm2).nodup_iff.2 hnd
    have hsorted : (ss.mergeSort (fun x y => decide (x ≤ y))).Pairwise (· < ·) := by
      have h1 := List.pairwise_mergeSort (le := fun x y : Int => decide (x ≤ y)) (fun a b c h1 h2 => by simp only [decide_eq_true_eq] at *; omega) (fun a b => by simp only [Bool.or_eq_true, decide_eq_true_eq]; omega) ss
      exact (h1.and hnd2).imp fun {a b} ⟨h2, h3⟩ => by simp only [decide_eq_true_eq] at h2; have h3 : a ≠ b := h3; omega
    obtain ⟨a, n, c, rfl⟩ : ∃ a n c, v = .slice a n c := by
      rcases hrow.2 with ⟨rfl, h⟩ | ⟨g, cap, cur, rfl, _⟩
      · exact ⟨_, _, _, rfl⟩
      · exact ⟨_, _, _, rfl⟩
    have hml : (ss.mergeSort (fun x y => decide (x ≤ y))).length = ss.length := List.length_mergeSort ..
    refine ⟨⟨a, n, c⟩, rfl, ss.mergeSort (fun x y => decide (x ≤ y)), hsorted, fun k => ?_, ?_, ?_, ?_⟩
    · rw [hms.mem_iff, hperm2.mem_iff, hkeys]
    · rw [hnil, ← List.length_eq_zero_iff, ← List.length_eq_zero_iff, hml]
    · have : w.heap.size + 1 = (w.alloc (.cells #[.map (some m)] 317)).heap.size := by simp
      rw [this] at hbelow
      exact hk0.trans (Keeps.of_below hbelow)
    · obtain ⟨h1, h2⟩ := hrow
      rw [hml]
      refine ⟨h1, h2.imp id ?_⟩
      rintro ⟨g, cap, cur, hv, hge, hrest⟩
      exact ⟨g, cap, cur, hv, by omega, hrest⟩
end Go.Fk
end
end
