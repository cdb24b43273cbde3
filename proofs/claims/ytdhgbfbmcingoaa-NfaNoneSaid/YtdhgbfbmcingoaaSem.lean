/-
  A part of the proof: what the functions of the program come to, read off the model: no premise of its own, no axiom. By an AI agent.
-/
import Derived.OrdersHeld
import Derived.LoopN
import Derived.KernelRfl
import Derived.Deep.RegionHeld
set_option linter.all false
namespace Go.Fk
open Go

/-! ## Kinds of one cell, and what a value of a kind is -/

structure Sl where
  a : Option Addr
  n : Nat
  c : Nat

inductive Ty where
  | int (k : IntKind) | bool | str | ptr | addr | sl | map | raw

@[reducible] def Ty.T : Ty → Type
  | .int _ => Int
  | .bool => Bool
  | .str => ByteArray
  | .ptr => Option Addr
  | .addr => Addr
  | .sl => Sl
  | .map => Option Nat
  | .raw => Value

def Ty.enc : (t : Ty) → t.T → Value
  | .int k, x => .int k x
  | .bool, x => .bool x
  | .str, x => .string x
  | .ptr, x => .pointer x
  | .addr, x => .pointer (some x)
  | .sl, x => .slice x.a x.n x.c
  | .map, x => .map x
  | .raw, x => x

def Ty.dec : (t : Ty) → Value → Option t.T
  | .int k, .int k' x => if k = k' then some x else none
  | .bool, .bool x => some x
  | .str, .string x => some x
  | .ptr, .pointer x => some x
  | .addr, .pointer (some x) => some x
  | .sl, .slice a n c => some ⟨a, n, c⟩
  | .map, .map x => some x
  | .raw, x => some x
  | _, _ => none

theorem Ty.dec_sound {t : Ty} {v : Value} {x : t.T} (h : t.dec v = some x) : v = t.enc x := by
  cases t <;> cases v <;> simp [Ty.dec, Ty.enc] at h ⊢ <;> try first | exact h | (obtain ⟨rfl, rfl⟩ := h; exact ⟨rfl, rfl⟩) | (subst h; simp; done) | (simp_all; done)
  rename_i a
  cases a <;> simp_all

/-! ## What a call hands back -/

inductive RTy where
  | one (t : Ty)
  | agg (ts : List Ty)
  | big
  | tup (ts : List RTy)

@[reducible] def Tys : List Ty → Type
  | [] => Unit
  | [t] => t.T
  | t :: ts => t.T × Tys ts

def Tys.enc : (ts : List Ty) → Tys ts → List Value
  | [], _ => []
  | [t], x => [t.enc x]
  | t :: u :: ts, x => t.enc x.1 :: Tys.enc (u :: ts) x.2

mutual
@[reducible] def RTy.T : RTy → Type
  | .one t => t.T
  | .agg ts => Tys ts
  | .big => Array Value
  | .tup ts => RTy.Ts ts
@[reducible] def RTy.Ts : List RTy → Type
  | [] => Unit
  | [t] => t.T
  | t :: u :: ts => t.T × RTy.Ts (u :: ts)
end

mutual
def RTy.enc : (t : RTy) → t.T → Value
  | .one t, x => t.enc x
  | .agg ts, x => .agg (Tys.enc ts x).toArray
  | .big, x => .agg x
  | .tup ts, x => .tuple (RTy.encs ts x).toArray
def RTy.encs : (ts : List RTy) → RTy.Ts ts → List Value
  | [], _ => []
  | [t], x => [t.enc x]
  | t :: u :: ts, x => t.enc x.1 :: RTy.encs (u :: ts) x.2
end

def Tys.dec : (ts : List Ty) → List Value → Option (Tys ts)
  | [], [] => some ()
  | [t], [v] => t.dec v
  | t :: u :: ts, v :: vs => match t.dec v with
    | some x => match Tys.dec (u :: ts) vs with
      | some r => some (x, r)
      | none => none
    | none => none
  | _, _ => none

theorem Tys.dec_sound : ∀ (ts : List Ty) (vs : List Value) (x : Tys ts), Tys.dec ts vs = some x → vs = Tys.enc ts x
  | [], [], x, h => rfl
  | [], v :: vs, x, h => by simp [Tys.dec] at h
  | [t], [], x, h => by simp [Tys.dec] at h
  | [t], [v], x, h => by simp only [Tys.dec] at h; rw [Ty.dec_sound h]; rfl
  | [t], v :: u :: vs, x, h => by simp [Tys.dec] at h
  | t :: u :: ts, [], x, h => by simp [Tys.dec] at h
  | t :: u :: ts, v :: vs, x, h => by
    simp only [Tys.dec] at h
    split at h <;> try (cases h; done)
    rename_i y hy
    split at h <;> try (cases h; done)
    rename_i r hr
    simp at h; subst h
    rw [Ty.dec_sound hy, Tys.dec_sound _ _ _ hr]; rfl

mutual
def RTy.dec : (t : RTy) → Value → Option t.T
  | .one t, v => t.dec v
  | .agg ts, .agg cs => Tys.dec ts cs.toList
  | .big, .agg cs => some cs
  | .tup ts, .tuple vs => RTy.decs ts vs.toList
  | _, _ => none
def RTy.decs : (ts : List RTy) → List Value → Option (RTy.Ts ts)
  | [], [] => some ()
  | [t], [v] => t.dec v
  | t :: u :: ts, v :: vs => match t.dec v with
    | some x => match RTy.decs (u :: ts) vs with
      | some r => some (x, r)
      | none => none
    | none => none
  | _, _ => none
end

mutual
theorem RTy.dec_sound : ∀ (t : RTy) (v : Value) (x : t.T), t.dec v = some x → v = t.enc x
  | .one t, v, x, h => by simp only [RTy.dec] at h; exact Ty.dec_sound h
  | .agg ts, v, x, h => by
    cases v <;> simp only [RTy.dec] at h <;> try (cases h; done)
    have := Tys.dec_sound _ _ _ h
    simp only [RTy.enc, ← this]
  | .big, v, x, h => by
    cases v <;> simp only [RTy.dec] at h <;> try (cases h; done)
    simp at h; subst h; rfl
  | .tup ts, v, x, h => by
    cases v <;> simp only [RTy.dec] at h <;> try (cases h; done)
    have := RTy.decs_sound _ _ _ h
    simp only [RTy.enc, ← this]
theorem RTy.decs_sound : ∀ (ts : List RTy) (vs : List Value) (x : RTy.Ts ts), RTy.decs ts vs = some x → vs = RTy.encs ts x
  | [], [], x, h => rfl
  | [], v :: vs, x, h => by simp [RTy.decs] at h
  | [t], [], x, h => by simp [RTy.decs] at h
  | [t], [v], x, h => by simp only [RTy.decs] at h; rw [RTy.dec_sound _ _ _ h]; rfl
  | [t], v :: u :: vs, x, h => by simp [RTy.decs] at h
  | t :: u :: ts, [], x, h => by simp [RTy.decs] at h
  | t :: u :: ts, v :: vs, x, h => by
    simp only [RTy.decs] at h
    split at h <;> try (cases h; done)
    rename_i y hy
    split at h <;> try (cases h; done)
    rename_i r hr
    simp at h; subst h
    rw [RTy.dec_sound _ _ _ hy, RTy.decs_sound _ _ _ hr]; rfl
end


/-! ## The frame as it is known -/

abbrev Env := List (Nat × Value)

def find (t : Nat) : Env → Option Value
  | [] => none
  | (s, v) :: r => match Nat.beq s t with | true => some v | false => find t r

def ev (e : Env) : Operand → Option Value
  | .tmp t => find t e
  | .const v => some v
  | .global g => some (.pointer (some ⟨g, 0, none⟩))
  | .func f => some (.func (.func f) #[] #[])

def rho (e : Env) (x : Operand) : Value := match ev e x with | some v => v | none => undef

def known (e : Env) (op : Op) : Bool := op.operands.toList.all fun x => (ev e x).isSome

structure Ag (n : Nat) (e : Env) (a : Act) : Prop where
  size : a.tmps.size = n
  defers : a.defers = []
  get : ∀ t v, find t e = some v → a.tmps.getD t undef = v

theorem ev_sound {n : Nat} {e : Env} {a : Act} (h : Ag n e a) {x : Operand} {v : Value} (hx : ev e x = some v) : a.eval x = v := by
  cases x <;> simp only [ev] at hx
  · exact h.get _ _ hx
  · simp at hx; subst hx; rfl
  · simp at hx; subst hx; rfl
  · simp at hx; subst hx; rfl

theorem rho_sound {n : Nat} {e : Env} {a : Act} (h : Ag n e a) {x : Operand} (hx : (ev e x).isSome = true) : a.eval x = rho e x := by
  obtain ⟨v, hv⟩ := Option.isSome_iff_exists.1 hx
  rw [ev_sound h hv]; simp [rho, hv]

theorem Ag.put {n : Nat} {e : Env} {a : Act} (h : Ag n e a) {d : Nat} {v : Value} (hd : d < n) : Ag n ((d, v) :: e) (a.put (some d) v) := by
  refine ⟨by simp [Act.put, h.size], by simp [Act.put, h.defers], fun t u hu => ?_⟩
  have hs := h.size
  simp only [find] at hu
  cases hb : Nat.beq d t with
  | true =>
    have := Nat.eq_of_beq_eq_true hb
    subst this
    simp [hb] at hu
    subst hu
    simp [Act.put, Array.getD_eq_getD_getElem?, hs, hd]
  | false =>
    have hne := Nat.ne_of_beq_eq_false hb
    simp [hb] at hu
    have := h.get _ _ hu
    simp only [Act.put, Array.getD_eq_getD_getElem?] at this ⊢
    rw [Array.getElem?_setIfInBounds_ne hne]
    exact this

theorem Ag.cons_same {n : Nat} {e : Env} {a : Act} (h : Ag n e a) {d : Nat} {v : Value} (hv : a.tmps.getD d undef = v) : Ag n ((d, v) :: e) a := by
  refine ⟨h.size, h.defers, fun t u hu => ?_⟩
  simp only [find] at hu
  cases hb : Nat.beq d t with
  | true =>
    have := Nat.eq_of_beq_eq_true hb
    subst this
    simp [hb] at hu
    rw [hv, hu]
  | false =>
    simp [hb] at hu
    exact h.get _ _ hu

/-! ## The words of a program's text -/

def w64 (x : Int) : Int := IntKind.i64.wrap x
def bAnd (k : IntKind) (x y : Int) : Int := k.wrap (BitVec.ofInt k.bits x &&& BitVec.ofInt k.bits y).toNat
def bOr (k : IntKind) (x y : Int) : Int := k.wrap (BitVec.ofInt k.bits x ||| BitVec.ofInt k.bits y).toNat
def bXor (k : IntKind) (x y : Int) : Int := k.wrap (BitVec.ofInt k.bits x ^^^ BitVec.ofInt k.bits y).toNat
def bAndNot (k : IntKind) (x y : Int) : Int := k.wrap (BitVec.ofInt k.bits x &&& ~~~ BitVec.ofInt k.bits y).toNat
def bNot (k : IntKind) (n : Int) : Int := bXor k (if k.signed then -1 else k.max) n
def Br (b : Bool) (x y : Prop) : Prop := match b with | true => x | false => y
theorem Br.out {b : Bool} {x y : Prop} (h : Br b x y) : (b = true → x) ∧ (b = false → y) := by
  cases b
  · exact And.intro (fun e => nomatch e) (fun _ => h)
  · exact And.intro (fun _ => h) (fun e => nomatch e)
theorem Br.mk {b : Bool} {x y : Prop} (h : b = true → x) (h' : b = false → y) : Br b x y := by
  cases b
  · exact h' rfl
  · exact h rfl
def Ld (t : Ty) (a : Addr) (w : World) (k : t.T → Prop) : Prop := ∃ x, w.cell? a = some (t.enc x) ∧ k x
def St (a : Addr) (v : Value) (w : World) (k : World → Prop) : Prop := ((w.cell? a).isSome = true ∧ w.frozen? a = false) ∧ k (w.setCell a v)
def Al (o : Obj) (w : World) (k : Nat → World → Prop) : Prop := k w.heap.size (w.alloc o)
def NilC (p : Option Addr) (k : Addr → Prop) : Prop := match p with | some a => k a | none => False
theorem NilC.out {p : Option Addr} {k : Addr → Prop} (h : NilC p k) : ∃ a, p = some a ∧ k a := by cases p with | none => exact h.elim | some a => exact ⟨a, rfl, h⟩
def IdxS (s : Sl) (i : Int) (size : Nat) (k : Addr → Prop) : Prop := ∃ a, s.a = some a ∧ (0 ≤ i ∧ i < s.n) ∧ k (a.add (i.toNat * size))
def IdxA (n : Nat) (a : Addr) (i : Int) (size : Nat) (k : Addr → Prop) : Prop := (0 ≤ i ∧ i < n) ∧ k (a.add (i.toNat * size))
def IdxV (t : Ty) (cs : Array Value) (n : Nat) (i : Int) (k : t.T → Prop) : Prop := (0 ≤ i ∧ i < n) ∧ ∃ x, cs[i.toNat]? = some (t.enc x) ∧ k x
def IdxStr (s : ByteArray) (i : Int) (k : UInt8 → Prop) : Prop := 0 ≤ i ∧ ∃ b, s[i.toNat]? = some b ∧ k b
def Need (p : Prop) (k : Prop) : Prop := p ∧ k
def Join {σ : Type} (rest : σ → World → Prop) (body : (σ → World → Prop) → Prop) : Prop := body rest
def Loop {σ : Type} (F : σ → World → (σ → World → Prop) → Prop) (s : σ) (w : World) : Prop := ∀ R : σ → World → Prop, (∀ s w, F s w R → R s w) → R s w
/-- A call of a Go function. -/
def CallF (P : Program) (f : FuncId) (args : Array Value) (rt : RTy) (w : World) (k : rt.T → World → Prop) : Prop :=
  Calls P f args w fun e w' => ∃ r : rt.T, e = .returned (rt.enc r) ∧ k r w'
/-- An operation of the model's, carried out as it stands. -/
def App (P : Program) (s : Sem Value) (rt : RTy) (w : World) (k : rt.T → World → Prop) : Prop := ∃ (r : rt.T) (w' : World), s.run P w = .ok (rt.enc r) w' ∧ k r w'
def enters (P : Program) (F : Nat) : Bool := match P.funcs[F]? with
  | some fn => match fn.body with
    | some _ => !(fn.name == "runtime.NumGoroutine")
    | none => false
  | none => false
/-- A call of a function value. -/
def CallV (P : Program) (f : Value) (args : List Value) (rt : RTy) (w : World) (k : rt.T → World → Prop) : Prop :=
  ∃ (F : Nat) (first cap : Array Value), f = .func (.func F) first cap ∧ enters P F = true ∧ CallF P F ((first.toList ++ args) ++ cap.toList).toArray rt w k
def App0 (P : Program) (s : Sem Unit) (w : World) (k : World → Prop) : Prop := ∃ w' : World, s.run P w = .ok () w' ∧ k w'

/-! ## What an operation does -/

/-- What a run of an operation must come to. -/
def Good (P : Program) (k : Value → World → Prop) : Result Next → Prop
  | .ok (.value v) w' => k v w'
  | .ok .skip w' => k undef w'
  | .ok (.enter f args) w' => Calls P f args w' fun e w'' => ∃ v, e = .returned v ∧ k v w''
  | _ => False


def isAggD : TypeDesc → Bool
  | .struct _ => true
  | .array _ _ => true
  | _ => false

def LdCells (a : Addr) (w : World) (k : List Value → Prop) : List Ty → Nat → List Value → Prop
  | [], _, acc => k acc.reverse
  | t :: ts, i, acc => Ld t (a.add i) w fun x => LdCells a w k ts (i + 1) (t.enc x :: acc)

def LdA (n : Nat) (a : Addr) (w : World) (k : Array Value → Prop) : Prop := ∃ cs : Array Value, (cs.size = n ∧ ∀ i v, cs[i]? = some v → w.cell? (a.add i) = some v) ∧ k cs

def sLoad (P : Program) (t : TypeId) (x : Value) (h : RTy) (k : Value → Prop) (w : World) : Prop :=
  match x with
  | .pointer (some a) => match P.underlying t, P.info? t with
    | some u, some i => match isAggD u, h with
      | false, .one ty => Ld ty a w fun x => k (ty.enc x)
      | true, .agg ts => match Nat.beq ts.length i.size with
        | true => LdCells a w (fun vs => k (.agg vs.toArray)) ts 0 []
        | false => False
      | true, .big => LdA i.size a w fun cs => k (.agg cs)
      | _, _ => False
    | _, _ => False
  | _ => False

def oneCell : Value → Bool
  | .agg _ => false
  | .tuple _ => false
  | _ => true

/-- The cells of a value, in a row. -/
def cellsL : Value → List Value
  | .agg cs => cs.toList
  | v => [v]

def StCells (a : Addr) (k : World → Prop) : List Value → Nat → World → Prop
  | [], _, w => k w
  | v :: vs, i, w => match oneCell v with
    | true => St (a.add i) v w fun w' => StCells a k vs (i + 1) w'
    | false => False

/-- A long row of cells is stored. -/
def StA (P : Program) (t : TypeId) (a : Addr) (cs : Array Value) (w : World) (k : World → Prop) : Prop := App0 P (storeVar t a (.agg cs)) w k

def sStore (P : Program) (t : TypeId) (x v : Value) (h : RTy) (k : World → Prop) (w : World) : Prop :=
  match x with
  | .pointer (some a) => match P.info? t with
    | none => False
    | some i => match h with
      | .big => match v with
        | .agg cs => StA P t a cs w k
        | _ => False
      | _ => match Nat.beq (cellsL v).length i.size with
        | true => StCells a k (cellsL v) 0 w
        | false => False
  | _ => False

def sBin (P : Program) (op : BinOp) (t : TypeId) (x y : Value) (ynil : Bool) (k : Value → Prop) (alt : Prop) : Prop :=
  match x, y with
  | .int κ a, .int κ' b =>
    match op with
    | .shl => Need (0 ≤ b) (k (.int κ (κ.wrap (a * 2 ^ min b.toNat κ.bits))))
    | .shr => Need (0 ≤ b) (k (.int κ (a.fdiv (2 ^ min b.toNat κ.bits))))
    | op => if κ = κ' then
      match op with
      | .add => k (.int κ (κ.wrap (a + b)))
      | .sub => k (.int κ (κ.wrap (a - b)))
      | .mul => k (.int κ (κ.wrap (a * b)))
      | .quo => Need (b ≠ 0) (k (.int κ (κ.wrap (a.tdiv b))))
      | .rem => Need (b ≠ 0) (k (.int κ (a.tmod b)))
      | .eql => k (.bool (a == b))
      | .neq => k (.bool (a != b))
      | .lss => k (.bool (a < b))
      | .leq => k (.bool (a ≤ b))
      | .gtr => k (.bool (b < a))
      | .geq => k (.bool (b ≤ a))
      | .and => k (.int κ (bAnd κ a b))
      | .or => k (.int κ (bOr κ a b))
      | .xor => k (.int κ (bXor κ a b))
      | .andNot => k (.int κ (bAndNot κ a b))
      | _ => alt
      else False
  | .string a, .string b =>
    match op with
    | .eql => k (.bool (a.toList == b.toList))
    | .neq => k (.bool (!(a.toList == b.toList)))
    | .add => Need (((a.size + b.size : Nat) : Int) ≤ IntKind.i64.max) (k (.string (a ++ b)))
    | _ => alt
  | .bool a, .bool b =>
    match op, P.underlying t with
    | .eql, some .bool => k (.bool (a == b))
    | .neq, some .bool => k (.bool (!(a == b)))
    | _, _ => False
  | .pointer a, .pointer _ =>
    match ynil with
    | true => match op, P.underlying t with
      | .eql, some (.pointer _) => k (.bool a.isNone)
      | .neq, some (.pointer _) => k (.bool (!a.isNone))
      | _, _ => False
    | false => alt
  | .slice a _ _, .slice _ _ _ =>
    match ynil with
    | true => match op, P.underlying t with
      | .eql, some (.slice _) => k (.bool a.isNone)
      | .neq, some (.slice _) => k (.bool (!a.isNone))
      | _, _ => False
    | false => alt
  | .map a, .map _ =>
    match ynil with
    | true => match op, P.underlying t with
      | .eql, some (.map _ _) => k (.bool a.isNone)
      | .neq, some (.map _ _) => k (.bool (!a.isNone))
      | _, _ => False
    | false => alt
  | _, _ => alt

def isNilC : Operand → Bool
  | .const (.pointer none) => true
  | .const (.slice none _ _) => true
  | .const (.map none) => true
  | _ => false

def hintOf (d : Option Nat) : List (Nat × RTy) → RTy
  | [] => .one .raw
  | (s, r) :: l => match d with
    | some t => match Nat.beq s t with | true => r | false => hintOf d l
    | none => .one .raw

def decided (t : Nat) : List (Nat × Bool) → Option Bool
  | [] => none
  | (s, b) :: l => match Nat.beq s t with | true => some b | false => decided t l

/-- One round of a range over a map: it is over, or there is a key and what it holds. -/
def Nxt (P : Program) (s : Sem Value) (kt vt : Ty) (w : World) (k0 : World → Prop) (k1 : kt.T → vt.T → World → Prop) : Prop :=
  ∃ w', (s.run P w = .ok (.tuple #[.bool false]) w' ∧ k0 w') ∨ ∃ x y, s.run P w = .ok (.tuple #[.bool true, kt.enc x, vt.enc y]) w' ∧ k1 x y w'

/-- By the model's own run, where it can be reckoned out. -/
def Run (P : Program) (o : Oper) (e : Env) (k : Value → World → Prop) (w : World) : Prop := Good P k ((execOp (rho e) o).run P w)

def semOp (P : Program) (H : List (Nat × RTy)) (g : List (Nat × Bool)) (o : Oper) (e : Env) (k : Value → World → Prop) (w : World) : Prop :=
  match known e o.op with
  | false => False
  | true => match o.op with
    | .move x => k (rho e x) w
    | .assign x => k (rho e x) w
    | .pick c a b => match (match c with | .tmp t => decided t g | _ => none) with
      | some x => match rho e c with
        | .bool y => match y, x with
          | true, true => k (rho e a) w
          | false, false => k (rho e b) w
          | _, _ => False
        | _ => False
      | none => match rho e c, rho e a, rho e b with
        | .bool x, .bool p, .bool q => k (.bool (match x with | true => p | false => q)) w
        | _, _, _ => False
    | .load t a => sLoad P t (rho e a) (hintOf o.dst H) (fun v => k v w) w
    | .store t a x => sStore P t (rho e a) (rho e x) (match rho e x with | .agg _ => (match x with | .tmp d => hintOf (some d) H | _ => .one .raw) | _ => .one .raw) (k undef) w
    | .nilCheck x => match rho e x with
      | .pointer p => NilC p fun a => k (.pointer (some a)) w
      | _ => False
    | .binOp op t x y _ => sBin P op t (rho e x) (rho e y) (isNilC y) (fun v => k v w) (App P (do eqGuard op t x y (rho e x) (rho e y); binOp op t (rho e x) (rho e y)) (hintOf o.dst H) w fun r w' => k ((hintOf o.dst H).enc r) w')
    | .indexAddr t x i => match rho e x, rho e i, P.underlying t with
      | .slice a n c, .int _ j, some (.slice el) => match P.info? el with
        | some inf => IdxS ⟨a, n, c⟩ j inf.size fun p => k (.pointer (some p)) w
        | none => False
      | .pointer (some a), .int _ j, some (.array n el) => match P.info? el with
        | some inf => IdxA n a j inf.size fun p => k (.pointer (some p)) w
        | none => False
      | _, _, _ => False
    | .index t x i => match rho e x, rho e i, P.underlying t with
      | .string s, .int _ j, some .string => IdxStr s j fun b => k (.int .u8 b.toNat) w
      | .agg cs, .int _ j, some (.array n el) => match P.underlying el, P.info? el, hintOf o.dst H with
        | some u, some inf, .one ty => match isAggD u, Nat.beq inf.size 1 with
          | false, true => IdxV ty cs n j fun x => k (ty.enc x) w
          | _, _ => False
        | _, _, _ => False
      | _, _, _ => False
    | .next it str => match hintOf o.dst H with
      | .tup [.one .bool, .one kt, .one vt] => Nxt P (Instr.next (rho e it) str o.type) kt vt w (fun w' => k (.tuple #[.bool false]) w') fun x y w' => k (.tuple #[.bool true, kt.enc x, vt.enc y]) w'
      | _ => False
    | .call { callee := .value (.func F), args, .. } => match enters P F with
      | true => CallF P F (args.toList.map (rho e)).toArray (hintOf o.dst H) w fun r w' => k ((hintOf o.dst H).enc r) w'
      | false => False
    | .call { callee := .value f, args, .. } => CallV P (rho e f) (args.toList.map (rho e)) (hintOf o.dst H) w fun r w' => k ((hintOf o.dst H).enc r) w'
    | .build t ps => match hintOf o.dst H with
      | .big => App P (Instr.build t (ps.map fun (i, x) => (i, rho e x))) .big w fun r w' => k (RTy.enc .big r) w'
      | _ => Run P o e k w
    | .buildSlice t n ps => match hintOf o.dst H with
      | .one .sl => App P (Instr.buildSlice t n (ps.map fun (i, x) => (i, rho e x))) (.one .sl) w fun r w' => k (Ty.sl.enc r) w'
      | _ => Run P o e k w
    | .field t x f => match hintOf o.dst H with
      | .one .raw => Run P o e k w
      | r => App P (Instr.field t (rho e x) f) r w fun x w' => k (r.enc x) w'
    | .call { callee := .builtin .append, argTypes, args } => App P (Builtin.append_ argTypes o.type (args.map (rho e))) (.one .sl) w fun r w' => k (Ty.sl.enc r) w'
    | .call { callee := .builtin .copy, argTypes, args } => App P (Builtin.copy_ argTypes o.type (args.map (rho e))) (.one (.int .i64)) w fun r w' => k ((Ty.int .i64).enc r) w'
    | .lookup t x i ok => App P (Instr.lookup t (rho e x) (rho e i) ok) (hintOf o.dst H) w fun r w' => k ((hintOf o.dst H).enc r) w'
    | .entry it => App P (Instr.entry (rho e it)) (hintOf o.dst H) w fun r w' => k ((hintOf o.dst H).enc r) w'
    | .range t x => App P (Instr.range t (rho e x)) (.one .ptr) w fun r w' => k (Ty.ptr.enc r) w'
    | .makeSlice t l c => App P (Instr.makeSlice t (rho e l) (rho e c)) (.one .sl) w fun r w' => k (Ty.sl.enc r) w'
    | .slice t x lo hi mx => App P (Instr.sliceAt t (rho e x) (lo.map (rho e)) (hi.map (rho e)) (mx.map (rho e))) (hintOf o.dst H) w fun r w' => k ((hintOf o.dst H).enc r) w'
    | .mapUpdate t m x y => App0 P (Instr.mapUpdate t (rho e m) (rho e x) (rho e y)) w fun w' => k undef w'
    | .insert t m x y => App0 P (Instr.mapUpdate t (rho e m) (rho e x) (rho e y)) w fun w' => k undef w'
    | .convert s d x => match rho e x with
      | .int _ _ => Run P o e k w
      | _ => App P (convert s d (rho e x)) (hintOf o.dst H) w fun r w' => k ((hintOf o.dst H).enc r) w'
    | .call { callee := .builtin .len, argTypes, args } => match args.toList with
      | [x] => match rho e x with
        | .map _ => App P (Builtin.len_ argTypes o.type (args.map (rho e))) (.one (.int .i64)) w fun r w' => k ((Ty.int .i64).enc r) w'
        | _ => Run P o e k w
      | _ => False
    | .select _ _ => False
    | _ => Run P o e k w

end Go.Fk
