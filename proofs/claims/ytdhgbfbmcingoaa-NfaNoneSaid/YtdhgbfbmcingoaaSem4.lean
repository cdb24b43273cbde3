/-
  A part of the proof: what the functions of the program come to, read off the model: no premise of its own, no axiom. By an AI agent.
-/
import Derived.Test.YtdhgbfbmcingoaaSem3
set_option linter.all false
set_option linter.unusedSimpArgs false
set_option linter.unusedVariables false
namespace Go.Fk
open Go

/-! ## Statements -/

@[reducible] def LT : List (Nat × RTy) → Type
  | [] => Unit
  | [x] => x.2.T
  | x :: y :: l => x.2.T × LT (y :: l)

def embed : (l : List (Nat × RTy)) → LT l → Env
  | [], _ => []
  | [x], v => [(x.1, x.2.enc v)]
  | x :: y :: l, v => (x.1, x.2.enc v.1) :: embed (y :: l) v.2

def decs : (l : List (Nat × RTy)) → Env → Option (LT l)
  | [], _ => some ()
  | [x], e => match find x.1 e with
    | some v => x.2.dec v
    | none => none
  | x :: y :: l, e => match find x.1 e with
    | some v => match x.2.dec v with
      | some u => match decs (y :: l) e with
        | some r => some (u, r)
        | none => none
      | none => none
    | none => none

def jump (l : List (Nat × RTy)) (e : Env) (k : LT l → Prop) : Prop := match decs l e with
  | some s => k s
  | none => False

/-- The slots 'keep', as they are known. -/
def restrict : List Nat → Env → Env
  | [], _ => []
  | t :: l, e => match find t e with
    | some v => (t, v) :: restrict l e
    | none => restrict l e

def memN (t : Nat) : List Nat → Bool
  | [] => false
  | s :: l => match Nat.beq s t with | true => true | false => memN t l

def dsts : List Oper → List Nat
  | [] => []
  | o :: l => match o.dst with
    | some d => d :: dsts l
    | none => dsts l

/-- The slots that are written. -/
def asg : Code → List Nat
  | .region _ ops _ => dsts ops.toList
  | .seq a b => asg a ++ asg b
  | .cond _ a b => asg a ++ asg b
  | .block _ b => asg b
  | .loop b => asg b
  | _ => []

def keepOk (l : List Nat) : List Nat → Bool
  | [] => true
  | t :: r => match memN t l with | true => false | false => keepOk l r

def bltAll (n : Nat) : List Nat → Bool
  | [] => true
  | t :: r => match Nat.blt t n with | true => bltAll n r | false => false

/-- What a text may hold for this reading of it. -/
def codeOk (n : Nat) : Code → Bool
  | .skip => true
  | .region _ ops d => match bltAll n (dsts ops.toList) with
    | true => match d with
      | true => Region.noSelect ops
      | false => true
    | false => false
  | .seq a b => match codeOk n a with | true => codeOk n b | false => false
  | .cond _ a b => match codeOk n a with | true => codeOk n b | false => false
  | .block _ b => codeOk n b
  | .loop b => codeOk n b
  | .exit _ => true
  | .ret => true
  | _ => false

inductive Ann where
  | z
  | n (x y : Ann)
  | j (live : List (Nat × RTy)) (keep : List Nat) (x y : Ann)
  | l (live : List (Nat × RTy)) (keep : List Nat) (x : Ann)
  | d

def pushE : Option Nat → Value → Env → Env
  | some d, v, e => (d, v) :: e
  | none, _, e => e

/-- Operations in the text's order. -/
def semOps (P : Program) (H : List (Nat × RTy)) (ops : Array Oper) : List Oper → List (Nat × Bool) → Env → (Env → World → Prop) → World → Prop
  | [], _, e, k, w => k e w
  | o :: rest, g, e, k, w => match o.guard with
    | none => semOp P H g o e (fun v w' => semOps P H ops rest g (pushE o.dst v e) k w') w
    | some (j, b) => match (ops[j]?).bind (·.dst) with
      | none => False
      | some t => match decided t g with
        | some c => match find t e with
          | some (.bool y) => match y, c, b with
            | true, true, true => semOp P H g o e (fun v w' => semOps P H ops rest g (pushE o.dst v e) k w') w
            | true, true, false => semOps P H ops rest g (pushE o.dst undef e) k w
            | false, false, false => semOp P H g o e (fun v w' => semOps P H ops rest g (pushE o.dst v e) k w') w
            | false, false, true => semOps P H ops rest g (pushE o.dst undef e) k w
            | _, _, _ => False
          | _ => False
        | none => match find t e with
          | some (.tuple _) => semOps P H ops rest g (pushE o.dst undef e) k w
          | some (.bool y) => match b with
            | true => Br y (semOp P H ((t, true) :: g) o ((t, .bool true) :: e) (fun v w' => semOps P H ops rest ((t, true) :: g) (pushE o.dst v ((t, .bool true) :: e)) k w') w)
                (semOps P H ops rest ((t, false) :: g) (pushE o.dst undef ((t, .bool false) :: e)) k w)
            | false => Br y (semOps P H ops rest ((t, true) :: g) (pushE o.dst undef ((t, .bool true) :: e)) k w)
                (semOp P H ((t, false) :: g) o ((t, .bool false) :: e) (fun v w' => semOps P H ops rest ((t, false) :: g) (pushE o.dst v ((t, .bool false) :: e)) k w') w)
          | _ => False

/-! ### A region that draws its order -/

/-- What an operation yields that asks nothing of memory. -/
def peval (P : Program) {α : Type} : Sem α → Option α
  | .pure a => some a
  | .program k => peval P (k P)
  | _ => none

theorem peval_ok {P : Program} {α : Type} (s : Sem α) (a : α) (h : peval P s = some a) (w : World) : s.run P w = .ok a w := by
  induction s with
  | pure b => simp [peval] at h; subst h; rfl
  | program k ih => simp only [peval] at h; simpa [Sem.run] using ih _ h
  | _ => simp [peval] at h

def LdS (S : World → Prop) (t : Ty) (a : Addr) (k : t.T → Prop) : Prop := ∃ x, (∀ w, S w → w.cell? a = some (t.enc x)) ∧ k x

def LdSCells (S : World → Prop) (a : Addr) (k : List Value → Prop) : List Ty → Nat → List Value → Prop
  | [], _, acc => k acc.reverse
  | t :: ts, i, acc => LdS S t (a.add i) fun x => LdSCells S a k ts (i + 1) (t.enc x :: acc)

def LdSA (S : World → Prop) (n : Nat) (a : Addr) (k : Array Value → Prop) : Prop := ∃ cs : Array Value, (cs.size = n ∧ ∀ w, S w → ∀ i v, cs[i]? = some v → w.cell? (a.add i) = some v) ∧ k cs

/-- An operation of the model's that yields the same in every world that meets S. -/
def AppS (P : Program) (S : World → Prop) (s : Sem Value) (rt : RTy) (k : rt.T → Prop) : Prop := ∃ r : rt.T, (∀ w, S w → s.run P w = .ok (rt.enc r) w) ∧ k r

def takes : Op → Bool
  | .move _ => true
  | .assign _ => true
  | .pick .. => true
  | .load .. => true
  | .nilCheck _ => true
  | .fieldAddr .. => true
  | .indexAddr .. => true
  | .extract .. => true
  | .binOp .. => true
  | .build .. => true
  | .unOp .. => true
  | .convert .. => true
  | .field .. => true
  | .call { callee := .builtin .len, .. } => true
  | _ => false

/-- An operation that is taken first: what it yields in every world that meets S. -/
def semTake (P : Program) (H : List (Nat × RTy)) (g : List (Nat × Bool)) (S : World → Prop) (o : Oper) (e : Env) (k : Value → Prop) : Prop :=
  match known e o.op with
  | false => False
  | true => match o.op with
    | .load t x => match rho e x with
      | .pointer (some a) => match P.underlying t, P.info? t with
        | some u, some i => match isAggD u, hintOf o.dst H with
          | false, .one ty => LdS S ty a fun x => k (ty.enc x)
          | true, .agg ts => match Nat.beq ts.length i.size with
            | true => LdSCells S a (fun vs => k (.agg vs.toArray)) ts 0 []
            | false => False
          | true, .big => LdSA S i.size a fun cs => k (.agg cs)
          | _, _ => False
        | _, _ => False
      | _ => False
    | .nilCheck x => match rho e x with
      | .pointer p => NilC p fun a => k (.pointer (some a))
      | _ => False
    | .indexAddr t x i => match rho e x, rho e i, P.underlying t with
      | .slice a n c, .int _ j, some (.slice el) => match P.info? el with
        | some inf => IdxS ⟨a, n, c⟩ j inf.size fun p => k (.pointer (some p))
        | none => False
      | .pointer (some a), .int _ j, some (.array n el) => match P.info? el with
        | some inf => IdxA n a j inf.size fun p => k (.pointer (some p))
        | none => False
      | _, _, _ => False
    | .pick c a b => match (match c with | .tmp t => decided t g | _ => none) with
      | some x => match rho e c with
        | .bool y => match y, x with
          | true, true => k (rho e a)
          | false, false => k (rho e b)
          | _, _ => False
        | _ => False
      | none => match rho e c, rho e a, rho e b with
        | .bool x, .bool p, .bool q => k (.bool (match x with | true => p | false => q))
        | _, _, _ => False
    | .binOp op t x y _ => sBin P op t (rho e x) (rho e y) (isNilC y) k False
    | .build t ps => match hintOf o.dst H with
      | .big => AppS P S (Instr.build t (ps.map fun (i, x) => (i, rho e x))) .big fun r => k (RTy.enc .big r)
      | _ => match peval P (execOp (rho e) o) with
        | some (.value v) => k v
        | _ => False
    | .field t x f => match hintOf o.dst H with
      | .one .raw => match peval P (execOp (rho e) o) with
        | some (.value v) => k v
        | _ => False
      | r => AppS P S (Instr.field t (rho e x) f) r fun x => k (r.enc x)
    | _ => match peval P (execOp (rho e) o) with
      | some (.value v) => k v
      | _ => False

def isLoad : Op → Bool
  | .load .. => true
  | _ => false

/-- 'ld': are loads taken first? -/
def firstTake (ld : Bool) (ops : Array Oper) (listed : Array Bool) : List Nat → Option Nat
  | [] => none
  | i :: l => match ops[i]? with
    | some o => match takes o.op, Region.free .any ops listed i with
      | true, true => match ld, isLoad o.op with
        | false, true => firstTake ld ops listed l
        | _, _ => some i
      | _, _ => firstTake ld ops listed l
    | none => firstTake ld ops listed l

/-- Guarded: as 'semOps' has it, one operation. 'yes': it is carried out; 'no': it isn't. -/
def semGuard (ops : Array Oper) (o : Oper) (g : List (Nat × Bool)) (e : Env) (yes no : List (Nat × Bool) → Env → Prop) : Prop :=
  match o.guard with
  | none => yes g e
  | some (j, b) => match (ops[j]?).bind (·.dst) with
    | none => False
    | some t => match decided t g with
      | some c => match find t e with
        | some (.bool y) => match y, c, b with
          | true, true, true => yes g e
          | true, true, false => no g e
          | false, false, false => yes g e
          | false, false, true => no g e
          | _, _, _ => False
        | _ => False
      | none => match find t e with
        | some (.tuple _) => no g e
        | some (.bool y) => match b with
          | true => Br y (yes ((t, true) :: g) ((t, .bool true) :: e)) (no ((t, false) :: g) ((t, .bool false) :: e))
          | false => Br y (no ((t, true) :: g) ((t, .bool true) :: e)) (yes ((t, false) :: g) ((t, .bool false) :: e))
        | _ => False

def allOf : List Nat → (Nat → Prop) → Prop
  | [], _ => True
  | [i], f => f i
  | i :: j :: l, f => f i ∧ allOf (j :: l) f

def semD (P : Program) (H : List (Nat × RTy)) (ld : Bool) (ops : Array Oper) (S : World → Prop) (k : Env → World → Prop) : Nat → Array Bool → List (Nat × Bool) → Env → World → Prop
  | 0, listed, _, e, w => match Region.ready .any ops listed with
    | [] => k e w
    | _ :: _ => False
  | fuel + 1, listed, g, e, w =>
    match Region.ready .any ops listed with
    | [] => k e w
    | i₀ :: l => match firstTake ld ops listed (i₀ :: l) with
      | some i => match ops[i]? with
        | none => False
        | some o => semGuard ops o g e
            (fun g e => semTake P H g S o e fun v => semD P H ld ops S k fuel (listed.setIfInBounds i true) g (pushE o.dst v e) w)
            (fun g e => semD P H ld ops S k fuel (listed.setIfInBounds i true) g (pushE o.dst undef e) w)
      | none => allOf (i₀ :: l) fun i => match ops[i]? with
        | none => False
        | some o => semGuard ops o g e
            (fun g e => semOp P H g o e (fun v w' => S w' ∧ semD P H ld ops S k fuel (listed.setIfInBounds i true) g (pushE o.dst v e) w') w)
            (fun g e => semD P H ld ops S k fuel (listed.setIfInBounds i true) g (pushE o.dst undef e) w)

def Draw (w : World) (F : (World → Prop) → World → Prop) : Prop := ∃ S : World → Prop, S w.drew ∧ F S w.drew

/-- The same where nothing is asked of the worlds between. -/
def DrawN (w : World) (F : (World → Prop) → World → Prop) : Prop := F (fun _ => True) w.drew

def isD : Ann → Bool
  | .d => true
  | _ => false

def semReg (P : Program) (H : List (Nat × RTy)) (ld : Bool) (ops : Array Oper) (d : Bool) (e : Env) (k : Env → World → Prop) (w : World) : Prop :=
  match d with
  | false => semOps P H ops ops.toList [] e k w
  | true => match ld with
    | true => Draw w fun S w' => semD P H true ops S k ops.size (Array.replicate ops.size false) [] e w'
    | false => DrawN w fun S w' => semD P H false ops S k ops.size (Array.replicate ops.size false) [] e w'

def exitK (id : Nat) (e : Env) (w : World) : List (Nat × (Env → World → Prop)) → Prop
  | [] => False
  | (i, k) :: l => match Nat.beq i id with | true => k e w | false => exitK id e w l

def sem (P : Program) (H : List (Nat × RTy)) : Code → Ann → Env → (Env → World → Prop) → List (Nat × (Env → World → Prop)) → (Env → World → Prop) → World → Prop
  | .skip, _, e, kn, _, _, w => kn e w
  | .region _ ops d, ann, e, kn, _, _, w => match ann with
    | .j live keep x _ => match keepOk (dsts ops.toList) keep with
      | true => Join (fun s w' => kn (embed live s ++ restrict keep e) w') fun j => semReg P H (!isD x) ops d e (fun e' w' => jump live e' fun s => j s w') w
      | false => False
    | .d => semReg P H false ops d e kn w
    | _ => semReg P H true ops d e kn w
  | .seq a b, ann, e, kn, kx, kr, w => match ann with
    | .n x y => sem P H a x e (fun e' w' => sem P H b y e' kn kx kr w') kx kr w
    | .j live keep x y => match keepOk (asg a) keep with
      | true => Join (fun s w' => sem P H b y (embed live s ++ restrict keep e) kn kx kr w') fun j => sem P H a x e (fun e' w' => jump live e' fun s => j s w') kx kr w
      | false => False
    | _ => sem P H a .z e (fun e' w' => sem P H b .z e' kn kx kr w') kx kr w
  | .cond c a b, ann, e, kn, kx, kr, w => match ev e c with
    | some (.bool v) => match ann with
      | .n x y => Br v (sem P H a x e kn kx kr w) (sem P H b y e kn kx kr w)
      | _ => Br v (sem P H a .z e kn kx kr w) (sem P H b .z e kn kx kr w)
    | _ => False
  | .block id b, ann, e, kn, kx, kr, w => sem P H b ann e kn ((id, kn) :: kx) kr w
  | .loop b, ann, e, _, kx, kr, w => match ann with
    | .l live keep x => match keepOk (asg b) keep with
      | true => match decs live e with
        | some s₀ => Loop (fun s w' again => sem P H b x (embed live s ++ restrict keep e) (fun e' w'' => jump live e' fun s' => again s' w'') kx kr w') s₀ w
        | none => False
      | false => False
    | _ => False
  | .exit id, _, e, _, kx, _, w => exitK id e w kx
  | .ret, _, e, _, _, kr, w => kr e w
  | _, _, _, _, _, _, _ => False

end Go.Fk
