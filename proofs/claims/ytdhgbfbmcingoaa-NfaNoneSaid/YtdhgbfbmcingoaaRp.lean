/-
  A part of the proof: what the functions of the program come to, read off the model: no premise of its own, no axiom. By an AI agent.
-/
import Derived.Test.YtdhgbfbmcingoaaRx
import Derived.Lib.Bytealg
set_option linter.all false
set_option linter.unusedVariables false
namespace Go.Fk
open Go

/-! ## The parser of expressions, as plain functions -/

structure PS where
  at_ : Nat
  bad : Bool
  long : Bool
  deep : Nat

def PS.fail (st : PS) : PS := { st with bad := true }
def PS.adv (st : PS) : PS := { st with at_ := st.at_ + 1 }

def isB (s : List UInt8) (b : UInt8) (st : PS) : Bool × PS := if s[st.at_]? = some b then (true, st.adv) else (false, st)

def hexDigits : List UInt8 := [48, 49, 50, 51, 52, 53, 54, 55, 56, 57, 97, 98, 99, 100, 101, 102]

def digitF (s : List UInt8) (st : PS) : Nat × PS :=
  match s[st.at_]? with
  | none => (0, st.fail)
  | some c => if Lib.indexByte hexDigits c < 0 then (0, st.fail) else ((Lib.indexByte hexDigits c).toNat, st.adv)

def escapedF (s special : List UInt8) (st : PS) : Nat × PS :=
  match s[st.at_]? with
  | none => (0, st.fail)
  | some c =>
    if c = 110 then (10, st.adv) else if c = 116 then (9, st.adv) else if c = 115 then (32, st.adv)
    else if c = 120 then
      let h := digitF s st.adv
      if h.2.bad then (0, h.2) else
      let l := digitF s h.2
      ((16 * h.1 + l.1) % 256, l.2)
    else if Lib.indexByte special c < 0 then (0, st.fail) else (c.toNat, st.adv)

def letterF (s special : List UInt8) (st : PS) : Nat × PS :=
  match s[st.at_]? with
  | none => (0, st.fail)
  | some c =>
    if c = 92 then escapedF s special st.adv
    else if c ≤ 32 ∨ 127 ≤ c ∨ 0 ≤ Lib.indexByte special c then (0, st.fail) else (c.toNat, st.adv)

def specialIn : List UInt8 := [93, 94, 45, 92]
def specialOut : List UInt8 := [124, 42, 43, 63, 40, 41, 91, 93, 46, 92]

def spanF (s : List UInt8) (f : Nat → Bool) (st : PS) : (Nat → Bool) × PS :=
  let lo := letterF s specialIn st
  let r : Nat × PS :=
    if lo.2.bad then (lo.1, lo.2) else
    let d := isB s 45 lo.2
    if d.1 then
      let hi := letterF s specialIn d.2
      if !hi.2.bad && hi.1 < lo.1 then (hi.1, { hi.2 with at_ := d.2.at_, bad := true }) else hi
    else (lo.1, d.2)
  (if r.2.bad then f else fun i => f i || (decide (lo.1 ≤ i) && decide (i ≤ r.1)), r.2)

def classLoop (s : List UInt8) : Nat → (Nat → Bool) → PS → (Nat → Bool) × PS
  | 0, f, st => (f, st)
  | n + 1, f, st =>
    if st.bad then (f, st) else
    let d := isB s 93 st
    if d.1 then (f, d.2) else
    let r := spanF s f d.2
    classLoop s n r.1 r.2

def classF (s : List UInt8) (st : PS) : Re × PS :=
  let no := isB s 94 st
  let r := spanF s (fun _ => false) no.2
  let q := classLoop s (s.length + 1) r.1 r.2
  (.set (if no.1 then fun i => !q.1 i else q.1), q.2)

def atomF (s : List UInt8) (orF : PS → Re × PS) (st : PS) : Re × PS :=
  let a := isB s 40 st
  if a.1 then
    let st1 : PS := { a.2 with deep := a.2.deep + 1 }
    if 50 < st1.deep then (.empty, { st1 with long := true, bad := true }) else
    let n := orF st1
    if n.2.bad then (n.1, { n.2 with deep := n.2.deep - 1 }) else
    let c := isB s 41 n.2
    if c.1 then (n.1, { c.2 with deep := c.2.deep - 1 }) else (.empty, c.2.fail)
  else
    let d := isB s 46 a.2
    if d.1 then (.set fun i => !(i == 10), d.2) else
    let b := isB s 91 d.2
    if b.1 then classF s b.2 else
    let l := letterF s specialOut b.2
    (.set fun i => i == l.1, l.2)

def factorLoop (s : List UInt8) : Nat → Re → PS → Re × PS
  | 0, n, st => (n, st)
  | k + 1, n, st =>
    if st.bad then (n, st) else
    let a := isB s 42 st
    let go (x : Re) (st : PS) : Re × PS := if 400 < x.size then (.empty, { st with long := true, bad := true }) else factorLoop s k x st
    if a.1 then go (.star n) a.2 else
    let b := isB s 43 a.2
    if b.1 then go (.cat n (.star n)) b.2 else
    let c := isB s 63 b.2
    if c.1 then go (.or n .empty) c.2 else (n, c.2)

def factorF (s : List UInt8) (orF : PS → Re × PS) (st : PS) : Re × PS :=
  let a := atomF s orF st
  factorLoop s (s.length + 1) a.1 a.2

def catLoop (s : List UInt8) (orF : PS → Re × PS) : Nat → List Re → PS → List Re × PS
  | 0, l, st => (l, st)
  | k + 1, l, st =>
    if st.bad then (l, st) else
    match s[st.at_]? with
    | none => (l, st)
    | some c => if c = 124 ∨ c = 41 then (l, st) else
      let f := factorF s orF st
      catLoop s orF k (l ++ [f.1]) f.2

def catF (s : List UInt8) (orF : PS → Re × PS) (st : PS) : Re × PS :=
  let l := catLoop s orF (s.length + 1) [] st
  (twoOf .cat .empty l.1, l.2)

def orLoop (s : List UInt8) (orF : PS → Re × PS) : Nat → List Re → PS → List Re × PS
  | 0, l, st => (l, st)
  | k + 1, l, st =>
    if st.bad then (l, st) else
    let a := isB s 124 st
    if a.1 then
      let c := catF s orF a.2
      orLoop s orF k (l ++ [c.1]) c.2
    else (l, a.2)

def noBytes : Re := .set fun _ => false

def orF (s : List UInt8) : Nat → PS → Re × PS
  | 0, st => (.empty, st)
  | n + 1, st =>
    let c := catF s (orF s n) st
    let l := orLoop s (orF s n) (s.length + 1) [c.1] c.2
    (twoOf .or noBytes l.1, l.2)

/-- The parser's answer: the expression, where it can't go on, the error's number. -/
def parseF (s : List UInt8) : Re × Nat × Nat :=
  let r := orF s 51 ⟨0, false, false, 0⟩
  if r.2.long then (.empty, 0, 3) else
  if r.2.bad || r.2.at_ < s.length then (.empty, r.2.at_, 4) else
  if 400 < r.1.size then (.empty, 0, 3) else (r.1, 0, 0)

end Go.Fk
