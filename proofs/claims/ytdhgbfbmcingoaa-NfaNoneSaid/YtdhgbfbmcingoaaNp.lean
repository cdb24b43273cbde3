/-
  A part of the proof: what the functions of the program come to, read off the model: no premise of its own, no axiom. By an AI agent.
-/
import Derived.Test.YtdhgbfbmcingoaaRx
set_option linter.all false
set_option linter.unusedVariables false
namespace Go.Fk

/-! ## Positions, as they are by definition -/

def Re.cnt : Re → Nat
  | .set _ => 1 | .empty => 0 | .cat a b => a.cnt + b.cnt | .or a b => a.cnt + b.cnt | .star a => a.cnt
def Re.emp : Re → Bool
  | .set _ => false | .empty => true | .cat a b => a.emp && b.emp | .or a b => a.emp || b.emp | .star _ => true
def Re.first : Re → Int → Int → Prop
  | .set _, n, p => p = n
  | .empty, _, _ => False
  | .cat a b, n, p => a.first n p ∨ (a.emp = true ∧ b.first (n + a.cnt) p)
  | .or a b, n, p => a.first n p ∨ b.first (n + a.cnt) p
  | .star a, n, p => a.first n p
def Re.last : Re → Int → Int → Prop
  | .set _, n, p => p = n
  | .empty, _, _ => False
  | .cat a b, n, p => b.last (n + a.cnt) p ∨ (b.emp = true ∧ a.last n p)
  | .or a b, n, p => a.last n p ∨ b.last (n + a.cnt) p
  | .star a, n, p => a.last n p
def Re.fol : Re → Int → Int → Int → Prop
  | .set _, _, _, _ => False
  | .empty, _, _, _ => False
  | .cat a b, n, p, q => (a.fol n p q ∨ b.fol (n + a.cnt) p q) ∨ (a.last n p ∧ b.first (n + a.cnt) q)
  | .or a b, n, p, q => a.fol n p q ∨ b.fol (n + a.cnt) p q
  | .star a, n, p, q => a.fol n p q ∨ (a.last n p ∧ a.first n q)
def Re.poss : Re → List (Nat → Bool)
  | .set f => [f] | .empty => [] | .cat a b => a.poss ++ b.poss | .or a b => a.poss ++ b.poss | .star a => a.poss

theorem Re.poss_len (x : Re) : x.poss.length = x.cnt := by
  induction x <;> simp [Re.poss, Re.cnt, *]

theorem Re.first_in {x : Re} {n p : Int} (h : x.first n p) : n ≤ p ∧ p < n + x.cnt := by
  induction x generalizing n with
  | set f => simp [Re.first, Re.cnt] at *; omega
  | empty => exact h.elim
  | cat a b iha ihb =>
    simp only [Re.cnt]
    rcases h with h | ⟨_, h⟩
    · have := iha h; omega
    · have := ihb h; omega
  | or a b iha ihb =>
    simp only [Re.cnt]
    rcases h with h | h
    · have := iha h; omega
    · have := ihb h; omega
  | star a ih => exact ih h
theorem Re.last_in {x : Re} {n p : Int} (h : x.last n p) : n ≤ p ∧ p < n + x.cnt := by
  induction x generalizing n with
  | set f => simp [Re.last, Re.cnt] at *; omega
  | empty => exact h.elim
  | cat a b iha ihb =>
    simp only [Re.cnt]
    rcases h with h | ⟨_, h⟩
    · have := ihb h; omega
    · have := iha h; omega
  | or a b iha ihb =>
    simp only [Re.cnt]
    rcases h with h | h
    · have := iha h; omega
    · have := ihb h; omega
  | star a ih => exact ih h
theorem Re.fol_in {x : Re} {n p q : Int} (h : x.fol n p q) : (n ≤ p ∧ p < n + x.cnt) ∧ n ≤ q ∧ q < n + x.cnt := by
  induction x generalizing n with
  | set f => exact h.elim
  | empty => exact h.elim
  | cat a b iha ihb =>
    simp only [Re.cnt]
    rcases h with (h | h) | ⟨h1, h2⟩
    · have := iha h; omega
    · have := ihb h; omega
    · have := a.last_in h1; have := b.first_in h2; omega
  | or a b iha ihb =>
    simp only [Re.cnt]
    rcases h with h | h
    · have := iha h; omega
    · have := ihb h; omega
  | star a ih =>
    simp only [Re.cnt]
    rcases h with h | ⟨h1, h2⟩
    · exact ih h
    · have := a.last_in h1; have := a.first_in h2; omega
theorem Re.cnt_size (x : Re) : x.cnt ≤ x.size := by
  induction x <;> simp only [Re.cnt, Re.size] <;> omega

end Go.Fk
