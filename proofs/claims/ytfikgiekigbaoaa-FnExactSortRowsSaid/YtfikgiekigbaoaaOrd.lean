/-
  The order of numbers, of byte strings and of values, as a number: plain facts.
-/
import Derived.WalkKit
import Derived.WalkLawsBesides
namespace Go.Proofs.Ytfikgiekigbaoaa
open Go

def cmpI (x y : Int) : Int := if x < y then -1 else if y < x then 1 else 0
def cmpS (a b : List UInt8) : Int := if Op.bytesLess a b = true then -1 else if a = b then 0 else 1
def ordF (k n : Int) (s : List UInt8) (k' n' : Int) (s' : List UInt8) : Int :=
  if cmpI k k' = 0 then (if cmpI n n' = 0 then cmpS s s' else cmpI n n') else cmpI k k'

theorem bytesLess_irrefl : ∀ a, Op.bytesLess a a = false
  | [] => by simp [Op.bytesLess]
  | a :: x => by simp [Op.bytesLess, bytesLess_irrefl x]

theorem bytesLess_swap : ∀ a b, Op.bytesLess b a = (!Op.bytesLess a b && !(a == b))
  | [], [] => by simp [Op.bytesLess]
  | [], _ :: _ => by simp [Op.bytesLess]
  | _ :: _, [] => by simp [Op.bytesLess]
  | a :: x, b :: y => by
    simp only [Op.bytesLess, bytesLess_swap x y]
    by_cases h : a = b
    · subst h; simp [UInt8.lt_irrefl]
    · have h' : ¬ b = a := fun e => h e.symm
      by_cases hlt : a < b
      · have : ¬ b < a := fun e => UInt8.lt_asymm hlt e
        simp [h', hlt, this]
      · have : b < a := by
          rcases UInt8.lt_or_lt_of_ne h with h1 | h1
          · exact absurd h1 hlt
          · exact h1
        simp [h, hlt, this]

theorem bytesLess_trans : ∀ a b c, Op.bytesLess a b = true → Op.bytesLess b c = true → Op.bytesLess a c = true
  | _, [], _, h, _ => by simp [Op.bytesLess] at h
  | _, _ :: _, [], _, h => by simp [Op.bytesLess] at h
  | [], _ :: _, _ :: _, _, _ => by simp [Op.bytesLess]
  | a :: x, b :: y, c :: z, h1, h2 => by
    simp only [Op.bytesLess, Bool.or_eq_true, Bool.and_eq_true, decide_eq_true_eq, beq_iff_eq] at h1 h2 ⊢
    rcases h1 with h1 | ⟨rfl, h1⟩
    · rcases h2 with h2 | ⟨rfl, h2⟩
      · exact .inl (UInt8.lt_trans h1 h2)
      · exact .inl h1
    · rcases h2 with h2 | ⟨rfl, h2⟩
      · exact .inl h2
      · exact .inr ⟨rfl, bytesLess_trans x y z h1 h2⟩

theorem cmpI_cases (x y : Int) : (x < y ∧ cmpI x y = -1) ∨ (x = y ∧ cmpI x y = 0) ∨ (y < x ∧ cmpI x y = 1) := by
  unfold cmpI
  split
  · exact .inl ⟨by assumption, rfl⟩
  · split
    · exact .inr (.inr ⟨by assumption, rfl⟩)
    · exact .inr (.inl ⟨by omega, rfl⟩)

theorem cmpS_cases (a b : List UInt8) : (Op.bytesLess a b = true ∧ Op.bytesLess b a = false ∧ a ≠ b ∧ cmpS a b = -1) ∨ (a = b ∧ Op.bytesLess a b = false ∧ Op.bytesLess b a = false ∧ cmpS a b = 0) ∨ (Op.bytesLess a b = false ∧ Op.bytesLess b a = true ∧ a ≠ b ∧ cmpS a b = 1) := by
  have hsw := bytesLess_swap a b
  unfold cmpS
  by_cases h : Op.bytesLess a b = true
  · left
    refine ⟨h, by rw [hsw, h]; rfl, ?_, by rw [if_pos h]⟩
    rintro rfl
    rw [bytesLess_irrefl] at h; cases h
  · have h0 : Op.bytesLess a b = false := by simpa using h
    by_cases he : a = b
    · subst he
      exact .inr (.inl ⟨rfl, h0, h0, by rw [if_neg h, if_pos rfl]⟩)
    · exact .inr (.inr ⟨h0, by rw [hsw, h0]; simpa using he, he, by rw [if_neg h, if_neg he]⟩)
end Go.Proofs.Ytfikgiekigbaoaa
