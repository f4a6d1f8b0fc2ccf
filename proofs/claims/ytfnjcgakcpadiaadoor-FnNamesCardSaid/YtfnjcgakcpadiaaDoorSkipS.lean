/-
  l3Pass: what the reference passes over.
-/
import Derived.Test.YtfnjcgakcpadiaaDoorLexP
import Derived.Test.YtfnjcgakcpadiaaDoorTokC
namespace Go.Proofs.YtfnjcgakcpadiaaDoor
open Go.RowKit

/-- Two bytes, or what is left of them. -/
theorem win_eq (s : ByteArray) (b e : Nat) (he : e = b + 2 ∧ b + 2 ≤ s.size ∨ e = s.size ∧ s.size ≤ b + 1) (x y : UInt8) : ((s.extract b e).toList == [x, y]) = Lib.hasPrefix (s.data.toList.drop b) [x, y] := by
  rw [ByteArray.toList_eq, Lib.extract_data]
  have hl := list_size s
  generalize s.data.toList = l at hl ⊢
  rcases he with ⟨rfl, h⟩ | ⟨rfl, h⟩
  · rw [← Lib.hasPrefix_of_take]
    have e1 : b + 2 - b = 2 := by omega
    have e2 : decide ([x, y].length ≤ (l.drop b).length) = true := by simp; omega
    rw [e1, e2, Bool.true_and]
    rfl
  · have hf : Lib.hasPrefix (l.drop b) [x, y] = false := pre2_no l b x y (by rintro ⟨h3, _⟩; omega)
    rw [hf]
    have h4 : ((l.drop b).take (s.size - b)).length ≤ 1 := by simp; omega
    generalize (l.drop b).take (s.size - b) = q at h4
    match q, h4 with
    | [], _ => rfl
    | [z], _ => simp

theorem close_none (l : List UInt8) (b : Nat) (h : ∀ i, b ≤ i → i < l.length → Lib.hasPrefix (l.drop i) [42, 47] = false) : Lib.index (l.drop b) [42, 47] < 0 := by
  rw [Lib.index_none (s := l.drop b) (sub := [42, 47])]
  · omega
  · intro j hj
    simp at hj
    show Lib.hasPrefix ((l.drop b).drop j) [42, 47] = false
    rw [List.drop_drop]
    by_cases hlt : b + j < l.length
    · exact h (b + j) (by omega) hlt
    · rw [List.drop_eq_nil_of_le (by omega)]
      rfl
theorem close_at (l : List UInt8) (b j : Nat) (hj : b ≤ j) (hl : j < l.length) (h : ∀ i, b ≤ i → i < j → Lib.hasPrefix (l.drop i) [42, 47] = false) (hp : Lib.hasPrefix (l.drop j) [42, 47] = true) :
    Lib.index (l.drop b) [42, 47] = ((j - b : Nat) : Int) := by
  refine Lib.index_first (by simp; omega) ?_ ?_
  · show Lib.hasPrefix ((l.drop b).drop (j - b)) [42, 47] = true
    rw [List.drop_drop, show b + (j - b) = j by omega]
    exact hp
  · intro i hi
    show Lib.hasPrefix ((l.drop b).drop i) [42, 47] = false
    rw [List.drop_drop]
    exact h (b + i) (by omega) (by omega)

/-- What l3Pass says. -/
def passR (r : Nat × Bool) : Int := if r.2 then (r.1 : Int) else -(r.1 : Int) - 1

theorem ws_tests (c : UInt8) (h : wsB c = true) : (c.toNat : Int) = 32 ∨ (c.toNat : Int) = 9 ∨ (c.toNat : Int) = 10 ∨ (c.toNat : Int) = 13 := by
  have h2 : c = 32 ∨ c = 9 ∨ c = 10 ∨ c = 13 := by simpa [wsB, or_assoc] using h
  rcases h2 with rfl | rfl | rfl | rfl <;> simp
theorem ws_none (c : UInt8) (h : wsB c = false) : ((c.toNat : Int) == 32) = false ∧ ((c.toNat : Int) == 9) = false ∧ ((c.toNat : Int) == 10) = false ∧ ((c.toNat : Int) == 13) = false := by
  have h2 : ¬ (c = 32 ∨ c = 9 ∨ c = 10 ∨ c = 13) := by
    intro h3
    have : wsB c = true := by simpa [wsB, or_assoc] using h3
    rw [this] at h
    cases h
  have f : ∀ d : UInt8, c ≠ d → ((c.toNat : Int) == (d.toNat : Int)) = false := fun d hd => by
    simp only [beq_eq_false_iff_ne, ne_eq]
    exact fun e => hd (UInt8.toNat_inj.mp (by omega))
  exact ⟨f 32 (fun e => h2 (.inl e)), f 9 (fun e => h2 (.inr (.inl e))), f 10 (fun e => h2 (.inr (.inr (.inl e)))), f 13 (fun e => h2 (.inr (.inr (.inr e))))⟩
end Go.Proofs.YtfnjcgakcpadiaaDoor