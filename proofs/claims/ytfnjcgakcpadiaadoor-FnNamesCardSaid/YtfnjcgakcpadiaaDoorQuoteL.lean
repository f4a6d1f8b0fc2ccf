/-
  Replacing each instance of one byte by two of it: the plain law.
-/
import Derived.Lib.Replace
import Derived.Lib.CountLaws
namespace Go.Proofs.YtfnjcgakcpadiaaDoor
open Go.Lib

/-- A byte, twice where it is b. -/
def dbl (b c : UInt8) : List UInt8 := if c = b then [b, b] else [c]

theorem pre_one (b c : UInt8) (l : List UInt8) : ([b] : List UInt8).isPrefixOf (c :: l) = (b == c) := by
  simp [List.isPrefixOf]

theorem idx_no (b : UInt8) : ∀ s : List UInt8, index s [b] = -1 → ∀ c ∈ s, c ≠ b
  | [], _, c, hc => by simp at hc
  | x :: l, h, c, hc => by
    unfold index at h
    rw [pre_one] at h
    by_cases hx : b = x
    · simp [hx] at h
    · have hx' : (b == x) = false := by simpa using hx
      rw [hx'] at h
      simp only [Bool.false_eq_true, if_false] at h
      by_cases hl : index l [b] = -1
      · rcases List.mem_cons.mp hc with rfl | hc
        · exact fun e => hx e.symm
        · exact idx_no b l hl c hc
      · have hl' : (index l [b] == -1) = false := by simpa using hl
        rw [hl'] at h
        have := index_ge l [b]
        simp only [Bool.false_eq_true, if_false] at h
        omega

theorem idx_at (b : UInt8) : ∀ (s : List UInt8) (i : Nat), index s [b] = (i : Int) → s = s.take i ++ b :: s.drop (i + 1) ∧ ∀ c ∈ s.take i, c ≠ b
  | [], i, h => by unfold index at h; simp at h
  | x :: l, i, h => by
    unfold index at h
    rw [pre_one] at h
    by_cases hx : b = x
    · subst hx
      simp only [beq_self_eq_true, if_true] at h
      have hi : i = 0 := by omega
      subst hi
      simp
    · have hx' : (b == x) = false := by simpa using hx
      rw [hx'] at h
      simp only [Bool.false_eq_true, if_false] at h
      by_cases hl : index l [b] = -1
      · rw [hl] at h
        simp at h
      · have hl' : (index l [b] == -1) = false := by simpa using hl
        rw [hl'] at h
        have hge := index_ge l [b]
        simp only [Bool.false_eq_true, if_false] at h
        obtain ⟨j, rfl⟩ : ∃ j, i = j + 1 := ⟨i - 1, by omega⟩
        obtain ⟨h1, h2⟩ := idx_at b l j (by omega)
        refine ⟨?_, ?_⟩
        · rw [List.take_succ_cons, List.drop_succ_cons, List.cons_append]
          exact congrArg (x :: ·) h1
        · intro c hc
          rw [List.take_succ_cons] at hc
          rcases List.mem_cons.mp hc with rfl | hc
          · exact fun e => hx e.symm
          · exact h2 c hc

theorem dbl_none (b : UInt8) (s : List UInt8) (h : ∀ c ∈ s, c ≠ b) : s.flatMap (dbl b) = s := by
  induction s with
  | nil => rfl
  | cons x l ih =>
    rw [List.flatMap_cons, ih (fun c hc => h c (List.mem_cons_of_mem _ hc))]
    simp [dbl, h x (List.mem_cons_self)]

theorem dbl_replaceK (b : UInt8) : ∀ (n : Nat) (s : List UInt8), s.length ≤ n → replaceK [b] [b, b] (count s [b]) s = s.flatMap (dbl b) := by
  intro n
  induction n with
  | zero =>
    intro s hs
    have : s = [] := List.eq_nil_of_length_eq_zero (by omega)
    subst this
    have h : index ([] : List UInt8) [b] = -1 := by simp [index]
    rw [count_miss h]
    rfl
  | succ n ih =>
    intro s hs
    by_cases hm : index s [b] = -1
    · rw [count_miss hm, dbl_none b s (idx_no b s hm)]
      rfl
    · have hge := index_ge s [b]
      obtain ⟨i, hi⟩ : ∃ i : Nat, index s [b] = (i : Int) := ⟨(index s [b]).toNat, by omega⟩
      obtain ⟨h1, h2⟩ := idx_at b s i hi
      rw [count_hit (by simp) hi, Nat.add_comm, replaceK_hit [b] [b, b] _ s i hi]
      have hlt : (s.drop (i + 1)).length ≤ n := by
        have h3 := congrArg List.length h1
        simp at h3 ⊢
        omega
      have e := ih (s.drop (i + 1)) hlt
      show s.take i ++ [b, b] ++ replaceK [b] [b, b] (count (s.drop (i + 1)) [b]) (s.drop (i + 1)) = _
      rw [e]
      conv => rhs; rw [h1]
      rw [List.flatMap_append, List.flatMap_cons, dbl_none b _ h2]
      simp [dbl]

theorem dbl_replaceAll (b : UInt8) (s : List UInt8) : replaceAll s [b] [b, b] = s.flatMap (dbl b) := by
  unfold replaceAll replace replaceNum
  rw [if_neg (by simp), if_pos (.inl (by omega))]
  exact dbl_replaceK b s.length s (Nat.le_refl _)
end Go.Proofs.YtfnjcgakcpadiaaDoor
