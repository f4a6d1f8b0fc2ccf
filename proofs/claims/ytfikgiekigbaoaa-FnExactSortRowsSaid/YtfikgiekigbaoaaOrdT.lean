/-
  The order of rows is a total order: plain facts.
-/
import Derived.Test.YtfikgiekigbaoaaOrdR
namespace Go.Proofs.Ytfikgiekigbaoaa
open Go Go.RowKit Go.Lib

theorem ordF_range (k n : Int) (s : List UInt8) (k' n' : Int) (s' : List UInt8) : -1 ≤ ordF k n s k' n' s' ∧ ordF k n s k' n' s' ≤ 1 := by
  unfold ordF
  rcases cmpI_cases k k' with ⟨_, h⟩ | ⟨_, h⟩ | ⟨_, h⟩ <;> rcases cmpI_cases n n' with ⟨_, h1⟩ | ⟨_, h1⟩ | ⟨_, h1⟩ <;> rcases cmpS_cases s s' with ⟨_, _, _, h2⟩ | ⟨_, _, _, h2⟩ | ⟨_, _, _, h2⟩ <;> simp [h, h1, h2]

theorem ordF_swap (k n : Int) (s : List UInt8) (k' n' : Int) (s' : List UInt8) : ordF k' n' s' k n s = -ordF k n s k' n' s' := by
  unfold ordF
  rcases cmpI_cases k k' with ⟨_, h⟩ | ⟨_, h⟩ | ⟨_, h⟩ <;> rcases cmpI_cases k' k with ⟨_, g⟩ | ⟨_, g⟩ | ⟨_, g⟩ <;> first | omega | skip
  all_goals rcases cmpI_cases n n' with ⟨_, h1⟩ | ⟨_, h1⟩ | ⟨_, h1⟩ <;> rcases cmpI_cases n' n with ⟨_, g1⟩ | ⟨_, g1⟩ | ⟨_, g1⟩ <;> first | omega | skip
  all_goals rcases cmpS_cases s s' with ⟨a1, b1, c1, h2⟩ | ⟨a1, b1, c1, h2⟩ | ⟨a1, b1, c1, h2⟩ <;> rcases cmpS_cases s' s with ⟨a2, b2, c2, g2⟩ | ⟨a2, b2, c2, g2⟩ | ⟨a2, b2, c2, g2⟩
  all_goals first | (simp [h, g, h1, g1, h2, g2]; done) | simp_all

theorem ordF_zero (k n : Int) (s : List UInt8) (k' n' : Int) (s' : List UInt8) : ordF k n s k' n' s' = 0 ↔ (k = k' ∧ n = n' ∧ s = s') := by
  unfold ordF
  rcases cmpI_cases k k' with ⟨a, h⟩ | ⟨a, h⟩ | ⟨a, h⟩ <;> rcases cmpI_cases n n' with ⟨b, h1⟩ | ⟨b, h1⟩ | ⟨b, h1⟩ <;> rcases cmpS_cases s s' with ⟨_, _, c, h2⟩ | ⟨c, _, _, h2⟩ | ⟨_, _, c, h2⟩ <;> simp [h, h1, h2] <;> first | omega | (intro _ _; exact c) | exact ⟨a, b, c⟩

theorem cmpS_trans {a b c : List UInt8} (h1 : cmpS a b ≤ 0) (h2 : cmpS b c ≤ 0) : cmpS a c ≤ 0 ∧ (cmpS a c = 0 → cmpS a b = 0 ∧ cmpS b c = 0) := by
  rcases cmpS_cases a b with ⟨x1, _, _, e1⟩ | ⟨rfl, _, _, e1⟩ | ⟨_, _, _, e1⟩
  · rcases cmpS_cases b c with ⟨x2, _, _, e2⟩ | ⟨rfl, _, _, e2⟩ | ⟨_, _, _, e2⟩
    · have := bytesLess_trans a b c x1 x2
      rcases cmpS_cases a c with ⟨_, _, _, e3⟩ | ⟨_, x3, _, e3⟩ | ⟨x3, _, _, e3⟩
      · rw [e3]; simp
      · rw [this] at x3; cases x3
      · rw [this] at x3; cases x3
    · rw [e1]; simp
    · omega
  · refine ⟨h2, fun h => ⟨e1, h⟩⟩
  · omega

theorem ordF_trans {k n : Int} {s : List UInt8} {k' n' : Int} {s' : List UInt8} {k2 n2 : Int} {s2 : List UInt8} (h1 : ordF k n s k' n' s' ≤ 0) (h2 : ordF k' n' s' k2 n2 s2 ≤ 0) : ordF k n s k2 n2 s2 ≤ 0 := by
  unfold ordF at h1 h2 ⊢
  rcases cmpI_cases k k' with ⟨a, e⟩ | ⟨a, e⟩ | ⟨a, e⟩ <;> rcases cmpI_cases k' k2 with ⟨b, f⟩ | ⟨b, f⟩ | ⟨b, f⟩ <;> rcases cmpI_cases k k2 with ⟨c, g⟩ | ⟨c, g⟩ | ⟨c, g⟩ <;> first | omega | (simp [e, f, g] at h1 h2 ⊢; done) | skip
  all_goals simp only [e, f, g, if_true] at h1 h2 ⊢
  all_goals rcases cmpI_cases n n' with ⟨a1, e1⟩ | ⟨a1, e1⟩ | ⟨a1, e1⟩ <;> rcases cmpI_cases n' n2 with ⟨b1, f1⟩ | ⟨b1, f1⟩ | ⟨b1, f1⟩ <;> rcases cmpI_cases n n2 with ⟨c1, g1⟩ | ⟨c1, g1⟩ | ⟨c1, g1⟩ <;> first | omega | (simp [e1, f1, g1] at h1 h2 ⊢; done) | skip
  all_goals simp only [e1, f1, g1, if_true] at h1 h2 ⊢
  all_goals exact (cmpS_trans h1 h2).1

theorem toList_inj {s t : ByteArray} (h : s.toList = t.toList) : s = t := by
  rw [ByteArray.toList_eq, ByteArray.toList_eq] at h
  cases s with
  | mk a => cases t with
    | mk b => congr; exact Array.toList_inj.mp h

theorem ordV_range (x y : ValF) : -1 ≤ ordV x y ∧ ordV x y ≤ 1 := ordF_range _ _ _ _ _ _
theorem ordV_swap (x y : ValF) : ordV y x = -ordV x y := ordF_swap _ _ _ _ _ _
theorem ordV_zero {x y : ValF} (h : ordV x y = 0) : x = y := by
  obtain ⟨h1, h2, h3⟩ := (ordF_zero _ _ _ _ _ _).1 h
  cases x; cases y
  simp only at h1 h2 h3
  rw [h1, h2, toList_inj h3]
theorem ordV_self (x : ValF) : ordV x x = 0 := (ordF_zero _ _ _ _ _ _).2 ⟨rfl, rfl, rfl⟩
theorem ordV_trans {x y z : ValF} (h1 : ordV x y ≤ 0) (h2 : ordV y z ≤ 0) : ordV x z ≤ 0 := ordF_trans h1 h2

theorem ordR_range : ∀ xs ys : List ValF, -1 ≤ ordR xs ys ∧ ordR xs ys ≤ 1
  | [], [] => by simp [ordR]
  | [], _ :: _ => by simp [ordR]
  | _ :: _, [] => by simp [ordR]
  | x :: xs, y :: ys => by
    have h1 := ordR_range xs ys
    have h2 := ordV_range x y
    unfold ordR
    split
    · exact h1
    · exact h2
theorem ordR_swap : ∀ xs ys : List ValF, ordR ys xs = -ordR xs ys
  | [], [] => by simp [ordR]
  | [], _ :: _ => by simp [ordR]
  | _ :: _, [] => by simp [ordR]
  | x :: xs, y :: ys => by
    have h1 := ordR_swap xs ys
    have h2 := ordV_swap x y
    unfold ordR
    by_cases h : ordV x y = 0
    · rw [if_pos (by omega), if_pos h, h1]
    · rw [if_neg (by omega), if_neg h, h2]
theorem ordR_zero : ∀ {xs ys : List ValF}, ordR xs ys = 0 → xs = ys
  | [], [], _ => rfl
  | [], _ :: _, h => by simp [ordR] at h
  | _ :: _, [], h => by simp [ordR] at h
  | x :: xs, y :: ys, h => by
    unfold ordR at h
    split at h
    · rename_i h0
      rw [ordV_zero h0, ordR_zero h]
    · contradiction
theorem ordR_self : ∀ xs : List ValF, ordR xs xs = 0
  | [] => rfl
  | x :: xs => by unfold ordR; rw [if_pos (ordV_self x)]; exact ordR_self xs
theorem ordR_trans : ∀ {xs ys zs : List ValF}, ordR xs ys ≤ 0 → ordR ys zs ≤ 0 → ordR xs zs ≤ 0
  | [], _, [], _, _ => by simp [ordR]
  | [], _, _ :: _, _, _ => by simp [ordR]
  | _ :: _, [], _, h, _ => by simp [ordR] at h
  | _ :: _, _ :: _, [], _, h => by simp [ordR] at h
  | x :: xs, y :: ys, z :: zs, h1, h2 => by
    unfold ordR at h1 h2 ⊢
    by_cases a : ordV x y = 0
    · rw [if_pos a] at h1
      have := ordV_zero a
      subst this
      by_cases b : ordV x z = 0
      · rw [if_pos b] at h2 ⊢
        exact ordR_trans h1 h2
      · rw [if_neg b] at h2 ⊢
        exact h2
    · rw [if_neg a] at h1
      by_cases b : ordV y z = 0
      · have := ordV_zero b
        subst this
        rw [if_neg a]
        exact h1
      · rw [if_neg b] at h2
        have h3 := ordV_trans h1 h2
        by_cases c : ordV x z = 0
        · exfalso
          have := ordV_zero c
          subst this
          have h4 := ordV_swap x y
          omega
        · rw [if_neg c]
          exact h3
theorem ordR_le_total (xs ys : List ValF) : ordR xs ys ≤ 0 ∨ ordR ys xs ≤ 0 := by have := ordR_swap xs ys; omega
theorem ordR_anti {xs ys : List ValF} (h1 : ordR xs ys ≤ 0) (h2 : ordR ys xs ≤ 0) : xs = ys := ordR_zero (by have := ordR_swap xs ys; omega)
end Go.Proofs.Ytfikgiekigbaoaa
