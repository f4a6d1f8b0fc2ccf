/-
  Products of machine integers: what MulNum computes, in the program and in the reference.
-/
import Derived.Test.YtnamikhhbedpeaaRows
import Derived.WalkKit
import Derived.WalkLawsBesides
import Derived.WalkSpells
import Derived.Handy
import Derived.Test.YtnamikhhbedpeaaMul
namespace Go.Proofs.Ytnamikhhbedpeaa
open Go.RowKit

set_option maxHeartbeats 400000 in
theorem specMulNum (a b : Int) (w : World) (ha : (Lit.int .i64 a).wf = true) (hb : (Lit.int .i64 b).wf = true) :
    Calls Try.prog 38 #[.int .i64 a, .int .i64 b] w fun e w' => e = .returned (.tuple #[.int .i64 (mulN a b), .bool (mulOk a b)]) ∧ w = w' := by
  have h1 := bounds_i64 ha
  have h2 := bounds_i64 hb
  clear ha hb
  by_cases ha : a = 0
  · have k1 : mulOk a b = true := by rw [ha]; simp [mulOk]
    have k2 : mulN a b = 0 := by rw [ha]; simp [mulN]
    rw [k1, k2]
    clear k1 k2
    subst ha
    have hz : wrap64 0 = 0 := by simp [wrap64]
    go_enter Try.func38, Try.ntmps38
    go_wp2
    all_goals go_ret2
    all_goals exact ⟨rfl, rfl⟩
  by_cases hb : b = 0
  · have k1 : mulOk a b = true := by rw [hb]; simp [mulOk]
    have k2 : mulN a b = 0 := by rw [hb]; simp [mulN]
    rw [k1, k2]
    clear k1 k2
    subst hb
    have hz : wrap64 0 = 0 := by simp [wrap64]
    have ha0 : (a == 0) = false := by simpa using ha
    go_enter Try.func38, Try.ntmps38
    go_wp2
    all_goals go_ret2
    all_goals exact ⟨rfl, rfl⟩
  by_cases hx : a = -1 ∧ b = -9223372036854775808
  · obtain ⟨rfl, rfl⟩ := hx
    have k1 : mulOk (-1) (-9223372036854775808) = false := by simp [mulOk]
    have k2 : mulN (-1) (-9223372036854775808) = 0 := by simp [mulN, k1]
    rw [k1, k2]
    clear k1 k2
    have hz : wrap64 9223372036854775808 = -9223372036854775808 := by simp [wrap64]
    go_enter Try.func38, Try.ntmps38
    go_wp2
    all_goals go_ret2
    all_goals exact ⟨rfl, rfl⟩
  by_cases hy : b = -1 ∧ a = -9223372036854775808
  · obtain ⟨rfl, rfl⟩ := hy
    have k1 : mulOk (-9223372036854775808) (-1) = false := by simp [mulOk]
    have k2 : mulN (-9223372036854775808) (-1) = 0 := by simp [mulN, k1]
    rw [k1, k2]
    clear k1 k2
    have hz : wrap64 9223372036854775808 = -9223372036854775808 := by simp [wrap64]
    go_enter Try.func38, Try.ntmps38
    go_wp2
    all_goals go_ret2
    all_goals exact ⟨rfl, rfl⟩
  have ht0 := mul_test a b hb h2.1 h2.2 h1.1 h1.2 hy
  have ha0 : (a == 0) = false := by simpa using ha
  have hb0 : (b == 0) = false := by simpa using hb
  have hc1 : ((a == -1) = true ∧ (b == -9223372036854775808) = false) ∨ (a == -1) = false := by
    by_cases h : a = -1
    · exact .inl ⟨by simpa using h, by simp; omega⟩
    · exact .inr (by simpa using h)
  have hc2 : ((b == -1) = true ∧ (a == -9223372036854775808) = false) ∨ (b == -1) = false := by
    by_cases h : b = -1
    · exact .inl ⟨by simpa using h, by simp; omega⟩
    · exact .inr (by simpa using h)
  obtain ⟨m, hm⟩ : ∃ m, m = mulOk a b := ⟨_, rfl⟩
  rw [← hm] at ht0 ⊢
  have ht : (wrap64 ((wrap64 (a * b)).tdiv b) != a) = !m := by rw [bne, ht0]
  have hn : mulN a b = if m then wrap64 (a * b) else 0 := by
    rw [mulN, ← hm]
    cases m with
    | false => rfl
    | true =>
      have : -9223372036854775808 ≤ a * b ∧ a * b ≤ 9223372036854775807 := by simpa [mulOk] using hm
      simp only [if_true]; unfold wrap64; omega
  rw [hn]
  clear hn hm ht0 hx hy
  cases m
  all_goals simp only [Bool.not_true, Bool.not_false, if_true, if_false, Bool.false_eq_true] at ht ⊢
  all_goals rcases hc1 with ⟨hc1, hc3⟩ | hc1
  all_goals rcases hc2 with ⟨hc2, hc4⟩ | hc2
  all_goals
    go_enter Try.func38, Try.ntmps38
    go_wp2
    all_goals go_ret2
    all_goals exact ⟨rfl, rfl⟩

set_option maxHeartbeats 400000 in
theorem implMulNum (a b : Int) (w : World) (ha : (Lit.int .i64 a).wf = true) (hb : (Lit.int .i64 b).wf = true) :
    Calls Try.prog 37 #[.int .i64 a, .int .i64 b] w fun e w' => e = .returned (.tuple #[.int .i64 (mulN a b), .bool (mulOk a b)]) ∧ w = w' := by
  have h1 := bounds_i64 ha
  have h2 := bounds_i64 hb
  clear ha hb
  by_cases ha : a = 0
  · have k1 : mulOk a b = true := by rw [ha]; simp [mulOk]
    have k2 : mulN a b = 0 := by rw [ha]; simp [mulN]
    rw [k1, k2]
    clear k1 k2
    subst ha
    have hz : wrap64 0 = 0 := by simp [wrap64]
    go_enter Try.func37, Try.ntmps37
    go_wp2
    all_goals go_ret2
    all_goals exact ⟨rfl, rfl⟩
  by_cases hb : b = 0
  · have k1 : mulOk a b = true := by rw [hb]; simp [mulOk]
    have k2 : mulN a b = 0 := by rw [hb]; simp [mulN]
    rw [k1, k2]
    clear k1 k2
    subst hb
    have hz : wrap64 0 = 0 := by simp [wrap64]
    have ha0 : (a == 0) = false := by simpa using ha
    go_enter Try.func37, Try.ntmps37
    go_wp2
    all_goals go_ret2
    all_goals exact ⟨rfl, rfl⟩
  by_cases hx : a = -1 ∧ b = -9223372036854775808
  · obtain ⟨rfl, rfl⟩ := hx
    have k1 : mulOk (-1) (-9223372036854775808) = false := by simp [mulOk]
    have k2 : mulN (-1) (-9223372036854775808) = 0 := by simp [mulN, k1]
    rw [k1, k2]
    clear k1 k2
    have hz : wrap64 9223372036854775808 = -9223372036854775808 := by simp [wrap64]
    go_enter Try.func37, Try.ntmps37
    go_wp2
    all_goals go_ret2
    all_goals exact ⟨rfl, rfl⟩
  by_cases hy : b = -1 ∧ a = -9223372036854775808
  · obtain ⟨rfl, rfl⟩ := hy
    have k1 : mulOk (-9223372036854775808) (-1) = false := by simp [mulOk]
    have k2 : mulN (-9223372036854775808) (-1) = 0 := by simp [mulN, k1]
    rw [k1, k2]
    clear k1 k2
    have hz : wrap64 9223372036854775808 = -9223372036854775808 := by simp [wrap64]
    go_enter Try.func37, Try.ntmps37
    go_wp2
    all_goals go_ret2
    all_goals exact ⟨rfl, rfl⟩
  have ht0 := (show (wrap64 ((wrap64 (a * b)).tdiv a) == b) = mulOk a b from by rw [mulOk_comm a b, Int.mul_comm a b]; exact mul_test b a ha h1.1 h1.2 h2.1 h2.2 hx)
  have ha0 : (a == 0) = false := by simpa using ha
  have hb0 : (b == 0) = false := by simpa using hb
  have hc1 : ((a == -1) = true ∧ (b == -9223372036854775808) = false) ∨ (a == -1) = false := by
    by_cases h : a = -1
    · exact .inl ⟨by simpa using h, by simp; omega⟩
    · exact .inr (by simpa using h)
  have hc2 : ((b == -1) = true ∧ (a == -9223372036854775808) = false) ∨ (b == -1) = false := by
    by_cases h : b = -1
    · exact .inl ⟨by simpa using h, by simp; omega⟩
    · exact .inr (by simpa using h)
  obtain ⟨m, hm⟩ : ∃ m, m = mulOk a b := ⟨_, rfl⟩
  rw [← hm] at ht0 ⊢
  have ht : (wrap64 ((wrap64 (a * b)).tdiv a) != b) = !m := by rw [bne, ht0]
  have hn : mulN a b = if m then wrap64 (a * b) else 0 := by
    rw [mulN, ← hm]
    cases m with
    | false => rfl
    | true =>
      have : -9223372036854775808 ≤ a * b ∧ a * b ≤ 9223372036854775807 := by simpa [mulOk] using hm
      simp only [if_true]; unfold wrap64; omega
  rw [hn]
  clear hn hm ht0 hx hy
  cases m
  all_goals simp only [Bool.not_true, Bool.not_false, if_true, if_false, Bool.false_eq_true] at ht ⊢
  all_goals rcases hc1 with ⟨hc1, hc3⟩ | hc1
  all_goals rcases hc2 with ⟨hc2, hc4⟩ | hc2
  all_goals
    go_enter Try.func37, Try.ntmps37
    go_wp2
    all_goals go_ret2
    all_goals exact ⟨rfl, rfl⟩

end Go.Proofs.Ytnamikhhbedpeaa
