/-
  Products of machine integers: plain facts.
-/
import Derived.RowKit
import Derived.Laws.BitsLemmas
namespace Go.Proofs.Ytnamikhhbedpeaa
open Go Go.RowKit

def mulOk (a b : Int) : Bool := decide (-9223372036854775808 ≤ a * b) && decide (a * b ≤ 9223372036854775807)
def mulN (a b : Int) : Int := if mulOk a b then a * b else 0

theorem mul_tdiv (a b : Int) (hb : b ≠ 0) (h1 : -9223372036854775808 ≤ a * b) (h2 : a * b ≤ 9223372036854775807) (ha1 : -9223372036854775808 ≤ a) (ha2 : a ≤ 9223372036854775807) :
    wrap64 ((wrap64 (a * b)).tdiv b) = a := by
  have e1 : wrap64 (a * b) = a * b := by unfold wrap64; omega
  rw [e1, Int.mul_tdiv_cancel _ hb]
  unfold wrap64; omega

theorem mul_tdiv_not (a b : Int) (hb : b ≠ 0) (h : ¬ (-9223372036854775808 ≤ a * b ∧ a * b ≤ 9223372036854775807)) (hb1 : -9223372036854775808 ≤ b) (hb2 : b ≤ 9223372036854775807)
    (ha1 : -9223372036854775808 ≤ a) (ha2 : a ≤ 9223372036854775807) (hx : ¬ (b = -1 ∧ a = -9223372036854775808)) :
    wrap64 ((wrap64 (a * b)).tdiv b) ≠ a := by
  intro e
  obtain ⟨n, hn⟩ : ∃ n, n = wrap64 (a * b) := ⟨_, rfl⟩
  obtain ⟨m, hm⟩ : ∃ m, m = a * b := ⟨_, rfl⟩
  have hn1 : -9223372036854775808 ≤ n ∧ n ≤ 9223372036854775807 := by rw [hn]; unfold wrap64; omega
  rw [← hn] at e
  rw [← hm] at hn h
  have hk : ∃ k : Int, n = m + 18446744073709551616 * k ∧ k ≠ 0 := by
    refine ⟨-((m + 9223372036854775808) / 18446744073709551616), ?_, ?_⟩
    · rw [hn]; unfold wrap64; omega
    · omega
  obtain ⟨k, hk, hk0⟩ := hk
  have hd : n.tdiv b * b + n.tmod b = n := Int.tdiv_mul_add_tmod n b
  have hlt : n.tmod b < (b.natAbs : Int) ∧ -(b.natAbs : Int) < n.tmod b := by
    have h1 : (n.tmod b).natAbs < b.natAbs := by
      rw [Int.natAbs_tmod]; exact Nat.mod_lt _ (by omega)
    omega
  by_cases hb1' : b = -1
  · subst hb1'
    have e2 : n.tdiv (-1) = -n := by rw [Int.tdiv_neg, Int.tdiv_one]
    rw [e2] at e
    have : m = -a := by rw [hm]; omega
    unfold wrap64 at e
    omega
  · have hq : -9223372036854775808 ≤ n.tdiv b ∧ n.tdiv b ≤ 9223372036854775807 := by
      have h3 : (n.tdiv b).natAbs ≤ n.natAbs := by rw [Int.natAbs_tdiv]; exact Nat.div_le_self _ _
      by_cases hmin : n.natAbs = 9223372036854775808
      · by_cases hb2' : b.natAbs = 1
        · have : b = 1 := by omega
          subst this
          rw [Int.tdiv_one]; exact hn1
        · have : (n.tdiv b).natAbs ≤ 9223372036854775808 / 2 := by
            rw [Int.natAbs_tdiv, hmin]
            exact Nat.div_le_div_left (by omega) (by decide)
          omega
      · omega
    have e3 : n.tdiv b = a := by
      rw [← e]; unfold wrap64; omega
    rw [e3, ← hm] at hd
    omega

theorem mul_test (a b : Int) (hb : b ≠ 0) (hb1 : -9223372036854775808 ≤ b) (hb2 : b ≤ 9223372036854775807)
    (ha1 : -9223372036854775808 ≤ a) (ha2 : a ≤ 9223372036854775807) (hx : ¬ (b = -1 ∧ a = -9223372036854775808)) :
    (wrap64 ((wrap64 (a * b)).tdiv b) == a) = mulOk a b := by
  unfold mulOk
  by_cases h : -9223372036854775808 ≤ a * b ∧ a * b ≤ 9223372036854775807
  · rw [mul_tdiv a b hb h.1 h.2 ha1 ha2]; simp [h]
  · have := mul_tdiv_not a b hb h hb1 hb2 ha1 ha2 hx
    have e1 : (wrap64 ((wrap64 (a * b)).tdiv b) == a) = false := by simpa using this
    rw [e1]
    have : (decide (-9223372036854775808 ≤ a * b) && decide (a * b ≤ 9223372036854775807)) = false := by
      simp only [Bool.and_eq_false_iff, decide_eq_false_iff_not]; omega
    exact this.symm

theorem tdiv_in (a b : Int) (ha1 : -9223372036854775808 ≤ a) (ha2 : a ≤ 9223372036854775807) (hb : b ≠ 0) (hx : ¬ (a = -9223372036854775808 ∧ b = -1)) : -9223372036854775808 ≤ a.tdiv b ∧ a.tdiv b ≤ 9223372036854775807 := by
  by_cases hb1 : b = -1
  · subst hb1
    rw [Int.tdiv_neg, Int.tdiv_one]; omega
  · have h3 : (a.tdiv b).natAbs ≤ a.natAbs := by rw [Int.natAbs_tdiv]; exact Nat.div_le_self _ _
    by_cases hmin : a.natAbs = 9223372036854775808
    · by_cases hb2' : b.natAbs = 1
      · have : b = 1 := by omega
        subst this
        rw [Int.tdiv_one]; omega
      · have : (a.tdiv b).natAbs ≤ 9223372036854775808 / 2 := by
          rw [Int.natAbs_tdiv, hmin]
          exact Nat.div_le_div_left (by omega) (by decide)
        omega
    · omega

theorem tdiv_wrap (a b : Int) (ha1 : -9223372036854775808 ≤ a) (ha2 : a ≤ 9223372036854775807) (hb : b ≠ 0) (hx : ¬ (a = -9223372036854775808 ∧ b = -1)) : wrap64 (a.tdiv b) = a.tdiv b := by
  have := tdiv_in a b ha1 ha2 hb hx
  unfold wrap64; omega

theorem tmod_in (a b : Int) (ha1 : -9223372036854775808 ≤ a) (ha2 : a ≤ 9223372036854775807) : -9223372036854775808 ≤ a.tmod b ∧ a.tmod b ≤ 9223372036854775807 := by
  have h1 : (a.tmod b).natAbs ≤ a.natAbs := by rw [Int.natAbs_tmod]; exact Nat.mod_le _ _
  by_cases h0 : 0 ≤ a
  · have := Int.tmod_nonneg b h0; omega
  · have h2 := Int.tmod_nonneg b (show 0 ≤ -a by omega)
    rw [Int.neg_tmod] at h2
    omega

theorem tmod_wrap (a b : Int) (ha1 : -9223372036854775808 ≤ a) (ha2 : a ≤ 9223372036854775807) : wrap64 (a.tmod b) = a.tmod b := by
  have := tmod_in a b ha1 ha2
  unfold wrap64; omega

theorem mulOk_comm (a b : Int) : mulOk a b = mulOk b a := by unfold mulOk; rw [Int.mul_comm]
theorem mulN_comm (a b : Int) : mulN a b = mulN b a := by unfold mulN; rw [mulOk_comm, Int.mul_comm]
end Go.Proofs.Ytnamikhhbedpeaa
