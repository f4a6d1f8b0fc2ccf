/-
  The walk of FnExactSubNum.
-/
import Derived.Test.YtafabbjdckoihaaRows
import Derived.WalkKit
import Derived.WalkLawsBesides
import Derived.WalkSpells
import Derived.Handy
namespace Go.Proofs.Ytafabbjdckoihaa.fnExactSubNum
open Go.RowKit

def subOk (a b : Int) : Bool := decide (-9223372036854775808 ≤ a - b) && decide (a - b ≤ 9223372036854775807)
def subN (a b : Int) : Int := if subOk a b then a - b else 0

theorem implSub (a b : Int) (w : World) (ha : (Lit.int .i64 a).wf = true) (hb : (Lit.int .i64 b).wf = true) :
    Calls Try.prog 24 #[.int .i64 a, .int .i64 b] w fun e w' => e = .returned (.tuple #[.int .i64 (subN a b), .bool (subOk a b)]) ∧ w = w' := by
  have h1 := bounds_i64 ha
  have h2 := bounds_i64 hb
  clear ha hb
  by_cases h : -9223372036854775808 ≤ a - b ∧ a - b ≤ 9223372036854775807
  · have k1 : subOk a b = true := by simp [subOk, h]
    have k2 : subN a b = a - b := by simp [subN, k1]
    rw [k2, k1]
    obtain ⟨h3, h4⟩ := h
    clear k1 k2
    by_cases hp : 0 < b
    · go_enter Try.func24, Try.ntmps24
      go_wp2
      go_ret2
      exact ⟨rfl, rfl⟩
    · by_cases hq : b < 0
      · go_enter Try.func24, Try.ntmps24
        go_wp2
        go_ret2
        exact ⟨rfl, rfl⟩
      · go_enter Try.func24, Try.ntmps24
        go_wp2
        go_ret2
        exact ⟨rfl, rfl⟩
  · have k1 : subOk a b = false := by simp [subOk]; omega
    have k2 : subN a b = 0 := by simp [subN, k1]
    rw [k2, k1]
    clear k1 k2
    by_cases hp : b < 0
    · have h3 : 9223372036854775807 + b < a := by omega
      go_enter Try.func24, Try.ntmps24
      go_wp2
      go_ret2
      exact ⟨rfl, rfl⟩
    · have hq : 0 < b := by omega
      have h3 : a < -9223372036854775808 + b := by omega
      go_enter Try.func24, Try.ntmps24
      go_wp2
      go_ret2
      exact ⟨rfl, rfl⟩

theorem specSub (a b : Int) (w : World) (ha : (Lit.int .i64 a).wf = true) (hb : (Lit.int .i64 b).wf = true) :
    Calls Try.prog 23 #[.int .i64 a, .int .i64 b] w fun e w' => e = .returned (.tuple #[.int .i64 (subN a b), .bool (subOk a b)]) ∧ w = w' := by
  have h1 := bounds_i64 ha
  have h2 := bounds_i64 hb
  clear ha hb
  by_cases h : -9223372036854775808 ≤ a - b ∧ a - b ≤ 9223372036854775807
  · have k1 : subOk a b = true := by simp [subOk, h]
    have k2 : subN a b = a - b := by simp [subN, k1]
    rw [k2, k1]
    obtain ⟨h3, h4⟩ := h
    clear k1 k2
    by_cases hp : 0 < b
    · go_enter Try.func23, Try.ntmps23
      go_wp2
      go_ret2
      exact ⟨rfl, rfl⟩
    · by_cases hq : b < 0
      · go_enter Try.func23, Try.ntmps23
        go_wp2
        go_ret2
        exact ⟨rfl, rfl⟩
      · go_enter Try.func23, Try.ntmps23
        go_wp2
        go_ret2
        exact ⟨rfl, rfl⟩
  · have k1 : subOk a b = false := by simp [subOk]; omega
    have k2 : subN a b = 0 := by simp [subN, k1]
    rw [k2, k1]
    clear k1 k2
    by_cases hp : b < 0
    · have h3 : 9223372036854775807 + b < a := by omega
      go_enter Try.func23, Try.ntmps23
      go_wp2
      go_ret2
      exact ⟨rfl, rfl⟩
    · have hq : 0 < b := by omega
      have h3 : a < -9223372036854775808 + b := by omega
      go_enter Try.func23, Try.ntmps23
      go_wp2
      go_ret2
      exact ⟨rfl, rfl⟩

theorem walk (a b : Int) (w : World) (ha : (Lit.int .i64 a).wf = true) (hb : (Lit.int .i64 b).wf = true) :
    Calls Try.prog 8 #[.int .i64 a, .int .i64 b] w fun e w' => e = .returned (.bool true) ∧ Below w.heap.size w w' := by
  go_enter Try.func8, Try.ntmps8
  go_wp2_with (first | (go_at_call 23; refine (specSub a b _ ha hb).mono ?_; rintro e w' ⟨rfl, rfl⟩) | (go_at_call 24; refine (implSub a b _ ha hb).mono ?_; rintro e w' ⟨rfl, rfl⟩))
  all_goals go_ret
  all_goals exact ⟨rfl, by go_grown⟩
end Go.Proofs.Ytafabbjdckoihaa.fnExactSubNum
