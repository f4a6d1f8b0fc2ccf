/-
  The walk of FnExactAddNum.
-/
import Derived.Test.YtafabbjdckoihaaRows
import Derived.WalkKit
import Derived.WalkLawsBesides
import Derived.WalkSpells
import Derived.Handy
namespace Go.Proofs.Ytafabbjdckoihaa.fnExactAddNum
open Go.RowKit

def addOk (a b : Int) : Bool := decide (-9223372036854775808 ≤ a + b) && decide (a + b ≤ 9223372036854775807)
def addN (a b : Int) : Int := if addOk a b then a + b else 0

theorem implAdd (a b : Int) (w : World) (ha : (Lit.int .i64 a).wf = true) (hb : (Lit.int .i64 b).wf = true) :
    Calls Try.prog 22 #[.int .i64 a, .int .i64 b] w fun e w' => e = .returned (.tuple #[.int .i64 (addN a b), .bool (addOk a b)]) ∧ w = w' := by
  have h1 := bounds_i64 ha
  have h2 := bounds_i64 hb
  clear ha hb
  by_cases h : -9223372036854775808 ≤ a + b ∧ a + b ≤ 9223372036854775807
  · have k1 : addOk a b = true := by simp [addOk, h]
    have k2 : addN a b = a + b := by simp [addN, k1]
    rw [k2, k1]
    obtain ⟨h3, h4⟩ := h
    clear k1 k2
    by_cases hp : 0 < b
    · go_enter Try.func22, Try.ntmps22
      go_wp2
      go_ret2
      exact ⟨rfl, rfl⟩
    · by_cases hq : b < 0
      · go_enter Try.func22, Try.ntmps22
        go_wp2
        go_ret2
        exact ⟨rfl, rfl⟩
      · go_enter Try.func22, Try.ntmps22
        go_wp2
        go_ret2
        exact ⟨rfl, rfl⟩
  · have k1 : addOk a b = false := by simp [addOk]; omega
    have k2 : addN a b = 0 := by simp [addN, k1]
    rw [k2, k1]
    clear k1 k2
    by_cases hp : 0 < b
    · have h3 : 9223372036854775807 - b < a := by omega
      go_enter Try.func22, Try.ntmps22
      go_wp2
      go_ret2
      exact ⟨rfl, rfl⟩
    · have hq : b < 0 := by omega
      have h3 : a < -9223372036854775808 - b := by omega
      go_enter Try.func22, Try.ntmps22
      go_wp2
      go_ret2
      exact ⟨rfl, rfl⟩

theorem specAdd (a b : Int) (w : World) (ha : (Lit.int .i64 a).wf = true) (hb : (Lit.int .i64 b).wf = true) :
    Calls Try.prog 21 #[.int .i64 a, .int .i64 b] w fun e w' => e = .returned (.tuple #[.int .i64 (addN a b), .bool (addOk a b)]) ∧ w = w' := by
  have h1 := bounds_i64 ha
  have h2 := bounds_i64 hb
  clear ha hb
  by_cases h : -9223372036854775808 ≤ a + b ∧ a + b ≤ 9223372036854775807
  · have k1 : addOk a b = true := by simp [addOk, h]
    have k2 : addN a b = a + b := by simp [addN, k1]
    rw [k2, k1]
    obtain ⟨h3, h4⟩ := h
    clear k1 k2
    by_cases hp : 0 < b
    · go_enter Try.func21, Try.ntmps21
      go_wp2
      go_ret2
      exact ⟨rfl, rfl⟩
    · by_cases hq : b < 0
      · go_enter Try.func21, Try.ntmps21
        go_wp2
        go_ret2
        exact ⟨rfl, rfl⟩
      · go_enter Try.func21, Try.ntmps21
        go_wp2
        go_ret2
        exact ⟨rfl, rfl⟩
  · have k1 : addOk a b = false := by simp [addOk]; omega
    have k2 : addN a b = 0 := by simp [addN, k1]
    rw [k2, k1]
    clear k1 k2
    by_cases hp : 0 < b
    · have h3 : 9223372036854775807 - b < a := by omega
      go_enter Try.func21, Try.ntmps21
      go_wp2
      go_ret2
      exact ⟨rfl, rfl⟩
    · have hq : b < 0 := by omega
      have h3 : a < -9223372036854775808 - b := by omega
      go_enter Try.func21, Try.ntmps21
      go_wp2
      go_ret2
      exact ⟨rfl, rfl⟩

theorem walk (a b : Int) (w : World) (ha : (Lit.int .i64 a).wf = true) (hb : (Lit.int .i64 b).wf = true) :
    Calls Try.prog 7 #[.int .i64 a, .int .i64 b] w fun e w' => e = .returned (.bool true) ∧ Below w.heap.size w w' := by
  go_enter Try.func7, Try.ntmps7
  go_wp2_with (first | (go_at_call 21; refine (specAdd a b _ ha hb).mono ?_; rintro e w' ⟨rfl, rfl⟩) | (go_at_call 22; refine (implAdd a b _ ha hb).mono ?_; rintro e w' ⟨rfl, rfl⟩))
  all_goals go_ret
  all_goals exact ⟨rfl, by go_grown⟩
end Go.Proofs.Ytafabbjdckoihaa.fnExactAddNum
