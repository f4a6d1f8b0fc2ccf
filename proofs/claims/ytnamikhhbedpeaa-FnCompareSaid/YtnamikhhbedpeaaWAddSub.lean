/-
  Sums and differences of machine integers: what AddNum and SubNum compute, in the program and in the reference.
-/
import Derived.Test.YtnamikhhbedpeaaRows
import Derived.WalkKit
import Derived.WalkLawsBesides
import Derived.WalkSpells
import Derived.Handy
namespace Go.Proofs.Ytnamikhhbedpeaa
open Go.RowKit

def addOk (a b : Int) : Bool := decide (-9223372036854775808 ≤ a + b) && decide (a + b ≤ 9223372036854775807)
def addN (a b : Int) : Int := if addOk a b then a + b else 0

theorem implAdd (a b : Int) (w : World) (ha : (Lit.int .i64 a).wf = true) (hb : (Lit.int .i64 b).wf = true) :
    Calls Try.prog 21 #[.int .i64 a, .int .i64 b] w fun e w' => e = .returned (.tuple #[.int .i64 (addN a b), .bool (addOk a b)]) ∧ w = w' := by
  have h1 := bounds_i64 ha
  have h2 := bounds_i64 hb
  clear ha hb
  by_cases h : -9223372036854775808 ≤ a + b ∧ a + b ≤ 9223372036854775807
  · have k1 : addOk a b = true := by simp [addOk, h]
    have k2 : addN a b = a + b := by simp [addN, k1]
    rw [k2, k1]
    obtain ⟨h3, h4⟩ := h
    clear k1 k2
    by_cases hp : 0 < b
    · go_enter Try.func21, Try.ntmps21
      go_wp2
      go_ret2
      exact ⟨rfl, rfl⟩
    · by_cases hq : b < 0
      · go_enter Try.func21, Try.ntmps21
        go_wp2
        go_ret2
        exact ⟨rfl, rfl⟩
      · go_enter Try.func21, Try.ntmps21
        go_wp2
        go_ret2
        exact ⟨rfl, rfl⟩
  · have k1 : addOk a b = false := by simp [addOk]; omega
    have k2 : addN a b = 0 := by simp [addN, k1]
    rw [k2, k1]
    clear k1 k2
    by_cases hp : 0 < b
    · have h3 : 9223372036854775807 - b < a := by omega
      go_enter Try.func21, Try.ntmps21
      go_wp2
      go_ret2
      exact ⟨rfl, rfl⟩
    · have hq : b < 0 := by omega
      have h3 : a < -9223372036854775808 - b := by omega
      go_enter Try.func21, Try.ntmps21
      go_wp2
      go_ret2
      exact ⟨rfl, rfl⟩

theorem specAdd (a b : Int) (w : World) (ha : (Lit.int .i64 a).wf = true) (hb : (Lit.int .i64 b).wf = true) :
    Calls Try.prog 22 #[.int .i64 a, .int .i64 b] w fun e w' => e = .returned (.tuple #[.int .i64 (addN a b), .bool (addOk a b)]) ∧ w = w' := by
  have h1 := bounds_i64 ha
  have h2 := bounds_i64 hb
  clear ha hb
  by_cases h : -9223372036854775808 ≤ a + b ∧ a + b ≤ 9223372036854775807
  · have k1 : addOk a b = true := by simp [addOk, h]
    have k2 : addN a b = a + b := by simp [addN, k1]
    rw [k2, k1]
    obtain ⟨h3, h4⟩ := h
    clear k1 k2
    by_cases hp : 0 < b
    · go_enter Try.func22, Try.ntmps22
      go_wp2
      go_ret2
      exact ⟨rfl, rfl⟩
    · by_cases hq : b < 0
      · go_enter Try.func22, Try.ntmps22
        go_wp2
        go_ret2
        exact ⟨rfl, rfl⟩
      · go_enter Try.func22, Try.ntmps22
        go_wp2
        go_ret2
        exact ⟨rfl, rfl⟩
  · have k1 : addOk a b = false := by simp [addOk]; omega
    have k2 : addN a b = 0 := by simp [addN, k1]
    rw [k2, k1]
    clear k1 k2
    by_cases hp : 0 < b
    · have h3 : 9223372036854775807 - b < a := by omega
      go_enter Try.func22, Try.ntmps22
      go_wp2
      go_ret2
      exact ⟨rfl, rfl⟩
    · have hq : b < 0 := by omega
      have h3 : a < -9223372036854775808 - b := by omega
      go_enter Try.func22, Try.ntmps22
      go_wp2
      go_ret2
      exact ⟨rfl, rfl⟩

def subOk (a b : Int) : Bool := decide (-9223372036854775808 ≤ a - b) && decide (a - b ≤ 9223372036854775807)
def subN (a b : Int) : Int := if subOk a b then a - b else 0

theorem implSub (a b : Int) (w : World) (ha : (Lit.int .i64 a).wf = true) (hb : (Lit.int .i64 b).wf = true) :
    Calls Try.prog 23 #[.int .i64 a, .int .i64 b] w fun e w' => e = .returned (.tuple #[.int .i64 (subN a b), .bool (subOk a b)]) ∧ w = w' := by
  have h1 := bounds_i64 ha
  have h2 := bounds_i64 hb
  clear ha hb
  by_cases h : -9223372036854775808 ≤ a - b ∧ a - b ≤ 9223372036854775807
  · have k1 : subOk a b = true := by simp [subOk, h]
    have k2 : subN a b = a - b := by simp [subN, k1]
    rw [k2, k1]
    obtain ⟨h3, h4⟩ := h
    clear k1 k2
    by_cases hp : 0 < b
    · go_enter Try.func23, Try.ntmps23
      go_wp2
      go_ret2
      exact ⟨rfl, rfl⟩
    · by_cases hq : b < 0
      · go_enter Try.func23, Try.ntmps23
        go_wp2
        go_ret2
        exact ⟨rfl, rfl⟩
      · go_enter Try.func23, Try.ntmps23
        go_wp2
        go_ret2
        exact ⟨rfl, rfl⟩
  · have k1 : subOk a b = false := by simp [subOk]; omega
    have k2 : subN a b = 0 := by simp [subN, k1]
    rw [k2, k1]
    clear k1 k2
    by_cases hp : b < 0
    · have h3 : 9223372036854775807 + b < a := by omega
      go_enter Try.func23, Try.ntmps23
      go_wp2
      go_ret2
      exact ⟨rfl, rfl⟩
    · have hq : 0 < b := by omega
      have h3 : a < -9223372036854775808 + b := by omega
      go_enter Try.func23, Try.ntmps23
      go_wp2
      go_ret2
      exact ⟨rfl, rfl⟩

theorem specSub (a b : Int) (w : World) (ha : (Lit.int .i64 a).wf = true) (hb : (Lit.int .i64 b).wf = true) :
    Calls Try.prog 24 #[.int .i64 a, .int .i64 b] w fun e w' => e = .returned (.tuple #[.int .i64 (subN a b), .bool (subOk a b)]) ∧ w = w' := by
  have h1 := bounds_i64 ha
  have h2 := bounds_i64 hb
  clear ha hb
  by_cases h : -9223372036854775808 ≤ a - b ∧ a - b ≤ 9223372036854775807
  · have k1 : subOk a b = true := by simp [subOk, h]
    have k2 : subN a b = a - b := by simp [subN, k1]
    rw [k2, k1]
    obtain ⟨h3, h4⟩ := h
    clear k1 k2
    by_cases hp : 0 < b
    · go_enter Try.func24, Try.ntmps24
      go_wp2
      go_ret2
      exact ⟨rfl, rfl⟩
    · by_cases hq : b < 0
      · go_enter Try.func24, Try.ntmps24
        go_wp2
        go_ret2
        exact ⟨rfl, rfl⟩
      · go_enter Try.func24, Try.ntmps24
        go_wp2
        go_ret2
        exact ⟨rfl, rfl⟩
  · have k1 : subOk a b = false := by simp [subOk]; omega
    have k2 : subN a b = 0 := by simp [subN, k1]
    rw [k2, k1]
    clear k1 k2
    by_cases hp : b < 0
    · have h3 : 9223372036854775807 + b < a := by omega
      go_enter Try.func24, Try.ntmps24
      go_wp2
      go_ret2
      exact ⟨rfl, rfl⟩
    · have hq : 0 < b := by omega
      have h3 : a < -9223372036854775808 + b := by omega
      go_enter Try.func24, Try.ntmps24
      go_wp2
      go_ret2
      exact ⟨rfl, rfl⟩

end Go.Proofs.Ytnamikhhbedpeaa
