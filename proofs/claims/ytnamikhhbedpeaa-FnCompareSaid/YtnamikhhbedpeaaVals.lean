/-
  IntValue and BoolValue, in the program and in the reference; Calc of two whole numbers.
-/
import Derived.Test.YtnamikhhbedpeaaWCalcST
import Derived.Test.YtnamikhhbedpeaaWCalcIT
namespace Go.Proofs.Ytnamikhhbedpeaa
open Go.RowKit

theorem implIntValue (a : Int) (w : World) :
    Calls Try.prog 39 #[.int .i64 a] w fun e w' => e = .returned (.agg #[.int .i64 1, .int .i64 a, .string ByteArray.empty]) ∧ Below w.heap.size w w' := by
  go_enter Try.func39, Try.ntmps39
  go_wp2
  go_returns
  exact ⟨rfl, by go_grown⟩

theorem specIntValue (a : Int) (w : World) :
    Calls Try.prog 40 #[.int .i64 a] w fun e w' => e = .returned (.agg #[.int .i64 1, .int .i64 a, .string ByteArray.empty]) ∧ Below w.heap.size w w' := by
  go_enter Try.func40, Try.ntmps40
  go_wp2
  go_returns
  exact ⟨rfl, by go_grown⟩

theorem clE_ar (op a b : Int) (h : op = 13 ∨ op = 14) : clE op 1 a ByteArray.empty 1 b ByteArray.empty = arE op a b := by
  rcases h with rfl | rfl <;> simp [clE, door, vai]
theorem clK_ar (op a b : Int) (h : op = 13 ∨ op = 14) : clK op 1 a ByteArray.empty 1 b ByteArray.empty = arK op a b := by
  rcases h with rfl | rfl <;> simp [clK, door, vai]
theorem clN_ar (op a b : Int) (h : op = 13 ∨ op = 14) : clN op 1 a ByteArray.empty 1 b ByteArray.empty = arN op a b := by
  rcases h with rfl | rfl <;> simp [clN, door, vai]
theorem clS_ar (op a b : Int) (h : op = 13 ∨ op = 14) : clS op 1 a ByteArray.empty 1 b ByteArray.empty = ByteArray.empty := by
  rcases h with rfl | rfl <;> simp [clS, door, vai]

theorem implCalcAr (op a b : Int) (w : World) (h : op = 13 ∨ op = 14) (ha : (Lit.int .i64 a).wf = true) (hb : (Lit.int .i64 b).wf = true) :
    Calls Try.prog 33 #[.int .i64 op, .agg #[.int .i64 1, .int .i64 a, .string ByteArray.empty], .agg #[.int .i64 1, .int .i64 b, .string ByteArray.empty]] w fun e w' => e = .returned (.tuple #[.agg #[.int .i64 (arK op a b), .int .i64 (arN op a b), .string ByteArray.empty], .int .i64 (arE op a b)]) ∧ Below w.heap.size w w' := by
  have h1 := implCalc op 1 a ByteArray.empty 1 b ByteArray.empty w size_zero size_zero ha hb
  rw [clE_ar op a b h, clK_ar op a b h, clN_ar op a b h, clS_ar op a b h] at h1
  exact h1

theorem specCalcAr (op a b : Int) (w : World) (h : op = 13 ∨ op = 14) (ha : (Lit.int .i64 a).wf = true) (hb : (Lit.int .i64 b).wf = true) :
    Calls Try.prog 45 #[.int .i64 op, .agg #[.int .i64 1, .int .i64 a, .string ByteArray.empty], .agg #[.int .i64 1, .int .i64 b, .string ByteArray.empty]] w fun e w' => e = .returned (.tuple #[.agg #[.int .i64 (arK op a b), .int .i64 (arN op a b), .string ByteArray.empty], .int .i64 (arE op a b)]) ∧ Below w.heap.size w w' := by
  have h1 := specCalc op 1 a ByteArray.empty 1 b ByteArray.empty w size_zero size_zero ha hb
  rw [clE_ar op a b h, clK_ar op a b h, clN_ar op a b h, clS_ar op a b h] at h1
  exact h1
end Go.Proofs.Ytnamikhhbedpeaa
