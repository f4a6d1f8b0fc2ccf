/-
  Calc: some of its cases, in the reference.
-/
import Derived.Test.YtnamikhhbedpeaaRows
import Derived.WalkKit
import Derived.WalkLawsBesides
import Derived.WalkSpells
import Derived.Handy
import Derived.Deep.Light
import Derived.Test.YtnamikhhbedpeaaM1
import Derived.Test.YtnamikhhbedpeaaB
import Derived.Test.YtnamikhhbedpeaaWCalcD
namespace Go.Proofs.Ytnamikhhbedpeaa
open Go.RowKit

set_option maxHeartbeats 1000000 in
theorem spec_AddNum_true (n n' : Int) (wn : (Lit.int .i64 n).wf = true) (wn' : (Lit.int .i64 n').wf = true) (hok : addOk n n' = true) (w : World) :
    Calls Try.prog 45 #[.int .i64 10, .agg #[.int .i64 1, .int .i64 n, .string ByteArray.empty], .agg #[.int .i64 1, .int .i64 n', .string ByteArray.empty]] w fun e w' => e = .returned (.tuple #[.agg #[.int .i64 (clK 10 1 n ByteArray.empty 1 n' ByteArray.empty), .int .i64 (clN 10 1 n ByteArray.empty 1 n' ByteArray.empty), .string (clS 10 1 n ByteArray.empty 1 n' ByteArray.empty)], .int .i64 (clE 10 1 n ByteArray.empty 1 n' ByteArray.empty)]) ∧ Below w.heap.size w w' := by
  have e1 : clK 10 1 n ByteArray.empty 1 n' ByteArray.empty = 1 := by simp [clK, door, vai n, vai n', arK, hok]
  have e2 : clN 10 1 n ByteArray.empty 1 n' ByteArray.empty = (addN n n') := by simp [clN, door, vai n, vai n', arN]
  have e3 : clS 10 1 n ByteArray.empty 1 n' ByteArray.empty = ByteArray.empty := by simp [clS, door, vai n, vai n']
  have e4 : clE 10 1 n ByteArray.empty 1 n' ByteArray.empty = 0 := by simp [clE, door, vai n, vai n', arE, hok]
  rw [e1, e2, e3, e4]
  clear e1 e2 e3 e4
  have wz := size_zero
  have hq := vai n
  have hq' := vai n'
  go_enter Try.func45, Try.ntmps45
  go_wp2_with (first | (go_at_call 70; refine (specValueOkX _ _ _ _ (by assumption)).mono ?_; rintro e w1 ⟨rfl, rfl⟩) | (go_at_call 22; refine (specAdd n n' _ wn wn').mono ?_; rintro e w1 ⟨rfl, rfl⟩) | go_in)
  all_goals go_returns
  all_goals exact ⟨rfl, by go_grown⟩

set_option maxHeartbeats 1000000 in
theorem spec_AddNum_false (n n' : Int) (wn : (Lit.int .i64 n).wf = true) (wn' : (Lit.int .i64 n').wf = true) (hok : addOk n n' = false) (w : World) :
    Calls Try.prog 45 #[.int .i64 10, .agg #[.int .i64 1, .int .i64 n, .string ByteArray.empty], .agg #[.int .i64 1, .int .i64 n', .string ByteArray.empty]] w fun e w' => e = .returned (.tuple #[.agg #[.int .i64 (clK 10 1 n ByteArray.empty 1 n' ByteArray.empty), .int .i64 (clN 10 1 n ByteArray.empty 1 n' ByteArray.empty), .string (clS 10 1 n ByteArray.empty 1 n' ByteArray.empty)], .int .i64 (clE 10 1 n ByteArray.empty 1 n' ByteArray.empty)]) ∧ Below w.heap.size w w' := by
  have e1 : clK 10 1 n ByteArray.empty 1 n' ByteArray.empty = 0 := by simp [clK, door, vai n, vai n', arK, hok]
  have e2 : clN 10 1 n ByteArray.empty 1 n' ByteArray.empty = 0 := by simp [clN, door, vai n, vai n', arN, add_no hok]
  have e3 : clS 10 1 n ByteArray.empty 1 n' ByteArray.empty = ByteArray.empty := by simp [clS, door, vai n, vai n']
  have e4 : clE 10 1 n ByteArray.empty 1 n' ByteArray.empty = 2 := by simp [clE, door, vai n, vai n', arE, hok]
  rw [e1, e2, e3, e4]
  clear e1 e2 e3 e4
  have wz := size_zero
  have hq := vai n
  have hq' := vai n'
  have hn := add_no hok
  go_enter Try.func45, Try.ntmps45
  go_wp2_with (first | (go_at_call 70; refine (specValueOkX _ _ _ _ (by assumption)).mono ?_; rintro e w1 ⟨rfl, rfl⟩) | (go_at_call 22; refine (specAdd n n' _ wn wn').mono ?_; rintro e w1 ⟨rfl, rfl⟩) | go_in)
  all_goals go_returns
  all_goals exact ⟨rfl, by go_grown⟩

set_option maxHeartbeats 1000000 in
theorem spec_SubNum_true (n n' : Int) (wn : (Lit.int .i64 n).wf = true) (wn' : (Lit.int .i64 n').wf = true) (hok : subOk n n' = true) (w : World) :
    Calls Try.prog 45 #[.int .i64 11, .agg #[.int .i64 1, .int .i64 n, .string ByteArray.empty], .agg #[.int .i64 1, .int .i64 n', .string ByteArray.empty]] w fun e w' => e = .returned (.tuple #[.agg #[.int .i64 (clK 11 1 n ByteArray.empty 1 n' ByteArray.empty), .int .i64 (clN 11 1 n ByteArray.empty 1 n' ByteArray.empty), .string (clS 11 1 n ByteArray.empty 1 n' ByteArray.empty)], .int .i64 (clE 11 1 n ByteArray.empty 1 n' ByteArray.empty)]) ∧ Below w.heap.size w w' := by
  have e1 : clK 11 1 n ByteArray.empty 1 n' ByteArray.empty = 1 := by simp [clK, door, vai n, vai n', arK, hok]
  have e2 : clN 11 1 n ByteArray.empty 1 n' ByteArray.empty = (subN n n') := by simp [clN, door, vai n, vai n', arN]
  have e3 : clS 11 1 n ByteArray.empty 1 n' ByteArray.empty = ByteArray.empty := by simp [clS, door, vai n, vai n']
  have e4 : clE 11 1 n ByteArray.empty 1 n' ByteArray.empty = 0 := by simp [clE, door, vai n, vai n', arE, hok]
  rw [e1, e2, e3, e4]
  clear e1 e2 e3 e4
  have wz := size_zero
  have hq := vai n
  have hq' := vai n'
  go_enter Try.func45, Try.ntmps45
  go_wp2_with (first | (go_at_call 70; refine (specValueOkX _ _ _ _ (by assumption)).mono ?_; rintro e w1 ⟨rfl, rfl⟩) | (go_at_call 24; refine (specSub n n' _ wn wn').mono ?_; rintro e w1 ⟨rfl, rfl⟩) | go_in)
  all_goals go_returns
  all_goals exact ⟨rfl, by go_grown⟩

set_option maxHeartbeats 1000000 in
theorem spec_SubNum_false (n n' : Int) (wn : (Lit.int .i64 n).wf = true) (wn' : (Lit.int .i64 n').wf = true) (hok : subOk n n' = false) (w : World) :
    Calls Try.prog 45 #[.int .i64 11, .agg #[.int .i64 1, .int .i64 n, .string ByteArray.empty], .agg #[.int .i64 1, .int .i64 n', .string ByteArray.empty]] w fun e w' => e = .returned (.tuple #[.agg #[.int .i64 (clK 11 1 n ByteArray.empty 1 n' ByteArray.empty), .int .i64 (clN 11 1 n ByteArray.empty 1 n' ByteArray.empty), .string (clS 11 1 n ByteArray.empty 1 n' ByteArray.empty)], .int .i64 (clE 11 1 n ByteArray.empty 1 n' ByteArray.empty)]) ∧ Below w.heap.size w w' := by
  have e1 : clK 11 1 n ByteArray.empty 1 n' ByteArray.empty = 0 := by simp [clK, door, vai n, vai n', arK, hok]
  have e2 : clN 11 1 n ByteArray.empty 1 n' ByteArray.empty = 0 := by simp [clN, door, vai n, vai n', arN, sub_no hok]
  have e3 : clS 11 1 n ByteArray.empty 1 n' ByteArray.empty = ByteArray.empty := by simp [clS, door, vai n, vai n']
  have e4 : clE 11 1 n ByteArray.empty 1 n' ByteArray.empty = 2 := by simp [clE, door, vai n, vai n', arE, hok]
  rw [e1, e2, e3, e4]
  clear e1 e2 e3 e4
  have wz := size_zero
  have hq := vai n
  have hq' := vai n'
  have hn := sub_no hok
  go_enter Try.func45, Try.ntmps45
  go_wp2_with (first | (go_at_call 70; refine (specValueOkX _ _ _ _ (by assumption)).mono ?_; rintro e w1 ⟨rfl, rfl⟩) | (go_at_call 24; refine (specSub n n' _ wn wn').mono ?_; rintro e w1 ⟨rfl, rfl⟩) | go_in)
  all_goals go_returns
  all_goals exact ⟨rfl, by go_grown⟩

set_option maxHeartbeats 1000000 in
theorem spec_MulNum_true (n n' : Int) (wn : (Lit.int .i64 n).wf = true) (wn' : (Lit.int .i64 n').wf = true) (hok : mulOk n n' = true) (w : World) :
    Calls Try.prog 45 #[.int .i64 12, .agg #[.int .i64 1, .int .i64 n, .string ByteArray.empty], .agg #[.int .i64 1, .int .i64 n', .string ByteArray.empty]] w fun e w' => e = .returned (.tuple #[.agg #[.int .i64 (clK 12 1 n ByteArray.empty 1 n' ByteArray.empty), .int .i64 (clN 12 1 n ByteArray.empty 1 n' ByteArray.empty), .string (clS 12 1 n ByteArray.empty 1 n' ByteArray.empty)], .int .i64 (clE 12 1 n ByteArray.empty 1 n' ByteArray.empty)]) ∧ Below w.heap.size w w' := by
  have e1 : clK 12 1 n ByteArray.empty 1 n' ByteArray.empty = 1 := by simp [clK, door, vai n, vai n', arK, hok]
  have e2 : clN 12 1 n ByteArray.empty 1 n' ByteArray.empty = (mulN n n') := by simp [clN, door, vai n, vai n', arN]
  have e3 : clS 12 1 n ByteArray.empty 1 n' ByteArray.empty = ByteArray.empty := by simp [clS, door, vai n, vai n']
  have e4 : clE 12 1 n ByteArray.empty 1 n' ByteArray.empty = 0 := by simp [clE, door, vai n, vai n', arE, hok]
  rw [e1, e2, e3, e4]
  clear e1 e2 e3 e4
  have wz := size_zero
  have hq := vai n
  have hq' := vai n'
  go_enter Try.func45, Try.ntmps45
  go_wp2_with (first | (go_at_call 70; refine (specValueOkX _ _ _ _ (by assumption)).mono ?_; rintro e w1 ⟨rfl, rfl⟩) | (go_at_call 38; refine (specMulNum n n' _ wn wn').mono ?_; rintro e w1 ⟨rfl, rfl⟩) | go_in)
  all_goals go_returns
  all_goals exact ⟨rfl, by go_grown⟩

set_option maxHeartbeats 1000000 in
theorem spec_MulNum_false (n n' : Int) (wn : (Lit.int .i64 n).wf = true) (wn' : (Lit.int .i64 n').wf = true) (hok : mulOk n n' = false) (w : World) :
    Calls Try.prog 45 #[.int .i64 12, .agg #[.int .i64 1, .int .i64 n, .string ByteArray.empty], .agg #[.int .i64 1, .int .i64 n', .string ByteArray.empty]] w fun e w' => e = .returned (.tuple #[.agg #[.int .i64 (clK 12 1 n ByteArray.empty 1 n' ByteArray.empty), .int .i64 (clN 12 1 n ByteArray.empty 1 n' ByteArray.empty), .string (clS 12 1 n ByteArray.empty 1 n' ByteArray.empty)], .int .i64 (clE 12 1 n ByteArray.empty 1 n' ByteArray.empty)]) ∧ Below w.heap.size w w' := by
  have e1 : clK 12 1 n ByteArray.empty 1 n' ByteArray.empty = 0 := by simp [clK, door, vai n, vai n', arK, hok]
  have e2 : clN 12 1 n ByteArray.empty 1 n' ByteArray.empty = 0 := by simp [clN, door, vai n, vai n', arN, mul_no hok]
  have e3 : clS 12 1 n ByteArray.empty 1 n' ByteArray.empty = ByteArray.empty := by simp [clS, door, vai n, vai n']
  have e4 : clE 12 1 n ByteArray.empty 1 n' ByteArray.empty = 2 := by simp [clE, door, vai n, vai n', arE, hok]
  rw [e1, e2, e3, e4]
  clear e1 e2 e3 e4
  have wz := size_zero
  have hq := vai n
  have hq' := vai n'
  have hn := mul_no hok
  go_enter Try.func45, Try.ntmps45
  go_wp2_with (first | (go_at_call 70; refine (specValueOkX _ _ _ _ (by assumption)).mono ?_; rintro e w1 ⟨rfl, rfl⟩) | (go_at_call 38; refine (specMulNum n n' _ wn wn').mono ?_; rintro e w1 ⟨rfl, rfl⟩) | go_in)
  all_goals go_returns
  all_goals exact ⟨rfl, by go_grown⟩

end Go.Proofs.Ytnamikhhbedpeaa
