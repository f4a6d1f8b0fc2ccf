/-
  Calc: some of its cases, in the program.
-/
import Derived.Test.YtnamikhhbedpeaaRows
import Derived.WalkKit
import Derived.WalkLawsBesides
import Derived.WalkSpells
import Derived.Handy
import Derived.Deep.Light
import Derived.Test.YtnamikhhbedpeaaM1
import Derived.Test.YtnamikhhbedpeaaB
import Derived.Test.YtnamikhhbedpeaaWCalcD
namespace Go.Proofs.Ytnamikhhbedpeaa
open Go.RowKit

set_option maxHeartbeats 1000000 in
theorem impl_ar_oa (op k n : Int) (s : ByteArray) (k' n' : Int) (s' : ByteArray) (ws : s.size ≤ 9223372036854775807) (ws' : s'.size ≤ 9223372036854775807) (h0 : 10 ≤ op) (h1 : op ≤ 14) (ha : valOk k n s = true) (hb : valOk k' n' s' = true) (hk0 : ¬ k = 0) (hk1 : ¬ k = 1) (w : World) :
    Calls Try.prog 33 #[.int .i64 op, .agg #[.int .i64 k, .int .i64 n, .string s], .agg #[.int .i64 k', .int .i64 n', .string s']] w fun e w' => e = .returned (.tuple #[.agg #[.int .i64 (clK op k n s k' n' s'), .int .i64 (clN op k n s k' n' s'), .string (clS op k n s k' n' s')], .int .i64 (clE op k n s k' n' s')]) ∧ Below w.heap.size w w' := by
  have e1 : clK op k n s k' n' s' = 0 := by simp [clK, door, ha, hb, show ¬ op < 1 by omega, show ¬ 14 < op by omega, show ¬ op ≤ 2 by omega, show ¬ op ≤ 8 by omega, show ¬ op = 9 by omega, hk0, hk1]
  have e2 : clN op k n s k' n' s' = 0 := by simp [clN, door, ha, hb, show ¬ op < 1 by omega, show ¬ 14 < op by omega, show ¬ op ≤ 2 by omega, show ¬ op ≤ 8 by omega, show ¬ op = 9 by omega, hk0, hk1]
  have e3 : clS op k n s k' n' s' = ByteArray.empty := by simp [clS, door, ha, hb, show ¬ op < 1 by omega, show ¬ 14 < op by omega, show ¬ op = 9 by omega]
  have e4 : clE op k n s k' n' s' = 1 := by simp [clE, door, ha, hb, show ¬ op < 1 by omega, show ¬ 14 < op by omega, show ¬ op ≤ 2 by omega, show ¬ op ≤ 8 by omega, show ¬ op = 9 by omega, hk0, hk1]
  rw [e1, e2, e3, e4]
  clear e1 e2 e3 e4
  have o1 : decide (op < 1) = false := by simp; omega
  have o2 : decide (14 < op) = false := by simp; omega
  have o3 : decide (op ≤ 2) = false := by simp; omega
  have o4 : decide (op ≤ 8) = false := by simp; omega
  have o5 : decide (op ≤ 14) = true := by simp; omega
  have o6 : decide (1 ≤ op) = true := by simp; omega
  have o7 : (op == 9) = false := by simp; omega
  have o8 : decide (10 ≤ op) = true := by simp; omega
  have p9 : (op != 9) = true := by simp; omega
  have g0 : (k == 0) = false := by simpa using hk0
  have g2 : (k == 1) = false := by simpa using hk1
  go_enter Try.func33, Try.ntmps33
  go_wp2_with (first | (go_at_call 57; refine (implValueOkX _ _ _ _ (by assumption)).mono ?_; rintro e w1 ⟨rfl, rfl⟩) | go_in)
  all_goals go_returns
  all_goals exact ⟨rfl, by go_grown⟩

set_option maxHeartbeats 1000000 in
theorem impl_ar_no (op : Int) (k' n' : Int) (s' : ByteArray) (ws' : s'.size ≤ 9223372036854775807) (h0 : 10 ≤ op) (h1 : op ≤ 14) (hb : valOk k' n' s' = true) (hk0 : ¬ k' = 0) (hk1 : ¬ k' = 1) (w : World) :
    Calls Try.prog 33 #[.int .i64 op, .agg #[.int .i64 0, .int .i64 0, .string ByteArray.empty], .agg #[.int .i64 k', .int .i64 n', .string s']] w fun e w' => e = .returned (.tuple #[.agg #[.int .i64 (clK op 0 0 ByteArray.empty k' n' s'), .int .i64 (clN op 0 0 ByteArray.empty k' n' s'), .string (clS op 0 0 ByteArray.empty k' n' s')], .int .i64 (clE op 0 0 ByteArray.empty k' n' s')]) ∧ Below w.heap.size w w' := by
  have e1 : clK op 0 0 ByteArray.empty k' n' s' = 0 := by simp [clK, door, van, hb, show ¬ op < 1 by omega, show ¬ 14 < op by omega, show ¬ op ≤ 2 by omega, show ¬ op ≤ 8 by omega, show ¬ op = 9 by omega, hk0, hk1]
  have e2 : clN op 0 0 ByteArray.empty k' n' s' = 0 := by simp [clN, door, van, hb, show ¬ op < 1 by omega, show ¬ 14 < op by omega, show ¬ op ≤ 2 by omega, show ¬ op ≤ 8 by omega, show ¬ op = 9 by omega, hk0, hk1]
  have e3 : clS op 0 0 ByteArray.empty k' n' s' = ByteArray.empty := by simp [clS, door, van, hb, show ¬ op < 1 by omega, show ¬ 14 < op by omega, show ¬ op = 9 by omega]
  have e4 : clE op 0 0 ByteArray.empty k' n' s' = 1 := by simp [clE, door, van, hb, show ¬ op < 1 by omega, show ¬ 14 < op by omega, show ¬ op ≤ 2 by omega, show ¬ op ≤ 8 by omega, show ¬ op = 9 by omega, hk0, hk1]
  rw [e1, e2, e3, e4]
  clear e1 e2 e3 e4
  have o1 : decide (op < 1) = false := by simp; omega
  have o2 : decide (14 < op) = false := by simp; omega
  have o3 : decide (op ≤ 2) = false := by simp; omega
  have o4 : decide (op ≤ 8) = false := by simp; omega
  have o5 : decide (op ≤ 14) = true := by simp; omega
  have o6 : decide (1 ≤ op) = true := by simp; omega
  have o7 : (op == 9) = false := by simp; omega
  have o8 : decide (10 ≤ op) = true := by simp; omega
  have p9 : (op != 9) = true := by simp; omega
  have wz := size_zero
  have hq := van
  have g0 : (k' == 0) = false := by simpa using hk0
  have g2 : (k' == 1) = false := by simpa using hk1
  go_enter Try.func33, Try.ntmps33
  go_wp2_with (first | (go_at_call 57; refine (implValueOkX _ _ _ _ (by assumption)).mono ?_; rintro e w1 ⟨rfl, rfl⟩) | go_in)
  all_goals go_returns
  all_goals exact ⟨rfl, by go_grown⟩

set_option maxHeartbeats 1000000 in
theorem impl_ar_nn (op : Int) (h0 : 10 ≤ op) (h1 : op ≤ 14)  (w : World) :
    Calls Try.prog 33 #[.int .i64 op, .agg #[.int .i64 0, .int .i64 0, .string ByteArray.empty], .agg #[.int .i64 0, .int .i64 0, .string ByteArray.empty]] w fun e w' => e = .returned (.tuple #[.agg #[.int .i64 (clK op 0 0 ByteArray.empty 0 0 ByteArray.empty), .int .i64 (clN op 0 0 ByteArray.empty 0 0 ByteArray.empty), .string (clS op 0 0 ByteArray.empty 0 0 ByteArray.empty)], .int .i64 (clE op 0 0 ByteArray.empty 0 0 ByteArray.empty)]) ∧ Below w.heap.size w w' := by
  have e1 : clK op 0 0 ByteArray.empty 0 0 ByteArray.empty = 0 := by simp [clK, door, van, van, show ¬ op < 1 by omega, show ¬ 14 < op by omega, show ¬ op ≤ 2 by omega, show ¬ op ≤ 8 by omega, show ¬ op = 9 by omega]
  have e2 : clN op 0 0 ByteArray.empty 0 0 ByteArray.empty = 0 := by simp [clN, door, van, van, show ¬ op < 1 by omega, show ¬ 14 < op by omega, show ¬ op ≤ 2 by omega, show ¬ op ≤ 8 by omega, show ¬ op = 9 by omega]
  have e3 : clS op 0 0 ByteArray.empty 0 0 ByteArray.empty = ByteArray.empty := by simp [clS, door, van, van, show ¬ op < 1 by omega, show ¬ 14 < op by omega, show ¬ op = 9 by omega]
  have e4 : clE op 0 0 ByteArray.empty 0 0 ByteArray.empty = 0 := by simp [clE, door, van, van, show ¬ op < 1 by omega, show ¬ 14 < op by omega, show ¬ op ≤ 2 by omega, show ¬ op ≤ 8 by omega, show ¬ op = 9 by omega]
  rw [e1, e2, e3, e4]
  clear e1 e2 e3 e4
  have o1 : decide (op < 1) = false := by simp; omega
  have o2 : decide (14 < op) = false := by simp; omega
  have o3 : decide (op ≤ 2) = false := by simp; omega
  have o4 : decide (op ≤ 8) = false := by simp; omega
  have o5 : decide (op ≤ 14) = true := by simp; omega
  have o6 : decide (1 ≤ op) = true := by simp; omega
  have o7 : (op == 9) = false := by simp; omega
  have o8 : decide (10 ≤ op) = true := by simp; omega
  have p9 : (op != 9) = true := by simp; omega
  have wz := size_zero
  have hq := van
  go_enter Try.func33, Try.ntmps33
  go_wp2_with (first | (go_at_call 57; refine (implValueOkX _ _ _ _ (by assumption)).mono ?_; rintro e w1 ⟨rfl, rfl⟩) | go_in)
  all_goals go_returns
  all_goals exact ⟨rfl, by go_grown⟩

set_option maxHeartbeats 1000000 in
theorem impl_ar_ni (op : Int) (n' : Int) (h0 : 10 ≤ op) (h1 : op ≤ 14)  (w : World) :
    Calls Try.prog 33 #[.int .i64 op, .agg #[.int .i64 0, .int .i64 0, .string ByteArray.empty], .agg #[.int .i64 1, .int .i64 n', .string ByteArray.empty]] w fun e w' => e = .returned (.tuple #[.agg #[.int .i64 (clK op 0 0 ByteArray.empty 1 n' ByteArray.empty), .int .i64 (clN op 0 0 ByteArray.empty 1 n' ByteArray.empty), .string (clS op 0 0 ByteArray.empty 1 n' ByteArray.empty)], .int .i64 (clE op 0 0 ByteArray.empty 1 n' ByteArray.empty)]) ∧ Below w.heap.size w w' := by
  have e1 : clK op 0 0 ByteArray.empty 1 n' ByteArray.empty = 0 := by simp [clK, door, van, vai n', show ¬ op < 1 by omega, show ¬ 14 < op by omega, show ¬ op ≤ 2 by omega, show ¬ op ≤ 8 by omega, show ¬ op = 9 by omega]
  have e2 : clN op 0 0 ByteArray.empty 1 n' ByteArray.empty = 0 := by simp [clN, door, van, vai n', show ¬ op < 1 by omega, show ¬ 14 < op by omega, show ¬ op ≤ 2 by omega, show ¬ op ≤ 8 by omega, show ¬ op = 9 by omega]
  have e3 : clS op 0 0 ByteArray.empty 1 n' ByteArray.empty = ByteArray.empty := by simp [clS, door, van, vai n', show ¬ op < 1 by omega, show ¬ 14 < op by omega, show ¬ op = 9 by omega]
  have e4 : clE op 0 0 ByteArray.empty 1 n' ByteArray.empty = 0 := by simp [clE, door, van, vai n', show ¬ op < 1 by omega, show ¬ 14 < op by omega, show ¬ op ≤ 2 by omega, show ¬ op ≤ 8 by omega, show ¬ op = 9 by omega]
  rw [e1, e2, e3, e4]
  clear e1 e2 e3 e4
  have o1 : decide (op < 1) = false := by simp; omega
  have o2 : decide (14 < op) = false := by simp; omega
  have o3 : decide (op ≤ 2) = false := by simp; omega
  have o4 : decide (op ≤ 8) = false := by simp; omega
  have o5 : decide (op ≤ 14) = true := by simp; omega
  have o6 : decide (1 ≤ op) = true := by simp; omega
  have o7 : (op == 9) = false := by simp; omega
  have o8 : decide (10 ≤ op) = true := by simp; omega
  have p9 : (op != 9) = true := by simp; omega
  have wz := size_zero
  have hq := van
  have hq' := vai n'
  go_enter Try.func33, Try.ntmps33
  go_wp2_with (first | (go_at_call 57; refine (implValueOkX _ _ _ _ (by assumption)).mono ?_; rintro e w1 ⟨rfl, rfl⟩) | go_in)
  all_goals go_returns
  all_goals exact ⟨rfl, by go_grown⟩

set_option maxHeartbeats 1000000 in
theorem impl_ar_io (op : Int) (n : Int) (k' n' : Int) (s' : ByteArray) (ws' : s'.size ≤ 9223372036854775807) (h0 : 10 ≤ op) (h1 : op ≤ 14) (hb : valOk k' n' s' = true) (hk0 : ¬ k' = 0) (hk1 : ¬ k' = 1) (w : World) :
    Calls Try.prog 33 #[.int .i64 op, .agg #[.int .i64 1, .int .i64 n, .string ByteArray.empty], .agg #[.int .i64 k', .int .i64 n', .string s']] w fun e w' => e = .returned (.tuple #[.agg #[.int .i64 (clK op 1 n ByteArray.empty k' n' s'), .int .i64 (clN op 1 n ByteArray.empty k' n' s'), .string (clS op 1 n ByteArray.empty k' n' s')], .int .i64 (clE op 1 n ByteArray.empty k' n' s')]) ∧ Below w.heap.size w w' := by
  have e1 : clK op 1 n ByteArray.empty k' n' s' = 0 := by simp [clK, door, vai n, hb, show ¬ op < 1 by omega, show ¬ 14 < op by omega, show ¬ op ≤ 2 by omega, show ¬ op ≤ 8 by omega, show ¬ op = 9 by omega, hk0, hk1]
  have e2 : clN op 1 n ByteArray.empty k' n' s' = 0 := by simp [clN, door, vai n, hb, show ¬ op < 1 by omega, show ¬ 14 < op by omega, show ¬ op ≤ 2 by omega, show ¬ op ≤ 8 by omega, show ¬ op = 9 by omega, hk0, hk1]
  have e3 : clS op 1 n ByteArray.empty k' n' s' = ByteArray.empty := by simp [clS, door, vai n, hb, show ¬ op < 1 by omega, show ¬ 14 < op by omega, show ¬ op = 9 by omega]
  have e4 : clE op 1 n ByteArray.empty k' n' s' = 1 := by simp [clE, door, vai n, hb, show ¬ op < 1 by omega, show ¬ 14 < op by omega, show ¬ op ≤ 2 by omega, show ¬ op ≤ 8 by omega, show ¬ op = 9 by omega, hk0, hk1]
  rw [e1, e2, e3, e4]
  clear e1 e2 e3 e4
  have o1 : decide (op < 1) = false := by simp; omega
  have o2 : decide (14 < op) = false := by simp; omega
  have o3 : decide (op ≤ 2) = false := by simp; omega
  have o4 : decide (op ≤ 8) = false := by simp; omega
  have o5 : decide (op ≤ 14) = true := by simp; omega
  have o6 : decide (1 ≤ op) = true := by simp; omega
  have o7 : (op == 9) = false := by simp; omega
  have o8 : decide (10 ≤ op) = true := by simp; omega
  have p9 : (op != 9) = true := by simp; omega
  have wz := size_zero
  have hq := vai n
  have g0 : (k' == 0) = false := by simpa using hk0
  have g2 : (k' == 1) = false := by simpa using hk1
  go_enter Try.func33, Try.ntmps33
  go_wp2_with (first | (go_at_call 57; refine (implValueOkX _ _ _ _ (by assumption)).mono ?_; rintro e w1 ⟨rfl, rfl⟩) | go_in)
  all_goals go_returns
  all_goals exact ⟨rfl, by go_grown⟩

set_option maxHeartbeats 1000000 in
theorem impl_ar_in (op : Int) (n : Int) (h0 : 10 ≤ op) (h1 : op ≤ 14)  (w : World) :
    Calls Try.prog 33 #[.int .i64 op, .agg #[.int .i64 1, .int .i64 n, .string ByteArray.empty], .agg #[.int .i64 0, .int .i64 0, .string ByteArray.empty]] w fun e w' => e = .returned (.tuple #[.agg #[.int .i64 (clK op 1 n ByteArray.empty 0 0 ByteArray.empty), .int .i64 (clN op 1 n ByteArray.empty 0 0 ByteArray.empty), .string (clS op 1 n ByteArray.empty 0 0 ByteArray.empty)], .int .i64 (clE op 1 n ByteArray.empty 0 0 ByteArray.empty)]) ∧ Below w.heap.size w w' := by
  have e1 : clK op 1 n ByteArray.empty 0 0 ByteArray.empty = 0 := by simp [clK, door, vai n, van, show ¬ op < 1 by omega, show ¬ 14 < op by omega, show ¬ op ≤ 2 by omega, show ¬ op ≤ 8 by omega, show ¬ op = 9 by omega]
  have e2 : clN op 1 n ByteArray.empty 0 0 ByteArray.empty = 0 := by simp [clN, door, vai n, van, show ¬ op < 1 by omega, show ¬ 14 < op by omega, show ¬ op ≤ 2 by omega, show ¬ op ≤ 8 by omega, show ¬ op = 9 by omega]
  have e3 : clS op 1 n ByteArray.empty 0 0 ByteArray.empty = ByteArray.empty := by simp [clS, door, vai n, van, show ¬ op < 1 by omega, show ¬ 14 < op by omega, show ¬ op = 9 by omega]
  have e4 : clE op 1 n ByteArray.empty 0 0 ByteArray.empty = 0 := by simp [clE, door, vai n, van, show ¬ op < 1 by omega, show ¬ 14 < op by omega, show ¬ op ≤ 2 by omega, show ¬ op ≤ 8 by omega, show ¬ op = 9 by omega]
  rw [e1, e2, e3, e4]
  clear e1 e2 e3 e4
  have o1 : decide (op < 1) = false := by simp; omega
  have o2 : decide (14 < op) = false := by simp; omega
  have o3 : decide (op ≤ 2) = false := by simp; omega
  have o4 : decide (op ≤ 8) = false := by simp; omega
  have o5 : decide (op ≤ 14) = true := by simp; omega
  have o6 : decide (1 ≤ op) = true := by simp; omega
  have o7 : (op == 9) = false := by simp; omega
  have o8 : decide (10 ≤ op) = true := by simp; omega
  have p9 : (op != 9) = true := by simp; omega
  have wz := size_zero
  have hq := vai n
  have hq' := van
  go_enter Try.func33, Try.ntmps33
  go_wp2_with (first | (go_at_call 57; refine (implValueOkX _ _ _ _ (by assumption)).mono ?_; rintro e w1 ⟨rfl, rfl⟩) | go_in)
  all_goals go_returns
  all_goals exact ⟨rfl, by go_grown⟩

end Go.Proofs.Ytnamikhhbedpeaa
