/-
  Calc: some of its cases, in the program.
-/
import Derived.Test.YtnamikhhbedpeaaRows
import Derived.WalkKit
import Derived.WalkLawsBesides
import Derived.WalkSpells
import Derived.Handy
import Derived.Deep.Light
import Derived.Test.YtnamikhhbedpeaaM1
import Derived.Test.YtnamikhhbedpeaaB
import Derived.Test.YtnamikhhbedpeaaWCalcD
namespace Go.Proofs.Ytnamikhhbedpeaa
open Go.RowKit

set_option maxHeartbeats 1000000 in
theorem impl_cmp_an (op n : Int) (s : ByteArray) (k' n' : Int) (s' : ByteArray) (ws : s.size ≤ 9223372036854775807) (ws' : s'.size ≤ 9223372036854775807) (h0 : 3 ≤ op) (h1 : op ≤ 8) (ha : valOk 0 n s = true) (hb : valOk k' n' s' = true) (hk : ¬ k' = 0) (w : World) :
    Calls Try.prog 33 #[.int .i64 op, .agg #[.int .i64 0, .int .i64 n, .string s], .agg #[.int .i64 k', .int .i64 n', .string s']] w fun e w' => e = .returned (.tuple #[.agg #[.int .i64 (clK op 0 n s k' n' s'), .int .i64 (clN op 0 n s k' n' s'), .string (clS op 0 n s k' n' s')], .int .i64 (clE op 0 n s k' n' s')]) ∧ Below w.heap.size w w' := by
  have e1 : clK op 0 n s k' n' s' = 0 := by simp [clK, door, ha, hb, show ¬ op < 1 by omega, show ¬ 14 < op by omega, show ¬ op ≤ 2 by omega, h1]
  have e2 : clN op 0 n s k' n' s' = 0 := by simp [clN, door, ha, hb, show ¬ op < 1 by omega, show ¬ 14 < op by omega, show ¬ op ≤ 2 by omega, h1]
  have e3 : clS op 0 n s k' n' s' = ByteArray.empty := by simp [clS, door, ha, hb, show ¬ op < 1 by omega, show ¬ 14 < op by omega, show ¬ op = 9 by omega]
  have e4 : clE op 0 n s k' n' s' = 0 := by simp [clE, door, ha, hb, show ¬ op < 1 by omega, show ¬ 14 < op by omega, show ¬ op ≤ 2 by omega, h1]
  rw [e1, e2, e3, e4]
  clear e1 e2 e3 e4
  have o1 : decide (op < 1) = false := by simp; omega
  have o2 : decide (14 < op) = false := by simp; omega
  have o3 : decide (op ≤ 2) = false := by simp; omega
  have o4 : decide (op ≤ 8) = true := by simp; omega
  have o5 : decide (op ≤ 14) = true := by simp; omega
  have o6 : decide (1 ≤ op) = true := by simp; omega
  have o7 : (op == 9) = false := by simp; omega
  have o8 : decide (10 ≤ op) = false := by simp; omega
  have o9 : (op == 1) = false := by simp; omega
  have o10 : (op == 2) = false := by simp; omega
  have p9 : (op != 9) = true := by simp; omega
  have g0 : (0 == k') = false := by simp; omega
  have g1 : (0 != k') = true := by simp; omega
  go_enter Try.func33, Try.ntmps33
  go_wp2_with (first | (go_at_call 57; refine (implValueOkX _ _ _ _ (by assumption)).mono ?_; rintro e w1 ⟨rfl, rfl⟩) | go_in)
  all_goals go_returns
  all_goals exact ⟨rfl, by go_grown⟩

set_option maxHeartbeats 1000000 in
theorem impl_cmp_nn (op n : Int) (s : ByteArray) (n' : Int) (s' : ByteArray) (ws : s.size ≤ 9223372036854775807) (ws' : s'.size ≤ 9223372036854775807) (h0 : 3 ≤ op) (h1 : op ≤ 8) (ha : valOk 0 n s = true) (hb : valOk 0 n' s' = true)  (w : World) :
    Calls Try.prog 33 #[.int .i64 op, .agg #[.int .i64 0, .int .i64 n, .string s], .agg #[.int .i64 0, .int .i64 n', .string s']] w fun e w' => e = .returned (.tuple #[.agg #[.int .i64 (clK op 0 n s 0 n' s'), .int .i64 (clN op 0 n s 0 n' s'), .string (clS op 0 n s 0 n' s')], .int .i64 (clE op 0 n s 0 n' s')]) ∧ Below w.heap.size w w' := by
  have e1 : clK op 0 n s 0 n' s' = 0 := by simp [clK, door, ha, hb, show ¬ op < 1 by omega, show ¬ 14 < op by omega, show ¬ op ≤ 2 by omega, h1]
  have e2 : clN op 0 n s 0 n' s' = 0 := by simp [clN, door, ha, hb, show ¬ op < 1 by omega, show ¬ 14 < op by omega, show ¬ op ≤ 2 by omega, h1]
  have e3 : clS op 0 n s 0 n' s' = ByteArray.empty := by simp [clS, door, ha, hb, show ¬ op < 1 by omega, show ¬ 14 < op by omega, show ¬ op = 9 by omega]
  have e4 : clE op 0 n s 0 n' s' = 0 := by simp [clE, door, ha, hb, show ¬ op < 1 by omega, show ¬ 14 < op by omega, show ¬ op ≤ 2 by omega, h1]
  rw [e1, e2, e3, e4]
  clear e1 e2 e3 e4
  have o1 : decide (op < 1) = false := by simp; omega
  have o2 : decide (14 < op) = false := by simp; omega
  have o3 : decide (op ≤ 2) = false := by simp; omega
  have o4 : decide (op ≤ 8) = true := by simp; omega
  have o5 : decide (op ≤ 14) = true := by simp; omega
  have o6 : decide (1 ≤ op) = true := by simp; omega
  have o7 : (op == 9) = false := by simp; omega
  have o8 : decide (10 ≤ op) = false := by simp; omega
  have o9 : (op == 1) = false := by simp; omega
  have o10 : (op == 2) = false := by simp; omega
  have p9 : (op != 9) = true := by simp; omega
  go_enter Try.func33, Try.ntmps33
  go_wp2_with (first | (go_at_call 57; refine (implValueOkX _ _ _ _ (by assumption)).mono ?_; rintro e w1 ⟨rfl, rfl⟩) | go_in)
  all_goals go_returns
  all_goals exact ⟨rfl, by go_grown⟩

set_option maxHeartbeats 1000000 in
theorem impl_cmp_bn (op k n : Int) (s : ByteArray) (n' : Int) (s' : ByteArray) (ws : s.size ≤ 9223372036854775807) (ws' : s'.size ≤ 9223372036854775807) (h0 : 3 ≤ op) (h1 : op ≤ 8) (ha : valOk k n s = true) (hb : valOk 0 n' s' = true) (hk0 : ¬ k = 0) (w : World) :
    Calls Try.prog 33 #[.int .i64 op, .agg #[.int .i64 k, .int .i64 n, .string s], .agg #[.int .i64 0, .int .i64 n', .string s']] w fun e w' => e = .returned (.tuple #[.agg #[.int .i64 (clK op k n s 0 n' s'), .int .i64 (clN op k n s 0 n' s'), .string (clS op k n s 0 n' s')], .int .i64 (clE op k n s 0 n' s')]) ∧ Below w.heap.size w w' := by
  have e1 : clK op k n s 0 n' s' = 0 := by simp [clK, door, ha, hb, show ¬ op < 1 by omega, show ¬ 14 < op by omega, show ¬ op ≤ 2 by omega, h1, hk0]
  have e2 : clN op k n s 0 n' s' = 0 := by simp [clN, door, ha, hb, show ¬ op < 1 by omega, show ¬ 14 < op by omega, show ¬ op ≤ 2 by omega, h1, hk0]
  have e3 : clS op k n s 0 n' s' = ByteArray.empty := by simp [clS, door, ha, hb, show ¬ op < 1 by omega, show ¬ 14 < op by omega, show ¬ op = 9 by omega]
  have e4 : clE op k n s 0 n' s' = 0 := by simp [clE, door, ha, hb, show ¬ op < 1 by omega, show ¬ 14 < op by omega, show ¬ op ≤ 2 by omega, h1, hk0]
  rw [e1, e2, e3, e4]
  clear e1 e2 e3 e4
  have o1 : decide (op < 1) = false := by simp; omega
  have o2 : decide (14 < op) = false := by simp; omega
  have o3 : decide (op ≤ 2) = false := by simp; omega
  have o4 : decide (op ≤ 8) = true := by simp; omega
  have o5 : decide (op ≤ 14) = true := by simp; omega
  have o6 : decide (1 ≤ op) = true := by simp; omega
  have o7 : (op == 9) = false := by simp; omega
  have o8 : decide (10 ≤ op) = false := by simp; omega
  have o9 : (op == 1) = false := by simp; omega
  have o10 : (op == 2) = false := by simp; omega
  have p9 : (op != 9) = true := by simp; omega
  have g0 : (k == 0) = false := by simpa using hk0
  go_enter Try.func33, Try.ntmps33
  go_wp2_with (first | (go_at_call 57; refine (implValueOkX _ _ _ _ (by assumption)).mono ?_; rintro e w1 ⟨rfl, rfl⟩) | go_in)
  all_goals go_returns
  all_goals exact ⟨rfl, by go_grown⟩

set_option maxHeartbeats 1000000 in
theorem impl_cmp_no (op k n : Int) (s : ByteArray) (k' n' : Int) (s' : ByteArray) (ws : s.size ≤ 9223372036854775807) (ws' : s'.size ≤ 9223372036854775807) (h0 : 3 ≤ op) (h1 : op ≤ 8) (ha : valOk k n s = true) (hb : valOk k' n' s' = true) (hk0 : ¬ k = 0) (hk1 : ¬ k' = 0) (hk : ¬ k = k') (w : World) :
    Calls Try.prog 33 #[.int .i64 op, .agg #[.int .i64 k, .int .i64 n, .string s], .agg #[.int .i64 k', .int .i64 n', .string s']] w fun e w' => e = .returned (.tuple #[.agg #[.int .i64 (clK op k n s k' n' s'), .int .i64 (clN op k n s k' n' s'), .string (clS op k n s k' n' s')], .int .i64 (clE op k n s k' n' s')]) ∧ Below w.heap.size w w' := by
  have e1 : clK op k n s k' n' s' = 0 := by simp [clK, door, ha, hb, show ¬ op < 1 by omega, show ¬ 14 < op by omega, show ¬ op ≤ 2 by omega, h1, hk0, hk1, hk]
  have e2 : clN op k n s k' n' s' = 0 := by simp [clN, door, ha, hb, show ¬ op < 1 by omega, show ¬ 14 < op by omega, show ¬ op ≤ 2 by omega, h1, hk0, hk1, hk]
  have e3 : clS op k n s k' n' s' = ByteArray.empty := by simp [clS, door, ha, hb, show ¬ op < 1 by omega, show ¬ 14 < op by omega, show ¬ op = 9 by omega]
  have e4 : clE op k n s k' n' s' = 1 := by simp [clE, door, ha, hb, show ¬ op < 1 by omega, show ¬ 14 < op by omega, show ¬ op ≤ 2 by omega, h1, hk0, hk1, hk]
  rw [e1, e2, e3, e4]
  clear e1 e2 e3 e4
  have o1 : decide (op < 1) = false := by simp; omega
  have o2 : decide (14 < op) = false := by simp; omega
  have o3 : decide (op ≤ 2) = false := by simp; omega
  have o4 : decide (op ≤ 8) = true := by simp; omega
  have o5 : decide (op ≤ 14) = true := by simp; omega
  have o6 : decide (1 ≤ op) = true := by simp; omega
  have o7 : (op == 9) = false := by simp; omega
  have o8 : decide (10 ≤ op) = false := by simp; omega
  have o9 : (op == 1) = false := by simp; omega
  have o10 : (op == 2) = false := by simp; omega
  have p9 : (op != 9) = true := by simp; omega
  have g0 : (k == 0) = false := by simpa using hk0
  have g1 : (k' == 0) = false := by simpa using hk1
  have g2 : (k == k') = false := by simpa using hk
  have g3 : (k != k') = true := by simpa using hk
  go_enter Try.func33, Try.ntmps33
  go_wp2_with (first | (go_at_call 57; refine (implValueOkX _ _ _ _ (by assumption)).mono ?_; rintro e w1 ⟨rfl, rfl⟩) | go_in)
  all_goals go_returns
  all_goals exact ⟨rfl, by go_grown⟩

end Go.Proofs.Ytnamikhhbedpeaa
