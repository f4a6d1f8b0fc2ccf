/-
  Calc: some of its cases, in the program.
-/
import Derived.Test.YtnamikhhbedpeaaRows
import Derived.WalkKit
import Derived.WalkLawsBesides
import Derived.WalkSpells
import Derived.Handy
import Derived.Deep.Light
import Derived.Test.YtnamikhhbedpeaaM1
import Derived.Test.YtnamikhhbedpeaaB
import Derived.Test.YtnamikhhbedpeaaWCalcD
namespace Go.Proofs.Ytnamikhhbedpeaa
open Go.RowKit

set_option maxHeartbeats 1000000 in
theorem impl_lo (op k n : Int) (s : ByteArray) (k' n' : Int) (s' : ByteArray) (_ws : s.size ≤ 9223372036854775807) (_ws' : s'.size ≤ 9223372036854775807) (h : op < 1) (w : World) :
    Calls Try.prog 33 #[.int .i64 op, .agg #[.int .i64 k, .int .i64 n, .string s], .agg #[.int .i64 k', .int .i64 n', .string s']] w fun e w' => e = .returned (.tuple #[.agg #[.int .i64 (clK op k n s k' n' s'), .int .i64 (clN op k n s k' n' s'), .string (clS op k n s k' n' s')], .int .i64 (clE op k n s k' n' s')]) ∧ Below w.heap.size w w' := by
  have e1 : clK op k n s k' n' s' = 0 := by simp [clK, door, h]
  have e2 : clN op k n s k' n' s' = 0 := by simp [clN, door, h]
  have e3 : clS op k n s k' n' s' = ByteArray.empty := by simp [clS, door, h]
  have e4 : clE op k n s k' n' s' = 1 := by simp [clE, door, h]
  rw [e1, e2, e3, e4]
  clear e1 e2 e3 e4
  go_enter Try.func33, Try.ntmps33
  go_wp2_with (first | (go_at_call 57; refine (implValueOkX _ _ _ _ (by assumption)).mono ?_; rintro e w1 ⟨rfl, rfl⟩) | go_in)
  all_goals go_returns
  all_goals exact ⟨rfl, by go_grown⟩

set_option maxHeartbeats 1000000 in
theorem impl_hi (op k n : Int) (s : ByteArray) (k' n' : Int) (s' : ByteArray) (_ws : s.size ≤ 9223372036854775807) (_ws' : s'.size ≤ 9223372036854775807) (h : 14 < op) (w : World) :
    Calls Try.prog 33 #[.int .i64 op, .agg #[.int .i64 k, .int .i64 n, .string s], .agg #[.int .i64 k', .int .i64 n', .string s']] w fun e w' => e = .returned (.tuple #[.agg #[.int .i64 (clK op k n s k' n' s'), .int .i64 (clN op k n s k' n' s'), .string (clS op k n s k' n' s')], .int .i64 (clE op k n s k' n' s')]) ∧ Below w.heap.size w w' := by
  have e1 : clK op k n s k' n' s' = 0 := by simp [clK, door, h]
  have e2 : clN op k n s k' n' s' = 0 := by simp [clN, door, h]
  have e3 : clS op k n s k' n' s' = ByteArray.empty := by simp [clS, door, h]
  have e4 : clE op k n s k' n' s' = 1 := by simp [clE, door, h]
  rw [e1, e2, e3, e4]
  clear e1 e2 e3 e4
  have h0 : (1 : Int) ≤ op := by omega
  have h1 : decide (op ≤ 14) = false := by simpa using h
  go_enter Try.func33, Try.ntmps33
  go_wp2_with (first | (go_at_call 57; refine (implValueOkX _ _ _ _ (by assumption)).mono ?_; rintro e w1 ⟨rfl, rfl⟩) | go_in)
  all_goals go_returns
  all_goals exact ⟨rfl, by go_grown⟩

set_option maxHeartbeats 1000000 in
theorem impl_badA (op k n : Int) (s : ByteArray) (k' n' : Int) (s' : ByteArray) (ws : s.size ≤ 9223372036854775807) (_ws' : s'.size ≤ 9223372036854775807) (h0 : 1 ≤ op) (h1 : op ≤ 14) (h : valOk k n s = false) (w : World) :
    Calls Try.prog 33 #[.int .i64 op, .agg #[.int .i64 k, .int .i64 n, .string s], .agg #[.int .i64 k', .int .i64 n', .string s']] w fun e w' => e = .returned (.tuple #[.agg #[.int .i64 (clK op k n s k' n' s'), .int .i64 (clN op k n s k' n' s'), .string (clS op k n s k' n' s')], .int .i64 (clE op k n s k' n' s')]) ∧ Below w.heap.size w w' := by
  have e1 : clK op k n s k' n' s' = 0 := by simp [clK, door, h]
  have e2 : clN op k n s k' n' s' = 0 := by simp [clN, door, h]
  have e3 : clS op k n s k' n' s' = ByteArray.empty := by simp [clS, door, h]
  have e4 : clE op k n s k' n' s' = 1 := by simp [clE, door, h]
  rw [e1, e2, e3, e4]
  clear e1 e2 e3 e4
  have h2 : decide (op ≤ 14) = true := by simpa using h1
  go_enter Try.func33, Try.ntmps33
  go_wp2_with (first | (go_at_call 57; refine (implValueOkX _ _ _ _ (by assumption)).mono ?_; rintro e w1 ⟨rfl, rfl⟩) | go_in)
  all_goals go_returns
  all_goals exact ⟨rfl, by go_grown⟩

set_option maxHeartbeats 1000000 in
theorem impl_badB (op k n : Int) (s : ByteArray) (k' n' : Int) (s' : ByteArray) (ws : s.size ≤ 9223372036854775807) (ws' : s'.size ≤ 9223372036854775807) (h0 : 1 ≤ op) (h1 : op ≤ 14) (ha : valOk k n s = true) (h : valOk k' n' s' = false) (w : World) :
    Calls Try.prog 33 #[.int .i64 op, .agg #[.int .i64 k, .int .i64 n, .string s], .agg #[.int .i64 k', .int .i64 n', .string s']] w fun e w' => e = .returned (.tuple #[.agg #[.int .i64 (clK op k n s k' n' s'), .int .i64 (clN op k n s k' n' s'), .string (clS op k n s k' n' s')], .int .i64 (clE op k n s k' n' s')]) ∧ Below w.heap.size w w' := by
  have e1 : clK op k n s k' n' s' = 0 := by simp [clK, door, h]
  have e2 : clN op k n s k' n' s' = 0 := by simp [clN, door, h]
  have e3 : clS op k n s k' n' s' = ByteArray.empty := by simp [clS, door, h]
  have e4 : clE op k n s k' n' s' = 1 := by simp [clE, door, h]
  rw [e1, e2, e3, e4]
  clear e1 e2 e3 e4
  have h2 : decide (op ≤ 14) = true := by simpa using h1
  go_enter Try.func33, Try.ntmps33
  go_wp2_with (first | (go_at_call 57; refine (implValueOkX _ _ _ _ (by assumption)).mono ?_; rintro e w1 ⟨rfl, rfl⟩) | go_in)
  all_goals go_returns
  all_goals exact ⟨rfl, by go_grown⟩

end Go.Proofs.Ytnamikhhbedpeaa
