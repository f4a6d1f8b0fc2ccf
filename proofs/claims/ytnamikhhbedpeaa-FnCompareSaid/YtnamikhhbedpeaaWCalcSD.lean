/-
  Calc: some of its cases, in the reference.
-/
import Derived.Test.YtnamikhhbedpeaaRows
import Derived.WalkKit
import Derived.WalkLawsBesides
import Derived.WalkSpells
import Derived.Handy
import Derived.Deep.Light
import Derived.Test.YtnamikhhbedpeaaM1
import Derived.Test.YtnamikhhbedpeaaB
import Derived.Test.YtnamikhhbedpeaaWCalcD
namespace Go.Proofs.Ytnamikhhbedpeaa
open Go.RowKit

set_option maxHeartbeats 1000000 in
theorem spec_cmp3 (k n : Int) (s : ByteArray) (n' : Int) (s' : ByteArray) (ws : s.size ≤ 9223372036854775807) (ws' : s'.size ≤ 9223372036854775807) (ha : valOk k n s = true) (hb : valOk k n' s' = true) (hk0 : ¬ k = 0) (w : World) :
    Calls Try.prog 45 #[.int .i64 3, .agg #[.int .i64 k, .int .i64 n, .string s], .agg #[.int .i64 k, .int .i64 n', .string s']] w fun e w' => e = .returned (.tuple #[.agg #[.int .i64 (clK 3 k n s k n' s'), .int .i64 (clN 3 k n s k n' s'), .string (clS 3 k n s k n' s')], .int .i64 (clE 3 k n s k n' s')]) ∧ Below w.heap.size w w' := by
  have e1 : clK 3 k n s k n' s' = 3 := by simp [clK, door, ha, hb, hk0]
  have e2 : clN 3 k n s k n' s' = (cmpB 3 (ordF k n s.toList k n' s'.toList)) := by simp [clN, door, ha, hb, hk0]
  have e3 : clS 3 k n s k n' s' = ByteArray.empty := by simp [clS, door, ha, hb]
  have e4 : clE 3 k n s k n' s' = 0 := by simp [clE, door, ha, hb, hk0]
  rw [e1, e2, e3, e4]
  clear e1 e2 e3 e4
  have g0 : (k == 0) = false := by simpa using hk0
  have g1 : (k != 0) = true := by simpa using hk0
  go_enter Try.func45, Try.ntmps45
  go_wp2_with (first | (go_at_call 70; refine (specValueOkX _ _ _ _ (by assumption)).mono ?_; rintro e w1 ⟨rfl, rfl⟩) | (go_at_call 67; refine (specOrderX _ _ _ _ _ _ _).mono ?_; rintro e w1 ⟨rfl, rfl⟩) | go_in)
  all_goals go_returns
  all_goals refine ⟨?_, by go_grown⟩
  all_goals go_light
  all_goals generalize ordF k n s.toList k n' s'.toList = c at *
  all_goals simp_all [cmpB]
  all_goals first | rfl | omega

set_option maxHeartbeats 1000000 in
theorem spec_cmp4 (k n : Int) (s : ByteArray) (n' : Int) (s' : ByteArray) (ws : s.size ≤ 9223372036854775807) (ws' : s'.size ≤ 9223372036854775807) (ha : valOk k n s = true) (hb : valOk k n' s' = true) (hk0 : ¬ k = 0) (w : World) :
    Calls Try.prog 45 #[.int .i64 4, .agg #[.int .i64 k, .int .i64 n, .string s], .agg #[.int .i64 k, .int .i64 n', .string s']] w fun e w' => e = .returned (.tuple #[.agg #[.int .i64 (clK 4 k n s k n' s'), .int .i64 (clN 4 k n s k n' s'), .string (clS 4 k n s k n' s')], .int .i64 (clE 4 k n s k n' s')]) ∧ Below w.heap.size w w' := by
  have e1 : clK 4 k n s k n' s' = 3 := by simp [clK, door, ha, hb, hk0]
  have e2 : clN 4 k n s k n' s' = (cmpB 4 (ordF k n s.toList k n' s'.toList)) := by simp [clN, door, ha, hb, hk0]
  have e3 : clS 4 k n s k n' s' = ByteArray.empty := by simp [clS, door, ha, hb]
  have e4 : clE 4 k n s k n' s' = 0 := by simp [clE, door, ha, hb, hk0]
  rw [e1, e2, e3, e4]
  clear e1 e2 e3 e4
  have g0 : (k == 0) = false := by simpa using hk0
  have g1 : (k != 0) = true := by simpa using hk0
  go_enter Try.func45, Try.ntmps45
  go_wp2_with (first | (go_at_call 70; refine (specValueOkX _ _ _ _ (by assumption)).mono ?_; rintro e w1 ⟨rfl, rfl⟩) | (go_at_call 67; refine (specOrderX _ _ _ _ _ _ _).mono ?_; rintro e w1 ⟨rfl, rfl⟩) | go_in)
  all_goals go_returns
  all_goals refine ⟨?_, by go_grown⟩
  all_goals go_light
  all_goals generalize ordF k n s.toList k n' s'.toList = c at *
  all_goals simp_all [cmpB]
  all_goals first | rfl | omega

set_option maxHeartbeats 1000000 in
theorem spec_cmp5 (k n : Int) (s : ByteArray) (n' : Int) (s' : ByteArray) (ws : s.size ≤ 9223372036854775807) (ws' : s'.size ≤ 9223372036854775807) (ha : valOk k n s = true) (hb : valOk k n' s' = true) (hk0 : ¬ k = 0) (w : World) :
    Calls Try.prog 45 #[.int .i64 5, .agg #[.int .i64 k, .int .i64 n, .string s], .agg #[.int .i64 k, .int .i64 n', .string s']] w fun e w' => e = .returned (.tuple #[.agg #[.int .i64 (clK 5 k n s k n' s'), .int .i64 (clN 5 k n s k n' s'), .string (clS 5 k n s k n' s')], .int .i64 (clE 5 k n s k n' s')]) ∧ Below w.heap.size w w' := by
  have e1 : clK 5 k n s k n' s' = 3 := by simp [clK, door, ha, hb, hk0]
  have e2 : clN 5 k n s k n' s' = (cmpB 5 (ordF k n s.toList k n' s'.toList)) := by simp [clN, door, ha, hb, hk0]
  have e3 : clS 5 k n s k n' s' = ByteArray.empty := by simp [clS, door, ha, hb]
  have e4 : clE 5 k n s k n' s' = 0 := by simp [clE, door, ha, hb, hk0]
  rw [e1, e2, e3, e4]
  clear e1 e2 e3 e4
  have g0 : (k == 0) = false := by simpa using hk0
  have g1 : (k != 0) = true := by simpa using hk0
  go_enter Try.func45, Try.ntmps45
  go_wp2_with (first | (go_at_call 70; refine (specValueOkX _ _ _ _ (by assumption)).mono ?_; rintro e w1 ⟨rfl, rfl⟩) | (go_at_call 67; refine (specOrderX _ _ _ _ _ _ _).mono ?_; rintro e w1 ⟨rfl, rfl⟩) | go_in)
  all_goals go_returns
  all_goals refine ⟨?_, by go_grown⟩
  all_goals go_light
  all_goals generalize ordF k n s.toList k n' s'.toList = c at *
  all_goals simp_all [cmpB]
  all_goals first | rfl | omega

set_option maxHeartbeats 1000000 in
theorem spec_cmp6 (k n : Int) (s : ByteArray) (n' : Int) (s' : ByteArray) (ws : s.size ≤ 9223372036854775807) (ws' : s'.size ≤ 9223372036854775807) (ha : valOk k n s = true) (hb : valOk k n' s' = true) (hk0 : ¬ k = 0) (w : World) :
    Calls Try.prog 45 #[.int .i64 6, .agg #[.int .i64 k, .int .i64 n, .string s], .agg #[.int .i64 k, .int .i64 n', .string s']] w fun e w' => e = .returned (.tuple #[.agg #[.int .i64 (clK 6 k n s k n' s'), .int .i64 (clN 6 k n s k n' s'), .string (clS 6 k n s k n' s')], .int .i64 (clE 6 k n s k n' s')]) ∧ Below w.heap.size w w' := by
  have e1 : clK 6 k n s k n' s' = 3 := by simp [clK, door, ha, hb, hk0]
  have e2 : clN 6 k n s k n' s' = (cmpB 6 (ordF k n s.toList k n' s'.toList)) := by simp [clN, door, ha, hb, hk0]
  have e3 : clS 6 k n s k n' s' = ByteArray.empty := by simp [clS, door, ha, hb]
  have e4 : clE 6 k n s k n' s' = 0 := by simp [clE, door, ha, hb, hk0]
  rw [e1, e2, e3, e4]
  clear e1 e2 e3 e4
  have g0 : (k == 0) = false := by simpa using hk0
  have g1 : (k != 0) = true := by simpa using hk0
  go_enter Try.func45, Try.ntmps45
  go_wp2_with (first | (go_at_call 70; refine (specValueOkX _ _ _ _ (by assumption)).mono ?_; rintro e w1 ⟨rfl, rfl⟩) | (go_at_call 67; refine (specOrderX _ _ _ _ _ _ _).mono ?_; rintro e w1 ⟨rfl, rfl⟩) | go_in)
  all_goals go_returns
  all_goals refine ⟨?_, by go_grown⟩
  all_goals go_light
  all_goals generalize ordF k n s.toList k n' s'.toList = c at *
  all_goals simp_all [cmpB]
  all_goals first | rfl | omega

set_option maxHeartbeats 1000000 in
theorem spec_cmp7 (k n : Int) (s : ByteArray) (n' : Int) (s' : ByteArray) (ws : s.size ≤ 9223372036854775807) (ws' : s'.size ≤ 9223372036854775807) (ha : valOk k n s = true) (hb : valOk k n' s' = true) (hk0 : ¬ k = 0) (w : World) :
    Calls Try.prog 45 #[.int .i64 7, .agg #[.int .i64 k, .int .i64 n, .string s], .agg #[.int .i64 k, .int .i64 n', .string s']] w fun e w' => e = .returned (.tuple #[.agg #[.int .i64 (clK 7 k n s k n' s'), .int .i64 (clN 7 k n s k n' s'), .string (clS 7 k n s k n' s')], .int .i64 (clE 7 k n s k n' s')]) ∧ Below w.heap.size w w' := by
  have e1 : clK 7 k n s k n' s' = 3 := by simp [clK, door, ha, hb, hk0]
  have e2 : clN 7 k n s k n' s' = (cmpB 7 (ordF k n s.toList k n' s'.toList)) := by simp [clN, door, ha, hb, hk0]
  have e3 : clS 7 k n s k n' s' = ByteArray.empty := by simp [clS, door, ha, hb]
  have e4 : clE 7 k n s k n' s' = 0 := by simp [clE, door, ha, hb, hk0]
  rw [e1, e2, e3, e4]
  clear e1 e2 e3 e4
  have g0 : (k == 0) = false := by simpa using hk0
  have g1 : (k != 0) = true := by simpa using hk0
  go_enter Try.func45, Try.ntmps45
  go_wp2_with (first | (go_at_call 70; refine (specValueOkX _ _ _ _ (by assumption)).mono ?_; rintro e w1 ⟨rfl, rfl⟩) | (go_at_call 67; refine (specOrderX _ _ _ _ _ _ _).mono ?_; rintro e w1 ⟨rfl, rfl⟩) | go_in)
  all_goals go_returns
  all_goals refine ⟨?_, by go_grown⟩
  all_goals go_light
  all_goals generalize ordF k n s.toList k n' s'.toList = c at *
  all_goals simp_all [cmpB]
  all_goals first | rfl | omega

set_option maxHeartbeats 1000000 in
theorem spec_cmp8 (k n : Int) (s : ByteArray) (n' : Int) (s' : ByteArray) (ws : s.size ≤ 9223372036854775807) (ws' : s'.size ≤ 9223372036854775807) (ha : valOk k n s = true) (hb : valOk k n' s' = true) (hk0 : ¬ k = 0) (w : World) :
    Calls Try.prog 45 #[.int .i64 8, .agg #[.int .i64 k, .int .i64 n, .string s], .agg #[.int .i64 k, .int .i64 n', .string s']] w fun e w' => e = .returned (.tuple #[.agg #[.int .i64 (clK 8 k n s k n' s'), .int .i64 (clN 8 k n s k n' s'), .string (clS 8 k n s k n' s')], .int .i64 (clE 8 k n s k n' s')]) ∧ Below w.heap.size w w' := by
  have e1 : clK 8 k n s k n' s' = 3 := by simp [clK, door, ha, hb, hk0]
  have e2 : clN 8 k n s k n' s' = (cmpB 8 (ordF k n s.toList k n' s'.toList)) := by simp [clN, door, ha, hb, hk0]
  have e3 : clS 8 k n s k n' s' = ByteArray.empty := by simp [clS, door, ha, hb]
  have e4 : clE 8 k n s k n' s' = 0 := by simp [clE, door, ha, hb, hk0]
  rw [e1, e2, e3, e4]
  clear e1 e2 e3 e4
  have g0 : (k == 0) = false := by simpa using hk0
  have g1 : (k != 0) = true := by simpa using hk0
  go_enter Try.func45, Try.ntmps45
  go_wp2_with (first | (go_at_call 70; refine (specValueOkX _ _ _ _ (by assumption)).mono ?_; rintro e w1 ⟨rfl, rfl⟩) | (go_at_call 67; refine (specOrderX _ _ _ _ _ _ _).mono ?_; rintro e w1 ⟨rfl, rfl⟩) | go_in)
  all_goals go_returns
  all_goals refine ⟨?_, by go_grown⟩
  all_goals go_light
  all_goals generalize ordF k n s.toList k n' s'.toList = c at *
  all_goals simp_all [cmpB]
  all_goals first | rfl | omega

end Go.Proofs.Ytnamikhhbedpeaa
