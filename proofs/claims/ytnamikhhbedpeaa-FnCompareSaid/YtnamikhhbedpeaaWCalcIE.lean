/-
  Calc: some of its cases, in the program.
-/
import Derived.Test.YtnamikhhbedpeaaRows
import Derived.WalkKit
import Derived.WalkLawsBesides
import Derived.WalkSpells
import Derived.Handy
import Derived.Deep.Light
import Derived.Test.YtnamikhhbedpeaaM1
import Derived.Test.YtnamikhhbedpeaaB
import Derived.Test.YtnamikhhbedpeaaWCalcD
namespace Go.Proofs.Ytnamikhhbedpeaa
open Go.RowKit

set_option maxHeartbeats 1000000 in
theorem impl_cat_oa (k n : Int) (s : ByteArray) (k' n' : Int) (s' : ByteArray) (ws : s.size ≤ 9223372036854775807) (ws' : s'.size ≤ 9223372036854775807) (ha : valOk k n s = true) (hb : valOk k' n' s' = true) (h0 : ¬ k = 0) (h2 : ¬ k = 2) (w : World) :
    Calls Try.prog 33 #[.int .i64 9, .agg #[.int .i64 k, .int .i64 n, .string s], .agg #[.int .i64 k', .int .i64 n', .string s']] w fun e w' => e = .returned (.tuple #[.agg #[.int .i64 (clK 9 k n s k' n' s'), .int .i64 (clN 9 k n s k' n' s'), .string (clS 9 k n s k' n' s')], .int .i64 (clE 9 k n s k' n' s')]) ∧ Below w.heap.size w w' := by
  have e1 : clK 9 k n s k' n' s' = 0 := by simp [clK, door, ha, hb, h0, h2]
  have e2 : clN 9 k n s k' n' s' = 0 := by simp [clN, door, ha, hb]
  have e3 : clS 9 k n s k' n' s' = ByteArray.empty := by simp [clS, door, ha, hb, h0, h2]
  have e4 : clE 9 k n s k' n' s' = 1 := by simp [clE, door, ha, hb, h0, h2]
  rw [e1, e2, e3, e4]
  clear e1 e2 e3 e4
  have g0 : (k == 0) = false := by simpa using h0
  have g2 : (k == 2) = false := by simpa using h2
  go_enter Try.func33, Try.ntmps33
  go_wp2_with (first | (go_at_call 57; refine (implValueOkX _ _ _ _ (by assumption)).mono ?_; rintro e w1 ⟨rfl, rfl⟩) | go_in)
  all_goals go_returns
  all_goals exact ⟨rfl, by go_grown⟩

set_option maxHeartbeats 1000000 in
theorem impl_cat_no (k' n' : Int) (s' : ByteArray) (ws' : s'.size ≤ 9223372036854775807) (hb : valOk k' n' s' = true) (h0 : ¬ k' = 0) (h2 : ¬ k' = 2) (w : World) :
    Calls Try.prog 33 #[.int .i64 9, .agg #[.int .i64 0, .int .i64 0, .string ByteArray.empty], .agg #[.int .i64 k', .int .i64 n', .string s']] w fun e w' => e = .returned (.tuple #[.agg #[.int .i64 (clK 9 0 0 ByteArray.empty k' n' s'), .int .i64 (clN 9 0 0 ByteArray.empty k' n' s'), .string (clS 9 0 0 ByteArray.empty k' n' s')], .int .i64 (clE 9 0 0 ByteArray.empty k' n' s')]) ∧ Below w.heap.size w w' := by
  have e1 : clK 9 0 0 ByteArray.empty k' n' s' = 0 := by simp [clK, door, van, hb, h0, h2]
  have e2 : clN 9 0 0 ByteArray.empty k' n' s' = 0 := by simp [clN, door, van, hb]
  have e3 : clS 9 0 0 ByteArray.empty k' n' s' = ByteArray.empty := by simp [clS, door, van, hb, h0, h2]
  have e4 : clE 9 0 0 ByteArray.empty k' n' s' = 1 := by simp [clE, door, van, hb, h0, h2]
  rw [e1, e2, e3, e4]
  clear e1 e2 e3 e4
  have wz := size_zero
  have hq := van
  have g0 : (k' == 0) = false := by simpa using h0
  have g2 : (k' == 2) = false := by simpa using h2
  go_enter Try.func33, Try.ntmps33
  go_wp2_with (first | (go_at_call 57; refine (implValueOkX _ _ _ _ (by assumption)).mono ?_; rintro e w1 ⟨rfl, rfl⟩) | go_in)
  all_goals go_returns
  all_goals exact ⟨rfl, by go_grown⟩

set_option maxHeartbeats 1000000 in
theorem impl_cat_so (s : ByteArray) (ws : s.size ≤ 9223372036854775807) (ha : valOk 2 0 s = true) (k' n' : Int) (s' : ByteArray) (ws' : s'.size ≤ 9223372036854775807) (hb : valOk k' n' s' = true) (h0 : ¬ k' = 0) (h2 : ¬ k' = 2) (w : World) :
    Calls Try.prog 33 #[.int .i64 9, .agg #[.int .i64 2, .int .i64 0, .string s], .agg #[.int .i64 k', .int .i64 n', .string s']] w fun e w' => e = .returned (.tuple #[.agg #[.int .i64 (clK 9 2 0 s k' n' s'), .int .i64 (clN 9 2 0 s k' n' s'), .string (clS 9 2 0 s k' n' s')], .int .i64 (clE 9 2 0 s k' n' s')]) ∧ Below w.heap.size w w' := by
  have e1 : clK 9 2 0 s k' n' s' = 0 := by simp [clK, door, ha, hb, h0, h2]
  have e2 : clN 9 2 0 s k' n' s' = 0 := by simp [clN, door, ha, hb]
  have e3 : clS 9 2 0 s k' n' s' = ByteArray.empty := by simp [clS, door, ha, hb, h0, h2]
  have e4 : clE 9 2 0 s k' n' s' = 1 := by simp [clE, door, ha, hb, h0, h2]
  rw [e1, e2, e3, e4]
  clear e1 e2 e3 e4
  have wz := size_zero
  have hq := van
  have g0 : (k' == 0) = false := by simpa using h0
  have g2 : (k' == 2) = false := by simpa using h2
  go_enter Try.func33, Try.ntmps33
  go_wp2_with (first | (go_at_call 57; refine (implValueOkX _ _ _ _ (by assumption)).mono ?_; rintro e w1 ⟨rfl, rfl⟩) | go_in)
  all_goals go_returns
  all_goals exact ⟨rfl, by go_grown⟩

set_option maxHeartbeats 1000000 in
theorem impl_cat_nn  (w : World) :
    Calls Try.prog 33 #[.int .i64 9, .agg #[.int .i64 0, .int .i64 0, .string ByteArray.empty], .agg #[.int .i64 0, .int .i64 0, .string ByteArray.empty]] w fun e w' => e = .returned (.tuple #[.agg #[.int .i64 (clK 9 0 0 ByteArray.empty 0 0 ByteArray.empty), .int .i64 (clN 9 0 0 ByteArray.empty 0 0 ByteArray.empty), .string (clS 9 0 0 ByteArray.empty 0 0 ByteArray.empty)], .int .i64 (clE 9 0 0 ByteArray.empty 0 0 ByteArray.empty)]) ∧ Below w.heap.size w w' := by
  have e1 : clK 9 0 0 ByteArray.empty 0 0 ByteArray.empty = 0 := by simp [clK, door, van, van]
  have e2 : clN 9 0 0 ByteArray.empty 0 0 ByteArray.empty = 0 := by simp [clN, door, van, van]
  have e3 : clS 9 0 0 ByteArray.empty 0 0 ByteArray.empty = ByteArray.empty := by simp [clS, door, van, van]
  have e4 : clE 9 0 0 ByteArray.empty 0 0 ByteArray.empty = 0 := by simp [clE, door, van, van]
  rw [e1, e2, e3, e4]
  clear e1 e2 e3 e4
  have wz := size_zero
  have hq := van
  go_enter Try.func33, Try.ntmps33
  go_wp2_with (first | (go_at_call 57; refine (implValueOkX _ _ _ _ (by assumption)).mono ?_; rintro e w1 ⟨rfl, rfl⟩) | go_in)
  all_goals go_returns
  all_goals exact ⟨rfl, by go_grown⟩

set_option maxHeartbeats 1000000 in
theorem impl_cat_ns (s' : ByteArray) (ws' : s'.size ≤ 9223372036854775807) (hb : valOk 2 0 s' = true) (w : World) :
    Calls Try.prog 33 #[.int .i64 9, .agg #[.int .i64 0, .int .i64 0, .string ByteArray.empty], .agg #[.int .i64 2, .int .i64 0, .string s']] w fun e w' => e = .returned (.tuple #[.agg #[.int .i64 (clK 9 0 0 ByteArray.empty 2 0 s'), .int .i64 (clN 9 0 0 ByteArray.empty 2 0 s'), .string (clS 9 0 0 ByteArray.empty 2 0 s')], .int .i64 (clE 9 0 0 ByteArray.empty 2 0 s')]) ∧ Below w.heap.size w w' := by
  have e1 : clK 9 0 0 ByteArray.empty 2 0 s' = 0 := by simp [clK, door, van, hb]
  have e2 : clN 9 0 0 ByteArray.empty 2 0 s' = 0 := by simp [clN, door, van, hb]
  have e3 : clS 9 0 0 ByteArray.empty 2 0 s' = ByteArray.empty := by simp [clS, door, van, hb]
  have e4 : clE 9 0 0 ByteArray.empty 2 0 s' = 0 := by simp [clE, door, van, hb]
  rw [e1, e2, e3, e4]
  clear e1 e2 e3 e4
  have wz := size_zero
  have hq := van
  go_enter Try.func33, Try.ntmps33
  go_wp2_with (first | (go_at_call 57; refine (implValueOkX _ _ _ _ (by assumption)).mono ?_; rintro e w1 ⟨rfl, rfl⟩) | go_in)
  all_goals go_returns
  all_goals exact ⟨rfl, by go_grown⟩

set_option maxHeartbeats 1000000 in
theorem impl_cat_sn (s : ByteArray) (ws : s.size ≤ 9223372036854775807) (ha : valOk 2 0 s = true)  (w : World) :
    Calls Try.prog 33 #[.int .i64 9, .agg #[.int .i64 2, .int .i64 0, .string s], .agg #[.int .i64 0, .int .i64 0, .string ByteArray.empty]] w fun e w' => e = .returned (.tuple #[.agg #[.int .i64 (clK 9 2 0 s 0 0 ByteArray.empty), .int .i64 (clN 9 2 0 s 0 0 ByteArray.empty), .string (clS 9 2 0 s 0 0 ByteArray.empty)], .int .i64 (clE 9 2 0 s 0 0 ByteArray.empty)]) ∧ Below w.heap.size w w' := by
  have e1 : clK 9 2 0 s 0 0 ByteArray.empty = 0 := by simp [clK, door, ha, van]
  have e2 : clN 9 2 0 s 0 0 ByteArray.empty = 0 := by simp [clN, door, ha, van]
  have e3 : clS 9 2 0 s 0 0 ByteArray.empty = ByteArray.empty := by simp [clS, door, ha, van]
  have e4 : clE 9 2 0 s 0 0 ByteArray.empty = 0 := by simp [clE, door, ha, van]
  rw [e1, e2, e3, e4]
  clear e1 e2 e3 e4
  have wz := size_zero
  have hq := van
  go_enter Try.func33, Try.ntmps33
  go_wp2_with (first | (go_at_call 57; refine (implValueOkX _ _ _ _ (by assumption)).mono ?_; rintro e w1 ⟨rfl, rfl⟩) | go_in)
  all_goals go_returns
  all_goals exact ⟨rfl, by go_grown⟩

set_option maxHeartbeats 1000000 in
theorem impl_cat_long (s s' : ByteArray) (ws : s.size ≤ 9223372036854775807) (ws' : s'.size ≤ 9223372036854775807) (ha : valOk 2 0 s = true) (hb : valOk 2 0 s' = true) (h : 200 < s.size + s'.size) (w : World) :
    Calls Try.prog 33 #[.int .i64 9, .agg #[.int .i64 2, .int .i64 0, .string s], .agg #[.int .i64 2, .int .i64 0, .string s']] w fun e w' => e = .returned (.tuple #[.agg #[.int .i64 (clK 9 2 0 s 2 0 s'), .int .i64 (clN 9 2 0 s 2 0 s'), .string (clS 9 2 0 s 2 0 s')], .int .i64 (clE 9 2 0 s 2 0 s')]) ∧ Below w.heap.size w w' := by
  have e1 : clK 9 2 0 s 2 0 s' = 0 := by simp [clK, door, ha, hb, h]
  have e2 : clN 9 2 0 s 2 0 s' = 0 := by simp [clN, door, ha, hb]
  have e3 : clS 9 2 0 s 2 0 s' = ByteArray.empty := by simp [clS, door, ha, hb, h]
  have e4 : clE 9 2 0 s 2 0 s' = 2 := by simp [clE, door, ha, hb, h]
  rw [e1, e2, e3, e4]
  clear e1 e2 e3 e4
  have hz := valOk_text ha
  have hz' := valOk_text hb
  have hd : decide ((200 : Int) < (s.size : Int) + (s'.size : Int)) = true := by simp; omega
  go_enter Try.func33, Try.ntmps33
  go_wp2_with (first | (go_at_call 57; refine (implValueOkX _ _ _ _ (by assumption)).mono ?_; rintro e w1 ⟨rfl, rfl⟩) | go_in)
  all_goals go_returns
  all_goals exact ⟨rfl, by go_grown⟩

set_option maxHeartbeats 1000000 in
theorem impl_cat (s s' : ByteArray) (ws : s.size ≤ 9223372036854775807) (ws' : s'.size ≤ 9223372036854775807) (ha : valOk 2 0 s = true) (hb : valOk 2 0 s' = true) (h : ¬ 200 < s.size + s'.size) (w : World) :
    Calls Try.prog 33 #[.int .i64 9, .agg #[.int .i64 2, .int .i64 0, .string s], .agg #[.int .i64 2, .int .i64 0, .string s']] w fun e w' => e = .returned (.tuple #[.agg #[.int .i64 (clK 9 2 0 s 2 0 s'), .int .i64 (clN 9 2 0 s 2 0 s'), .string (clS 9 2 0 s 2 0 s')], .int .i64 (clE 9 2 0 s 2 0 s')]) ∧ Below w.heap.size w w' := by
  have e1 : clK 9 2 0 s 2 0 s' = 2 := by simp [clK, door, ha, hb, h]
  have e2 : clN 9 2 0 s 2 0 s' = 0 := by simp [clN, door, ha, hb]
  have e3 : clS 9 2 0 s 2 0 s' = (s ++ s') := by simp [clS, door, ha, hb, h]
  have e4 : clE 9 2 0 s 2 0 s' = 0 := by simp [clE, door, ha, hb, h]
  rw [e1, e2, e3, e4]
  clear e1 e2 e3 e4
  have hz := valOk_text ha
  have hz' := valOk_text hb
  have hd : decide ((200 : Int) < (s.size : Int) + (s'.size : Int)) = false := by simp; omega
  go_enter Try.func33, Try.ntmps33
  go_wp2_with (first | (go_at_call 57; refine (implValueOkX _ _ _ _ (by assumption)).mono ?_; rintro e w1 ⟨rfl, rfl⟩) | go_in)
  all_goals go_returns
  all_goals exact ⟨rfl, by go_grown⟩

end Go.Proofs.Ytnamikhhbedpeaa
