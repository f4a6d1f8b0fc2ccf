/-
  Calc: some of its cases, in the program.
-/
import Derived.Test.YtnamikhhbedpeaaRows
import Derived.WalkKit
import Derived.WalkLawsBesides
import Derived.WalkSpells
import Derived.Handy
import Derived.Deep.Light
import Derived.Test.YtnamikhhbedpeaaM1
import Derived.Test.YtnamikhhbedpeaaB
import Derived.Test.YtnamikhhbedpeaaWCalcD
namespace Go.Proofs.Ytnamikhhbedpeaa
open Go.RowKit

set_option maxHeartbeats 1000000 in
theorem impl_lg2_o (k n : Int) (s : ByteArray) (k' n' : Int) (s' : ByteArray) (ws : s.size ≤ 9223372036854775807) (ws' : s'.size ≤ 9223372036854775807) (ha : valOk k n s = true) (hb : valOk k' n' s' = true) (h0 : ¬ k = 0) (h3 : ¬ k = 3) (w : World) :
    Calls Try.prog 33 #[.int .i64 2, .agg #[.int .i64 k, .int .i64 n, .string s], .agg #[.int .i64 k', .int .i64 n', .string s']] w fun e w' => e = .returned (.tuple #[.agg #[.int .i64 (clK 2 k n s k' n' s'), .int .i64 (clN 2 k n s k' n' s'), .string (clS 2 k n s k' n' s')], .int .i64 (clE 2 k n s k' n' s')]) ∧ Below w.heap.size w w' := by
  have e1 : clK 2 k n s k' n' s' = 0 := by simp [clK, door, ha, hb, h0, h3, lgE, lgK]
  have e2 : clN 2 k n s k' n' s' = 0 := by simp [clN, door, ha, hb, h0, h3, lgE, lgN]
  have e3 : clS 2 k n s k' n' s' = ByteArray.empty := by simp [clS, door, ha, hb]
  have e4 : clE 2 k n s k' n' s' = 1 := by simp [clE, door, ha, hb, h0, h3, lgE]
  rw [e1, e2, e3, e4]
  clear e1 e2 e3 e4
  have g0 : (k != 0) = true := by simpa using h0
  have g3 : (k != 3) = true := by simpa using h3
  have g0' : (k == 0) = false := by simpa using h0
  have g3' : (k == 3) = false := by simpa using h3
  go_enter Try.func33, Try.ntmps33
  go_wp2_with (first | (go_at_call 57; refine (implValueOkX _ _ _ _ (by assumption)).mono ?_; rintro e w1 ⟨rfl, rfl⟩) | go_in)
  refine wp_loop_rounds 3 ?_
  repeat any_goals (rw [rounds_succ]; go_wp2)
  all_goals go_returns
  all_goals exact ⟨rfl, by go_grown⟩

set_option maxHeartbeats 1000000 in
theorem impl_lg2_no (k' n' : Int) (s' : ByteArray) (ws' : s'.size ≤ 9223372036854775807) (hb : valOk k' n' s' = true) (h0 : ¬ k' = 0) (h3 : ¬ k' = 3) (w : World) :
    Calls Try.prog 33 #[.int .i64 2, .agg #[.int .i64 0, .int .i64 0, .string ByteArray.empty], .agg #[.int .i64 k', .int .i64 n', .string s']] w fun e w' => e = .returned (.tuple #[.agg #[.int .i64 (clK 2 0 0 ByteArray.empty k' n' s'), .int .i64 (clN 2 0 0 ByteArray.empty k' n' s'), .string (clS 2 0 0 ByteArray.empty k' n' s')], .int .i64 (clE 2 0 0 ByteArray.empty k' n' s')]) ∧ Below w.heap.size w w' := by
  have e1 : clK 2 0 0 ByteArray.empty k' n' s' = 0 := by simp [clK, door, van, hb, h0, h3, lgE, lgK]
  have e2 : clN 2 0 0 ByteArray.empty k' n' s' = 0 := by simp [clN, door, van, hb, h0, h3, lgE, lgN]
  have e3 : clS 2 0 0 ByteArray.empty k' n' s' = ByteArray.empty := by simp [clS, door, van, hb]
  have e4 : clE 2 0 0 ByteArray.empty k' n' s' = 1 := by simp [clE, door, van, hb, h0, h3, lgE]
  rw [e1, e2, e3, e4]
  clear e1 e2 e3 e4
  have wz := size_zero
  have hq := van
  have g0 : (k' != 0) = true := by simpa using h0
  have g3 : (k' != 3) = true := by simpa using h3
  have g0' : (k' == 0) = false := by simpa using h0
  have g3' : (k' == 3) = false := by simpa using h3
  go_enter Try.func33, Try.ntmps33
  go_wp2_with (first | (go_at_call 57; refine (implValueOkX _ _ _ _ (by assumption)).mono ?_; rintro e w1 ⟨rfl, rfl⟩) | go_in)
  refine wp_loop_rounds 3 ?_
  repeat any_goals (rw [rounds_succ]; go_wp2)
  all_goals go_returns
  all_goals exact ⟨rfl, by go_grown⟩

set_option maxHeartbeats 1000000 in
theorem impl_lg2_nn  (w : World) :
    Calls Try.prog 33 #[.int .i64 2, .agg #[.int .i64 0, .int .i64 0, .string ByteArray.empty], .agg #[.int .i64 0, .int .i64 0, .string ByteArray.empty]] w fun e w' => e = .returned (.tuple #[.agg #[.int .i64 (clK 2 0 0 ByteArray.empty 0 0 ByteArray.empty), .int .i64 (clN 2 0 0 ByteArray.empty 0 0 ByteArray.empty), .string (clS 2 0 0 ByteArray.empty 0 0 ByteArray.empty)], .int .i64 (clE 2 0 0 ByteArray.empty 0 0 ByteArray.empty)]) ∧ Below w.heap.size w w' := by
  have e1 : clK 2 0 0 ByteArray.empty 0 0 ByteArray.empty = 0 := by simp [clK, door, van, van, lgE, lgK]
  have e2 : clN 2 0 0 ByteArray.empty 0 0 ByteArray.empty = 0 := by simp [clN, door, van, van, lgE, lgN]
  have e3 : clS 2 0 0 ByteArray.empty 0 0 ByteArray.empty = ByteArray.empty := by simp [clS, door, van, van]
  have e4 : clE 2 0 0 ByteArray.empty 0 0 ByteArray.empty = 0 := by simp [clE, door, van, van, lgE]
  rw [e1, e2, e3, e4]
  clear e1 e2 e3 e4
  have wz := size_zero
  have hq := van
  go_enter Try.func33, Try.ntmps33
  go_wp2_with (first | (go_at_call 57; refine (implValueOkX _ _ _ _ (by assumption)).mono ?_; rintro e w1 ⟨rfl, rfl⟩) | go_in)
  refine wp_loop_rounds 3 ?_
  repeat any_goals (rw [rounds_succ]; go_wp2)
  all_goals go_returns
  all_goals exact ⟨rfl, by go_grown⟩

set_option maxHeartbeats 1000000 in
theorem impl_lg2_nf  (w : World) :
    Calls Try.prog 33 #[.int .i64 2, .agg #[.int .i64 0, .int .i64 0, .string ByteArray.empty], .agg #[.int .i64 3, .int .i64 0, .string ByteArray.empty]] w fun e w' => e = .returned (.tuple #[.agg #[.int .i64 (clK 2 0 0 ByteArray.empty 3 0 ByteArray.empty), .int .i64 (clN 2 0 0 ByteArray.empty 3 0 ByteArray.empty), .string (clS 2 0 0 ByteArray.empty 3 0 ByteArray.empty)], .int .i64 (clE 2 0 0 ByteArray.empty 3 0 ByteArray.empty)]) ∧ Below w.heap.size w w' := by
  have e1 : clK 2 0 0 ByteArray.empty 3 0 ByteArray.empty = 3 := by simp [clK, door, van, vaf, lgE, lgK]
  have e2 : clN 2 0 0 ByteArray.empty 3 0 ByteArray.empty = 0 := by simp [clN, door, van, vaf, lgE, lgN]
  have e3 : clS 2 0 0 ByteArray.empty 3 0 ByteArray.empty = ByteArray.empty := by simp [clS, door, van, vaf]
  have e4 : clE 2 0 0 ByteArray.empty 3 0 ByteArray.empty = 0 := by simp [clE, door, van, vaf, lgE]
  rw [e1, e2, e3, e4]
  clear e1 e2 e3 e4
  have wz := size_zero
  have hq := van
  have hq' := vaf
  go_enter Try.func33, Try.ntmps33
  go_wp2_with (first | (go_at_call 57; refine (implValueOkX _ _ _ _ (by assumption)).mono ?_; rintro e w1 ⟨rfl, rfl⟩) | go_in)
  refine wp_loop_rounds 3 ?_
  repeat any_goals (rw [rounds_succ]; go_wp2)
  all_goals go_returns
  all_goals exact ⟨rfl, by go_grown⟩

set_option maxHeartbeats 1000000 in
theorem impl_lg2_nt  (w : World) :
    Calls Try.prog 33 #[.int .i64 2, .agg #[.int .i64 0, .int .i64 0, .string ByteArray.empty], .agg #[.int .i64 3, .int .i64 1, .string ByteArray.empty]] w fun e w' => e = .returned (.tuple #[.agg #[.int .i64 (clK 2 0 0 ByteArray.empty 3 1 ByteArray.empty), .int .i64 (clN 2 0 0 ByteArray.empty 3 1 ByteArray.empty), .string (clS 2 0 0 ByteArray.empty 3 1 ByteArray.empty)], .int .i64 (clE 2 0 0 ByteArray.empty 3 1 ByteArray.empty)]) ∧ Below w.heap.size w w' := by
  have e1 : clK 2 0 0 ByteArray.empty 3 1 ByteArray.empty = 0 := by simp [clK, door, van, vat, lgE, lgK]
  have e2 : clN 2 0 0 ByteArray.empty 3 1 ByteArray.empty = 0 := by simp [clN, door, van, vat, lgE, lgN]
  have e3 : clS 2 0 0 ByteArray.empty 3 1 ByteArray.empty = ByteArray.empty := by simp [clS, door, van, vat]
  have e4 : clE 2 0 0 ByteArray.empty 3 1 ByteArray.empty = 0 := by simp [clE, door, van, vat, lgE]
  rw [e1, e2, e3, e4]
  clear e1 e2 e3 e4
  have wz := size_zero
  have hq := van
  have hq' := vat
  go_enter Try.func33, Try.ntmps33
  go_wp2_with (first | (go_at_call 57; refine (implValueOkX _ _ _ _ (by assumption)).mono ?_; rintro e w1 ⟨rfl, rfl⟩) | go_in)
  refine wp_loop_rounds 3 ?_
  repeat any_goals (rw [rounds_succ]; go_wp2)
  all_goals go_returns
  all_goals exact ⟨rfl, by go_grown⟩

set_option maxHeartbeats 1000000 in
theorem impl_lg2_fo (k' n' : Int) (s' : ByteArray) (ws' : s'.size ≤ 9223372036854775807) (hb : valOk k' n' s' = true) (h0 : ¬ k' = 0) (h3 : ¬ k' = 3) (w : World) :
    Calls Try.prog 33 #[.int .i64 2, .agg #[.int .i64 3, .int .i64 0, .string ByteArray.empty], .agg #[.int .i64 k', .int .i64 n', .string s']] w fun e w' => e = .returned (.tuple #[.agg #[.int .i64 (clK 2 3 0 ByteArray.empty k' n' s'), .int .i64 (clN 2 3 0 ByteArray.empty k' n' s'), .string (clS 2 3 0 ByteArray.empty k' n' s')], .int .i64 (clE 2 3 0 ByteArray.empty k' n' s')]) ∧ Below w.heap.size w w' := by
  have e1 : clK 2 3 0 ByteArray.empty k' n' s' = 0 := by simp [clK, door, vaf, hb, h0, h3, lgE, lgK]
  have e2 : clN 2 3 0 ByteArray.empty k' n' s' = 0 := by simp [clN, door, vaf, hb, h0, h3, lgE, lgN]
  have e3 : clS 2 3 0 ByteArray.empty k' n' s' = ByteArray.empty := by simp [clS, door, vaf, hb]
  have e4 : clE 2 3 0 ByteArray.empty k' n' s' = 1 := by simp [clE, door, vaf, hb, h0, h3, lgE]
  rw [e1, e2, e3, e4]
  clear e1 e2 e3 e4
  have wz := size_zero
  have hq := vaf
  have g0 : (k' != 0) = true := by simpa using h0
  have g3 : (k' != 3) = true := by simpa using h3
  have g0' : (k' == 0) = false := by simpa using h0
  have g3' : (k' == 3) = false := by simpa using h3
  go_enter Try.func33, Try.ntmps33
  go_wp2_with (first | (go_at_call 57; refine (implValueOkX _ _ _ _ (by assumption)).mono ?_; rintro e w1 ⟨rfl, rfl⟩) | go_in)
  refine wp_loop_rounds 3 ?_
  repeat any_goals (rw [rounds_succ]; go_wp2)
  all_goals go_returns
  all_goals exact ⟨rfl, by go_grown⟩

set_option maxHeartbeats 1000000 in
theorem impl_lg2_fn  (w : World) :
    Calls Try.prog 33 #[.int .i64 2, .agg #[.int .i64 3, .int .i64 0, .string ByteArray.empty], .agg #[.int .i64 0, .int .i64 0, .string ByteArray.empty]] w fun e w' => e = .returned (.tuple #[.agg #[.int .i64 (clK 2 3 0 ByteArray.empty 0 0 ByteArray.empty), .int .i64 (clN 2 3 0 ByteArray.empty 0 0 ByteArray.empty), .string (clS 2 3 0 ByteArray.empty 0 0 ByteArray.empty)], .int .i64 (clE 2 3 0 ByteArray.empty 0 0 ByteArray.empty)]) ∧ Below w.heap.size w w' := by
  have e1 : clK 2 3 0 ByteArray.empty 0 0 ByteArray.empty = 3 := by simp [clK, door, vaf, van, lgE, lgK]
  have e2 : clN 2 3 0 ByteArray.empty 0 0 ByteArray.empty = 0 := by simp [clN, door, vaf, van, lgE, lgN]
  have e3 : clS 2 3 0 ByteArray.empty 0 0 ByteArray.empty = ByteArray.empty := by simp [clS, door, vaf, van]
  have e4 : clE 2 3 0 ByteArray.empty 0 0 ByteArray.empty = 0 := by simp [clE, door, vaf, van, lgE]
  rw [e1, e2, e3, e4]
  clear e1 e2 e3 e4
  have wz := size_zero
  have hq := vaf
  have hq' := van
  go_enter Try.func33, Try.ntmps33
  go_wp2_with (first | (go_at_call 57; refine (implValueOkX _ _ _ _ (by assumption)).mono ?_; rintro e w1 ⟨rfl, rfl⟩) | go_in)
  refine wp_loop_rounds 3 ?_
  repeat any_goals (rw [rounds_succ]; go_wp2)
  all_goals go_returns
  all_goals exact ⟨rfl, by go_grown⟩

set_option maxHeartbeats 1000000 in
theorem impl_lg2_ff  (w : World) :
    Calls Try.prog 33 #[.int .i64 2, .agg #[.int .i64 3, .int .i64 0, .string ByteArray.empty], .agg #[.int .i64 3, .int .i64 0, .string ByteArray.empty]] w fun e w' => e = .returned (.tuple #[.agg #[.int .i64 (clK 2 3 0 ByteArray.empty 3 0 ByteArray.empty), .int .i64 (clN 2 3 0 ByteArray.empty 3 0 ByteArray.empty), .string (clS 2 3 0 ByteArray.empty 3 0 ByteArray.empty)], .int .i64 (clE 2 3 0 ByteArray.empty 3 0 ByteArray.empty)]) ∧ Below w.heap.size w w' := by
  have e1 : clK 2 3 0 ByteArray.empty 3 0 ByteArray.empty = 3 := by simp [clK, door, vaf, vaf, lgE, lgK]
  have e2 : clN 2 3 0 ByteArray.empty 3 0 ByteArray.empty = 0 := by simp [clN, door, vaf, vaf, lgE, lgN]
  have e3 : clS 2 3 0 ByteArray.empty 3 0 ByteArray.empty = ByteArray.empty := by simp [clS, door, vaf, vaf]
  have e4 : clE 2 3 0 ByteArray.empty 3 0 ByteArray.empty = 0 := by simp [clE, door, vaf, vaf, lgE]
  rw [e1, e2, e3, e4]
  clear e1 e2 e3 e4
  have wz := size_zero
  have hq := vaf
  go_enter Try.func33, Try.ntmps33
  go_wp2_with (first | (go_at_call 57; refine (implValueOkX _ _ _ _ (by assumption)).mono ?_; rintro e w1 ⟨rfl, rfl⟩) | go_in)
  refine wp_loop_rounds 3 ?_
  repeat any_goals (rw [rounds_succ]; go_wp2)
  all_goals go_returns
  all_goals exact ⟨rfl, by go_grown⟩

set_option maxHeartbeats 1000000 in
theorem impl_lg2_ft  (w : World) :
    Calls Try.prog 33 #[.int .i64 2, .agg #[.int .i64 3, .int .i64 0, .string ByteArray.empty], .agg #[.int .i64 3, .int .i64 1, .string ByteArray.empty]] w fun e w' => e = .returned (.tuple #[.agg #[.int .i64 (clK 2 3 0 ByteArray.empty 3 1 ByteArray.empty), .int .i64 (clN 2 3 0 ByteArray.empty 3 1 ByteArray.empty), .string (clS 2 3 0 ByteArray.empty 3 1 ByteArray.empty)], .int .i64 (clE 2 3 0 ByteArray.empty 3 1 ByteArray.empty)]) ∧ Below w.heap.size w w' := by
  have e1 : clK 2 3 0 ByteArray.empty 3 1 ByteArray.empty = 3 := by simp [clK, door, vaf, vat, lgE, lgK]
  have e2 : clN 2 3 0 ByteArray.empty 3 1 ByteArray.empty = 0 := by simp [clN, door, vaf, vat, lgE, lgN]
  have e3 : clS 2 3 0 ByteArray.empty 3 1 ByteArray.empty = ByteArray.empty := by simp [clS, door, vaf, vat]
  have e4 : clE 2 3 0 ByteArray.empty 3 1 ByteArray.empty = 0 := by simp [clE, door, vaf, vat, lgE]
  rw [e1, e2, e3, e4]
  clear e1 e2 e3 e4
  have wz := size_zero
  have hq := vaf
  have hq' := vat
  go_enter Try.func33, Try.ntmps33
  go_wp2_with (first | (go_at_call 57; refine (implValueOkX _ _ _ _ (by assumption)).mono ?_; rintro e w1 ⟨rfl, rfl⟩) | go_in)
  refine wp_loop_rounds 3 ?_
  repeat any_goals (rw [rounds_succ]; go_wp2)
  all_goals go_returns
  all_goals exact ⟨rfl, by go_grown⟩

set_option maxHeartbeats 1000000 in
theorem impl_lg2_to (k' n' : Int) (s' : ByteArray) (ws' : s'.size ≤ 9223372036854775807) (hb : valOk k' n' s' = true) (h0 : ¬ k' = 0) (h3 : ¬ k' = 3) (w : World) :
    Calls Try.prog 33 #[.int .i64 2, .agg #[.int .i64 3, .int .i64 1, .string ByteArray.empty], .agg #[.int .i64 k', .int .i64 n', .string s']] w fun e w' => e = .returned (.tuple #[.agg #[.int .i64 (clK 2 3 1 ByteArray.empty k' n' s'), .int .i64 (clN 2 3 1 ByteArray.empty k' n' s'), .string (clS 2 3 1 ByteArray.empty k' n' s')], .int .i64 (clE 2 3 1 ByteArray.empty k' n' s')]) ∧ Below w.heap.size w w' := by
  have e1 : clK 2 3 1 ByteArray.empty k' n' s' = 0 := by simp [clK, door, vat, hb, h0, h3, lgE, lgK]
  have e2 : clN 2 3 1 ByteArray.empty k' n' s' = 0 := by simp [clN, door, vat, hb, h0, h3, lgE, lgN]
  have e3 : clS 2 3 1 ByteArray.empty k' n' s' = ByteArray.empty := by simp [clS, door, vat, hb]
  have e4 : clE 2 3 1 ByteArray.empty k' n' s' = 1 := by simp [clE, door, vat, hb, h0, h3, lgE]
  rw [e1, e2, e3, e4]
  clear e1 e2 e3 e4
  have wz := size_zero
  have hq := vat
  have g0 : (k' != 0) = true := by simpa using h0
  have g3 : (k' != 3) = true := by simpa using h3
  have g0' : (k' == 0) = false := by simpa using h0
  have g3' : (k' == 3) = false := by simpa using h3
  go_enter Try.func33, Try.ntmps33
  go_wp2_with (first | (go_at_call 57; refine (implValueOkX _ _ _ _ (by assumption)).mono ?_; rintro e w1 ⟨rfl, rfl⟩) | go_in)
  refine wp_loop_rounds 3 ?_
  repeat any_goals (rw [rounds_succ]; go_wp2)
  all_goals go_returns
  all_goals exact ⟨rfl, by go_grown⟩

set_option maxHeartbeats 1000000 in
theorem impl_lg2_tn  (w : World) :
    Calls Try.prog 33 #[.int .i64 2, .agg #[.int .i64 3, .int .i64 1, .string ByteArray.empty], .agg #[.int .i64 0, .int .i64 0, .string ByteArray.empty]] w fun e w' => e = .returned (.tuple #[.agg #[.int .i64 (clK 2 3 1 ByteArray.empty 0 0 ByteArray.empty), .int .i64 (clN 2 3 1 ByteArray.empty 0 0 ByteArray.empty), .string (clS 2 3 1 ByteArray.empty 0 0 ByteArray.empty)], .int .i64 (clE 2 3 1 ByteArray.empty 0 0 ByteArray.empty)]) ∧ Below w.heap.size w w' := by
  have e1 : clK 2 3 1 ByteArray.empty 0 0 ByteArray.empty = 0 := by simp [clK, door, vat, van, lgE, lgK]
  have e2 : clN 2 3 1 ByteArray.empty 0 0 ByteArray.empty = 0 := by simp [clN, door, vat, van, lgE, lgN]
  have e3 : clS 2 3 1 ByteArray.empty 0 0 ByteArray.empty = ByteArray.empty := by simp [clS, door, vat, van]
  have e4 : clE 2 3 1 ByteArray.empty 0 0 ByteArray.empty = 0 := by simp [clE, door, vat, van, lgE]
  rw [e1, e2, e3, e4]
  clear e1 e2 e3 e4
  have wz := size_zero
  have hq := vat
  have hq' := van
  go_enter Try.func33, Try.ntmps33
  go_wp2_with (first | (go_at_call 57; refine (implValueOkX _ _ _ _ (by assumption)).mono ?_; rintro e w1 ⟨rfl, rfl⟩) | go_in)
  refine wp_loop_rounds 3 ?_
  repeat any_goals (rw [rounds_succ]; go_wp2)
  all_goals go_returns
  all_goals exact ⟨rfl, by go_grown⟩

set_option maxHeartbeats 1000000 in
theorem impl_lg2_tf  (w : World) :
    Calls Try.prog 33 #[.int .i64 2, .agg #[.int .i64 3, .int .i64 1, .string ByteArray.empty], .agg #[.int .i64 3, .int .i64 0, .string ByteArray.empty]] w fun e w' => e = .returned (.tuple #[.agg #[.int .i64 (clK 2 3 1 ByteArray.empty 3 0 ByteArray.empty), .int .i64 (clN 2 3 1 ByteArray.empty 3 0 ByteArray.empty), .string (clS 2 3 1 ByteArray.empty 3 0 ByteArray.empty)], .int .i64 (clE 2 3 1 ByteArray.empty 3 0 ByteArray.empty)]) ∧ Below w.heap.size w w' := by
  have e1 : clK 2 3 1 ByteArray.empty 3 0 ByteArray.empty = 3 := by simp [clK, door, vat, vaf, lgE, lgK]
  have e2 : clN 2 3 1 ByteArray.empty 3 0 ByteArray.empty = 0 := by simp [clN, door, vat, vaf, lgE, lgN]
  have e3 : clS 2 3 1 ByteArray.empty 3 0 ByteArray.empty = ByteArray.empty := by simp [clS, door, vat, vaf]
  have e4 : clE 2 3 1 ByteArray.empty 3 0 ByteArray.empty = 0 := by simp [clE, door, vat, vaf, lgE]
  rw [e1, e2, e3, e4]
  clear e1 e2 e3 e4
  have wz := size_zero
  have hq := vat
  have hq' := vaf
  go_enter Try.func33, Try.ntmps33
  go_wp2_with (first | (go_at_call 57; refine (implValueOkX _ _ _ _ (by assumption)).mono ?_; rintro e w1 ⟨rfl, rfl⟩) | go_in)
  refine wp_loop_rounds 3 ?_
  repeat any_goals (rw [rounds_succ]; go_wp2)
  all_goals go_returns
  all_goals exact ⟨rfl, by go_grown⟩

set_option maxHeartbeats 1000000 in
theorem impl_lg2_tt  (w : World) :
    Calls Try.prog 33 #[.int .i64 2, .agg #[.int .i64 3, .int .i64 1, .string ByteArray.empty], .agg #[.int .i64 3, .int .i64 1, .string ByteArray.empty]] w fun e w' => e = .returned (.tuple #[.agg #[.int .i64 (clK 2 3 1 ByteArray.empty 3 1 ByteArray.empty), .int .i64 (clN 2 3 1 ByteArray.empty 3 1 ByteArray.empty), .string (clS 2 3 1 ByteArray.empty 3 1 ByteArray.empty)], .int .i64 (clE 2 3 1 ByteArray.empty 3 1 ByteArray.empty)]) ∧ Below w.heap.size w w' := by
  have e1 : clK 2 3 1 ByteArray.empty 3 1 ByteArray.empty = 3 := by simp [clK, door, vat, vat, lgE, lgK]
  have e2 : clN 2 3 1 ByteArray.empty 3 1 ByteArray.empty = 1 := by simp [clN, door, vat, vat, lgE, lgN]
  have e3 : clS 2 3 1 ByteArray.empty 3 1 ByteArray.empty = ByteArray.empty := by simp [clS, door, vat, vat]
  have e4 : clE 2 3 1 ByteArray.empty 3 1 ByteArray.empty = 0 := by simp [clE, door, vat, vat, lgE]
  rw [e1, e2, e3, e4]
  clear e1 e2 e3 e4
  have wz := size_zero
  have hq := vat
  go_enter Try.func33, Try.ntmps33
  go_wp2_with (first | (go_at_call 57; refine (implValueOkX _ _ _ _ (by assumption)).mono ?_; rintro e w1 ⟨rfl, rfl⟩) | go_in)
  refine wp_loop_rounds 3 ?_
  repeat any_goals (rw [rounds_succ]; go_wp2)
  all_goals go_returns
  all_goals exact ⟨rfl, by go_grown⟩

end Go.Proofs.Ytnamikhhbedpeaa
