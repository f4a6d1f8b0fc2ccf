/-
  Calc: some of its cases, in the reference.
-/
import Derived.Test.YtnamikhhbedpeaaRows
import Derived.WalkKit
import Derived.WalkLawsBesides
import Derived.WalkSpells
import Derived.Handy
import Derived.Deep.Light
import Derived.Test.YtnamikhhbedpeaaM1
import Derived.Test.YtnamikhhbedpeaaB
import Derived.Test.YtnamikhhbedpeaaWCalcD
namespace Go.Proofs.Ytnamikhhbedpeaa
open Go.RowKit

set_option maxHeartbeats 1000000 in
theorem spec_d13_zero (n : Int) (w : World) :
    Calls Try.prog 45 #[.int .i64 13, .agg #[.int .i64 1, .int .i64 n, .string ByteArray.empty], .agg #[.int .i64 1, .int .i64 0, .string ByteArray.empty]] w fun e w' => e = .returned (.tuple #[.agg #[.int .i64 (clK 13 1 n ByteArray.empty 1 0 ByteArray.empty), .int .i64 (clN 13 1 n ByteArray.empty 1 0 ByteArray.empty), .string (clS 13 1 n ByteArray.empty 1 0 ByteArray.empty)], .int .i64 (clE 13 1 n ByteArray.empty 1 0 ByteArray.empty)]) ∧ Below w.heap.size w w' := by
  have e1 : clK 13 1 n ByteArray.empty 1 0 ByteArray.empty = 0 := by simp [clK, door, vai n, vai 0, arK]
  have e2 : clN 13 1 n ByteArray.empty 1 0 ByteArray.empty = 0 := by simp [clN, door, vai n, vai 0, arN]
  have e3 : clS 13 1 n ByteArray.empty 1 0 ByteArray.empty = ByteArray.empty := by simp [clS, door, vai n, vai 0]
  have e4 : clE 13 1 n ByteArray.empty 1 0 ByteArray.empty = 3 := by simp [clE, door, vai n, vai 0, arE]
  rw [e1, e2, e3, e4]
  clear e1 e2 e3 e4
  have wz := size_zero
  have hq := vai n
  have hq' := vai 0
  go_enter Try.func45, Try.ntmps45
  go_wp2_with (first | (go_at_call 70; refine (specValueOkX _ _ _ _ (by assumption)).mono ?_; rintro e w1 ⟨rfl, rfl⟩) | go_in)
  all_goals go_returns
  all_goals exact ⟨rfl, by go_grown⟩

set_option maxHeartbeats 1000000 in
theorem spec_d14_zero (n : Int) (w : World) :
    Calls Try.prog 45 #[.int .i64 14, .agg #[.int .i64 1, .int .i64 n, .string ByteArray.empty], .agg #[.int .i64 1, .int .i64 0, .string ByteArray.empty]] w fun e w' => e = .returned (.tuple #[.agg #[.int .i64 (clK 14 1 n ByteArray.empty 1 0 ByteArray.empty), .int .i64 (clN 14 1 n ByteArray.empty 1 0 ByteArray.empty), .string (clS 14 1 n ByteArray.empty 1 0 ByteArray.empty)], .int .i64 (clE 14 1 n ByteArray.empty 1 0 ByteArray.empty)]) ∧ Below w.heap.size w w' := by
  have e1 : clK 14 1 n ByteArray.empty 1 0 ByteArray.empty = 0 := by simp [clK, door, vai n, vai 0, arK]
  have e2 : clN 14 1 n ByteArray.empty 1 0 ByteArray.empty = 0 := by simp [clN, door, vai n, vai 0, arN]
  have e3 : clS 14 1 n ByteArray.empty 1 0 ByteArray.empty = ByteArray.empty := by simp [clS, door, vai n, vai 0]
  have e4 : clE 14 1 n ByteArray.empty 1 0 ByteArray.empty = 3 := by simp [clE, door, vai n, vai 0, arE]
  rw [e1, e2, e3, e4]
  clear e1 e2 e3 e4
  have wz := size_zero
  have hq := vai n
  have hq' := vai 0
  go_enter Try.func45, Try.ntmps45
  go_wp2_with (first | (go_at_call 70; refine (specValueOkX _ _ _ _ (by assumption)).mono ?_; rintro e w1 ⟨rfl, rfl⟩) | go_in)
  all_goals go_returns
  all_goals exact ⟨rfl, by go_grown⟩

set_option maxHeartbeats 1000000 in
theorem spec_d13_min  (w : World) :
    Calls Try.prog 45 #[.int .i64 13, .agg #[.int .i64 1, .int .i64 (-9223372036854775808), .string ByteArray.empty], .agg #[.int .i64 1, .int .i64 (-1), .string ByteArray.empty]] w fun e w' => e = .returned (.tuple #[.agg #[.int .i64 (clK 13 1 (-9223372036854775808) ByteArray.empty 1 (-1) ByteArray.empty), .int .i64 (clN 13 1 (-9223372036854775808) ByteArray.empty 1 (-1) ByteArray.empty), .string (clS 13 1 (-9223372036854775808) ByteArray.empty 1 (-1) ByteArray.empty)], .int .i64 (clE 13 1 (-9223372036854775808) ByteArray.empty 1 (-1) ByteArray.empty)]) ∧ Below w.heap.size w w' := by
  have e1 : clK 13 1 (-9223372036854775808) ByteArray.empty 1 (-1) ByteArray.empty = 0 := by simp [clK, door, vai, arK]
  have e2 : clN 13 1 (-9223372036854775808) ByteArray.empty 1 (-1) ByteArray.empty = 0 := by simp [clN, door, vai, arN]
  have e3 : clS 13 1 (-9223372036854775808) ByteArray.empty 1 (-1) ByteArray.empty = ByteArray.empty := by simp [clS, door, vai]
  have e4 : clE 13 1 (-9223372036854775808) ByteArray.empty 1 (-1) ByteArray.empty = 2 := by simp [clE, door, vai, arE]
  rw [e1, e2, e3, e4]
  clear e1 e2 e3 e4
  have wz := size_zero
  have hq := vai (-9223372036854775808)
  have hq' := vai (-1)
  have k1 : subOk 0 (-9223372036854775808) = false := by simp [subOk]
  have k2 : subN 0 (-9223372036854775808) = 0 := by simp [subN, k1]
  go_enter Try.func45, Try.ntmps45
  go_wp2_with (first | (go_at_call 70; refine (specValueOkX _ _ _ _ (by assumption)).mono ?_; rintro e w1 ⟨rfl, rfl⟩) | (go_at_call 24; refine (specSub 0 _ _ (by decide) (by first | assumption | decide)).mono ?_; rintro e w1 ⟨rfl, rfl⟩) | go_in)
  all_goals go_returns
  all_goals exact ⟨rfl, by go_grown⟩

set_option maxHeartbeats 1000000 in
theorem spec_d13_one (n : Int) (wn : (Lit.int .i64 n).wf = true) (hx : ¬ n = -9223372036854775808) (w : World) :
    Calls Try.prog 45 #[.int .i64 13, .agg #[.int .i64 1, .int .i64 n, .string ByteArray.empty], .agg #[.int .i64 1, .int .i64 (-1), .string ByteArray.empty]] w fun e w' => e = .returned (.tuple #[.agg #[.int .i64 (clK 13 1 n ByteArray.empty 1 (-1) ByteArray.empty), .int .i64 (clN 13 1 n ByteArray.empty 1 (-1) ByteArray.empty), .string (clS 13 1 n ByteArray.empty 1 (-1) ByteArray.empty)], .int .i64 (clE 13 1 n ByteArray.empty 1 (-1) ByteArray.empty)]) ∧ Below w.heap.size w w' := by
  have e1 : clK 13 1 n ByteArray.empty 1 (-1) ByteArray.empty = 1 := by simp [clK, door, vai, arK, hx]
  have e2 : clN 13 1 n ByteArray.empty 1 (-1) ByteArray.empty = (-n) := by simp [clN, door, vai, arN, hx, Int.tdiv_neg, Int.tdiv_one]
  have e3 : clS 13 1 n ByteArray.empty 1 (-1) ByteArray.empty = ByteArray.empty := by simp [clS, door, vai]
  have e4 : clE 13 1 n ByteArray.empty 1 (-1) ByteArray.empty = 0 := by simp [clE, door, vai, arE, hx]
  rw [e1, e2, e3, e4]
  clear e1 e2 e3 e4
  have wz := size_zero
  have hq := vai n
  have hq' := vai (-1)
  have hbd := bounds_i64 wn
  have k1 : subOk 0 n = true := by simp [subOk]; omega
  have k2 : subN 0 n = -n := by simp [subN, k1]
  have g1 : (n == -9223372036854775808) = false := by simpa using hx
  have t1 : n.tdiv (-1) = -n := by rw [Int.tdiv_neg, Int.tdiv_one]
  have t2 : wrap64 (-n) = -n := by unfold wrap64; omega
  go_enter Try.func45, Try.ntmps45
  go_wp2_with (first | (go_at_call 70; refine (specValueOkX _ _ _ _ (by assumption)).mono ?_; rintro e w1 ⟨rfl, rfl⟩) | (go_at_call 24; refine (specSub 0 _ _ (by decide) (by first | assumption | decide)).mono ?_; rintro e w1 ⟨rfl, rfl⟩) | go_in)
  all_goals go_returns
  all_goals exact ⟨rfl, by go_grown⟩

set_option maxHeartbeats 1000000 in
theorem spec_d13_a (n n' : Int) (wn : (Lit.int .i64 n).wf = true) (_wn' : (Lit.int .i64 n').wf = true) (h0 : ¬ n' = 0) (hm : ¬ n' = -1) (_hc : (n == -9223372036854775808) = true) (w : World) :
    Calls Try.prog 45 #[.int .i64 13, .agg #[.int .i64 1, .int .i64 n, .string ByteArray.empty], .agg #[.int .i64 1, .int .i64 n', .string ByteArray.empty]] w fun e w' => e = .returned (.tuple #[.agg #[.int .i64 (clK 13 1 n ByteArray.empty 1 n' ByteArray.empty), .int .i64 (clN 13 1 n ByteArray.empty 1 n' ByteArray.empty), .string (clS 13 1 n ByteArray.empty 1 n' ByteArray.empty)], .int .i64 (clE 13 1 n ByteArray.empty 1 n' ByteArray.empty)]) ∧ Below w.heap.size w w' := by
  have e1 : clK 13 1 n ByteArray.empty 1 n' ByteArray.empty = 1 := by simp [clK, door, vai, arK, h0, hm]
  have e2 : clN 13 1 n ByteArray.empty 1 n' ByteArray.empty = (n.tdiv n') := by simp [clN, door, vai, arN, h0, hm]
  have e3 : clS 13 1 n ByteArray.empty 1 n' ByteArray.empty = ByteArray.empty := by simp [clS, door, vai]
  have e4 : clE 13 1 n ByteArray.empty 1 n' ByteArray.empty = 0 := by simp [clE, door, vai, arE, h0, hm]
  rw [e1, e2, e3, e4]
  clear e1 e2 e3 e4
  have wz := size_zero
  have hq := vai n
  have hq' := vai n'
  have hbd := bounds_i64 wn
  have t2 := tdiv_wrap n n' hbd.1 hbd.2 h0 (fun h => hm h.2)
  have g0 : (n' == 0) = false := by simpa using h0
  have g1 : (n' == -1) = false := by simpa using hm
  go_enter Try.func45, Try.ntmps45
  go_wp2_with (first | (go_at_call 70; refine (specValueOkX _ _ _ _ (by assumption)).mono ?_; rintro e w1 ⟨rfl, rfl⟩) | go_in)
  all_goals go_returns
  all_goals exact ⟨rfl, by go_grown⟩

set_option maxHeartbeats 1000000 in
theorem spec_d13_b (n n' : Int) (wn : (Lit.int .i64 n).wf = true) (_wn' : (Lit.int .i64 n').wf = true) (h0 : ¬ n' = 0) (hm : ¬ n' = -1) (_hc : (n == -9223372036854775808) = false) (w : World) :
    Calls Try.prog 45 #[.int .i64 13, .agg #[.int .i64 1, .int .i64 n, .string ByteArray.empty], .agg #[.int .i64 1, .int .i64 n', .string ByteArray.empty]] w fun e w' => e = .returned (.tuple #[.agg #[.int .i64 (clK 13 1 n ByteArray.empty 1 n' ByteArray.empty), .int .i64 (clN 13 1 n ByteArray.empty 1 n' ByteArray.empty), .string (clS 13 1 n ByteArray.empty 1 n' ByteArray.empty)], .int .i64 (clE 13 1 n ByteArray.empty 1 n' ByteArray.empty)]) ∧ Below w.heap.size w w' := by
  have e1 : clK 13 1 n ByteArray.empty 1 n' ByteArray.empty = 1 := by simp [clK, door, vai, arK, h0, hm]
  have e2 : clN 13 1 n ByteArray.empty 1 n' ByteArray.empty = (n.tdiv n') := by simp [clN, door, vai, arN, h0, hm]
  have e3 : clS 13 1 n ByteArray.empty 1 n' ByteArray.empty = ByteArray.empty := by simp [clS, door, vai]
  have e4 : clE 13 1 n ByteArray.empty 1 n' ByteArray.empty = 0 := by simp [clE, door, vai, arE, h0, hm]
  rw [e1, e2, e3, e4]
  clear e1 e2 e3 e4
  have wz := size_zero
  have hq := vai n
  have hq' := vai n'
  have hbd := bounds_i64 wn
  have t2 := tdiv_wrap n n' hbd.1 hbd.2 h0 (fun h => hm h.2)
  have g0 : (n' == 0) = false := by simpa using h0
  have g1 : (n' == -1) = false := by simpa using hm
  go_enter Try.func45, Try.ntmps45
  go_wp2_with (first | (go_at_call 70; refine (specValueOkX _ _ _ _ (by assumption)).mono ?_; rintro e w1 ⟨rfl, rfl⟩) | go_in)
  all_goals go_returns
  all_goals exact ⟨rfl, by go_grown⟩

set_option maxHeartbeats 1000000 in
theorem spec_d14_one (n : Int) (_wn : (Lit.int .i64 n).wf = true) (w : World) :
    Calls Try.prog 45 #[.int .i64 14, .agg #[.int .i64 1, .int .i64 n, .string ByteArray.empty], .agg #[.int .i64 1, .int .i64 (-1), .string ByteArray.empty]] w fun e w' => e = .returned (.tuple #[.agg #[.int .i64 (clK 14 1 n ByteArray.empty 1 (-1) ByteArray.empty), .int .i64 (clN 14 1 n ByteArray.empty 1 (-1) ByteArray.empty), .string (clS 14 1 n ByteArray.empty 1 (-1) ByteArray.empty)], .int .i64 (clE 14 1 n ByteArray.empty 1 (-1) ByteArray.empty)]) ∧ Below w.heap.size w w' := by
  have e1 : clK 14 1 n ByteArray.empty 1 (-1) ByteArray.empty = 1 := by simp [clK, door, vai, arK]
  have e2 : clN 14 1 n ByteArray.empty 1 (-1) ByteArray.empty = 0 := by simp [clN, door, vai, arN, Int.tmod_neg, Int.tmod_one]
  have e3 : clS 14 1 n ByteArray.empty 1 (-1) ByteArray.empty = ByteArray.empty := by simp [clS, door, vai]
  have e4 : clE 14 1 n ByteArray.empty 1 (-1) ByteArray.empty = 0 := by simp [clE, door, vai, arE]
  rw [e1, e2, e3, e4]
  clear e1 e2 e3 e4
  have wz := size_zero
  have hq := vai n
  have hq' := vai (-1)
  have t1 : n.tmod (-1) = 0 := by rw [Int.tmod_neg, Int.tmod_one]
  have t2 : wrap64 0 = 0 := by simp [wrap64]
  go_enter Try.func45, Try.ntmps45
  go_wp2_with (first | (go_at_call 70; refine (specValueOkX _ _ _ _ (by assumption)).mono ?_; rintro e w1 ⟨rfl, rfl⟩) | go_in)
  all_goals go_returns
  all_goals exact ⟨rfl, by go_grown⟩

set_option maxHeartbeats 1000000 in
theorem spec_d14 (n n' : Int) (wn : (Lit.int .i64 n).wf = true) (_wn' : (Lit.int .i64 n').wf = true) (h0 : ¬ n' = 0) (hm : ¬ n' = -1) (w : World) :
    Calls Try.prog 45 #[.int .i64 14, .agg #[.int .i64 1, .int .i64 n, .string ByteArray.empty], .agg #[.int .i64 1, .int .i64 n', .string ByteArray.empty]] w fun e w' => e = .returned (.tuple #[.agg #[.int .i64 (clK 14 1 n ByteArray.empty 1 n' ByteArray.empty), .int .i64 (clN 14 1 n ByteArray.empty 1 n' ByteArray.empty), .string (clS 14 1 n ByteArray.empty 1 n' ByteArray.empty)], .int .i64 (clE 14 1 n ByteArray.empty 1 n' ByteArray.empty)]) ∧ Below w.heap.size w w' := by
  have e1 : clK 14 1 n ByteArray.empty 1 n' ByteArray.empty = 1 := by simp [clK, door, vai, arK, h0]
  have e2 : clN 14 1 n ByteArray.empty 1 n' ByteArray.empty = (n.tmod n') := by simp [clN, door, vai, arN, h0]
  have e3 : clS 14 1 n ByteArray.empty 1 n' ByteArray.empty = ByteArray.empty := by simp [clS, door, vai]
  have e4 : clE 14 1 n ByteArray.empty 1 n' ByteArray.empty = 0 := by simp [clE, door, vai, arE, h0]
  rw [e1, e2, e3, e4]
  clear e1 e2 e3 e4
  have wz := size_zero
  have hq := vai n
  have hq' := vai n'
  have hbd := bounds_i64 wn
  have t2 := tmod_wrap n n' hbd.1 hbd.2
  have g0 : (n' == 0) = false := by simpa using h0
  have g1 : (n' == -1) = false := by simpa using hm
  go_enter Try.func45, Try.ntmps45
  go_wp2_with (first | (go_at_call 70; refine (specValueOkX _ _ _ _ (by assumption)).mono ?_; rintro e w1 ⟨rfl, rfl⟩) | go_in)
  all_goals go_returns
  all_goals exact ⟨rfl, by go_grown⟩

end Go.Proofs.Ytnamikhhbedpeaa
