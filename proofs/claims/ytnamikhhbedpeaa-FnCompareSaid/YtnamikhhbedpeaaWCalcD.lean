/-
  What Calc computes: the definitions, and the contracts of what it calls with the very world that they leave.
-/
import Derived.Test.YtnamikhhbedpeaaRows
import Derived.WalkKit
import Derived.WalkLawsBesides
import Derived.WalkSpells
import Derived.Handy
import Derived.Deep.Light
import Derived.StillTailTactics
import Derived.Test.YtnamikhhbedpeaaM1
import Derived.Test.YtnamikhhbedpeaaB
import Derived.Test.YtnamikhhbedpeaaWOrd
import Derived.Test.YtnamikhhbedpeaaWUnary
namespace Go.Proofs.Ytnamikhhbedpeaa
open Go.RowKit

/-- What is turned away at the door. -/
def door (op k n : Int) (s : ByteArray) (k' n' : Int) (s' : ByteArray) : Bool := decide (op < 1) || decide (14 < op) || !valOk k n s || !valOk k' n' s'
def lgE (k k' : Int) : Int := if (¬ k = 0 ∧ ¬ k = 3) ∨ (¬ k' = 0 ∧ ¬ k' = 3) then 1 else 0
def lgK (op k n k' n' : Int) : Int := if lgE k k' = 1 then 0 else if (k = 3 ∧ n = if op = 1 then 1 else 0) ∨ (k' = 3 ∧ n' = if op = 1 then 1 else 0) then 3 else if k = 0 ∨ k' = 0 then 0 else 3
def lgN (op k n k' n' : Int) : Int := if lgE k k' = 1 then 0 else if (k = 3 ∧ n = if op = 1 then 1 else 0) ∨ (k' = 3 ∧ n' = if op = 1 then 1 else 0) then (if op = 1 then 1 else 0) else if k = 0 ∨ k' = 0 then 0 else if op = 2 then 1 else 0
def cmpB (op c : Int) : Int := if (op = 3 ∧ c = 0) ∨ (op = 4 ∧ ¬ c = 0) ∨ (op = 5 ∧ c < 0) ∨ (op = 6 ∧ c ≤ 0) ∨ (op = 7 ∧ 0 < c) ∨ (op = 8 ∧ 0 ≤ c) then 1 else 0
def clE (op k n : Int) (s : ByteArray) (k' n' : Int) (s' : ByteArray) : Int :=
  if door op k n s k' n' s' = true then 1 else if op ≤ 2 then lgE k k'
  else if op ≤ 8 then (if k = 0 then 0 else if k' = 0 then 0 else if k = k' then 0 else 1)
  else if op = 9 then (if ¬ k = 0 ∧ ¬ k = 2 then 1 else if ¬ k' = 0 ∧ ¬ k' = 2 then 1 else if k = 0 then 0 else if k' = 0 then 0 else if 200 < s.size + s'.size then 2 else 0)
  else if ¬ k = 0 ∧ ¬ k = 1 then 1 else if ¬ k' = 0 ∧ ¬ k' = 1 then 1 else if k = 0 then 0 else if k' = 0 then 0 else arE op n n'
def clK (op k n : Int) (s : ByteArray) (k' n' : Int) (s' : ByteArray) : Int :=
  if door op k n s k' n' s' = true then 0 else if op ≤ 2 then lgK op k n k' n'
  else if op ≤ 8 then (if k = 0 then 0 else if k' = 0 then 0 else if k = k' then 3 else 0)
  else if op = 9 then (if ¬ k = 0 ∧ ¬ k = 2 then 0 else if ¬ k' = 0 ∧ ¬ k' = 2 then 0 else if k = 0 then 0 else if k' = 0 then 0 else if 200 < s.size + s'.size then 0 else 2)
  else if ¬ k = 0 ∧ ¬ k = 1 then 0 else if ¬ k' = 0 ∧ ¬ k' = 1 then 0 else if k = 0 then 0 else if k' = 0 then 0 else arK op n n'
def clN (op k n : Int) (s : ByteArray) (k' n' : Int) (s' : ByteArray) : Int :=
  if door op k n s k' n' s' = true then 0 else if op ≤ 2 then lgN op k n k' n'
  else if op ≤ 8 then (if k = 0 then 0 else if k' = 0 then 0 else if k = k' then cmpB op (ordF k n s.toList k' n' s'.toList) else 0)
  else if op = 9 then 0
  else if ¬ k = 0 ∧ ¬ k = 1 then 0 else if ¬ k' = 0 ∧ ¬ k' = 1 then 0 else if k = 0 then 0 else if k' = 0 then 0 else arN op n n'
def clS (op k n : Int) (s : ByteArray) (k' n' : Int) (s' : ByteArray) : ByteArray :=
  if door op k n s k' n' s' = true then ByteArray.empty else if op = 9 then (if ¬ k = 0 ∧ ¬ k = 2 then ByteArray.empty else if ¬ k' = 0 ∧ ¬ k' = 2 then ByteArray.empty else if k = 0 then ByteArray.empty else if k' = 0 then ByteArray.empty else if 200 < s.size + s'.size then ByteArray.empty else s ++ s')
  else ByteArray.empty

theorem empty_toList : ByteArray.empty.toList = [] := by rw [ByteArray.toList_eq]; rfl
theorem van : valOk 0 0 ByteArray.empty = true := by simp [valOk]
theorem vaf : valOk 3 0 ByteArray.empty = true := by simp [valOk]
theorem vat : valOk 3 1 ByteArray.empty = true := by simp [valOk]
theorem vai (n : Int) : valOk 1 n ByteArray.empty = true := by
  simp [valOk]
theorem size_zero : ByteArray.empty.size ≤ 9223372036854775807 := by decide
theorem valOk_text {s : ByteArray} (h : valOk 2 0 s = true) : s.size ≤ 200 := by simpa [valOk] using h

set_option maxHeartbeats 400000 in
theorem specValueOkX (k n : Int) (s : ByteArray) (w : World) (ws : s.size ≤ 9223372036854775807) :
    Calls Try.prog 70 #[.agg #[.int .i64 k, .int .i64 n, .string s]] w fun e w' => e = .returned (.bool (valOk k n s)) ∧ w.alloc (.cells #[.int .i64 k, .int .i64 n, .string s] 41) = w' := by
  go_enter Try.func70, Try.ntmps70
  go_wp2
  all_goals go_ret
  all_goals refine ⟨ret_bool ?_, ?_⟩
  all_goals go_light
  all_goals simp_all [valOk]
  all_goals omega
set_option maxHeartbeats 400000 in
theorem implValueOkX (k n : Int) (s : ByteArray) (w : World) (ws : s.size ≤ 9223372036854775807) :
    Calls Try.prog 57 #[.agg #[.int .i64 k, .int .i64 n, .string s]] w fun e w' => e = .returned (.bool (valOk k n s)) ∧ w.alloc (.cells #[.int .i64 k, .int .i64 n, .string s] 41) = w' := by
  go_enter Try.func57, Try.ntmps57
  go_wp2
  all_goals go_ret
  all_goals refine ⟨ret_bool ?_, ?_⟩
  all_goals go_light
  all_goals simp_all [valOk]
  all_goals omega

set_option maxHeartbeats 400000 in
theorem specOrderX (k n : Int) (s : ByteArray) (k' n' : Int) (s' : ByteArray) (w : World) :
    Calls Try.prog 67 #[.agg #[.int .i64 k, .int .i64 n, .string s], .agg #[.int .i64 k', .int .i64 n', .string s']] w fun e w' => e = .returned (.int .i64 (ordF k n s.toList k' n' s'.toList)) ∧
      (w.alloc (.cells #[.int .i64 k, .int .i64 n, .string s] 41)).alloc (.cells #[.int .i64 k', .int .i64 n', .string s'] 41) = w' := by
  go_enter Try.func67, Try.ntmps67
  go_wp2
  all_goals go_ret
  all_goals refine ⟨ret_int ?_, ?_⟩
  all_goals go_light
  all_goals simp_all [ordF, cmpI, cmpS]
  all_goals omega

set_option maxRecDepth 100000 in
set_option maxHeartbeats 400000 in
theorem implOrderX (k n : Int) (s : ByteArray) (k' n' : Int) (s' : ByteArray)  (w : World) :
    Calls Try.prog 30 #[.agg #[.int .i64 k, .int .i64 n, .string s], .agg #[.int .i64 k', .int .i64 n', .string s']] w fun e w' => e = .returned (.int .i64 (ordF k n s.toList k' n' s'.toList)) ∧
      (((w.alloc (.cells #[.int .i64 k, .int .i64 n, .string s] 41)).alloc (.cells #[.int .i64 k', .int .i64 n', .string s'] 41)).alloc (.cells #[.int .i64 (cmpI k k'), .int .i64 (cmpI n n'), .int .i64 (cmpS s.toList s'.toList)] 3)).drew = w' := by
  go_enter Try.func30, Try.ntmps30
  go_wp2_with fail
  refine wp_region_still_tail 15 (by kernel_rfl) (by kernel_rfl) ?_
  simp only [List.take_succ_cons, List.take_zero, List.drop_succ_cons, List.drop_zero]
  change wpStill _ _ (World.drew _) (fun a' => wpList _ _ _ _ a' (World.drew _)) _ _
  repeat (first | still_step | still_call (cmpInt _ _ _) | still_call (cmpStr _ _ _))
  refine wpStill_nil ?_
  go_wp2_with fail
  refine (cmpOr3 (cmpI k k') (cmpI n n') (cmpS s.toList s'.toList) _ _ ?_ ?_ ?_).mono ?_
  · simp [go_sem]
  · simp [go_sem]
  · simp [go_sem]
  rintro e w1 ⟨rfl, rfl⟩
  go_wp2
  all_goals go_ret
  all_goals refine ⟨ret_int ?_, ?_⟩
  all_goals go_light
  all_goals simp_all [ordF]
end Go.Proofs.Ytnamikhhbedpeaa
