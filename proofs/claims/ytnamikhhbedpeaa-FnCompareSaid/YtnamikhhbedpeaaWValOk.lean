/-
  What ValueOk says of a value, in the program and in the reference.
-/
import Derived.Test.YtnamikhhbedpeaaRows
import Derived.WalkKit
import Derived.WalkLawsBesides
import Derived.WalkSpells
import Derived.Handy
import Derived.Deep.Light
import Derived.Test.YtnamikhhbedpeaaM1
import Derived.Test.YtnamikhhbedpeaaB
namespace Go.Proofs.Ytnamikhhbedpeaa
open Go.RowKit

/-- What ValueOk says of a value's three fields. -/
def valOk (k n : Int) (s : ByteArray) : Bool :=
  if k = 0 then n == 0 && s.toList.isEmpty else if k = 1 then s.toList.isEmpty else if k = 2 then n == 0 && decide (s.size ≤ 200) else if k = 3 then (n == 0 || n == 1) && s.toList.isEmpty else false

set_option maxHeartbeats 400000 in
theorem specValueOk (k n : Int) (s : ByteArray) (w : World) (ws : s.size ≤ 9223372036854775807) :
    Calls Try.prog 70 #[.agg #[.int .i64 k, .int .i64 n, .string s]] w fun e w' => e = .returned (.bool (valOk k n s)) ∧ Below w.heap.size w w' := by
  go_enter Try.func70, Try.ntmps70
  go_wp2
  all_goals go_ret
  all_goals refine ⟨ret_bool ?_, by go_grown⟩
  all_goals go_light
  all_goals simp_all [valOk]
  all_goals omega
set_option maxHeartbeats 400000 in
theorem implValueOk (k n : Int) (s : ByteArray) (w : World) (ws : s.size ≤ 9223372036854775807) :
    Calls Try.prog 57 #[.agg #[.int .i64 k, .int .i64 n, .string s]] w fun e w' => e = .returned (.bool (valOk k n s)) ∧ Below w.heap.size w w' := by
  go_enter Try.func57, Try.ntmps57
  go_wp2
  all_goals go_ret
  all_goals refine ⟨ret_bool ?_, by go_grown⟩
  all_goals go_light
  all_goals simp_all [valOk]
  all_goals omega

end Go.Proofs.Ytnamikhhbedpeaa
