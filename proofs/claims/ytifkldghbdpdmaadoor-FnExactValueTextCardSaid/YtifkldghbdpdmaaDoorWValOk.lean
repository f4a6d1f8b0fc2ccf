/-
  What ValueOk says of a value, in the program and in the reference.
-/
import Derived.Test.YtifkldghbdpdmaaDoorRows
import Derived.WalkKit
import Derived.WalkLawsBesides
import Derived.WalkSpells
import Derived.Handy
import Derived.Deep.Light
import Derived.Test.YtifkldghbdpdmaaDoorM1
import Derived.Test.YtifkldghbdpdmaaDoorB
namespace Go.Proofs.YtifkldghbdpdmaaDoor
open Go.RowKit

/-- What ValueOk says of a value's three fields. -/
def valOk (k n : Int) (s : ByteArray) : Bool :=
  if k = 0 then n == 0 && s.toList.isEmpty else if k = 1 then s.toList.isEmpty else if k = 2 then n == 0 && decide (s.size ≤ 200) else if k = 3 then (n == 0 || n == 1) && s.toList.isEmpty else false

set_option maxHeartbeats 400000 in
theorem specValueOk (k n : Int) (s : ByteArray) (w : World) (ws : s.size ≤ 9223372036854775807) :
    Calls Tryd.prog 62 #[.agg #[.int .i64 k, .int .i64 n, .string s]] w fun e w' => e = .returned (.bool (valOk k n s)) ∧ Below w.heap.size w w' := by
  go_enter Tryd.func62, Tryd.ntmps62
  go_wp2
  all_goals go_ret
  all_goals refine ⟨ret_bool ?_, by go_grown⟩
  all_goals go_light
  all_goals simp_all [valOk]
  all_goals omega
set_option maxHeartbeats 400000 in
theorem implValueOk (k n : Int) (s : ByteArray) (w : World) (ws : s.size ≤ 9223372036854775807) :
    Calls Tryd.prog 63 #[.agg #[.int .i64 k, .int .i64 n, .string s]] w fun e w' => e = .returned (.bool (valOk k n s)) ∧ Below w.heap.size w w' := by
  go_enter Tryd.func63, Tryd.ntmps63
  go_wp2
  all_goals go_ret
  all_goals refine ⟨ret_bool ?_, by go_grown⟩
  all_goals go_light
  all_goals simp_all [valOk]
  all_goals omega

end Go.Proofs.YtifkldghbdpdmaaDoor
