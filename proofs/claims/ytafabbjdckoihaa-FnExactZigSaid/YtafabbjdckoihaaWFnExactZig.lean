/-
  The walk of FnExactZig.
-/
import Derived.Test.YtafabbjdckoihaaRows
import Derived.WalkKit
import Derived.WalkLawsBesides
import Derived.WalkSpells
import Derived.Handy
import Derived.Test.YtafabbjdckoihaaM1
namespace Go.Proofs.Ytafabbjdckoihaa.fnExactZig
open Go.RowKit

def zigF (n : Int) : Int := if n < 0 then -2 * n - 1 else 2 * n

theorem specZig (n : Int) (h : -9223372036854775808 ≤ n) (h' : n ≤ 9223372036854775807) (w : World) :
    Calls Try.prog 17 #[.int .i64 n] w fun e w' => e = .returned (.int .u64 (zigF n)) ∧ w = w' := by
  by_cases hn : n < 0
  · go_enter Try.func17, Try.ntmps17
    go_wp2
    go_ret
    exact ⟨ret_int (by rw [zigF, if_pos (by omega)]; omega), rfl⟩
  · go_enter Try.func17, Try.ntmps17
    go_wp2
    go_ret
    exact ⟨ret_int (by rw [zigF, if_neg (by omega)]), rfl⟩
theorem implZig (n : Int) (h : -9223372036854775808 ≤ n) (h' : n ≤ 9223372036854775807) (w : World) :
    Calls Try.prog 18 #[.int .i64 n] w fun e w' => e = .returned (.int .u64 (zigF n)) ∧ w = w' := by
  go_enter Try.func18, Try.ntmps18
  go_wp2
  go_ret
  exact ⟨ret_int (zig_bits n h h'), rfl⟩
theorem walk (a0 : Int) (w : World) (w0 : (Lit.int .i64 a0).wf = true) :
    Calls Try.prog 5 #[.int .i64 a0] w fun e w' => e = .returned (.bool true) ∧ Below w.heap.size w w' := by
  have hb := bounds_i64 w0
  go_enter Try.func5, Try.ntmps5
  go_wp2_with (first | (go_at_call 17; refine (specZig _ hb.1 hb.2 _).mono ?_; rintro e w' ⟨rfl, rfl⟩) | (go_at_call 18; refine (implZig _ hb.1 hb.2 _).mono ?_; rintro e w' ⟨rfl, rfl⟩))
  go_ways
  all_goals go_ret
  all_goals exact ⟨rfl, by go_grown⟩
end Go.Proofs.Ytafabbjdckoihaa.fnExactZig
