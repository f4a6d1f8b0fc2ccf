/-
  What szValue takes off the budget.
-/
import Derived.Test.YtopmlhplkaoleaaRows
import Derived.WalkKit
import Derived.WalkLawsBesides
import Derived.WalkSpells
import Derived.Handy
import Derived.Deep.Light
import Derived.Test.YtopmlhplkaoleaaM1
import Derived.Test.YtopmlhplkaoleaaB
namespace Go.Proofs.Ytopmlhplkaoleaa
open Go.RowKit

theorem szValueC (k n : Int) (s : ByteArray) (left : Int) (w : World) (h0 : 0 ≤ left) (h1 : left ≤ 1048576) (ws : s.size ≤ 9223372036854775807) :
    Calls Try.prog 22 #[.agg #[.int .i64 k, .int .i64 n, .string s], .int .i64 left] w fun e w' => e = .returned (.int .i64 (if left - s.size < 0 then -1 else left - s.size)) ∧ Below w.heap.size w w' := by
  by_cases h : left - (s.size : Int) < 0
  · go_enter Try.func22, Try.ntmps22
    go_wp2
    all_goals go_ret
    all_goals refine ⟨ret_int ?_, by go_grown⟩
    all_goals simp
  · go_enter Try.func22, Try.ntmps22
    go_wp2
    all_goals go_ret
    all_goals refine ⟨ret_int ?_, by go_grown⟩
    all_goals simp
end Go.Proofs.Ytopmlhplkaoleaa
