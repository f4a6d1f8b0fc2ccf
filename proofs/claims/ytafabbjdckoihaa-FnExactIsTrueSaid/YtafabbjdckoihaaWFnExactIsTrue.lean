/-
  The walk of FnExactIsTrue.
-/
import Derived.Test.YtafabbjdckoihaaRows
import Derived.WalkKit
import Derived.WalkLawsBesides
import Derived.WalkSpells
import Derived.Handy
namespace Go.Proofs.Ytafabbjdckoihaa.fnExactIsTrue
open Go.RowKit

theorem walk (k n : Int) (s : ByteArray) (w : World) (wk : (Lit.int .i64 k).wf = true) (wn : (Lit.int .i64 n).wf = true) (ws : s.size ≤ maxLen) :
    Calls Try.prog 13 #[.agg #[.int .i64 k, .int .i64 n, .string s]] w fun e w' => e = .returned (.bool true) ∧ Below w.heap.size w w' := by
  unfold maxLen at ws
  by_cases h3 : s.size ≤ 1048576
  · go_enter Try.func13, Try.ntmps13
    go_wp2
    go_ways
    all_goals go_ret
    all_goals exact ⟨rfl, by go_grown⟩
  · go_enter Try.func13, Try.ntmps13
    go_wp2
    go_ret
    exact ⟨rfl, by go_grown⟩
end Go.Proofs.Ytafabbjdckoihaa.fnExactIsTrue
