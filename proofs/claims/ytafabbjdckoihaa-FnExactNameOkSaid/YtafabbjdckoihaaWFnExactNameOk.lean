/-
  The walk of FnExactNameOk.
-/
import Derived.Test.YtafabbjdckoihaaRows
import Derived.WalkKit
import Derived.WalkLawsBesides
import Derived.WalkSpells
import Derived.Handy
namespace Go.Proofs.Ytafabbjdckoihaa.fnExactNameOk
open Go.RowKit

theorem walk (a0 : ByteArray) (w : World) (w0 : a0.size ≤ maxLen) :
    Calls Try.prog 4 #[.string a0] w fun e w' => e = .returned (.bool true) ∧ Below w.heap.size w w' := by
  unfold maxLen at w0
  by_cases h1 : 1 ≤ a0.size
  · by_cases h2 : a0.size ≤ 20
    · have h3 : a0.size ≤ 1048576 := by omega
      go_enter Try.func4, Try.ntmps4
      go_wp2
      go_ways
      all_goals go_ret
      all_goals exact ⟨rfl, by go_grown⟩
    · by_cases h3 : a0.size ≤ 1048576
      · go_enter Try.func4, Try.ntmps4
        go_wp2
        go_ways
        all_goals go_ret
        all_goals exact ⟨rfl, by go_grown⟩
      · go_enter Try.func4, Try.ntmps4
        go_wp2
        go_ret
        exact ⟨rfl, by go_grown⟩
  · go_enter Try.func4, Try.ntmps4
    go_wp2
    go_ways
    all_goals go_ret
    all_goals exact ⟨rfl, by go_grown⟩
end Go.Proofs.Ytafabbjdckoihaa.fnExactNameOk
