/-
  The walk of FnExactBoolValue.
-/
import Derived.Test.YtopmlhplkaoleaaRows
import Derived.WalkKit
import Derived.WalkLawsBesides
import Derived.WalkSpells
import Derived.Handy
namespace Go.Proofs.Ytopmlhplkaoleaa
open Go.RowKit

theorem fnExactBoolValue.walk (b : Bool) (w : World) :
    Calls Try.prog 5 #[.bool b] w fun e w' => e = .returned (.bool true) ∧ Below w.heap.size w w' := by
  cases b
  all_goals
    go_enter Try.func5, Try.ntmps5
    go_wp2
    all_goals go_ret
    all_goals exact ⟨rfl, by go_grown⟩
end Go.Proofs.Ytopmlhplkaoleaa
