/-
  The laws' copy of a token.
-/
import Derived.Test.YtifkldghbdpdmaaDoorRows
import Derived.WalkKit
import Derived.WalkLawsBesides
import Derived.WalkSpells
import Derived.Handy
import Derived.Deep.Light
import Derived.Test.YtifkldghbdpdmaaDoorM1
import Derived.Test.YtifkldghbdpdmaaDoorB
namespace Go.Proofs.YtifkldghbdpdmaaDoor
open Go.RowKit

theorem toTokenC (k : Int) (s : ByteArray) (a : Int) (w : World) :
    Calls Tryd.prog 35 #[.agg #[.int .i64 k, .string s, .int .i64 a]] w fun e w' => e = .returned (.agg #[.int .i64 k, .string s, .int .i64 a]) ∧ Below w.heap.size w w' := by
  go_enter Tryd.func35, Tryd.ntmps35
  go_wp2
  go_returns
  exact ⟨rfl, by go_grown⟩
end Go.Proofs.YtifkldghbdpdmaaDoor
