/-
  The laws' copy of a value.
-/
import Derived.Test.YtopmlhplkaoleaaRows
import Derived.WalkKit
import Derived.WalkLawsBesides
import Derived.WalkSpells
import Derived.Handy
import Derived.Deep.Light
import Derived.StillTailTactics
import Derived.Test.YtopmlhplkaoleaaM1
import Derived.Test.YtopmlhplkaoleaaB
import Derived.Test.YtopmlhplkaoleaaQ
namespace Go.Proofs.Ytopmlhplkaoleaa
open Go.RowKit

theorem toValueC (k n : Int) (s : ByteArray) (w : World) :
    Calls Try.prog 24 #[.agg #[.int .i64 k, .int .i64 n, .string s]] w fun e w' => e = .returned (.agg #[.int .i64 k, .int .i64 n, .string s]) ∧ Below w.heap.size w w' := by
  go_enter Try.func24, Try.ntmps24
  go_wp2
  go_returns
  exact ⟨rfl, by go_grown⟩

end Go.Proofs.Ytopmlhplkaoleaa
