/-
  What ValueOk says of a value, in the program and in the reference.
-/
import Derived.Test.YtfpoakdmclekoaaRows
import Derived.WalkKit
import Derived.WalkLawsBesides
import Derived.WalkSpells
import Derived.Handy
import Derived.Deep.Light
import Derived.Test.YtfpoakdmclekoaaM1
import Derived.Test.YtfpoakdmclekoaaB
namespace Go.Proofs.Ytfpoakdmclekoaa
open Go.RowKit

/-- What ValueOk says of a value's three fields. -/
def valOk (k n : Int) (s : ByteArray) : Bool :=
  if k = 0 then n == 0 && s.toList.isEmpty else if k = 1 then s.toList.isEmpty else if k = 2 then n == 0 && decide (s.size ≤ 200) else if k = 3 then (n == 0 || n == 1) && s.toList.isEmpty else false

end Go.Proofs.Ytfpoakdmclekoaa