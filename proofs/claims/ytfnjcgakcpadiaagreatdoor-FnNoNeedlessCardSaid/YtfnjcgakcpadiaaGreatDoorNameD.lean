/-
  A name's text: the plain function.
-/
import Derived.Test.YtfnjcgakcpadiaaGreatDoorGQuo
import Derived.Test.YtfnjcgakcpadiaaGreatDoorPlainC
namespace Go.Proofs.YtfnjcgakcpadiaaGreatDoor
open Go.RowKit
end Go.Proofs.YtfnjcgakcpadiaaGreatDoor
