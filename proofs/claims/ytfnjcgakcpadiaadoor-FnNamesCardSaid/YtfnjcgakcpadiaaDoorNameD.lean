/-
  A name's text: the plain function.
-/
import Derived.Test.YtfnjcgakcpadiaaDoorQuoteC
import Derived.Test.YtfnjcgakcpadiaaDoorPlainC
namespace Go.Proofs.YtfnjcgakcpadiaaDoor
open Go.RowKit
end Go.Proofs.YtfnjcgakcpadiaaDoor
