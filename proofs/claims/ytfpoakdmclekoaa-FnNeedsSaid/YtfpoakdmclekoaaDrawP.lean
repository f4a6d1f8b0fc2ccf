/-
  l6Pair, DrawAddNum: two whole numbers drawn.
-/
import Derived.Test.YtfpoakdmclekoaaCode
namespace Go.Proofs.Ytfpoakdmclekoaa
open Go.RowKit Go.Lib

/-- A machine integer's bounds. -/
def In (x : Int) : Prop := -9223372036854775808 ≤ x ∧ x ≤ 9223372036854775807
theorem In.wf {x : Int} (h : In x) : (Lit.int .i64 x).wf = true := by
  obtain ⟨h1, h2⟩ := h
  simp only [Lit.wf, IntKind.min, IntKind.max, IntKind.signed, IntKind.bits, Bool.and_eq_true, decide_eq_true_eq, if_true]
  omega

end Go.Proofs.Ytfpoakdmclekoaa