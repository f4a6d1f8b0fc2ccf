/-
  NARROWER THAN 'FOR EVERY INPUT', by the rows' own cells (each row's printed sentence says how): FnExactLevelOf: loops · FnExactSameExpr: loops · FnExactSameQuery: loops · FnExactNeeds: loops · FnExactWrapped: loops · FnExactSameStmt: loops.
  DERIVED. THE GIVEN ROWS OF THIS SEAT. 7 by the template 'for every input the law returns true; each argument reads behind the call as it read before'; 0 by the template 'total and deterministic' (their statements: YtfpoakdmclekoaaTotals.lean).
  GIVEN WITH THE SEED: the statements are not yours to turn. If you find one false, say at which input.
  Laid BY PROGRAM, IN A SANDBOX (cutbox-rows.mjs): the forced cells as the released guide's own fill.sh prints them over the translation 8cc67b8eeb34721e… (all of the seat's roots in one cut). By AI agents, Wed Nov 11 2026. No macro, syntax, notation, axiom, sorry.
-/
import Derived.Test.YtfpoakdmclekoaaChecked
import GoSem.Claim
import GoSem.ClaimJoined
import GoSem.ClaimMapViews
import Derived.JoinedTies
import Derived.KernelRfl
namespace Go.Proofs.Ytfpoakdmclekoaa
/- THE CELL 'sum', in the pinned program and in every row, IS THE sha256 OF THE DUMP (.gsa) THAT YtfpoakdmclekoaaProg.lean LOADS. Nothing in Lean hashes anything: it is a label: what it is worth is what the hold of that sum in a sandbox is worth. -/
noncomputable def Try.pinned : Pinned := { name := "ytfpoakdmclekoaa", sum := "8cc67b8eeb34721e49de98b695727425cec6bca3c8117a551f440b8d73c2b02f", checked := Try.checked }
namespace Rows
def none {H : Type} : Left H := { results := [], args := [] }

/-- 'laws.FnExactLevelOf': WHATEVER THE INPUT: true; the input reads as it did. -/
def fnExactLevelOfSpec : ChangeSpec := { name := "fnExactLevelOf", fn := fun _ => fun
  | [d] => { results := [.lit (.bool true)], args := [d] }
  | _ => none }
def fnExactLevelOfRow : OpenClaim := { program := "ytfpoakdmclekoaa", sum := "8cc67b8eeb34721e49de98b695727425cec6bca3c8117a551f440b8d73c2b02f", func := "loop.example/g00495/laws.FnExactLevelOf", spec := "fnExactLevelOf", recurses := true, loops := true, apart := false }
def FnExactLevelOfSaid : Prop := fnExactLevelOfRow.holds Try.pinned (OpenSpec.ofChange fnExactLevelOfSpec)

/-- ITS FALSE NEIGHBOUR: 'it returns false'. Refute it at one input. -/
def fnExactLevelOfWrong : ChangeSpec := { name := "fnExactLevelOf", fn := fun _ => fun
  | [d] => { results := [.lit (.bool false)], args := [d] }
  | _ => none }
def FnExactLevelOfWrongFalsely : Prop := fnExactLevelOfRow.holds Try.pinned (OpenSpec.ofChange fnExactLevelOfWrong)

/-- 'laws.FnExactSameExpr': WHATEVER THE INPUT: true; the input reads as it did. -/
def fnExactSameExprSpec : ChangeSpec := { name := "fnExactSameExpr", fn := fun _ => fun
  | [d1, d2] => { results := [.lit (.bool true)], args := [d1, d2] }
  | _ => none }
def fnExactSameExprRow : OpenClaim := { program := "ytfpoakdmclekoaa", sum := "8cc67b8eeb34721e49de98b695727425cec6bca3c8117a551f440b8d73c2b02f", func := "loop.example/g00495/laws.FnExactSameExpr", spec := "fnExactSameExpr", unfollowed := true, recurses := true, loops := true, apart := false }
def FnExactSameExprSaid : Prop := fnExactSameExprRow.holds Try.pinned (OpenSpec.ofChange fnExactSameExprSpec)

/-- ITS FALSE NEIGHBOUR: 'it returns false'. Refute it at one input. -/
def fnExactSameExprWrong : ChangeSpec := { name := "fnExactSameExpr", fn := fun _ => fun
  | [d1, d2] => { results := [.lit (.bool false)], args := [d1, d2] }
  | _ => none }
def FnExactSameExprWrongFalsely : Prop := fnExactSameExprRow.holds Try.pinned (OpenSpec.ofChange fnExactSameExprWrong)

/-- 'laws.FnExactSameQuery': WHATEVER THE INPUT: true; the input reads as it did. -/
def fnExactSameQuerySpec : ChangeSpec := { name := "fnExactSameQuery", fn := fun _ => fun
  | [d1, d2] => { results := [.lit (.bool true)], args := [d1, d2] }
  | _ => none }
def fnExactSameQueryRow : OpenClaim := { program := "ytfpoakdmclekoaa", sum := "8cc67b8eeb34721e49de98b695727425cec6bca3c8117a551f440b8d73c2b02f", func := "loop.example/g00495/laws.FnExactSameQuery", spec := "fnExactSameQuery", unfollowed := true, recurses := true, loops := true, apart := false }
def FnExactSameQuerySaid : Prop := fnExactSameQueryRow.holds Try.pinned (OpenSpec.ofChange fnExactSameQuerySpec)

/-- ITS FALSE NEIGHBOUR: 'it returns false'. Refute it at one input. -/
def fnExactSameQueryWrong : ChangeSpec := { name := "fnExactSameQuery", fn := fun _ => fun
  | [d1, d2] => { results := [.lit (.bool false)], args := [d1, d2] }
  | _ => none }
def FnExactSameQueryWrongFalsely : Prop := fnExactSameQueryRow.holds Try.pinned (OpenSpec.ofChange fnExactSameQueryWrong)

/-- 'laws.FnExactNeeds': WHATEVER THE INPUT: true; the input reads as it did. -/
def fnExactNeedsSpec : ChangeSpec := { name := "fnExactNeeds", fn := fun _ => fun
  | [d1, d2] => { results := [.lit (.bool true)], args := [d1, d2] }
  | _ => none }
def fnExactNeedsRow : OpenClaim := { program := "ytfpoakdmclekoaa", sum := "8cc67b8eeb34721e49de98b695727425cec6bca3c8117a551f440b8d73c2b02f", func := "loop.example/g00495/laws.FnExactNeeds", spec := "fnExactNeeds", recurses := true, loops := true, apart := false }
def FnExactNeedsSaid : Prop := fnExactNeedsRow.holds Try.pinned (OpenSpec.ofChange fnExactNeedsSpec)

/-- ITS FALSE NEIGHBOUR: 'it returns false'. Refute it at one input. -/
def fnExactNeedsWrong : ChangeSpec := { name := "fnExactNeeds", fn := fun _ => fun
  | [d1, d2] => { results := [.lit (.bool false)], args := [d1, d2] }
  | _ => none }
def FnExactNeedsWrongFalsely : Prop := fnExactNeedsRow.holds Try.pinned (OpenSpec.ofChange fnExactNeedsWrong)

/-- 'laws.FnExactWrapped': WHATEVER THE INPUT: true; the input reads as it did. -/
def fnExactWrappedSpec : ChangeSpec := { name := "fnExactWrapped", fn := fun _ => fun
  | [d1, d2] => { results := [.lit (.bool true)], args := [d1, d2] }
  | _ => none }
def fnExactWrappedRow : OpenClaim := { program := "ytfpoakdmclekoaa", sum := "8cc67b8eeb34721e49de98b695727425cec6bca3c8117a551f440b8d73c2b02f", func := "loop.example/g00495/laws.FnExactWrapped", spec := "fnExactWrapped", recurses := true, loops := true, apart := false }
def FnExactWrappedSaid : Prop := fnExactWrappedRow.holds Try.pinned (OpenSpec.ofChange fnExactWrappedSpec)

/-- ITS FALSE NEIGHBOUR: 'it returns false'. Refute it at one input. -/
def fnExactWrappedWrong : ChangeSpec := { name := "fnExactWrapped", fn := fun _ => fun
  | [d1, d2] => { results := [.lit (.bool false)], args := [d1, d2] }
  | _ => none }
def FnExactWrappedWrongFalsely : Prop := fnExactWrappedRow.holds Try.pinned (OpenSpec.ofChange fnExactWrappedWrong)

/-- 'laws.FnExactSameStmt': WHATEVER THE INPUT: true; the input reads as it did. -/
def fnExactSameStmtSpec : ChangeSpec := { name := "fnExactSameStmt", fn := fun _ => fun
  | [d1, d2] => { results := [.lit (.bool true)], args := [d1, d2] }
  | _ => none }
def fnExactSameStmtRow : OpenClaim := { program := "ytfpoakdmclekoaa", sum := "8cc67b8eeb34721e49de98b695727425cec6bca3c8117a551f440b8d73c2b02f", func := "loop.example/g00495/laws.FnExactSameStmt", spec := "fnExactSameStmt", unfollowed := true, recurses := true, loops := true, apart := false }
def FnExactSameStmtSaid : Prop := fnExactSameStmtRow.holds Try.pinned (OpenSpec.ofChange fnExactSameStmtSpec)

/-- ITS FALSE NEIGHBOUR: 'it returns false'. Refute it at one input. -/
def fnExactSameStmtWrong : ChangeSpec := { name := "fnExactSameStmt", fn := fun _ => fun
  | [d1, d2] => { results := [.lit (.bool false)], args := [d1, d2] }
  | _ => none }
def FnExactSameStmtWrongFalsely : Prop := fnExactSameStmtRow.holds Try.pinned (OpenSpec.ofChange fnExactSameStmtWrong)

/-- 'laws.FnNeeds': WHATEVER THE INPUT: true; the input reads as it did. -/
def fnNeedsSpec : ChangeSpec := { name := "fnNeeds", fn := fun _ => fun
  | [d] => { results := [.lit (.bool true)], args := [d] }
  | _ => none }
def fnNeedsRow : OpenClaim := { program := "ytfpoakdmclekoaa", sum := "8cc67b8eeb34721e49de98b695727425cec6bca3c8117a551f440b8d73c2b02f", func := "loop.example/g00495/laws.FnNeeds", spec := "fnNeeds", recurses := true, apart := false }
def FnNeedsSaid : Prop := fnNeedsRow.holds Try.pinned (OpenSpec.ofChange fnNeedsSpec)

/-- ITS FALSE NEIGHBOUR: 'it returns false'. Refute it at one input. -/
def fnNeedsWrong : ChangeSpec := { name := "fnNeeds", fn := fun _ => fun
  | [d] => { results := [.lit (.bool false)], args := [d] }
  | _ => none }
def FnNeedsWrongFalsely : Prop := fnNeedsRow.holds Try.pinned (OpenSpec.ofChange fnNeedsWrong)

/- THE SECOND FORM. 'bulk': how many values and letters a reading holds, each counted each time it is reached (what is shared counts as often as it is met; a slice's spare places count too). A statement '..UptoSaid' is the law's where the arguments, and the package variables that the reading takes, are together of bulk at most 1048576: NARROWER than '..Said'. Prove '..Said' where nothing that the law and all that it calls make is longer than what came in: it says more and counts as full. Else prove '..UptoSaid'. A law counts once. -/
mutual
def uptoBulk {H : Type} : DataW H → Nat
  | .lit (.string bytes) => bytes.length + 1
  | .lit _ => 1
  | .nil => 1
  | .ptr d => uptoBulk d + 1
  | .slice elems spare => uptoBulkAll elems + uptoBulkAll spare + 1
  | .agg parts => uptoBulkAll parts + 1
  | .iface _ d => uptoBulk d + 1
  | .map entries => uptoBulkEntries entries + 1
  | .held _ => 1
def uptoBulkAll {H : Type} : List (DataW H) → Nat
  | [] => 0
  | d :: r => uptoBulk d + uptoBulkAll r
def uptoBulkEntries {H : Type} : List (Lit × DataW H) → Nat
  | [] => 0
  | x :: r => uptoBulkEntry x + uptoBulkEntries r
def uptoBulkEntry {H : Type} : Lit × DataW H → Nat
  | (.string bytes, d) => bytes.length + uptoBulk d + 1
  | (_, d) => uptoBulk d + 1
 end
def uptoSmall : (H : Type) → List (DataW H) → Bool := fun _ ds => decide (uptoBulkAll ds ≤ 1048576)
def OpenSpec.upto (s : _root_.Go.ChangeSpec) : _root_.Go.OpenSpec := { _root_.Go.OpenSpec.ofChange s with cond := some uptoSmall }

/-- 'laws.FnExactLevelOf', WHERE WHAT IT READS IS OF BULK AT MOST 1048576: true; the input reads as it did. -/
def fnExactLevelOfUptoRow : OpenClaim := { program := "ytfpoakdmclekoaa", sum := "8cc67b8eeb34721e49de98b695727425cec6bca3c8117a551f440b8d73c2b02f", func := "loop.example/g00495/laws.FnExactLevelOf", spec := "fnExactLevelOf", recurses := true, loops := true, apart := false, narrowed := true }
def FnExactLevelOfUptoSaid : Prop := fnExactLevelOfUptoRow.holds Try.pinned (OpenSpec.upto fnExactLevelOfSpec)

/-- 'laws.FnExactSameExpr', WHERE WHAT IT READS IS OF BULK AT MOST 1048576: true; the input reads as it did. -/
def fnExactSameExprUptoRow : OpenClaim := { program := "ytfpoakdmclekoaa", sum := "8cc67b8eeb34721e49de98b695727425cec6bca3c8117a551f440b8d73c2b02f", func := "loop.example/g00495/laws.FnExactSameExpr", spec := "fnExactSameExpr", unfollowed := true, recurses := true, loops := true, apart := false, narrowed := true }
def FnExactSameExprUptoSaid : Prop := fnExactSameExprUptoRow.holds Try.pinned (OpenSpec.upto fnExactSameExprSpec)

/-- 'laws.FnExactSameQuery', WHERE WHAT IT READS IS OF BULK AT MOST 1048576: true; the input reads as it did. -/
def fnExactSameQueryUptoRow : OpenClaim := { program := "ytfpoakdmclekoaa", sum := "8cc67b8eeb34721e49de98b695727425cec6bca3c8117a551f440b8d73c2b02f", func := "loop.example/g00495/laws.FnExactSameQuery", spec := "fnExactSameQuery", unfollowed := true, recurses := true, loops := true, apart := false, narrowed := true }
def FnExactSameQueryUptoSaid : Prop := fnExactSameQueryUptoRow.holds Try.pinned (OpenSpec.upto fnExactSameQuerySpec)

/-- 'laws.FnExactNeeds', WHERE WHAT IT READS IS OF BULK AT MOST 1048576: true; the input reads as it did. -/
def fnExactNeedsUptoRow : OpenClaim := { program := "ytfpoakdmclekoaa", sum := "8cc67b8eeb34721e49de98b695727425cec6bca3c8117a551f440b8d73c2b02f", func := "loop.example/g00495/laws.FnExactNeeds", spec := "fnExactNeeds", recurses := true, loops := true, apart := false, narrowed := true }
def FnExactNeedsUptoSaid : Prop := fnExactNeedsUptoRow.holds Try.pinned (OpenSpec.upto fnExactNeedsSpec)

/-- 'laws.FnExactWrapped', WHERE WHAT IT READS IS OF BULK AT MOST 1048576: true; the input reads as it did. -/
def fnExactWrappedUptoRow : OpenClaim := { program := "ytfpoakdmclekoaa", sum := "8cc67b8eeb34721e49de98b695727425cec6bca3c8117a551f440b8d73c2b02f", func := "loop.example/g00495/laws.FnExactWrapped", spec := "fnExactWrapped", recurses := true, loops := true, apart := false, narrowed := true }
def FnExactWrappedUptoSaid : Prop := fnExactWrappedUptoRow.holds Try.pinned (OpenSpec.upto fnExactWrappedSpec)

/-- 'laws.FnExactSameStmt', WHERE WHAT IT READS IS OF BULK AT MOST 1048576: true; the input reads as it did. -/
def fnExactSameStmtUptoRow : OpenClaim := { program := "ytfpoakdmclekoaa", sum := "8cc67b8eeb34721e49de98b695727425cec6bca3c8117a551f440b8d73c2b02f", func := "loop.example/g00495/laws.FnExactSameStmt", spec := "fnExactSameStmt", unfollowed := true, recurses := true, loops := true, apart := false, narrowed := true }
def FnExactSameStmtUptoSaid : Prop := fnExactSameStmtUptoRow.holds Try.pinned (OpenSpec.upto fnExactSameStmtSpec)

/-- 'laws.FnNeeds', WHERE WHAT IT READS IS OF BULK AT MOST 1048576: true; the input reads as it did. -/
def fnNeedsUptoRow : OpenClaim := { program := "ytfpoakdmclekoaa", sum := "8cc67b8eeb34721e49de98b695727425cec6bca3c8117a551f440b8d73c2b02f", func := "loop.example/g00495/laws.FnNeeds", spec := "fnNeeds", recurses := true, apart := false, narrowed := true }
def FnNeedsUptoSaid : Prop := fnNeedsUptoRow.holds Try.pinned (OpenSpec.upto fnNeedsSpec)

end Rows
end Go.Proofs.Ytfpoakdmclekoaa
