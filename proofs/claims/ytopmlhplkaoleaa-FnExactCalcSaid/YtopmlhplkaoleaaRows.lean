/-
  No cell of these rows narrows 'for every input' (looked for: loops, veiled, ifaces, maps, wideKeys, modest, calm, conditions, laid).
  DERIVED. THE GIVEN ROWS OF THIS SEAT. 12 by the template 'for every input the law returns true; each argument reads behind the call as it read before'; 0 by the template 'total and deterministic' (their statements: YtopmlhplkaoleaaTotals.lean).
  GIVEN WITH THE SEED: the statements are not yours to turn. If you find one false, say at which input.
  Laid BY PROGRAM, IN A SANDBOX (cutbox-rows.mjs): the forced cells as the released guide's own fill.sh prints them over the translation 9df07d3b7c28ba0f… (all of the seat's roots in one cut). By AI agents, Wed Nov 11 2026. No macro, syntax, notation, axiom, sorry.
-/
import Derived.Test.YtopmlhplkaoleaaChecked
import GoSem.Claim
import GoSem.ClaimJoined
import GoSem.ClaimMapViews
import Derived.JoinedTies
import Derived.KernelRfl
namespace Go.Proofs.Ytopmlhplkaoleaa
/- THE CELL 'sum', in the pinned program and in every row, IS THE sha256 OF THE DUMP (.gsa) THAT YtopmlhplkaoleaaProg.lean LOADS. Nothing in Lean hashes anything: it is a label: what it is worth is what the hold of that sum in a sandbox is worth. -/
noncomputable def Try.pinned : Pinned := { name := "ytopmlhplkaoleaa", sum := "9df07d3b7c28ba0fad6b8cff73fe9a98f26897a60d75728d469782d4842fcd5e", checked := Try.checked }
namespace Rows
def none {H : Type} : Left H := { results := [], args := [] }

/-- 'laws.FnExactMulNum': WHATEVER THE INPUT: true; the input reads as it did. -/
def fnExactMulNumSpec : ChangeSpec := { name := "fnExactMulNum", fn := fun _ => fun
  | [d1, d2] => { results := [.lit (.bool true)], args := [d1, d2] }
  | _ => none }
def fnExactMulNumRow : OpenClaim := { program := "ytopmlhplkaoleaa", sum := "9df07d3b7c28ba0fad6b8cff73fe9a98f26897a60d75728d469782d4842fcd5e", func := "loop.example/g00495/laws.FnExactMulNum", spec := "fnExactMulNum", apart := false }
def FnExactMulNumSaid : Prop := fnExactMulNumRow.holds Try.pinned (OpenSpec.ofChange fnExactMulNumSpec)

/-- ITS FALSE NEIGHBOUR: 'it returns false'. Refute it at one input. -/
def fnExactMulNumWrong : ChangeSpec := { name := "fnExactMulNum", fn := fun _ => fun
  | [d1, d2] => { results := [.lit (.bool false)], args := [d1, d2] }
  | _ => none }
def FnExactMulNumWrongFalsely : Prop := fnExactMulNumRow.holds Try.pinned (OpenSpec.ofChange fnExactMulNumWrong)

/-- 'laws.FnExactSignOk': WHATEVER THE INPUT: true; the input reads as it did. -/
def fnExactSignOkSpec : ChangeSpec := { name := "fnExactSignOk", fn := fun _ => fun
  | [d] => { results := [.lit (.bool true)], args := [d] }
  | _ => none }
def fnExactSignOkRow : OpenClaim := { program := "ytopmlhplkaoleaa", sum := "9df07d3b7c28ba0fad6b8cff73fe9a98f26897a60d75728d469782d4842fcd5e", func := "loop.example/g00495/laws.FnExactSignOk", spec := "fnExactSignOk", apart := false }
def FnExactSignOkSaid : Prop := fnExactSignOkRow.holds Try.pinned (OpenSpec.ofChange fnExactSignOkSpec)

/-- ITS FALSE NEIGHBOUR: 'it returns false'. Refute it at one input. -/
def fnExactSignOkWrong : ChangeSpec := { name := "fnExactSignOk", fn := fun _ => fun
  | [d] => { results := [.lit (.bool false)], args := [d] }
  | _ => none }
def FnExactSignOkWrongFalsely : Prop := fnExactSignOkRow.holds Try.pinned (OpenSpec.ofChange fnExactSignOkWrong)

/-- 'laws.FnExactBoolValue': WHATEVER THE INPUT: true; the input reads as it did. -/
def fnExactBoolValueSpec : ChangeSpec := { name := "fnExactBoolValue", fn := fun _ => fun
  | [d] => { results := [.lit (.bool true)], args := [d] }
  | _ => none }
def fnExactBoolValueRow : OpenClaim := { program := "ytopmlhplkaoleaa", sum := "9df07d3b7c28ba0fad6b8cff73fe9a98f26897a60d75728d469782d4842fcd5e", func := "loop.example/g00495/laws.FnExactBoolValue", spec := "fnExactBoolValue", apart := false }
def FnExactBoolValueSaid : Prop := fnExactBoolValueRow.holds Try.pinned (OpenSpec.ofChange fnExactBoolValueSpec)

/-- ITS FALSE NEIGHBOUR: 'it returns false'. Refute it at one input. -/
def fnExactBoolValueWrong : ChangeSpec := { name := "fnExactBoolValue", fn := fun _ => fun
  | [d] => { results := [.lit (.bool false)], args := [d] }
  | _ => none }
def FnExactBoolValueWrongFalsely : Prop := fnExactBoolValueRow.holds Try.pinned (OpenSpec.ofChange fnExactBoolValueWrong)

/-- 'laws.FnExactValueOk': WHATEVER THE INPUT: true; the input reads as it did. -/
def fnExactValueOkSpec : ChangeSpec := { name := "fnExactValueOk", fn := fun _ => fun
  | [d] => { results := [.lit (.bool true)], args := [d] }
  | _ => none }
def fnExactValueOkRow : OpenClaim := { program := "ytopmlhplkaoleaa", sum := "9df07d3b7c28ba0fad6b8cff73fe9a98f26897a60d75728d469782d4842fcd5e", func := "loop.example/g00495/laws.FnExactValueOk", spec := "fnExactValueOk", apart := false }
def FnExactValueOkSaid : Prop := fnExactValueOkRow.holds Try.pinned (OpenSpec.ofChange fnExactValueOkSpec)

/-- ITS FALSE NEIGHBOUR: 'it returns false'. Refute it at one input. -/
def fnExactValueOkWrong : ChangeSpec := { name := "fnExactValueOk", fn := fun _ => fun
  | [d] => { results := [.lit (.bool false)], args := [d] }
  | _ => none }
def FnExactValueOkWrongFalsely : Prop := fnExactValueOkRow.holds Try.pinned (OpenSpec.ofChange fnExactValueOkWrong)

/-- 'laws.FnExactGetVar': WHATEVER THE INPUT: true; the input reads as it did. -/
def fnExactGetVarSpec : ChangeSpec := { name := "fnExactGetVar", fn := fun _ => fun
  | [d1, d2] => { results := [.lit (.bool true)], args := [d1, d2] }
  | _ => none }
def fnExactGetVarRow : OpenClaim := { program := "ytopmlhplkaoleaa", sum := "9df07d3b7c28ba0fad6b8cff73fe9a98f26897a60d75728d469782d4842fcd5e", func := "loop.example/g00495/laws.FnExactGetVar", spec := "fnExactGetVar", apart := false }
def FnExactGetVarSaid : Prop := fnExactGetVarRow.holds Try.pinned (OpenSpec.ofChange fnExactGetVarSpec)

/-- ITS FALSE NEIGHBOUR: 'it returns false'. Refute it at one input. -/
def fnExactGetVarWrong : ChangeSpec := { name := "fnExactGetVar", fn := fun _ => fun
  | [d1, d2] => { results := [.lit (.bool false)], args := [d1, d2] }
  | _ => none }
def FnExactGetVarWrongFalsely : Prop := fnExactGetVarRow.holds Try.pinned (OpenSpec.ofChange fnExactGetVarWrong)

/-- 'laws.FnExactParts': WHATEVER THE INPUT: true; the input reads as it did. -/
def fnExactPartsSpec : ChangeSpec := { name := "fnExactParts", fn := fun _ => fun
  | [d1, d2] => { results := [.lit (.bool true)], args := [d1, d2] }
  | _ => none }
def fnExactPartsRow : OpenClaim := { program := "ytopmlhplkaoleaa", sum := "9df07d3b7c28ba0fad6b8cff73fe9a98f26897a60d75728d469782d4842fcd5e", func := "loop.example/g00495/laws.FnExactParts", spec := "fnExactParts", apart := false }
def FnExactPartsSaid : Prop := fnExactPartsRow.holds Try.pinned (OpenSpec.ofChange fnExactPartsSpec)

/-- ITS FALSE NEIGHBOUR: 'it returns false'. Refute it at one input. -/
def fnExactPartsWrong : ChangeSpec := { name := "fnExactParts", fn := fun _ => fun
  | [d1, d2] => { results := [.lit (.bool false)], args := [d1, d2] }
  | _ => none }
def FnExactPartsWrongFalsely : Prop := fnExactPartsRow.holds Try.pinned (OpenSpec.ofChange fnExactPartsWrong)

/-- 'laws.FnExactOrder': WHATEVER THE INPUT: true; the input reads as it did. -/
def fnExactOrderSpec : ChangeSpec := { name := "fnExactOrder", fn := fun _ => fun
  | [d1, d2] => { results := [.lit (.bool true)], args := [d1, d2] }
  | _ => none }
def fnExactOrderRow : OpenClaim := { program := "ytopmlhplkaoleaa", sum := "9df07d3b7c28ba0fad6b8cff73fe9a98f26897a60d75728d469782d4842fcd5e", func := "loop.example/g00495/laws.FnExactOrder", spec := "fnExactOrder", apart := false }
def FnExactOrderSaid : Prop := fnExactOrderRow.holds Try.pinned (OpenSpec.ofChange fnExactOrderSpec)

/-- ITS FALSE NEIGHBOUR: 'it returns false'. Refute it at one input. -/
def fnExactOrderWrong : ChangeSpec := { name := "fnExactOrder", fn := fun _ => fun
  | [d1, d2] => { results := [.lit (.bool false)], args := [d1, d2] }
  | _ => none }
def FnExactOrderWrongFalsely : Prop := fnExactOrderRow.holds Try.pinned (OpenSpec.ofChange fnExactOrderWrong)

/-- 'laws.FnExactSameTokens': WHATEVER THE INPUT: true; the input reads as it did. -/
def fnExactSameTokensSpec : ChangeSpec := { name := "fnExactSameTokens", fn := fun _ => fun
  | [d1, d2] => { results := [.lit (.bool true)], args := [d1, d2] }
  | _ => none }
def fnExactSameTokensRow : OpenClaim := { program := "ytopmlhplkaoleaa", sum := "9df07d3b7c28ba0fad6b8cff73fe9a98f26897a60d75728d469782d4842fcd5e", func := "loop.example/g00495/laws.FnExactSameTokens", spec := "fnExactSameTokens", unfollowed := true, recurses := true, apart := false }
def FnExactSameTokensSaid : Prop := fnExactSameTokensRow.holds Try.pinned (OpenSpec.ofChange fnExactSameTokensSpec)

/-- ITS FALSE NEIGHBOUR: 'it returns false'. Refute it at one input. -/
def fnExactSameTokensWrong : ChangeSpec := { name := "fnExactSameTokens", fn := fun _ => fun
  | [d1, d2] => { results := [.lit (.bool false)], args := [d1, d2] }
  | _ => none }
def FnExactSameTokensWrongFalsely : Prop := fnExactSameTokensRow.holds Try.pinned (OpenSpec.ofChange fnExactSameTokensWrong)

/-- 'laws.FnExactOrderRow': WHATEVER THE INPUT: true; the input reads as it did. -/
def fnExactOrderRowSpec : ChangeSpec := { name := "fnExactOrderRow", fn := fun _ => fun
  | [d1, d2] => { results := [.lit (.bool true)], args := [d1, d2] }
  | _ => none }
def fnExactOrderRowRow : OpenClaim := { program := "ytopmlhplkaoleaa", sum := "9df07d3b7c28ba0fad6b8cff73fe9a98f26897a60d75728d469782d4842fcd5e", func := "loop.example/g00495/laws.FnExactOrderRow", spec := "fnExactOrderRow", unfollowed := true, recurses := true, apart := false }
def FnExactOrderRowSaid : Prop := fnExactOrderRowRow.holds Try.pinned (OpenSpec.ofChange fnExactOrderRowSpec)

/-- ITS FALSE NEIGHBOUR: 'it returns false'. Refute it at one input. -/
def fnExactOrderRowWrong : ChangeSpec := { name := "fnExactOrderRow", fn := fun _ => fun
  | [d1, d2] => { results := [.lit (.bool false)], args := [d1, d2] }
  | _ => none }
def FnExactOrderRowWrongFalsely : Prop := fnExactOrderRowRow.holds Try.pinned (OpenSpec.ofChange fnExactOrderRowWrong)

/-- 'laws.FnExactUnary': WHATEVER THE INPUT: true; the input reads as it did. -/
def fnExactUnarySpec : ChangeSpec := { name := "fnExactUnary", fn := fun _ => fun
  | [d1, d2] => { results := [.lit (.bool true)], args := [d1, d2] }
  | _ => none }
def fnExactUnaryRow : OpenClaim := { program := "ytopmlhplkaoleaa", sum := "9df07d3b7c28ba0fad6b8cff73fe9a98f26897a60d75728d469782d4842fcd5e", func := "loop.example/g00495/laws.FnExactUnary", spec := "fnExactUnary", apart := false }
def FnExactUnarySaid : Prop := fnExactUnaryRow.holds Try.pinned (OpenSpec.ofChange fnExactUnarySpec)

/-- ITS FALSE NEIGHBOUR: 'it returns false'. Refute it at one input. -/
def fnExactUnaryWrong : ChangeSpec := { name := "fnExactUnary", fn := fun _ => fun
  | [d1, d2] => { results := [.lit (.bool false)], args := [d1, d2] }
  | _ => none }
def FnExactUnaryWrongFalsely : Prop := fnExactUnaryRow.holds Try.pinned (OpenSpec.ofChange fnExactUnaryWrong)

/-- 'laws.FnExactCalc': WHATEVER THE INPUT: true; the input reads as it did. -/
def fnExactCalcSpec : ChangeSpec := { name := "fnExactCalc", fn := fun _ => fun
  | [d1, d2, d3] => { results := [.lit (.bool true)], args := [d1, d2, d3] }
  | _ => none }
def fnExactCalcRow : OpenClaim := { program := "ytopmlhplkaoleaa", sum := "9df07d3b7c28ba0fad6b8cff73fe9a98f26897a60d75728d469782d4842fcd5e", func := "loop.example/g00495/laws.FnExactCalc", spec := "fnExactCalc", apart := false }
def FnExactCalcSaid : Prop := fnExactCalcRow.holds Try.pinned (OpenSpec.ofChange fnExactCalcSpec)

/-- ITS FALSE NEIGHBOUR: 'it returns false'. Refute it at one input. -/
def fnExactCalcWrong : ChangeSpec := { name := "fnExactCalc", fn := fun _ => fun
  | [d1, d2, d3] => { results := [.lit (.bool false)], args := [d1, d2, d3] }
  | _ => none }
def FnExactCalcWrongFalsely : Prop := fnExactCalcRow.holds Try.pinned (OpenSpec.ofChange fnExactCalcWrong)

/-- 'laws.FnExactSortRows': WHATEVER THE INPUT: true; the input reads as it did. -/
def fnExactSortRowsSpec : ChangeSpec := { name := "fnExactSortRows", fn := fun _ => fun
  | [d] => { results := [.lit (.bool true)], args := [d] }
  | _ => none }
def fnExactSortRowsRow : OpenClaim := { program := "ytopmlhplkaoleaa", sum := "9df07d3b7c28ba0fad6b8cff73fe9a98f26897a60d75728d469782d4842fcd5e", func := "loop.example/g00495/laws.FnExactSortRows", spec := "fnExactSortRows", unfollowed := true, recurses := true, apart := false }
def FnExactSortRowsSaid : Prop := fnExactSortRowsRow.holds Try.pinned (OpenSpec.ofChange fnExactSortRowsSpec)

/-- ITS FALSE NEIGHBOUR: 'it returns false'. Refute it at one input. -/
def fnExactSortRowsWrong : ChangeSpec := { name := "fnExactSortRows", fn := fun _ => fun
  | [d] => { results := [.lit (.bool false)], args := [d] }
  | _ => none }
def FnExactSortRowsWrongFalsely : Prop := fnExactSortRowsRow.holds Try.pinned (OpenSpec.ofChange fnExactSortRowsWrong)

/- THE SECOND FORM. 'bulk': how many values and letters a reading holds, each counted each time it is reached (what is shared counts as often as it is met; a slice's spare places count too). A statement '..UptoSaid' is the law's where the arguments, and the package variables that the reading takes, are together of bulk at most 1048576: NARROWER than '..Said'. Prove '..Said' where nothing that the law and all that it calls make is longer than what came in: it says more and counts as full. Else prove '..UptoSaid'. A law counts once. -/
mutual
def uptoBulk {H : Type} : DataW H → Nat
  | .lit (.string bytes) => bytes.length + 1
  | .lit _ => 1
  | .nil => 1
  | .ptr d => uptoBulk d + 1
  | .slice elems spare => uptoBulkAll elems + uptoBulkAll spare + 1
  | .agg parts => uptoBulkAll parts + 1
  | .iface _ d => uptoBulk d + 1
  | .map entries => uptoBulkEntries entries + 1
  | .held _ => 1
def uptoBulkAll {H : Type} : List (DataW H) → Nat
  | [] => 0
  | d :: r => uptoBulk d + uptoBulkAll r
def uptoBulkEntries {H : Type} : List (Lit × DataW H) → Nat
  | [] => 0
  | x :: r => uptoBulkEntry x + uptoBulkEntries r
def uptoBulkEntry {H : Type} : Lit × DataW H → Nat
  | (.string bytes, d) => bytes.length + uptoBulk d + 1
  | (_, d) => uptoBulk d + 1
 end
def uptoSmall : (H : Type) → List (DataW H) → Bool := fun _ ds => decide (uptoBulkAll ds ≤ 1048576)
def OpenSpec.upto (s : _root_.Go.ChangeSpec) : _root_.Go.OpenSpec := { _root_.Go.OpenSpec.ofChange s with cond := some uptoSmall }

/-- 'laws.FnExactMulNum', WHERE WHAT IT READS IS OF BULK AT MOST 1048576: true; the input reads as it did. -/
def fnExactMulNumUptoRow : OpenClaim := { program := "ytopmlhplkaoleaa", sum := "9df07d3b7c28ba0fad6b8cff73fe9a98f26897a60d75728d469782d4842fcd5e", func := "loop.example/g00495/laws.FnExactMulNum", spec := "fnExactMulNum", apart := false, narrowed := true }
def FnExactMulNumUptoSaid : Prop := fnExactMulNumUptoRow.holds Try.pinned (OpenSpec.upto fnExactMulNumSpec)

/-- 'laws.FnExactSignOk', WHERE WHAT IT READS IS OF BULK AT MOST 1048576: true; the input reads as it did. -/
def fnExactSignOkUptoRow : OpenClaim := { program := "ytopmlhplkaoleaa", sum := "9df07d3b7c28ba0fad6b8cff73fe9a98f26897a60d75728d469782d4842fcd5e", func := "loop.example/g00495/laws.FnExactSignOk", spec := "fnExactSignOk", apart := false, narrowed := true }
def FnExactSignOkUptoSaid : Prop := fnExactSignOkUptoRow.holds Try.pinned (OpenSpec.upto fnExactSignOkSpec)

/-- 'laws.FnExactBoolValue', WHERE WHAT IT READS IS OF BULK AT MOST 1048576: true; the input reads as it did. -/
def fnExactBoolValueUptoRow : OpenClaim := { program := "ytopmlhplkaoleaa", sum := "9df07d3b7c28ba0fad6b8cff73fe9a98f26897a60d75728d469782d4842fcd5e", func := "loop.example/g00495/laws.FnExactBoolValue", spec := "fnExactBoolValue", apart := false, narrowed := true }
def FnExactBoolValueUptoSaid : Prop := fnExactBoolValueUptoRow.holds Try.pinned (OpenSpec.upto fnExactBoolValueSpec)

/-- 'laws.FnExactValueOk', WHERE WHAT IT READS IS OF BULK AT MOST 1048576: true; the input reads as it did. -/
def fnExactValueOkUptoRow : OpenClaim := { program := "ytopmlhplkaoleaa", sum := "9df07d3b7c28ba0fad6b8cff73fe9a98f26897a60d75728d469782d4842fcd5e", func := "loop.example/g00495/laws.FnExactValueOk", spec := "fnExactValueOk", apart := false, narrowed := true }
def FnExactValueOkUptoSaid : Prop := fnExactValueOkUptoRow.holds Try.pinned (OpenSpec.upto fnExactValueOkSpec)

/-- 'laws.FnExactGetVar', WHERE WHAT IT READS IS OF BULK AT MOST 1048576: true; the input reads as it did. -/
def fnExactGetVarUptoRow : OpenClaim := { program := "ytopmlhplkaoleaa", sum := "9df07d3b7c28ba0fad6b8cff73fe9a98f26897a60d75728d469782d4842fcd5e", func := "loop.example/g00495/laws.FnExactGetVar", spec := "fnExactGetVar", apart := false, narrowed := true }
def FnExactGetVarUptoSaid : Prop := fnExactGetVarUptoRow.holds Try.pinned (OpenSpec.upto fnExactGetVarSpec)

/-- 'laws.FnExactParts', WHERE WHAT IT READS IS OF BULK AT MOST 1048576: true; the input reads as it did. -/
def fnExactPartsUptoRow : OpenClaim := { program := "ytopmlhplkaoleaa", sum := "9df07d3b7c28ba0fad6b8cff73fe9a98f26897a60d75728d469782d4842fcd5e", func := "loop.example/g00495/laws.FnExactParts", spec := "fnExactParts", apart := false, narrowed := true }
def FnExactPartsUptoSaid : Prop := fnExactPartsUptoRow.holds Try.pinned (OpenSpec.upto fnExactPartsSpec)

/-- 'laws.FnExactOrder', WHERE WHAT IT READS IS OF BULK AT MOST 1048576: true; the input reads as it did. -/
def fnExactOrderUptoRow : OpenClaim := { program := "ytopmlhplkaoleaa", sum := "9df07d3b7c28ba0fad6b8cff73fe9a98f26897a60d75728d469782d4842fcd5e", func := "loop.example/g00495/laws.FnExactOrder", spec := "fnExactOrder", apart := false, narrowed := true }
def FnExactOrderUptoSaid : Prop := fnExactOrderUptoRow.holds Try.pinned (OpenSpec.upto fnExactOrderSpec)

/-- 'laws.FnExactSameTokens', WHERE WHAT IT READS IS OF BULK AT MOST 1048576: true; the input reads as it did. -/
def fnExactSameTokensUptoRow : OpenClaim := { program := "ytopmlhplkaoleaa", sum := "9df07d3b7c28ba0fad6b8cff73fe9a98f26897a60d75728d469782d4842fcd5e", func := "loop.example/g00495/laws.FnExactSameTokens", spec := "fnExactSameTokens", unfollowed := true, recurses := true, apart := false, narrowed := true }
def FnExactSameTokensUptoSaid : Prop := fnExactSameTokensUptoRow.holds Try.pinned (OpenSpec.upto fnExactSameTokensSpec)

/-- 'laws.FnExactOrderRow', WHERE WHAT IT READS IS OF BULK AT MOST 1048576: true; the input reads as it did. -/
def fnExactOrderRowUptoRow : OpenClaim := { program := "ytopmlhplkaoleaa", sum := "9df07d3b7c28ba0fad6b8cff73fe9a98f26897a60d75728d469782d4842fcd5e", func := "loop.example/g00495/laws.FnExactOrderRow", spec := "fnExactOrderRow", unfollowed := true, recurses := true, apart := false, narrowed := true }
def FnExactOrderRowUptoSaid : Prop := fnExactOrderRowUptoRow.holds Try.pinned (OpenSpec.upto fnExactOrderRowSpec)

/-- 'laws.FnExactUnary', WHERE WHAT IT READS IS OF BULK AT MOST 1048576: true; the input reads as it did. -/
def fnExactUnaryUptoRow : OpenClaim := { program := "ytopmlhplkaoleaa", sum := "9df07d3b7c28ba0fad6b8cff73fe9a98f26897a60d75728d469782d4842fcd5e", func := "loop.example/g00495/laws.FnExactUnary", spec := "fnExactUnary", apart := false, narrowed := true }
def FnExactUnaryUptoSaid : Prop := fnExactUnaryUptoRow.holds Try.pinned (OpenSpec.upto fnExactUnarySpec)

/-- 'laws.FnExactCalc', WHERE WHAT IT READS IS OF BULK AT MOST 1048576: true; the input reads as it did. -/
def fnExactCalcUptoRow : OpenClaim := { program := "ytopmlhplkaoleaa", sum := "9df07d3b7c28ba0fad6b8cff73fe9a98f26897a60d75728d469782d4842fcd5e", func := "loop.example/g00495/laws.FnExactCalc", spec := "fnExactCalc", apart := false, narrowed := true }
def FnExactCalcUptoSaid : Prop := fnExactCalcUptoRow.holds Try.pinned (OpenSpec.upto fnExactCalcSpec)

/-- 'laws.FnExactSortRows', WHERE WHAT IT READS IS OF BULK AT MOST 1048576: true; the input reads as it did. -/
def fnExactSortRowsUptoRow : OpenClaim := { program := "ytopmlhplkaoleaa", sum := "9df07d3b7c28ba0fad6b8cff73fe9a98f26897a60d75728d469782d4842fcd5e", func := "loop.example/g00495/laws.FnExactSortRows", spec := "fnExactSortRows", unfollowed := true, recurses := true, apart := false, narrowed := true }
def FnExactSortRowsUptoSaid : Prop := fnExactSortRowsUptoRow.holds Try.pinned (OpenSpec.upto fnExactSortRowsSpec)

end Rows
end Go.Proofs.Ytopmlhplkaoleaa
