/-
  No cell of these rows narrows 'for every input' (looked for: loops, veiled, ifaces, maps, wideKeys, modest, calm, conditions, laid).
  DERIVED. THE GIVEN ROWS OF THIS SEAT. 10 by the template 'for every input the law returns true; each argument reads behind the call as it read before'; 0 by the template 'total and deterministic' (their statements: YtnamikhhbedpeaaTotals.lean).
  GIVEN WITH THE SEED: the statements are not yours to turn. If you find one false, say at which input.
  Laid BY PROGRAM, IN A SANDBOX (cutbox-rows.mjs): the forced cells as the released guide's own fill.sh prints them over the translation a9474722a21b8056… (all of the seat's roots in one cut). By AI agents, Wed Nov 11 2026. No macro, syntax, notation, axiom, sorry.
-/
import Derived.Test.YtnamikhhbedpeaaChecked
import GoSem.Claim
import GoSem.ClaimJoined
import GoSem.ClaimMapViews
import Derived.JoinedTies
import Derived.KernelRfl
namespace Go.Proofs.Ytnamikhhbedpeaa
/- THE CELL 'sum', in the pinned program and in every row, IS THE sha256 OF THE DUMP (.gsa) THAT YtnamikhhbedpeaaProg.lean LOADS. Nothing in Lean hashes anything: it is a label: what it is worth is what the hold of that sum in a sandbox is worth. -/
noncomputable def Try.pinned : Pinned := { name := "ytnamikhhbedpeaa", sum := "a9474722a21b8056ad04d7fead3ea8e8a52b06fc77f98cf20c0b66b7dc3e7185", checked := Try.checked }
namespace Rows
def none {H : Type} : Left H := { results := [], args := [] }

/-- 'laws.FnPartsBack': WHATEVER THE INPUT: true; the input reads as it did. -/
def fnPartsBackSpec : ChangeSpec := { name := "fnPartsBack", fn := fun _ => fun
  | [d] => { results := [.lit (.bool true)], args := [d] }
  | _ => none }
def fnPartsBackRow : OpenClaim := { program := "ytnamikhhbedpeaa", sum := "a9474722a21b8056ad04d7fead3ea8e8a52b06fc77f98cf20c0b66b7dc3e7185", func := "loop.example/g00495/laws.FnPartsBack", spec := "fnPartsBack", apart := false }
def FnPartsBackSaid : Prop := fnPartsBackRow.holds Try.pinned (OpenSpec.ofChange fnPartsBackSpec)

/-- ITS FALSE NEIGHBOUR: 'it returns false'. Refute it at one input. -/
def fnPartsBackWrong : ChangeSpec := { name := "fnPartsBack", fn := fun _ => fun
  | [d] => { results := [.lit (.bool false)], args := [d] }
  | _ => none }
def FnPartsBackWrongFalsely : Prop := fnPartsBackRow.holds Try.pinned (OpenSpec.ofChange fnPartsBackWrong)

/-- 'laws.FnZig': WHATEVER THE INPUT: true; the input reads as it did. -/
def fnZigSpec : ChangeSpec := { name := "fnZig", fn := fun _ => fun
  | [d] => { results := [.lit (.bool true)], args := [d] }
  | _ => none }
def fnZigRow : OpenClaim := { program := "ytnamikhhbedpeaa", sum := "a9474722a21b8056ad04d7fead3ea8e8a52b06fc77f98cf20c0b66b7dc3e7185", func := "loop.example/g00495/laws.FnZig", spec := "fnZig", apart := false }
def FnZigSaid : Prop := fnZigRow.holds Try.pinned (OpenSpec.ofChange fnZigSpec)

/-- ITS FALSE NEIGHBOUR: 'it returns false'. Refute it at one input. -/
def fnZigWrong : ChangeSpec := { name := "fnZig", fn := fun _ => fun
  | [d] => { results := [.lit (.bool false)], args := [d] }
  | _ => none }
def FnZigWrongFalsely : Prop := fnZigRow.holds Try.pinned (OpenSpec.ofChange fnZigWrong)

/-- 'laws.FnAddSub': WHATEVER THE INPUT: true; the input reads as it did. -/
def fnAddSubSpec : ChangeSpec := { name := "fnAddSub", fn := fun _ => fun
  | [d] => { results := [.lit (.bool true)], args := [d] }
  | _ => none }
def fnAddSubRow : OpenClaim := { program := "ytnamikhhbedpeaa", sum := "a9474722a21b8056ad04d7fead3ea8e8a52b06fc77f98cf20c0b66b7dc3e7185", func := "loop.example/g00495/laws.FnAddSub", spec := "fnAddSub", apart := false }
def FnAddSubSaid : Prop := fnAddSubRow.holds Try.pinned (OpenSpec.ofChange fnAddSubSpec)

/-- ITS FALSE NEIGHBOUR: 'it returns false'. Refute it at one input. -/
def fnAddSubWrong : ChangeSpec := { name := "fnAddSub", fn := fun _ => fun
  | [d] => { results := [.lit (.bool false)], args := [d] }
  | _ => none }
def FnAddSubWrongFalsely : Prop := fnAddSubRow.holds Try.pinned (OpenSpec.ofChange fnAddSubWrong)

/-- 'laws.FnVar': WHATEVER THE INPUT: true; the input reads as it did. -/
def fnVarSpec : ChangeSpec := { name := "fnVar", fn := fun _ => fun
  | [d] => { results := [.lit (.bool true)], args := [d] }
  | _ => none }
def fnVarRow : OpenClaim := { program := "ytnamikhhbedpeaa", sum := "a9474722a21b8056ad04d7fead3ea8e8a52b06fc77f98cf20c0b66b7dc3e7185", func := "loop.example/g00495/laws.FnVar", spec := "fnVar", apart := false }
def FnVarSaid : Prop := fnVarRow.holds Try.pinned (OpenSpec.ofChange fnVarSpec)

/-- ITS FALSE NEIGHBOUR: 'it returns false'. Refute it at one input. -/
def fnVarWrong : ChangeSpec := { name := "fnVar", fn := fun _ => fun
  | [d] => { results := [.lit (.bool false)], args := [d] }
  | _ => none }
def FnVarWrongFalsely : Prop := fnVarRow.holds Try.pinned (OpenSpec.ofChange fnVarWrong)

/-- 'laws.FnOrder': WHATEVER THE INPUT: true; the input reads as it did. -/
def fnOrderSpec : ChangeSpec := { name := "fnOrder", fn := fun _ => fun
  | [d] => { results := [.lit (.bool true)], args := [d] }
  | _ => none }
def fnOrderRow : OpenClaim := { program := "ytnamikhhbedpeaa", sum := "a9474722a21b8056ad04d7fead3ea8e8a52b06fc77f98cf20c0b66b7dc3e7185", func := "loop.example/g00495/laws.FnOrder", spec := "fnOrder", apart := false }
def FnOrderSaid : Prop := fnOrderRow.holds Try.pinned (OpenSpec.ofChange fnOrderSpec)

/-- ITS FALSE NEIGHBOUR: 'it returns false'. Refute it at one input. -/
def fnOrderWrong : ChangeSpec := { name := "fnOrder", fn := fun _ => fun
  | [d] => { results := [.lit (.bool false)], args := [d] }
  | _ => none }
def FnOrderWrongFalsely : Prop := fnOrderRow.holds Try.pinned (OpenSpec.ofChange fnOrderWrong)

/-- 'laws.FnThird': WHATEVER THE INPUT: true; the input reads as it did. -/
def fnThirdSpec : ChangeSpec := { name := "fnThird", fn := fun _ => fun
  | [d] => { results := [.lit (.bool true)], args := [d] }
  | _ => none }
def fnThirdRow : OpenClaim := { program := "ytnamikhhbedpeaa", sum := "a9474722a21b8056ad04d7fead3ea8e8a52b06fc77f98cf20c0b66b7dc3e7185", func := "loop.example/g00495/laws.FnThird", spec := "fnThird", apart := false }
def FnThirdSaid : Prop := fnThirdRow.holds Try.pinned (OpenSpec.ofChange fnThirdSpec)

/-- ITS FALSE NEIGHBOUR: 'it returns false'. Refute it at one input. -/
def fnThirdWrong : ChangeSpec := { name := "fnThird", fn := fun _ => fun
  | [d] => { results := [.lit (.bool false)], args := [d] }
  | _ => none }
def FnThirdWrongFalsely : Prop := fnThirdRow.holds Try.pinned (OpenSpec.ofChange fnThirdWrong)

/-- 'laws.FnMul': WHATEVER THE INPUT: true; the input reads as it did. -/
def fnMulSpec : ChangeSpec := { name := "fnMul", fn := fun _ => fun
  | [d] => { results := [.lit (.bool true)], args := [d] }
  | _ => none }
def fnMulRow : OpenClaim := { program := "ytnamikhhbedpeaa", sum := "a9474722a21b8056ad04d7fead3ea8e8a52b06fc77f98cf20c0b66b7dc3e7185", func := "loop.example/g00495/laws.FnMul", spec := "fnMul", apart := false }
def FnMulSaid : Prop := fnMulRow.holds Try.pinned (OpenSpec.ofChange fnMulSpec)

/-- ITS FALSE NEIGHBOUR: 'it returns false'. Refute it at one input. -/
def fnMulWrong : ChangeSpec := { name := "fnMul", fn := fun _ => fun
  | [d] => { results := [.lit (.bool false)], args := [d] }
  | _ => none }
def FnMulWrongFalsely : Prop := fnMulRow.holds Try.pinned (OpenSpec.ofChange fnMulWrong)

/-- 'laws.FnSortRows': WHATEVER THE INPUT: true; the input reads as it did. -/
def fnSortRowsSpec : ChangeSpec := { name := "fnSortRows", fn := fun _ => fun
  | [d] => { results := [.lit (.bool true)], args := [d] }
  | _ => none }
def fnSortRowsRow : OpenClaim := { program := "ytnamikhhbedpeaa", sum := "a9474722a21b8056ad04d7fead3ea8e8a52b06fc77f98cf20c0b66b7dc3e7185", func := "loop.example/g00495/laws.FnSortRows", spec := "fnSortRows", unfollowed := true, recurses := true, apart := false }
def FnSortRowsSaid : Prop := fnSortRowsRow.holds Try.pinned (OpenSpec.ofChange fnSortRowsSpec)

/-- ITS FALSE NEIGHBOUR: 'it returns false'. Refute it at one input. -/
def fnSortRowsWrong : ChangeSpec := { name := "fnSortRows", fn := fun _ => fun
  | [d] => { results := [.lit (.bool false)], args := [d] }
  | _ => none }
def FnSortRowsWrongFalsely : Prop := fnSortRowsRow.holds Try.pinned (OpenSpec.ofChange fnSortRowsWrong)

/-- 'laws.FnDivide': WHATEVER THE INPUT: true; the input reads as it did. -/
def fnDivideSpec : ChangeSpec := { name := "fnDivide", fn := fun _ => fun
  | [d] => { results := [.lit (.bool true)], args := [d] }
  | _ => none }
def fnDivideRow : OpenClaim := { program := "ytnamikhhbedpeaa", sum := "a9474722a21b8056ad04d7fead3ea8e8a52b06fc77f98cf20c0b66b7dc3e7185", func := "loop.example/g00495/laws.FnDivide", spec := "fnDivide", apart := false }
def FnDivideSaid : Prop := fnDivideRow.holds Try.pinned (OpenSpec.ofChange fnDivideSpec)

/-- ITS FALSE NEIGHBOUR: 'it returns false'. Refute it at one input. -/
def fnDivideWrong : ChangeSpec := { name := "fnDivide", fn := fun _ => fun
  | [d] => { results := [.lit (.bool false)], args := [d] }
  | _ => none }
def FnDivideWrongFalsely : Prop := fnDivideRow.holds Try.pinned (OpenSpec.ofChange fnDivideWrong)

/-- 'laws.FnCompare': WHATEVER THE INPUT: true; the input reads as it did. -/
def fnCompareSpec : ChangeSpec := { name := "fnCompare", fn := fun _ => fun
  | [d] => { results := [.lit (.bool true)], args := [d] }
  | _ => none }
def fnCompareRow : OpenClaim := { program := "ytnamikhhbedpeaa", sum := "a9474722a21b8056ad04d7fead3ea8e8a52b06fc77f98cf20c0b66b7dc3e7185", func := "loop.example/g00495/laws.FnCompare", spec := "fnCompare", apart := false }
def FnCompareSaid : Prop := fnCompareRow.holds Try.pinned (OpenSpec.ofChange fnCompareSpec)

/-- ITS FALSE NEIGHBOUR: 'it returns false'. Refute it at one input. -/
def fnCompareWrong : ChangeSpec := { name := "fnCompare", fn := fun _ => fun
  | [d] => { results := [.lit (.bool false)], args := [d] }
  | _ => none }
def FnCompareWrongFalsely : Prop := fnCompareRow.holds Try.pinned (OpenSpec.ofChange fnCompareWrong)

/- THE SECOND FORM. 'bulk': how many values and letters a reading holds, each counted each time it is reached (what is shared counts as often as it is met; a slice's spare places count too). A statement '..UptoSaid' is the law's where the arguments, and the package variables that the reading takes, are together of bulk at most 1048576: NARROWER than '..Said'. Prove '..Said' where nothing that the law and all that it calls make is longer than what came in: it says more and counts as full. Else prove '..UptoSaid'. A law counts once. -/
mutual
def uptoBulk {H : Type} : DataW H → Nat
  | .lit (.string bytes) => bytes.length + 1
  | .lit _ => 1
  | .nil => 1
  | .ptr d => uptoBulk d + 1
  | .slice elems spare => uptoBulkAll elems + uptoBulkAll spare + 1
  | .agg parts => uptoBulkAll parts + 1
  | .iface _ d => uptoBulk d + 1
  | .map entries => uptoBulkEntries entries + 1
  | .held _ => 1
def uptoBulkAll {H : Type} : List (DataW H) → Nat
  | [] => 0
  | d :: r => uptoBulk d + uptoBulkAll r
def uptoBulkEntries {H : Type} : List (Lit × DataW H) → Nat
  | [] => 0
  | x :: r => uptoBulkEntry x + uptoBulkEntries r
def uptoBulkEntry {H : Type} : Lit × DataW H → Nat
  | (.string bytes, d) => bytes.length + uptoBulk d + 1
  | (_, d) => uptoBulk d + 1
 end
def uptoSmall : (H : Type) → List (DataW H) → Bool := fun _ ds => decide (uptoBulkAll ds ≤ 1048576)
def OpenSpec.upto (s : _root_.Go.ChangeSpec) : _root_.Go.OpenSpec := { _root_.Go.OpenSpec.ofChange s with cond := some uptoSmall }

/-- 'laws.FnPartsBack', WHERE WHAT IT READS IS OF BULK AT MOST 1048576: true; the input reads as it did. -/
def fnPartsBackUptoRow : OpenClaim := { program := "ytnamikhhbedpeaa", sum := "a9474722a21b8056ad04d7fead3ea8e8a52b06fc77f98cf20c0b66b7dc3e7185", func := "loop.example/g00495/laws.FnPartsBack", spec := "fnPartsBack", apart := false, narrowed := true }
def FnPartsBackUptoSaid : Prop := fnPartsBackUptoRow.holds Try.pinned (OpenSpec.upto fnPartsBackSpec)

/-- 'laws.FnZig', WHERE WHAT IT READS IS OF BULK AT MOST 1048576: true; the input reads as it did. -/
def fnZigUptoRow : OpenClaim := { program := "ytnamikhhbedpeaa", sum := "a9474722a21b8056ad04d7fead3ea8e8a52b06fc77f98cf20c0b66b7dc3e7185", func := "loop.example/g00495/laws.FnZig", spec := "fnZig", apart := false, narrowed := true }
def FnZigUptoSaid : Prop := fnZigUptoRow.holds Try.pinned (OpenSpec.upto fnZigSpec)

/-- 'laws.FnAddSub', WHERE WHAT IT READS IS OF BULK AT MOST 1048576: true; the input reads as it did. -/
def fnAddSubUptoRow : OpenClaim := { program := "ytnamikhhbedpeaa", sum := "a9474722a21b8056ad04d7fead3ea8e8a52b06fc77f98cf20c0b66b7dc3e7185", func := "loop.example/g00495/laws.FnAddSub", spec := "fnAddSub", apart := false, narrowed := true }
def FnAddSubUptoSaid : Prop := fnAddSubUptoRow.holds Try.pinned (OpenSpec.upto fnAddSubSpec)

/-- 'laws.FnVar', WHERE WHAT IT READS IS OF BULK AT MOST 1048576: true; the input reads as it did. -/
def fnVarUptoRow : OpenClaim := { program := "ytnamikhhbedpeaa", sum := "a9474722a21b8056ad04d7fead3ea8e8a52b06fc77f98cf20c0b66b7dc3e7185", func := "loop.example/g00495/laws.FnVar", spec := "fnVar", apart := false, narrowed := true }
def FnVarUptoSaid : Prop := fnVarUptoRow.holds Try.pinned (OpenSpec.upto fnVarSpec)

/-- 'laws.FnOrder', WHERE WHAT IT READS IS OF BULK AT MOST 1048576: true; the input reads as it did. -/
def fnOrderUptoRow : OpenClaim := { program := "ytnamikhhbedpeaa", sum := "a9474722a21b8056ad04d7fead3ea8e8a52b06fc77f98cf20c0b66b7dc3e7185", func := "loop.example/g00495/laws.FnOrder", spec := "fnOrder", apart := false, narrowed := true }
def FnOrderUptoSaid : Prop := fnOrderUptoRow.holds Try.pinned (OpenSpec.upto fnOrderSpec)

/-- 'laws.FnThird', WHERE WHAT IT READS IS OF BULK AT MOST 1048576: true; the input reads as it did. -/
def fnThirdUptoRow : OpenClaim := { program := "ytnamikhhbedpeaa", sum := "a9474722a21b8056ad04d7fead3ea8e8a52b06fc77f98cf20c0b66b7dc3e7185", func := "loop.example/g00495/laws.FnThird", spec := "fnThird", apart := false, narrowed := true }
def FnThirdUptoSaid : Prop := fnThirdUptoRow.holds Try.pinned (OpenSpec.upto fnThirdSpec)

/-- 'laws.FnMul', WHERE WHAT IT READS IS OF BULK AT MOST 1048576: true; the input reads as it did. -/
def fnMulUptoRow : OpenClaim := { program := "ytnamikhhbedpeaa", sum := "a9474722a21b8056ad04d7fead3ea8e8a52b06fc77f98cf20c0b66b7dc3e7185", func := "loop.example/g00495/laws.FnMul", spec := "fnMul", apart := false, narrowed := true }
def FnMulUptoSaid : Prop := fnMulUptoRow.holds Try.pinned (OpenSpec.upto fnMulSpec)

/-- 'laws.FnSortRows', WHERE WHAT IT READS IS OF BULK AT MOST 1048576: true; the input reads as it did. -/
def fnSortRowsUptoRow : OpenClaim := { program := "ytnamikhhbedpeaa", sum := "a9474722a21b8056ad04d7fead3ea8e8a52b06fc77f98cf20c0b66b7dc3e7185", func := "loop.example/g00495/laws.FnSortRows", spec := "fnSortRows", unfollowed := true, recurses := true, apart := false, narrowed := true }
def FnSortRowsUptoSaid : Prop := fnSortRowsUptoRow.holds Try.pinned (OpenSpec.upto fnSortRowsSpec)

/-- 'laws.FnDivide', WHERE WHAT IT READS IS OF BULK AT MOST 1048576: true; the input reads as it did. -/
def fnDivideUptoRow : OpenClaim := { program := "ytnamikhhbedpeaa", sum := "a9474722a21b8056ad04d7fead3ea8e8a52b06fc77f98cf20c0b66b7dc3e7185", func := "loop.example/g00495/laws.FnDivide", spec := "fnDivide", apart := false, narrowed := true }
def FnDivideUptoSaid : Prop := fnDivideUptoRow.holds Try.pinned (OpenSpec.upto fnDivideSpec)

/-- 'laws.FnCompare', WHERE WHAT IT READS IS OF BULK AT MOST 1048576: true; the input reads as it did. -/
def fnCompareUptoRow : OpenClaim := { program := "ytnamikhhbedpeaa", sum := "a9474722a21b8056ad04d7fead3ea8e8a52b06fc77f98cf20c0b66b7dc3e7185", func := "loop.example/g00495/laws.FnCompare", spec := "fnCompare", apart := false, narrowed := true }
def FnCompareUptoSaid : Prop := fnCompareUptoRow.holds Try.pinned (OpenSpec.upto fnCompareSpec)

end Rows
end Go.Proofs.Ytnamikhhbedpeaa
