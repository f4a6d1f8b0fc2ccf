/-
  No cell of these rows narrows 'for every input' (looked for: loops, veiled, ifaces, maps, wideKeys, modest, calm, conditions, laid).
  DERIVED. THE GIVEN ROWS OF THIS SEAT. 12 by the template 'for every input the law returns true; each argument reads behind the call as it read before'; 0 by the template 'total and deterministic' (their statements: YtafabbjdckoihaaTotals.lean).
  GIVEN WITH THE SEED: the statements are not yours to turn. If you find one false, say at which input.
  Laid BY PROGRAM, IN A SANDBOX (cutbox-rows.mjs): the forced cells as the released guide's own fill.sh prints them over the translation 7ed05cd9d17c8bca… (all of the seat's roots in one cut). By AI agents, Wed Nov 11 2026. No macro, syntax, notation, axiom, sorry.
-/
import Derived.Test.YtafabbjdckoihaaChecked
import GoSem.Claim
import GoSem.ClaimJoined
import GoSem.ClaimMapViews
import Derived.JoinedTies
import Derived.KernelRfl
namespace Go.Proofs.Ytafabbjdckoihaa
/- THE CELL 'sum', in the pinned program and in every row, IS THE sha256 OF THE DUMP (.gsa) THAT YtafabbjdckoihaaProg.lean LOADS. Nothing in Lean hashes anything: it is a label: what it is worth is what the hold of that sum in a sandbox is worth. -/
noncomputable def Try.pinned : Pinned := { name := "ytafabbjdckoihaa", sum := "7ed05cd9d17c8bcab33d8a8339d2817767b22251988f5617b142bb23bfa28522", checked := Try.checked }
namespace Rows
def none {H : Type} : Left H := { results := [], args := [] }

/-- 'laws.FnExactConstants': WHATEVER THE INPUT: true; the input reads as it did. -/
def fnExactConstantsSpec : ChangeSpec := { name := "fnExactConstants", fn := fun _ => fun
  | [] => { results := [.lit (.bool true)], args := [] }
  | _ => none }
def fnExactConstantsRow : OpenClaim := { program := "ytafabbjdckoihaa", sum := "7ed05cd9d17c8bcab33d8a8339d2817767b22251988f5617b142bb23bfa28522", func := "loop.example/g00495/laws.FnExactConstants", spec := "fnExactConstants", apart := false }
def FnExactConstantsSaid : Prop := fnExactConstantsRow.holds Try.pinned (OpenSpec.ofChange fnExactConstantsSpec)

/-- ITS FALSE NEIGHBOUR: 'it returns false'. Refute it at one input. -/
def fnExactConstantsWrong : ChangeSpec := { name := "fnExactConstants", fn := fun _ => fun
  | [] => { results := [.lit (.bool false)], args := [] }
  | _ => none }
def FnExactConstantsWrongFalsely : Prop := fnExactConstantsRow.holds Try.pinned (OpenSpec.ofChange fnExactConstantsWrong)

/-- 'laws.FnExactNameOk': WHATEVER THE INPUT: true; the input reads as it did. -/
def fnExactNameOkSpec : ChangeSpec := { name := "fnExactNameOk", fn := fun _ => fun
  | [d] => { results := [.lit (.bool true)], args := [d] }
  | _ => none }
def fnExactNameOkRow : OpenClaim := { program := "ytafabbjdckoihaa", sum := "7ed05cd9d17c8bcab33d8a8339d2817767b22251988f5617b142bb23bfa28522", func := "loop.example/g00495/laws.FnExactNameOk", spec := "fnExactNameOk", apart := false }
def FnExactNameOkSaid : Prop := fnExactNameOkRow.holds Try.pinned (OpenSpec.ofChange fnExactNameOkSpec)

/-- ITS FALSE NEIGHBOUR: 'it returns false'. Refute it at one input. -/
def fnExactNameOkWrong : ChangeSpec := { name := "fnExactNameOk", fn := fun _ => fun
  | [d] => { results := [.lit (.bool false)], args := [d] }
  | _ => none }
def FnExactNameOkWrongFalsely : Prop := fnExactNameOkRow.holds Try.pinned (OpenSpec.ofChange fnExactNameOkWrong)

/-- 'laws.FnExactZig': WHATEVER THE INPUT: true; the input reads as it did. -/
def fnExactZigSpec : ChangeSpec := { name := "fnExactZig", fn := fun _ => fun
  | [d] => { results := [.lit (.bool true)], args := [d] }
  | _ => none }
def fnExactZigRow : OpenClaim := { program := "ytafabbjdckoihaa", sum := "7ed05cd9d17c8bcab33d8a8339d2817767b22251988f5617b142bb23bfa28522", func := "loop.example/g00495/laws.FnExactZig", spec := "fnExactZig", apart := false }
def FnExactZigSaid : Prop := fnExactZigRow.holds Try.pinned (OpenSpec.ofChange fnExactZigSpec)

/-- ITS FALSE NEIGHBOUR: 'it returns false'. Refute it at one input. -/
def fnExactZigWrong : ChangeSpec := { name := "fnExactZig", fn := fun _ => fun
  | [d] => { results := [.lit (.bool false)], args := [d] }
  | _ => none }
def FnExactZigWrongFalsely : Prop := fnExactZigRow.holds Try.pinned (OpenSpec.ofChange fnExactZigWrong)

/-- 'laws.FnExactUnzig': WHATEVER THE INPUT: true; the input reads as it did. -/
def fnExactUnzigSpec : ChangeSpec := { name := "fnExactUnzig", fn := fun _ => fun
  | [d] => { results := [.lit (.bool true)], args := [d] }
  | _ => none }
def fnExactUnzigRow : OpenClaim := { program := "ytafabbjdckoihaa", sum := "7ed05cd9d17c8bcab33d8a8339d2817767b22251988f5617b142bb23bfa28522", func := "loop.example/g00495/laws.FnExactUnzig", spec := "fnExactUnzig", apart := false }
def FnExactUnzigSaid : Prop := fnExactUnzigRow.holds Try.pinned (OpenSpec.ofChange fnExactUnzigSpec)

/-- ITS FALSE NEIGHBOUR: 'it returns false'. Refute it at one input. -/
def fnExactUnzigWrong : ChangeSpec := { name := "fnExactUnzig", fn := fun _ => fun
  | [d] => { results := [.lit (.bool false)], args := [d] }
  | _ => none }
def FnExactUnzigWrongFalsely : Prop := fnExactUnzigRow.holds Try.pinned (OpenSpec.ofChange fnExactUnzigWrong)

/-- 'laws.FnExactAddNum': WHATEVER THE INPUT: true; the input reads as it did. -/
def fnExactAddNumSpec : ChangeSpec := { name := "fnExactAddNum", fn := fun _ => fun
  | [d1, d2] => { results := [.lit (.bool true)], args := [d1, d2] }
  | _ => none }
def fnExactAddNumRow : OpenClaim := { program := "ytafabbjdckoihaa", sum := "7ed05cd9d17c8bcab33d8a8339d2817767b22251988f5617b142bb23bfa28522", func := "loop.example/g00495/laws.FnExactAddNum", spec := "fnExactAddNum", apart := false }
def FnExactAddNumSaid : Prop := fnExactAddNumRow.holds Try.pinned (OpenSpec.ofChange fnExactAddNumSpec)

/-- ITS FALSE NEIGHBOUR: 'it returns false'. Refute it at one input. -/
def fnExactAddNumWrong : ChangeSpec := { name := "fnExactAddNum", fn := fun _ => fun
  | [d1, d2] => { results := [.lit (.bool false)], args := [d1, d2] }
  | _ => none }
def FnExactAddNumWrongFalsely : Prop := fnExactAddNumRow.holds Try.pinned (OpenSpec.ofChange fnExactAddNumWrong)

/-- 'laws.FnExactSubNum': WHATEVER THE INPUT: true; the input reads as it did. -/
def fnExactSubNumSpec : ChangeSpec := { name := "fnExactSubNum", fn := fun _ => fun
  | [d1, d2] => { results := [.lit (.bool true)], args := [d1, d2] }
  | _ => none }
def fnExactSubNumRow : OpenClaim := { program := "ytafabbjdckoihaa", sum := "7ed05cd9d17c8bcab33d8a8339d2817767b22251988f5617b142bb23bfa28522", func := "loop.example/g00495/laws.FnExactSubNum", spec := "fnExactSubNum", apart := false }
def FnExactSubNumSaid : Prop := fnExactSubNumRow.holds Try.pinned (OpenSpec.ofChange fnExactSubNumSpec)

/-- ITS FALSE NEIGHBOUR: 'it returns false'. Refute it at one input. -/
def fnExactSubNumWrong : ChangeSpec := { name := "fnExactSubNum", fn := fun _ => fun
  | [d1, d2] => { results := [.lit (.bool false)], args := [d1, d2] }
  | _ => none }
def FnExactSubNumWrongFalsely : Prop := fnExactSubNumRow.holds Try.pinned (OpenSpec.ofChange fnExactSubNumWrong)

/-- 'laws.FnExactOpText': WHATEVER THE INPUT: true; the input reads as it did. -/
def fnExactOpTextSpec : ChangeSpec := { name := "fnExactOpText", fn := fun _ => fun
  | [d] => { results := [.lit (.bool true)], args := [d] }
  | _ => none }
def fnExactOpTextRow : OpenClaim := { program := "ytafabbjdckoihaa", sum := "7ed05cd9d17c8bcab33d8a8339d2817767b22251988f5617b142bb23bfa28522", func := "loop.example/g00495/laws.FnExactOpText", spec := "fnExactOpText", apart := false }
def FnExactOpTextSaid : Prop := fnExactOpTextRow.holds Try.pinned (OpenSpec.ofChange fnExactOpTextSpec)

/-- ITS FALSE NEIGHBOUR: 'it returns false'. Refute it at one input. -/
def fnExactOpTextWrong : ChangeSpec := { name := "fnExactOpText", fn := fun _ => fun
  | [d] => { results := [.lit (.bool false)], args := [d] }
  | _ => none }
def FnExactOpTextWrongFalsely : Prop := fnExactOpTextRow.holds Try.pinned (OpenSpec.ofChange fnExactOpTextWrong)

/-- 'laws.FnExactIntValue': WHATEVER THE INPUT: true; the input reads as it did. -/
def fnExactIntValueSpec : ChangeSpec := { name := "fnExactIntValue", fn := fun _ => fun
  | [d] => { results := [.lit (.bool true)], args := [d] }
  | _ => none }
def fnExactIntValueRow : OpenClaim := { program := "ytafabbjdckoihaa", sum := "7ed05cd9d17c8bcab33d8a8339d2817767b22251988f5617b142bb23bfa28522", func := "loop.example/g00495/laws.FnExactIntValue", spec := "fnExactIntValue", apart := false }
def FnExactIntValueSaid : Prop := fnExactIntValueRow.holds Try.pinned (OpenSpec.ofChange fnExactIntValueSpec)

/-- ITS FALSE NEIGHBOUR: 'it returns false'. Refute it at one input. -/
def fnExactIntValueWrong : ChangeSpec := { name := "fnExactIntValue", fn := fun _ => fun
  | [d] => { results := [.lit (.bool false)], args := [d] }
  | _ => none }
def FnExactIntValueWrongFalsely : Prop := fnExactIntValueRow.holds Try.pinned (OpenSpec.ofChange fnExactIntValueWrong)

/-- 'laws.FnExactTextValue': WHATEVER THE INPUT: true; the input reads as it did. -/
def fnExactTextValueSpec : ChangeSpec := { name := "fnExactTextValue", fn := fun _ => fun
  | [d] => { results := [.lit (.bool true)], args := [d] }
  | _ => none }
def fnExactTextValueRow : OpenClaim := { program := "ytafabbjdckoihaa", sum := "7ed05cd9d17c8bcab33d8a8339d2817767b22251988f5617b142bb23bfa28522", func := "loop.example/g00495/laws.FnExactTextValue", spec := "fnExactTextValue", apart := false }
def FnExactTextValueSaid : Prop := fnExactTextValueRow.holds Try.pinned (OpenSpec.ofChange fnExactTextValueSpec)

/-- ITS FALSE NEIGHBOUR: 'it returns false'. Refute it at one input. -/
def fnExactTextValueWrong : ChangeSpec := { name := "fnExactTextValue", fn := fun _ => fun
  | [d] => { results := [.lit (.bool false)], args := [d] }
  | _ => none }
def FnExactTextValueWrongFalsely : Prop := fnExactTextValueRow.holds Try.pinned (OpenSpec.ofChange fnExactTextValueWrong)

/-- 'laws.FnExactPutVar': WHATEVER THE INPUT: true; the input reads as it did. -/
def fnExactPutVarSpec : ChangeSpec := { name := "fnExactPutVar", fn := fun _ => fun
  | [d] => { results := [.lit (.bool true)], args := [d] }
  | _ => none }
def fnExactPutVarRow : OpenClaim := { program := "ytafabbjdckoihaa", sum := "7ed05cd9d17c8bcab33d8a8339d2817767b22251988f5617b142bb23bfa28522", func := "loop.example/g00495/laws.FnExactPutVar", spec := "fnExactPutVar", apart := false }
def FnExactPutVarSaid : Prop := fnExactPutVarRow.holds Try.pinned (OpenSpec.ofChange fnExactPutVarSpec)

/-- ITS FALSE NEIGHBOUR: 'it returns false'. Refute it at one input. -/
def fnExactPutVarWrong : ChangeSpec := { name := "fnExactPutVar", fn := fun _ => fun
  | [d] => { results := [.lit (.bool false)], args := [d] }
  | _ => none }
def FnExactPutVarWrongFalsely : Prop := fnExactPutVarRow.holds Try.pinned (OpenSpec.ofChange fnExactPutVarWrong)

/-- 'laws.FnExactIsTrue': WHATEVER THE INPUT: true; the input reads as it did. -/
def fnExactIsTrueSpec : ChangeSpec := { name := "fnExactIsTrue", fn := fun _ => fun
  | [d] => { results := [.lit (.bool true)], args := [d] }
  | _ => none }
def fnExactIsTrueRow : OpenClaim := { program := "ytafabbjdckoihaa", sum := "7ed05cd9d17c8bcab33d8a8339d2817767b22251988f5617b142bb23bfa28522", func := "loop.example/g00495/laws.FnExactIsTrue", spec := "fnExactIsTrue", apart := false }
def FnExactIsTrueSaid : Prop := fnExactIsTrueRow.holds Try.pinned (OpenSpec.ofChange fnExactIsTrueSpec)

/-- ITS FALSE NEIGHBOUR: 'it returns false'. Refute it at one input. -/
def fnExactIsTrueWrong : ChangeSpec := { name := "fnExactIsTrue", fn := fun _ => fun
  | [d] => { results := [.lit (.bool false)], args := [d] }
  | _ => none }
def FnExactIsTrueWrongFalsely : Prop := fnExactIsTrueRow.holds Try.pinned (OpenSpec.ofChange fnExactIsTrueWrong)

/-- 'laws.FnExactFold': WHATEVER THE INPUT: true; the input reads as it did. -/
def fnExactFoldSpec : ChangeSpec := { name := "fnExactFold", fn := fun _ => fun
  | [d] => { results := [.lit (.bool true)], args := [d] }
  | _ => none }
def fnExactFoldRow : OpenClaim := { program := "ytafabbjdckoihaa", sum := "7ed05cd9d17c8bcab33d8a8339d2817767b22251988f5617b142bb23bfa28522", func := "loop.example/g00495/laws.FnExactFold", spec := "fnExactFold", apart := false }
def FnExactFoldSaid : Prop := fnExactFoldRow.holds Try.pinned (OpenSpec.ofChange fnExactFoldSpec)

/-- ITS FALSE NEIGHBOUR: 'it returns false'. Refute it at one input. -/
def fnExactFoldWrong : ChangeSpec := { name := "fnExactFold", fn := fun _ => fun
  | [d] => { results := [.lit (.bool false)], args := [d] }
  | _ => none }
def FnExactFoldWrongFalsely : Prop := fnExactFoldRow.holds Try.pinned (OpenSpec.ofChange fnExactFoldWrong)

/- THE SECOND FORM. 'bulk': how many values and letters a reading holds, each counted each time it is reached (what is shared counts as often as it is met; a slice's spare places count too). A statement '..UptoSaid' is the law's where the arguments, and the package variables that the reading takes, are together of bulk at most 1048576: NARROWER than '..Said'. Prove '..Said' where nothing that the law and all that it calls make is longer than what came in: it says more and counts as full. Else prove '..UptoSaid'. A law counts once. -/
mutual
def uptoBulk {H : Type} : DataW H → Nat
  | .lit (.string bytes) => bytes.length + 1
  | .lit _ => 1
  | .nil => 1
  | .ptr d => uptoBulk d + 1
  | .slice elems spare => uptoBulkAll elems + uptoBulkAll spare + 1
  | .agg parts => uptoBulkAll parts + 1
  | .iface _ d => uptoBulk d + 1
  | .map entries => uptoBulkEntries entries + 1
  | .held _ => 1
def uptoBulkAll {H : Type} : List (DataW H) → Nat
  | [] => 0
  | d :: r => uptoBulk d + uptoBulkAll r
def uptoBulkEntries {H : Type} : List (Lit × DataW H) → Nat
  | [] => 0
  | x :: r => uptoBulkEntry x + uptoBulkEntries r
def uptoBulkEntry {H : Type} : Lit × DataW H → Nat
  | (.string bytes, d) => bytes.length + uptoBulk d + 1
  | (_, d) => uptoBulk d + 1
 end
def uptoSmall : (H : Type) → List (DataW H) → Bool := fun _ ds => decide (uptoBulkAll ds ≤ 1048576)
def OpenSpec.upto (s : _root_.Go.ChangeSpec) : _root_.Go.OpenSpec := { _root_.Go.OpenSpec.ofChange s with cond := some uptoSmall }

/-- 'laws.FnExactConstants', WHERE WHAT IT READS IS OF BULK AT MOST 1048576: true; the input reads as it did. -/
def fnExactConstantsUptoRow : OpenClaim := { program := "ytafabbjdckoihaa", sum := "7ed05cd9d17c8bcab33d8a8339d2817767b22251988f5617b142bb23bfa28522", func := "loop.example/g00495/laws.FnExactConstants", spec := "fnExactConstants", apart := false, narrowed := true }
def FnExactConstantsUptoSaid : Prop := fnExactConstantsUptoRow.holds Try.pinned (OpenSpec.upto fnExactConstantsSpec)

/-- 'laws.FnExactNameOk', WHERE WHAT IT READS IS OF BULK AT MOST 1048576: true; the input reads as it did. -/
def fnExactNameOkUptoRow : OpenClaim := { program := "ytafabbjdckoihaa", sum := "7ed05cd9d17c8bcab33d8a8339d2817767b22251988f5617b142bb23bfa28522", func := "loop.example/g00495/laws.FnExactNameOk", spec := "fnExactNameOk", apart := false, narrowed := true }
def FnExactNameOkUptoSaid : Prop := fnExactNameOkUptoRow.holds Try.pinned (OpenSpec.upto fnExactNameOkSpec)

/-- 'laws.FnExactZig', WHERE WHAT IT READS IS OF BULK AT MOST 1048576: true; the input reads as it did. -/
def fnExactZigUptoRow : OpenClaim := { program := "ytafabbjdckoihaa", sum := "7ed05cd9d17c8bcab33d8a8339d2817767b22251988f5617b142bb23bfa28522", func := "loop.example/g00495/laws.FnExactZig", spec := "fnExactZig", apart := false, narrowed := true }
def FnExactZigUptoSaid : Prop := fnExactZigUptoRow.holds Try.pinned (OpenSpec.upto fnExactZigSpec)

/-- 'laws.FnExactUnzig', WHERE WHAT IT READS IS OF BULK AT MOST 1048576: true; the input reads as it did. -/
def fnExactUnzigUptoRow : OpenClaim := { program := "ytafabbjdckoihaa", sum := "7ed05cd9d17c8bcab33d8a8339d2817767b22251988f5617b142bb23bfa28522", func := "loop.example/g00495/laws.FnExactUnzig", spec := "fnExactUnzig", apart := false, narrowed := true }
def FnExactUnzigUptoSaid : Prop := fnExactUnzigUptoRow.holds Try.pinned (OpenSpec.upto fnExactUnzigSpec)

/-- 'laws.FnExactAddNum', WHERE WHAT IT READS IS OF BULK AT MOST 1048576: true; the input reads as it did. -/
def fnExactAddNumUptoRow : OpenClaim := { program := "ytafabbjdckoihaa", sum := "7ed05cd9d17c8bcab33d8a8339d2817767b22251988f5617b142bb23bfa28522", func := "loop.example/g00495/laws.FnExactAddNum", spec := "fnExactAddNum", apart := false, narrowed := true }
def FnExactAddNumUptoSaid : Prop := fnExactAddNumUptoRow.holds Try.pinned (OpenSpec.upto fnExactAddNumSpec)

/-- 'laws.FnExactSubNum', WHERE WHAT IT READS IS OF BULK AT MOST 1048576: true; the input reads as it did. -/
def fnExactSubNumUptoRow : OpenClaim := { program := "ytafabbjdckoihaa", sum := "7ed05cd9d17c8bcab33d8a8339d2817767b22251988f5617b142bb23bfa28522", func := "loop.example/g00495/laws.FnExactSubNum", spec := "fnExactSubNum", apart := false, narrowed := true }
def FnExactSubNumUptoSaid : Prop := fnExactSubNumUptoRow.holds Try.pinned (OpenSpec.upto fnExactSubNumSpec)

/-- 'laws.FnExactOpText', WHERE WHAT IT READS IS OF BULK AT MOST 1048576: true; the input reads as it did. -/
def fnExactOpTextUptoRow : OpenClaim := { program := "ytafabbjdckoihaa", sum := "7ed05cd9d17c8bcab33d8a8339d2817767b22251988f5617b142bb23bfa28522", func := "loop.example/g00495/laws.FnExactOpText", spec := "fnExactOpText", apart := false, narrowed := true }
def FnExactOpTextUptoSaid : Prop := fnExactOpTextUptoRow.holds Try.pinned (OpenSpec.upto fnExactOpTextSpec)

/-- 'laws.FnExactIntValue', WHERE WHAT IT READS IS OF BULK AT MOST 1048576: true; the input reads as it did. -/
def fnExactIntValueUptoRow : OpenClaim := { program := "ytafabbjdckoihaa", sum := "7ed05cd9d17c8bcab33d8a8339d2817767b22251988f5617b142bb23bfa28522", func := "loop.example/g00495/laws.FnExactIntValue", spec := "fnExactIntValue", apart := false, narrowed := true }
def FnExactIntValueUptoSaid : Prop := fnExactIntValueUptoRow.holds Try.pinned (OpenSpec.upto fnExactIntValueSpec)

/-- 'laws.FnExactTextValue', WHERE WHAT IT READS IS OF BULK AT MOST 1048576: true; the input reads as it did. -/
def fnExactTextValueUptoRow : OpenClaim := { program := "ytafabbjdckoihaa", sum := "7ed05cd9d17c8bcab33d8a8339d2817767b22251988f5617b142bb23bfa28522", func := "loop.example/g00495/laws.FnExactTextValue", spec := "fnExactTextValue", apart := false, narrowed := true }
def FnExactTextValueUptoSaid : Prop := fnExactTextValueUptoRow.holds Try.pinned (OpenSpec.upto fnExactTextValueSpec)

/-- 'laws.FnExactPutVar', WHERE WHAT IT READS IS OF BULK AT MOST 1048576: true; the input reads as it did. -/
def fnExactPutVarUptoRow : OpenClaim := { program := "ytafabbjdckoihaa", sum := "7ed05cd9d17c8bcab33d8a8339d2817767b22251988f5617b142bb23bfa28522", func := "loop.example/g00495/laws.FnExactPutVar", spec := "fnExactPutVar", apart := false, narrowed := true }
def FnExactPutVarUptoSaid : Prop := fnExactPutVarUptoRow.holds Try.pinned (OpenSpec.upto fnExactPutVarSpec)

/-- 'laws.FnExactIsTrue', WHERE WHAT IT READS IS OF BULK AT MOST 1048576: true; the input reads as it did. -/
def fnExactIsTrueUptoRow : OpenClaim := { program := "ytafabbjdckoihaa", sum := "7ed05cd9d17c8bcab33d8a8339d2817767b22251988f5617b142bb23bfa28522", func := "loop.example/g00495/laws.FnExactIsTrue", spec := "fnExactIsTrue", apart := false, narrowed := true }
def FnExactIsTrueUptoSaid : Prop := fnExactIsTrueUptoRow.holds Try.pinned (OpenSpec.upto fnExactIsTrueSpec)

/-- 'laws.FnExactFold', WHERE WHAT IT READS IS OF BULK AT MOST 1048576: true; the input reads as it did. -/
def fnExactFoldUptoRow : OpenClaim := { program := "ytafabbjdckoihaa", sum := "7ed05cd9d17c8bcab33d8a8339d2817767b22251988f5617b142bb23bfa28522", func := "loop.example/g00495/laws.FnExactFold", spec := "fnExactFold", apart := false, narrowed := true }
def FnExactFoldUptoSaid : Prop := fnExactFoldUptoRow.holds Try.pinned (OpenSpec.upto fnExactFoldSpec)

end Rows
end Go.Proofs.Ytafabbjdckoihaa
