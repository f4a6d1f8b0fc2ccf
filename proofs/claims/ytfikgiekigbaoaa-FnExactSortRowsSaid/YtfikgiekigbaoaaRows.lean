/-
  No cell of these rows narrows 'for every input' (looked for: loops, veiled, ifaces, maps, wideKeys, modest, calm, conditions, laid).
  DERIVED. THE GIVEN ROWS OF THIS SEAT. 4 by the template 'for every input the law returns true; each argument reads behind the call as it read before'; 0 by the template 'total and deterministic' (their statements: YtfikgiekigbaoaaTotals.lean).
  GIVEN WITH THE SEED: the statements are not yours to turn. If you find one false, say at which input.
  Laid BY PROGRAM, IN A SANDBOX (cutbox-rows.mjs): the forced cells as the released guide's own fill.sh prints them over the translation fa65728a9831db3b… (all of the seat's roots in one cut). By AI agents, Wed Nov 11 2026. No macro, syntax, notation, axiom, sorry.
-/
import Derived.Test.YtfikgiekigbaoaaChecked
import GoSem.Claim
import GoSem.ClaimJoined
import GoSem.ClaimMapViews
import Derived.JoinedTies
import Derived.KernelRfl
namespace Go.Proofs.Ytfikgiekigbaoaa
/- THE CELL 'sum', in the pinned program and in every row, IS THE sha256 OF THE DUMP (.gsa) THAT YtfikgiekigbaoaaProg.lean LOADS. Nothing in Lean hashes anything: it is a label: what it is worth is what the hold of that sum in a sandbox is worth. -/
noncomputable def Try.pinned : Pinned := { name := "ytfikgiekigbaoaa", sum := "fa65728a9831db3b5d45701d2bc1b943e9e8218f413f92c3108544df4cbf3428", checked := Try.checked }
namespace Rows
def none {H : Type} : Left H := { results := [], args := [] }

/-- 'laws.FnExactSameTokens': WHATEVER THE INPUT: true; the input reads as it did. -/
def fnExactSameTokensSpec : ChangeSpec := { name := "fnExactSameTokens", fn := fun _ => fun
  | [d1, d2] => { results := [.lit (.bool true)], args := [d1, d2] }
  | _ => none }
def fnExactSameTokensRow : OpenClaim := { program := "ytfikgiekigbaoaa", sum := "fa65728a9831db3b5d45701d2bc1b943e9e8218f413f92c3108544df4cbf3428", func := "loop.example/g00495/laws.FnExactSameTokens", spec := "fnExactSameTokens", unfollowed := true, recurses := true, apart := false }
def FnExactSameTokensSaid : Prop := fnExactSameTokensRow.holds Try.pinned (OpenSpec.ofChange fnExactSameTokensSpec)

/-- ITS FALSE NEIGHBOUR: 'it returns false'. Refute it at one input. -/
def fnExactSameTokensWrong : ChangeSpec := { name := "fnExactSameTokens", fn := fun _ => fun
  | [d1, d2] => { results := [.lit (.bool false)], args := [d1, d2] }
  | _ => none }
def FnExactSameTokensWrongFalsely : Prop := fnExactSameTokensRow.holds Try.pinned (OpenSpec.ofChange fnExactSameTokensWrong)

/-- 'laws.FnExactOrderRow': WHATEVER THE INPUT: true; the input reads as it did. -/
def fnExactOrderRowSpec : ChangeSpec := { name := "fnExactOrderRow", fn := fun _ => fun
  | [d1, d2] => { results := [.lit (.bool true)], args := [d1, d2] }
  | _ => none }
def fnExactOrderRowRow : OpenClaim := { program := "ytfikgiekigbaoaa", sum := "fa65728a9831db3b5d45701d2bc1b943e9e8218f413f92c3108544df4cbf3428", func := "loop.example/g00495/laws.FnExactOrderRow", spec := "fnExactOrderRow", unfollowed := true, recurses := true, apart := false }
def FnExactOrderRowSaid : Prop := fnExactOrderRowRow.holds Try.pinned (OpenSpec.ofChange fnExactOrderRowSpec)

/-- ITS FALSE NEIGHBOUR: 'it returns false'. Refute it at one input. -/
def fnExactOrderRowWrong : ChangeSpec := { name := "fnExactOrderRow", fn := fun _ => fun
  | [d1, d2] => { results := [.lit (.bool false)], args := [d1, d2] }
  | _ => none }
def FnExactOrderRowWrongFalsely : Prop := fnExactOrderRowRow.holds Try.pinned (OpenSpec.ofChange fnExactOrderRowWrong)

/-- 'laws.FnExactSortRows': WHATEVER THE INPUT: true; the input reads as it did. -/
def fnExactSortRowsSpec : ChangeSpec := { name := "fnExactSortRows", fn := fun _ => fun
  | [d] => { results := [.lit (.bool true)], args := [d] }
  | _ => none }
def fnExactSortRowsRow : OpenClaim := { program := "ytfikgiekigbaoaa", sum := "fa65728a9831db3b5d45701d2bc1b943e9e8218f413f92c3108544df4cbf3428", func := "loop.example/g00495/laws.FnExactSortRows", spec := "fnExactSortRows", unfollowed := true, recurses := true, apart := false }
def FnExactSortRowsSaid : Prop := fnExactSortRowsRow.holds Try.pinned (OpenSpec.ofChange fnExactSortRowsSpec)

/-- ITS FALSE NEIGHBOUR: 'it returns false'. Refute it at one input. -/
def fnExactSortRowsWrong : ChangeSpec := { name := "fnExactSortRows", fn := fun _ => fun
  | [d] => { results := [.lit (.bool false)], args := [d] }
  | _ => none }
def FnExactSortRowsWrongFalsely : Prop := fnExactSortRowsRow.holds Try.pinned (OpenSpec.ofChange fnExactSortRowsWrong)

/-- 'laws.FnSortRows': WHATEVER THE INPUT: true; the input reads as it did. -/
def fnSortRowsSpec : ChangeSpec := { name := "fnSortRows", fn := fun _ => fun
  | [d] => { results := [.lit (.bool true)], args := [d] }
  | _ => none }
def fnSortRowsRow : OpenClaim := { program := "ytfikgiekigbaoaa", sum := "fa65728a9831db3b5d45701d2bc1b943e9e8218f413f92c3108544df4cbf3428", func := "loop.example/g00495/laws.FnSortRows", spec := "fnSortRows", unfollowed := true, recurses := true, apart := false }
def FnSortRowsSaid : Prop := fnSortRowsRow.holds Try.pinned (OpenSpec.ofChange fnSortRowsSpec)

/-- ITS FALSE NEIGHBOUR: 'it returns false'. Refute it at one input. -/
def fnSortRowsWrong : ChangeSpec := { name := "fnSortRows", fn := fun _ => fun
  | [d] => { results := [.lit (.bool false)], args := [d] }
  | _ => none }
def FnSortRowsWrongFalsely : Prop := fnSortRowsRow.holds Try.pinned (OpenSpec.ofChange fnSortRowsWrong)

/- THE SECOND FORM. 'bulk': how many values and letters a reading holds, each counted each time it is reached (what is shared counts as often as it is met; a slice's spare places count too). A statement '..UptoSaid' is the law's where the arguments, and the package variables that the reading takes, are together of bulk at most 1048576: NARROWER than '..Said'. Prove '..Said' where nothing that the law and all that it calls make is longer than what came in: it says more and counts as full. Else prove '..UptoSaid'. A law counts once. -/
mutual
def uptoBulk {H : Type} : DataW H → Nat
  | .lit (.string bytes) => bytes.length + 1
  | .lit _ => 1
  | .nil => 1
  | .ptr d => uptoBulk d + 1
  | .slice elems spare => uptoBulkAll elems + uptoBulkAll spare + 1
  | .agg parts => uptoBulkAll parts + 1
  | .iface _ d => uptoBulk d + 1
  | .map entries => uptoBulkEntries entries + 1
  | .held _ => 1
def uptoBulkAll {H : Type} : List (DataW H) → Nat
  | [] => 0
  | d :: r => uptoBulk d + uptoBulkAll r
def uptoBulkEntries {H : Type} : List (Lit × DataW H) → Nat
  | [] => 0
  | x :: r => uptoBulkEntry x + uptoBulkEntries r
def uptoBulkEntry {H : Type} : Lit × DataW H → Nat
  | (.string bytes, d) => bytes.length + uptoBulk d + 1
  | (_, d) => uptoBulk d + 1
 end
def uptoSmall : (H : Type) → List (DataW H) → Bool := fun _ ds => decide (uptoBulkAll ds ≤ 1048576)
def OpenSpec.upto (s : _root_.Go.ChangeSpec) : _root_.Go.OpenSpec := { _root_.Go.OpenSpec.ofChange s with cond := some uptoSmall }

/-- 'laws.FnExactSameTokens', WHERE WHAT IT READS IS OF BULK AT MOST 1048576: true; the input reads as it did. -/
def fnExactSameTokensUptoRow : OpenClaim := { program := "ytfikgiekigbaoaa", sum := "fa65728a9831db3b5d45701d2bc1b943e9e8218f413f92c3108544df4cbf3428", func := "loop.example/g00495/laws.FnExactSameTokens", spec := "fnExactSameTokens", unfollowed := true, recurses := true, apart := false, narrowed := true }
def FnExactSameTokensUptoSaid : Prop := fnExactSameTokensUptoRow.holds Try.pinned (OpenSpec.upto fnExactSameTokensSpec)

/-- 'laws.FnExactOrderRow', WHERE WHAT IT READS IS OF BULK AT MOST 1048576: true; the input reads as it did. -/
def fnExactOrderRowUptoRow : OpenClaim := { program := "ytfikgiekigbaoaa", sum := "fa65728a9831db3b5d45701d2bc1b943e9e8218f413f92c3108544df4cbf3428", func := "loop.example/g00495/laws.FnExactOrderRow", spec := "fnExactOrderRow", unfollowed := true, recurses := true, apart := false, narrowed := true }
def FnExactOrderRowUptoSaid : Prop := fnExactOrderRowUptoRow.holds Try.pinned (OpenSpec.upto fnExactOrderRowSpec)

/-- 'laws.FnExactSortRows', WHERE WHAT IT READS IS OF BULK AT MOST 1048576: true; the input reads as it did. -/
def fnExactSortRowsUptoRow : OpenClaim := { program := "ytfikgiekigbaoaa", sum := "fa65728a9831db3b5d45701d2bc1b943e9e8218f413f92c3108544df4cbf3428", func := "loop.example/g00495/laws.FnExactSortRows", spec := "fnExactSortRows", unfollowed := true, recurses := true, apart := false, narrowed := true }
def FnExactSortRowsUptoSaid : Prop := fnExactSortRowsUptoRow.holds Try.pinned (OpenSpec.upto fnExactSortRowsSpec)

/-- 'laws.FnSortRows', WHERE WHAT IT READS IS OF BULK AT MOST 1048576: true; the input reads as it did. -/
def fnSortRowsUptoRow : OpenClaim := { program := "ytfikgiekigbaoaa", sum := "fa65728a9831db3b5d45701d2bc1b943e9e8218f413f92c3108544df4cbf3428", func := "loop.example/g00495/laws.FnSortRows", spec := "fnSortRows", unfollowed := true, recurses := true, apart := false, narrowed := true }
def FnSortRowsUptoSaid : Prop := fnSortRowsUptoRow.holds Try.pinned (OpenSpec.upto fnSortRowsSpec)

end Rows
end Go.Proofs.Ytfikgiekigbaoaa
