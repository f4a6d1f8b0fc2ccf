/-
  Behind a call whose contract ended in 'Below W.heap.size W w1': a cell's fact, a size fact, laid anew in w1.
-/
import Derived.WalkKit
import Derived.WalkLawsBesides
import Derived.WalkSpells
import Derived.Handy
import Derived.Test.YtfpoakdmclekoaaB
namespace Go.Proofs.Ytfpoakdmclekoaa
open Go Go.RowKit

theorem carry_cell {W w1 : World} (hb : Below W.heap.size W w1) {b o : Nat} {r : Option Value} (hc : W.cell? ⟨b, o, none⟩ = r) (hlt : b < W.heap.size) : w1.cell? ⟨b, o, none⟩ = r :=
  ((bcell hb).1 b o hlt).trans hc
theorem carry_frozen {W w1 : World} (hb : Below W.heap.size W w1) {b o : Nat} {r : Bool} (hc : W.frozen? ⟨b, o, none⟩ = r) (hlt : b < W.heap.size) : w1.frozen? ⟨b, o, none⟩ = r :=
  ((bcell hb).2 b o hlt).trans hc
theorem carry_size {W w1 : World} (hb : Below W.heap.size W w1) {b : Nat} (hlt : b < W.heap.size) : b < w1.heap.size := Nat.lt_of_lt_of_le hlt hb.size

/-- The same behind a call that began in a world with one block more. -/
theorem carryA_cell {w w1 : World} {O : Obj} (hb : Below (w.alloc O).heap.size (w.alloc O) w1) {b o : Nat} {r : Option Value} (hc : w.cell? ⟨b, o, none⟩ = r) (hlt : b < w.heap.size) : w1.cell? ⟨b, o, none⟩ = r :=
  carry_cell (below_via ((Below.refl _ w).alloc (Nat.le_refl _) O) hb) hc hlt
theorem carryA_size {w w1 : World} {O : Obj} (hb : Below (w.alloc O).heap.size (w.alloc O) w1) {b : Nat} (hlt : b < w.heap.size) : b < w1.heap.size :=
  carry_size (below_via ((Below.refl _ w).alloc (Nat.le_refl _) O) hb) hlt

theorem kept3d {w w1 : World} {t : TypeId} {x y z : Value} (hb : Below (w.alloc (.cells #[x, y, z] t)).drew.heap.size (w.alloc (.cells #[x, y, z] t)).drew w1) :
    w1.cell? ⟨w.heap.size, 0, none⟩ = some x ∧ w1.cell? ⟨w.heap.size, 1, none⟩ = some y ∧ w1.cell? ⟨w.heap.size, 2, none⟩ = some z ∧
    w1.frozen? ⟨w.heap.size, 0, none⟩ = false ∧ w1.frozen? ⟨w.heap.size, 1, none⟩ = false ∧ w1.frozen? ⟨w.heap.size, 2, none⟩ = false ∧ w.heap.size < w1.heap.size :=
  kept3 (w := w) (t := t) (x := x) (y := y) (z := z) (below_via (Below.drew (Below.refl _ _)) hb)
end Go.Proofs.Ytfpoakdmclekoaa
