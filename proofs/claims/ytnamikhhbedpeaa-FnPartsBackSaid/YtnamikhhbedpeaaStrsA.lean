/-
  Rows of strings that the call itself made.
-/
import Derived.Test.YtnamikhhbedpeaaRows
import Derived.WalkKit
import Derived.WalkLawsBesides
import Derived.WalkSpells
import Derived.Handy
import Derived.Lib.BufferOwn
import Derived.Test.YtnamikhhbedpeaaM1
import Derived.Test.YtnamikhhbedpeaaB
namespace Go.Proofs.Ytnamikhhbedpeaa
open Go.RowKit Go.Lib

/-- Block g holds the strings f 0, .., f (n - 1); none of these cells is frozen. -/
structure StrsF (w : World) (g n : Nat) (f : Nat → ByteArray) : Prop where
  lt : g < w.heap.size
  cell : ∀ i, i < n → w.cell? ⟨g, i, none⟩ = some (.string (f i))
  free : ∀ i, i < n → w.frozen? ⟨g, i, none⟩ = false

theorem StrsF.of_owns {w : World} {base : Nat} {e : TypeId} {g n cap : Nat} {l : List ByteArray} (h : w.ownsRow base e 1 (.slice (some ⟨g, 0, none⟩) n cap) n (l.map .string)) : StrsF w g n (fun i => l.getD i ByteArray.empty) := by
  have hl : l.length = n := by simpa using h.1
  refine ⟨(h.lt g rfl).2, fun i hi => ?_, fun i _ => h.frozenAt i⟩
  rw [h.cellAt i (by omega)]
  simp [List.getD, List.getElem?_eq_getElem (show i < l.length by omega)]

theorem StrsF.stays {w w' : World} {g n : Nat} {f : Nat → ByteArray} (h : StrsF w g n f) (hs : w.heap.size ≤ w'.heap.size) (hb : w'.heap[g]? = w.heap[g]?) : StrsF w' g n f :=
  ⟨Nat.lt_of_lt_of_le h.lt hs, fun i hi => (World.cell?_of_block (a := ⟨g, i, none⟩) hb).trans (h.cell i hi), fun i hi => (World.frozen?_of_block (a := ⟨g, i, none⟩) hb).trans (h.free i hi)⟩

theorem StrsF.below {w w' : World} {g n : Nat} {f : Nat → ByteArray} (h : StrsF w g n f) (hb : Below w.heap.size w w') : StrsF w' g n f :=
  h.stays hb.size (hb.block g h.lt)

theorem StrsF.other {w w' : World} {g g' n : Nat} {f : Nat → ByteArray} (h : StrsF w g n f) (hb : w.grownBy w' (some g')) (hne : g ≠ g') : StrsF w' g n f :=
  h.stays hb.size (hb.block g h.lt (fun e => hne (by injection e)))

theorem StrsF.set {w : World} {g n : Nat} {f : Nat → ByteArray} (h : StrsF w g n f) (k : Nat) (hk : k < n) (s : ByteArray) :
    StrsF (w.setCell ⟨g, k, none⟩ (.string s)) g n (fun i => if i = k then s else f i) := by
  refine ⟨by simpa [World.setCell] using h.lt, fun i hi => ?_, fun i hi => ?_⟩
  · by_cases hik : i = k
    · subst hik
      rw [World.cell?_setCell_same _ _ _ (h.cell i hi)]
      simp
    · rw [World.cell?_setCell_other _ _ _ _ (by intro e; injection e with _ e2 _; exact hik e2.symm), h.cell i hi]
      simp [hik]
  · rw [World.frozen?_setCell]
    exact h.free i hi

theorem StrsF.same {w : World} {g n : Nat} {f f' : Nat → ByteArray} (h : StrsF w g n f) (he : ∀ i, i < n → f i = f' i) : StrsF w g n f' :=
  ⟨h.lt, fun i hi => by rw [h.cell i hi, he i hi], h.free⟩
end Go.Proofs.Ytnamikhhbedpeaa
