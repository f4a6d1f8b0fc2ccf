/-
  Rows of tokens that the call itself made.
-/
import Derived.Test.YtfnjcgakcpadiaaDoorLexW
namespace Go.Proofs.YtfnjcgakcpadiaaDoor
open Go.RowKit

/-- Block g holds n tokens; none of these cells is frozen. -/
structure ToksF (w : World) (g n : Nat) (f : Nat → Int × ByteArray × Int) : Prop where
  lt : g < w.heap.size
  cell : ∀ i, i < n → w.cell? ⟨g, i * 3, none⟩ = some (.int .i64 (f i).1) ∧ w.cell? ⟨g, i * 3 + 1, none⟩ = some (.string (f i).2.1) ∧ w.cell? ⟨g, i * 3 + 2, none⟩ = some (.int .i64 (f i).2.2)
  free : ∀ i, i < n → w.frozen? ⟨g, i * 3, none⟩ = false ∧ w.frozen? ⟨g, i * 3 + 1, none⟩ = false ∧ w.frozen? ⟨g, i * 3 + 2, none⟩ = false

/-- A token of a list. -/
def tkF (l : List Tk) (i : Nat) : Int × ByteArray × Int := ((l.getD i (0, ⟨#[]⟩, 0)).1, (l.getD i (0, ⟨#[]⟩, 0)).2.1, ((l.getD i (0, ⟨#[]⟩, 0)).2.2 : Int))

theorem ToksF.of_owns {w : World} {base : Nat} {e : TypeId} {g n cap : Nat} {l : List Tk} (h : w.ownsRow base e 3 (.slice (some ⟨g, 0, none⟩) n cap) n (tkCells l)) : ToksF w g n (tkF l) := by
  have hl : l.length = n := by have := h.1; rw [tkCells_len] at this; omega
  refine ⟨(h.lt g rfl).2, fun i hi => ?_, fun i _ => ⟨h.frozenAt _, h.frozenAt _, h.frozenAt _⟩⟩
  obtain ⟨h1, h2, h3⟩ := tkCells_get l i (by omega)
  rw [h.cellAt (i * 3) (by omega), h.cellAt (i * 3 + 1) (by omega), h.cellAt (i * 3 + 2) (by omega), h1, h2, h3]
  simp [tkF, List.getD, List.getElem?_eq_getElem (show i < l.length by omega)]

theorem ToksF.stays {w w' : World} {g n : Nat} {f : Nat → Int × ByteArray × Int} (h : ToksF w g n f) (hs : w.heap.size ≤ w'.heap.size) (hb : w'.heap[g]? = w.heap[g]?) : ToksF w' g n f := by
  have hc : ∀ o, w'.cell? ⟨g, o, none⟩ = w.cell? ⟨g, o, none⟩ := fun o => World.cell?_of_block (a := ⟨g, o, none⟩) hb
  have hf : ∀ o, w'.frozen? ⟨g, o, none⟩ = w.frozen? ⟨g, o, none⟩ := fun o => World.frozen?_of_block (a := ⟨g, o, none⟩) hb
  refine ⟨Nat.lt_of_lt_of_le h.lt hs, fun i hi => ?_, fun i hi => ?_⟩
  · rw [hc, hc, hc]; exact h.cell i hi
  · rw [hf, hf, hf]; exact h.free i hi
theorem ToksF.below {w w' : World} {g n : Nat} {f : Nat → Int × ByteArray × Int} (h : ToksF w g n f) (hb : Below w.heap.size w w') : ToksF w' g n f :=
  h.stays hb.size (hb.block g h.lt)
theorem ToksF.other {w w' : World} {g g' n : Nat} {f : Nat → Int × ByteArray × Int} (h : ToksF w g n f) (hb : w.grownBy w' (some g')) (hne : g ≠ g') : ToksF w' g n f :=
  h.stays hb.size (hb.block g h.lt (fun e => hne (by injection e)))
theorem ToksF.same {w : World} {g n : Nat} {f f' : Nat → Int × ByteArray × Int} (h : ToksF w g n f) (he : ∀ i, i < n → f i = f' i) : ToksF w g n f' :=
  ⟨h.lt, fun i hi => by rw [← he i hi]; exact h.cell i hi, h.free⟩

theorem off_ne {g i j : Nat} (h : i ≠ j) : (⟨g, i, none⟩ : Addr) ≠ ⟨g, j, none⟩ := by intro e; injection e with _ e _; exact h e
theorem ToksF.setK {w : World} {g n : Nat} {f : Nat → Int × ByteArray × Int} (h : ToksF w g n f) (k : Nat) (hk : k < n) (x : Int) :
    ToksF (w.setCell ⟨g, k * 3, none⟩ (.int .i64 x)) g n (fun i => if i = k then (x, (f i).2.1, (f i).2.2) else f i) := by
  refine ⟨by simpa [World.setCell] using h.lt, fun i hi => ?_, fun i hi => ?_⟩
  · obtain ⟨h1, h2, h3⟩ := h.cell i hi
    by_cases hik : i = k
    · subst hik
      rw [World.cell?_setCell_same _ _ _ h1, World.cell?_setCell_other _ _ _ _ (off_ne (by omega)), World.cell?_setCell_other _ _ _ _ (off_ne (by omega)), h2, h3]
      simp
    · rw [World.cell?_setCell_other _ _ _ _ (off_ne (by omega)), World.cell?_setCell_other _ _ _ _ (off_ne (by omega)), World.cell?_setCell_other _ _ _ _ (off_ne (by omega)), h1, h2, h3]
      simp [hik]
  · rw [World.frozen?_setCell, World.frozen?_setCell, World.frozen?_setCell]
    exact h.free i hi
theorem ToksF.setX {w : World} {g n : Nat} {f : Nat → Int × ByteArray × Int} (h : ToksF w g n f) (k : Nat) (hk : k < n) (x : ByteArray) :
    ToksF (w.setCell ⟨g, k * 3 + 1, none⟩ (.string x)) g n (fun i => if i = k then ((f i).1, x, (f i).2.2) else f i) := by
  refine ⟨by simpa [World.setCell] using h.lt, fun i hi => ?_, fun i hi => ?_⟩
  · obtain ⟨h1, h2, h3⟩ := h.cell i hi
    by_cases hik : i = k
    · subst hik
      rw [World.cell?_setCell_same _ _ _ h2, World.cell?_setCell_other _ _ _ _ (off_ne (by omega)), World.cell?_setCell_other _ _ _ _ (off_ne (by omega)), h1, h3]
      simp
    · rw [World.cell?_setCell_other _ _ _ _ (off_ne (by omega)), World.cell?_setCell_other _ _ _ _ (off_ne (by omega)), World.cell?_setCell_other _ _ _ _ (off_ne (by omega)), h1, h2, h3]
      simp [hik]
  · rw [World.frozen?_setCell, World.frozen?_setCell, World.frozen?_setCell]
    exact h.free i hi
theorem ToksF.setA {w : World} {g n : Nat} {f : Nat → Int × ByteArray × Int} (h : ToksF w g n f) (k : Nat) (hk : k < n) (x : Int) :
    ToksF (w.setCell ⟨g, k * 3 + 2, none⟩ (.int .i64 x)) g n (fun i => if i = k then ((f i).1, (f i).2.1, x) else f i) := by
  refine ⟨by simpa [World.setCell] using h.lt, fun i hi => ?_, fun i hi => ?_⟩
  · obtain ⟨h1, h2, h3⟩ := h.cell i hi
    by_cases hik : i = k
    · subst hik
      rw [World.cell?_setCell_same _ _ _ h3, World.cell?_setCell_other _ _ _ _ (off_ne (by omega)), World.cell?_setCell_other _ _ _ _ (off_ne (by omega)), h1, h2]
      simp
    · rw [World.cell?_setCell_other _ _ _ _ (off_ne (by omega)), World.cell?_setCell_other _ _ _ _ (off_ne (by omega)), World.cell?_setCell_other _ _ _ _ (off_ne (by omega)), h1, h2, h3]
      simp [hik]
  · rw [World.frozen?_setCell, World.frozen?_setCell, World.frozen?_setCell]
    exact h.free i hi
end Go.Proofs.YtfnjcgakcpadiaaDoor
