/-
  What a drawing function leaves: the cursor, and all else as it was.
-/
import Derived.Test.YtfpoakdmclekoaaCode
namespace Go.Proofs.Ytfpoakdmclekoaa
open Go.RowKit Go.Lib

theorem Cur.alloc' {B p : Nat} {w : World} (h : Cur B w p) (o : Obj) : Cur B (w.alloc o) p := h.below ((Below.refl _ _).alloc (Nat.le_refl _) _)

structure Dr (B p : Nat) (w w' : World) : Prop where
  cur : Cur B w' p
  grown : w.grownBy w' (some p)

theorem Dr.refl {B p : Nat} {w : World} (h : Cur B w p) : Dr B p w w := ⟨h, ⟨rfl, rfl, rfl, Nat.le_refl _, fun _ _ _ => rfl⟩⟩
theorem Dr.step {B p : Nat} {w a b : World} (h : Dr B p w a) (hc : Cur B b p) (hg : a.grownBy b (some p)) : Dr B p w b := ⟨hc, grownBy_trans h.grown hg⟩
theorem Dr.trans {B p : Nat} {w a b : World} (h : Dr B p w a) (k : Dr B p a b) : Dr B p w b := h.step k.cur k.grown
theorem Dr.alloc {B p : Nat} {w a : World} (h : Dr B p w a) (o : Obj) : Dr B p w (a.alloc o) := h.step (h.cur.alloc' o) (World.grownBy_alloc _ _ _)
theorem Dr.below {B p : Nat} {w a b : World} (h : Dr B p w a) (hb : Below a.heap.size a b) : Dr B p w b := ⟨h.cur.below hb, grownBy_below h.grown hb⟩
theorem Dr.lt {B p : Nat} {w a : World} (h : Dr B p w a) : p < a.heap.size := h.cur.lt
/-- A cell of another block, from the first world. -/
theorem Dr.cell {B p : Nat} {w a : World} (h : Dr B p w a) {b o : Nat} {v : Value} (hc : w.cell? ⟨b, o, none⟩ = some v) (hne : b ≠ p) : a.cell? ⟨b, o, none⟩ = some v :=
  h.grown.cell hc (by intro e; injection e with e; exact hne e)
theorem Dr.toBelow {B p : Nat} {w0 w a : World} (h : Dr B p w a) (h0 : Below w0.heap.size w0 w) (hB : w0.heap.size ≤ B) (hl : B ≤ p) : Below w0.heap.size w0 a :=
  Below.grown h0 h.grown h0.size (fun k hk => by cases hk; omega)
theorem Dr.set {B p : Nat} {w a : World} (h : Dr B p w a) (hp : p < w.heap.size) {b : Nat} (hb : w.heap.size ≤ b) (i : Nat) (v : Value) : Dr B p w (a.setCell ⟨b, i, none⟩ v) := by
  have hg : a.grownBy (a.setCell ⟨b, i, none⟩ v) (some b) := grownBy_setCell a b i v
  refine ⟨h.cur.other hg (by have := h.cur.low; omega) (by omega), hg.os.trans h.grown.os, hg.tape.trans h.grown.tape, hg.output.trans h.grown.output, Nat.le_trans h.grown.size hg.size, fun k hk hne => ?_⟩
  rw [hg.block k (Nat.lt_of_lt_of_le hk h.grown.size) (by intro e; injection e with e; omega)]
  exact h.grown.block k hk hne

/-- Three cells of a block, that may be written. -/
structure C3 (w : World) (b : Nat) (x y z : Value) : Prop where
  lt : b < w.heap.size
  c : w.cell? ⟨b, 0, none⟩ = some x ∧ w.cell? ⟨b, 1, none⟩ = some y ∧ w.cell? ⟨b, 2, none⟩ = some z
  f : w.frozen? ⟨b, 0, none⟩ = false ∧ w.frozen? ⟨b, 1, none⟩ = false ∧ w.frozen? ⟨b, 2, none⟩ = false

theorem C3.made (w : World) (x y z : Value) (t : TypeId) : C3 (w.alloc (.cells #[x, y, z] t)) w.heap.size x y z :=
  ⟨by simp, ⟨by simp [go_sem], by simp [go_sem], by simp [go_sem]⟩, ⟨by simp [go_sem], by simp [go_sem], by simp [go_sem]⟩⟩
theorem C3.stays {w a : World} {b : Nat} {x y z : Value} (h : C3 w b x y z) (hs : w.heap.size ≤ a.heap.size) (hb : a.heap[b]? = w.heap[b]?) : C3 a b x y z :=
  ⟨Nat.lt_of_lt_of_le h.lt hs, ⟨(World.cell?_of_block (a := ⟨b, 0, none⟩) hb).trans h.c.1, (World.cell?_of_block (a := ⟨b, 1, none⟩) hb).trans h.c.2.1, (World.cell?_of_block (a := ⟨b, 2, none⟩) hb).trans h.c.2.2⟩,
    ⟨(World.frozen?_of_block (a := ⟨b, 0, none⟩) hb).trans h.f.1, (World.frozen?_of_block (a := ⟨b, 1, none⟩) hb).trans h.f.2.1, (World.frozen?_of_block (a := ⟨b, 2, none⟩) hb).trans h.f.2.2⟩⟩
theorem C3.grown {w a : World} {b p : Nat} {x y z : Value} (h : C3 w b x y z) (hg : w.grownBy a (some p)) (hne : b ≠ p) : C3 a b x y z :=
  h.stays hg.size (hg.block b h.lt (by intro e; injection e with e; exact hne e))
theorem C3.below {w a : World} {b : Nat} {x y z : Value} (h : C3 w b x y z) (hb : Below w.heap.size w a) : C3 a b x y z := h.stays hb.size (hb.block b h.lt)
theorem C3.alloc {w : World} {b : Nat} {x y z : Value} (h : C3 w b x y z) (o : Obj) : C3 (w.alloc o) b x y z := h.below ((Below.refl _ _).alloc (Nat.le_refl _) _)
end Go.Proofs.Ytfpoakdmclekoaa
