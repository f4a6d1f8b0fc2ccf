/-
  What holds a row of tokens.
-/
import Derived.Test.YtfnjcgakcpadiaaDoorLexF
namespace Go.Proofs.YtfnjcgakcpadiaaDoor
open Go.RowKit

theorem owns_below {w w' : World} {base : Nat} {e : TypeId} {size n : Nat} {v : Value} {xs : List Value} (h : w.ownsRow base e size v n xs) (hb : Below w.heap.size w w') : w'.ownsRow base e size v n xs := by
  refine h.kept (row := none) ⟨hb.os, hb.tape, hb.output, hb.size, fun i hi _ => hb.block i hi⟩ ?_
  cases v.ownBlock with
  | none => exact .inl rfl
  | some k => exact .inr (by simp)

theorem owns_made2 {w2 : World} {base : Nat} (h : base ≤ w2.heap.size) (o : Obj) : ((w2.alloc o).alloc (.cells #[] 37)).ownsRow base 37 3 (.slice (some ⟨w2.heap.size + 1, 0, none⟩) 0 0) 0 [] := by
  have h1 := World.ownsRow_made (base := base) (size := 3) (e := 37) (w2.alloc o) #[] 0 (by simp; omega) (by decide) rfl
  simpa using h1

/-- What Lex hands back. -/
def LexPost (w : World) (R : List Tk × Int) (e : Ending) (w' : World) : Prop :=
  ∃ v, e = .returned (.tuple #[v, .int .i64 R.2]) ∧ w'.ownsRow w.heap.size 37 3 v R.1.length (tkCells R.1) ∧ Below w.heap.size w w'
theorem LexPost.of {w w' : World} {R : List Tk × Int} {v : Value} {b : Int} (pre : List Tk) (hR : R = (pre, b)) (ho : w'.ownsRow w.heap.size 37 3 v pre.length (tkCells pre)) (hb : Below w.heap.size w w') : LexPost w R (.returned (.tuple #[v, .int .i64 b])) w' := by
  subst hR
  exact ⟨v, rfl, ho, hb⟩
end Go.Proofs.YtfnjcgakcpadiaaDoor
