/-
  Tokens and values, and how rows of them lie in memory. No program text in sight.
-/
import Derived.Test.YtfikgiekigbaoaaBlk
namespace Go.Proofs.Ytfikgiekigbaoaa
open Go Go.RowKit

structure TokF where
  kind : Int
  text : ByteArray
  pos : Int
structure ValF where
  kind : Int
  num : Int
  text : ByteArray
def tkC (M : Nat) (x : TokF) (cs : List Value) : Prop := cs = [.int .i64 x.kind, .string x.text, .int .i64 x.pos] ∧ x.text.size ≤ M
def vaC (M : Nat) (x : ValF) (cs : List Value) : Prop := cs = [.int .i64 x.kind, .int .i64 x.num, .string x.text] ∧ x.text.size ≤ M

theorem tk_at {w : World} {b o : Nat} {x : TokF} (h : cellsAt w b o ([.int .i64 x.kind, .string x.text, .int .i64 x.pos])) :
    w.cell? ⟨b, o, none⟩ = some (.int .i64 x.kind) ∧ w.cell? ⟨b, o + 1, none⟩ = some (.string x.text) ∧ w.cell? ⟨b, o + 2, none⟩ = some (.int .i64 x.pos) :=
  ⟨h 0 (by simp), h 1 (by simp), h 2 (by simp)⟩

theorem tk_at0 {w : World} {b : Nat} {x : TokF} (h : cellsAt w b 0 ([.int .i64 x.kind, .string x.text, .int .i64 x.pos])) :
    w.cell? ⟨b, 0, none⟩ = some (.int .i64 x.kind) ∧ w.cell? ⟨b, 1, none⟩ = some (.string x.text) ∧ w.cell? ⟨b, 2, none⟩ = some (.int .i64 x.pos) :=
  ⟨h 0 (by simp), h 1 (by simp), h 2 (by simp)⟩

theorem va_at {w : World} {b o : Nat} {x : ValF} (h : cellsAt w b o ([.int .i64 x.kind, .int .i64 x.num, .string x.text])) :
    w.cell? ⟨b, o, none⟩ = some (.int .i64 x.kind) ∧ w.cell? ⟨b, o + 1, none⟩ = some (.int .i64 x.num) ∧ w.cell? ⟨b, o + 2, none⟩ = some (.string x.text) :=
  ⟨h 0 (by simp), h 1 (by simp), h 2 (by simp)⟩

theorem va_at0 {w : World} {b : Nat} {x : ValF} (h : cellsAt w b 0 ([.int .i64 x.kind, .int .i64 x.num, .string x.text])) :
    w.cell? ⟨b, 0, none⟩ = some (.int .i64 x.kind) ∧ w.cell? ⟨b, 1, none⟩ = some (.int .i64 x.num) ∧ w.cell? ⟨b, 2, none⟩ = some (.string x.text) :=
  ⟨h 0 (by simp), h 1 (by simp), h 2 (by simp)⟩

end Go.Proofs.Ytfikgiekigbaoaa
