/-
  A query under way: plain facts.
-/
import Derived.Test.YtfpoakdmclekoaaDrX
namespace Go.Proofs.Ytfpoakdmclekoaa
open Go Go.RowKit Go.Lib

def Z6 : List Value := [.bool false, .slice none 0 0, .slice none 0 0, .slice none 0 0, .slice none 0 0, .int .i64 0]
/-- The query in block qb reads l; the result's block rb is still zero. -/
structure QSt (B p lo : Nat) (R R' : RM) (w wr : World) (rb qb : Nat) (l : List Value) : Prop where
  hp : Hp wr lo R' true
  ext : Ext w.heap.size R R'
  nr : R' rb = none
  nq : R' qb = none
  dr : Dr B p w wr
  r : Blk wr rb Z6
  q : Blk wr qb l
  hrp : rb ≠ p
  hqp : qb ≠ p
  hrq : rb ≠ qb
  hrw : w.heap.size ≤ rb
  hqw : w.heap.size ≤ qb
  hpw : p < w.heap.size
  hpl : p < lo
/-- A row that v stands for, in a block of one's own. -/
structure OwnV (w : World) (R' : RM) (base : Nat) (e : TypeId) (size n : Nat) (v : Value) : Prop where
  ex : ∃ xs, w.ownsRow base e size v n xs
  no : ∀ g, v.ownBlock = some g → R' g = none

section
variable {B p lo : Nat} {R R' : RM} {w wr : World} {rb qb : Nat} {l : List Value}
theorem QSt.row {w2 : World} {row : Option Nat} (h : QSt B p lo R R' w wr rb qb l) (hg : wr.grownBy w2 row) (hr : ∀ g, row = some g → w.heap.size ≤ g ∧ R' g = none ∧ g ≠ rb ∧ g ≠ qb) : QSt B p lo R R' w w2 rb qb l :=
  { h with
    hp := h.hp.grown hg (fun k hk => (hr k hk).2.1)
    dr := Dr.own h.dr h.hpw (fun k hk => (hr k hk).1) hg
    r := h.r.stays hg.size (hg.block rb h.r.lt (fun e => (hr rb e.symm).2.2.1 rfl))
    q := h.q.stays hg.size (hg.block qb h.q.lt (fun e => (hr qb e.symm).2.2.2 rfl)) }
theorem QSt.below {w2 : World} (h : QSt B p lo R R' w wr rb qb l) (hb : Below wr.heap.size wr w2) : QSt B p lo R R' w w2 rb qb l :=
  h.row (row := none) ⟨hb.os, hb.tape, hb.output, hb.size, fun k hk _ => hb.block k hk⟩ (fun g e => by cases e)
theorem QSt.alloc (h : QSt B p lo R R' w wr rb qb l) (o : Obj) : QSt B p lo R R' w (wr.alloc o) rb qb l := h.below ((Below.refl _ _).alloc (Nat.le_refl _) _)
theorem QSt.drew (h : QSt B p lo R R' w wr rb qb l) : QSt B p lo R R' w wr.drew rb qb l := h.below (Below.refl _ _).drew
theorem QSt.post {w2 : World} {R2 : RM} (h : QSt B p lo R R' w wr rb qb l) (hh : Hp w2 lo R2 true) (hx : Ext wr.heap.size R' R2) (hd : Dr B p wr w2) : QSt B p lo R R2 w w2 rb qb l :=
  { h with
    hp := hh
    ext := h.ext.trans hx h.dr.grown.size
    nr := hx.no rb h.r.lt h.nr
    nq := hx.no qb h.q.lt h.nq
    dr := h.dr.trans hd
    r := h.r.grown hd.grown h.hrp
    q := h.q.grown hd.grown h.hqp }
theorem QSt.step {w2 : World} (h : QSt B p lo R R' w wr rb qb l) (hd : Dr B p wr w2) : QSt B p lo R R' w w2 rb qb l := h.post (h.hp.dr hd h.hpl) (Ext.refl _ _) hd
theorem QSt.set (h : QSt B p lo R R' w wr rb qb l) (i : Nat) (hi : i < l.length) (v : Value) : QSt B p lo R R' w (wr.setCell ⟨qb, i, none⟩ v) rb qb (l.set i v) :=
  { h with
    hp := h.hp.set h.nq i v
    dr := h.dr.set h.hpw h.hqw i v
    r := h.r.other h.hrq i v
    q := h.q.set i hi v }

theorem OwnV.nil (w : World) (R' : RM) (base : Nat) (e : TypeId) (size : Nat) : OwnV w R' base e size 0 (.slice none 0 0) := ⟨⟨[], World.ownsRow_nil w base e size⟩, fun g h => by cases h⟩
theorem OwnV.kept {w2 : World} {row : Option Nat} {base : Nat} {e : TypeId} {size n : Nat} {v : Value} (h : OwnV w R' base e size n v) (hg : w.grownBy w2 row) (hr : ∀ g, row = some g → g < base) : OwnV w2 R' base e size n v := by
  obtain ⟨xs, ho⟩ := h.ex
  refine ⟨⟨xs, ho.kept hg ?_⟩, h.no⟩
  cases hv : v.ownBlock with
  | none => exact .inl rfl
  | some g => exact .inr fun e => by have := (ho.lt g hv).1; have := hr g e.symm; omega
theorem OwnV.below {w2 : World} {base : Nat} {e : TypeId} {size n : Nat} {v : Value} (h : OwnV w R' base e size n v) (hb : Below w.heap.size w w2) : OwnV w2 R' base e size n v :=
  h.kept (row := none) ⟨hb.os, hb.tape, hb.output, hb.size, fun k hk _ => hb.block k hk⟩ (fun g e => by cases e)
theorem OwnV.alloc {base : Nat} {e : TypeId} {size n : Nat} {v : Value} (h : OwnV w R' base e size n v) (o : Obj) : OwnV (w.alloc o) R' base e size n v := h.below ((Below.refl _ _).alloc (Nat.le_refl _) _)
theorem OwnV.drew {base : Nat} {e : TypeId} {size n : Nat} {v : Value} (h : OwnV w R' base e size n v) : OwnV w.drew R' base e size n v := h.below (Below.refl _ _).drew
theorem OwnV.post {w2 : World} {R2 : RM} {base : Nat} {e : TypeId} {size n : Nat} {v : Value} (h : OwnV w R' base e size n v) (hx : Ext w.heap.size R' R2) (hd : Dr B p w w2) (hp : p < base) : OwnV w2 R2 base e size n v :=
  ⟨(h.kept hd.grown (fun g e => by injection e with e; omega)).ex, fun g hg => hx.no g (by obtain ⟨xs, ho⟩ := h.ex; exact (ho.lt g hg).2) (h.no g hg)⟩
theorem OwnV.step {w2 : World} {base : Nat} {e : TypeId} {size n : Nat} {v : Value} (h : OwnV w R' base e size n v) (hd : Dr B p w w2) (hp : p < base) : OwnV w2 R' base e size n v := h.post (Ext.refl _ _) hd hp

theorem OwnV.far {w2 : World} {g : Nat} {base : Nat} {e : TypeId} {size n : Nat} {v : Value} (h : OwnV w R' base e size n v) (hg : w.grownBy w2 (some g)) (hne : ∀ k, v.ownBlock = some k → k ≠ g) : OwnV w2 R' base e size n v := by
  obtain ⟨xs, ho⟩ := h.ex
  refine ⟨⟨xs, ho.kept hg ?_⟩, h.no⟩
  cases hv : v.ownBlock with
  | none => exact .inl rfl
  | some k => exact .inr fun e => hne k hv (by injection e)
theorem OwnV.low {base : Nat} {e : TypeId} {size n : Nat} {v : Value} (h : OwnV w R' base e size n v) : ∀ k, v.ownBlock = some k → k < w.heap.size := fun k hk => by obtain ⟨xs, ho⟩ := h.ex; exact (ho.lt k hk).2
theorem QSt.other (h : QSt B p lo R R' w wr rb qb l) {g : Nat} (h1 : w.heap.size ≤ g) (h2 : R' g = none) (h3 : g ≠ rb) (h4 : g ≠ qb) (i : Nat) (v : Value) : QSt B p lo R R' w (wr.setCell ⟨g, i, none⟩ v) rb qb l :=
  h.row (grownBy_setCell wr g i v) fun k hk => by injection hk with hk; subst hk; exact ⟨h1, h2, h3, h4⟩

/-- Behind an append onto a row of one's own: before the new slice is stored into the query, and after. -/
theorem QSt.app {base : Nat} {e : TypeId} {size n n' : Nat} {v v3 : Value} {w3 : World} {ys : List Value} {H : Nat} (h : QSt B p lo R R' w wr rb qb l) (ho : OwnV wr R' base e size n v) (hrb : rb < base) (hqb : qb < base) (hbw : w.heap.size ≤ base)
    (hH : wr.heap.size ≤ H) (hown : w3.ownsRow base e size v3 n' ys) (hgrow : wr.grownBy w3 v.ownBlock) (hat : v3.ownBlock = v.ownBlock ∨ v3.ownBlock = some H) (i : Nat) (hi : i < l.length) :
    QSt B p lo R R' w w3 rb qb l ∧ QSt B p lo R R' w (w3.setCell ⟨qb, i, none⟩ v3) rb qb (l.set i v3) ∧ OwnV (w3.setCell ⟨qb, i, none⟩ v3) R' base e size n' v3 := by
  have h3 : QSt B p lo R R' w w3 rb qb l := h.row hgrow fun g hg => by
    obtain ⟨xs, hx⟩ := ho.ex
    have hl := (hx.lt g hg).1
    exact ⟨by omega, ho.no g hg, by omega, by omega⟩
  have ho3 : OwnV w3 R' base e size n' v3 := ⟨⟨ys, hown⟩, fun g hg => by
    rcases hat with e1 | e1
    · exact ho.no g (by rw [← e1]; exact hg)
    · rw [hg] at e1
      injection e1 with e1
      exact h.hp.new (by omega)⟩
  exact ⟨h3, h3.set i hi v3, ho3.kept (grownBy_setCell w3 qb i v3) (fun g e => by injection e with e; omega)⟩
end
end Go.Proofs.Ytfpoakdmclekoaa
