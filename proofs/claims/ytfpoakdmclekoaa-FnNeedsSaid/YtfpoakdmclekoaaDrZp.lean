/-
  A tree under way to be bent: plain facts.
-/
import Derived.Test.YtfpoakdmclekoaaDrY
namespace Go.Proofs.Ytfpoakdmclekoaa
open Go Go.RowKit Go.Lib

/-- What bending leaves as it was: all but the cursor and the rows of the books. -/
structure FrR (p : Nat) (R : RM) (w w' : World) : Prop where
  os : w'.os = w.os
  tape : w'.tape = w.tape
  output : w'.output = w.output
  size : w.heap.size ≤ w'.heap.size
  block : ∀ k, k < w.heap.size → k ≠ p → R k = none → w'.heap[k]? = w.heap[k]?
theorem FrR.trans {p : Nat} {R R' : RM} {a b c : World} (h : FrR p R a b) (k : FrR p R' b c) (hn : ∀ x, x < a.heap.size → R x = none → R' x = none) : FrR p R a c :=
  ⟨k.os.trans h.os, k.tape.trans h.tape, k.output.trans h.output, Nat.le_trans h.size k.size, fun x h1 h2 h3 => (k.block x (Nat.lt_of_lt_of_le h1 h.size) h2 (hn x h1 h3)).trans (h.block x h1 h2 h3)⟩
theorem FrR.grown {p : Nat} {R : RM} {a b c : World} {row : Option Nat} (h : FrR p R a b) (hg : b.grownBy c row) (hr : ∀ x, row = some x → a.heap.size ≤ x ∨ x = p ∨ R x ≠ none) : FrR p R a c :=
  ⟨hg.os.trans h.os, hg.tape.trans h.tape, hg.output.trans h.output, Nat.le_trans h.size hg.size, fun x h1 h2 h3 => (hg.block x (Nat.lt_of_lt_of_le h1 h.size) (fun e => by rcases hr x e.symm with h | h | h; omega; exact h2 h; exact h h3)).trans (h.block x h1 h2 h3)⟩
theorem FrR.refl (p : Nat) (R : RM) (w : World) : FrR p R w w := ⟨rfl, rfl, rfl, Nat.le_refl _, fun _ _ _ _ => rfl⟩

/-- What l7Bent leaves. -/
def BentPost (B p lo : Nat) (R : RM) (n : Nat) (w : World) (e : Ending) (w' : World) : Prop :=
  ∃ (y : EK) (R' : RM), e = .returned (.agg #[.int .i64 y.k, .int .i64 y.op, .bool y.ng, .int .i64 y.vk, .int .i64 y.vn, .string y.vt, .string y.qu, .string y.nm, .slice y.ka y.m y.kc, .slice y.sa y.ms y.sc]) ∧
    KidOk R' false n y ∧ Hp w' lo R' false ∧ Ext w.heap.size R R' ∧ FrR p R w w' ∧ Cur B w' p

/-- Bending under way: the parameter's block vb reads l, the result's block rb is zero. -/
structure BSt (B p lo : Nat) (R R' : RM) (b : Bool) (w wr : World) (vb rb : Nat) (l : List Value) : Prop where
  hp : Hp wr lo R' b
  ext : Ext w.heap.size R R'
  fr : FrR p R w wr
  cur : Cur B wr p
  nv : R' vb = none
  nr : R' rb = none
  v : Blk wr vb l
  r : Blk wr rb Z10
  hvp : vb ≠ p
  hrp : rb ≠ p
  hvr : vb ≠ rb
  hvw : w.heap.size ≤ vb
  hrw : w.heap.size ≤ rb
  hpl : p < lo
  hlo : lo ≤ w.heap.size

section
variable {B p lo : Nat} {R R' : RM} {b : Bool} {w wr : World} {vb rb : Nat} {l : List Value}
theorem BSt.row {w2 : World} {row : Option Nat} (h : BSt B p lo R R' b w wr vb rb l) (hg : wr.grownBy w2 row) (hr : ∀ g, row = some g → w.heap.size ≤ g ∧ R' g = none ∧ g ≠ rb ∧ g ≠ vb) : BSt B p lo R R' b w w2 vb rb l :=
  { h with
    hp := h.hp.grown hg (fun k hk => (hr k hk).2.1)
    fr := h.fr.grown hg (fun k hk => .inl (hr k hk).1)
    cur := by
      cases row with
      | none => exact h.cur.below ⟨hg.os, hg.tape, hg.output, hg.size, fun k hk => hg.block k hk (by simp)⟩
      | some g => exact h.cur.other hg (by have := h.cur.lt; have := h.fr.size; have := h.cur.low; have := hr g rfl; have := h.hpl; have := h.hlo; have hlow := h.cur.low; omega) (by have := hr g rfl; have := h.hpl; have := h.hlo; omega)
    v := h.v.stays hg.size (hg.block vb h.v.lt (fun e => (hr vb e.symm).2.2.2 rfl))
    r := h.r.stays hg.size (hg.block rb h.r.lt (fun e => (hr rb e.symm).2.2.1 rfl)) }
theorem BSt.below {w2 : World} (h : BSt B p lo R R' b w wr vb rb l) (hb : Below wr.heap.size wr w2) : BSt B p lo R R' b w w2 vb rb l :=
  h.row (row := none) ⟨hb.os, hb.tape, hb.output, hb.size, fun k hk _ => hb.block k hk⟩ (fun g e => by cases e)
theorem BSt.alloc (h : BSt B p lo R R' b w wr vb rb l) (o : Obj) : BSt B p lo R R' b w (wr.alloc o) vb rb l := h.below ((Below.refl _ _).alloc (Nat.le_refl _) _)
theorem BSt.drew (h : BSt B p lo R R' b w wr vb rb l) : BSt B p lo R R' b w wr.drew vb rb l := h.below (Below.refl _ _).drew
theorem BSt.step {w2 : World} (h : BSt B p lo R R' b w wr vb rb l) (hd : Dr B p wr w2) : BSt B p lo R R' b w w2 vb rb l :=
  { h with
    hp := h.hp.dr hd h.hpl
    fr := h.fr.grown hd.grown (fun k hk => .inr (.inl (by injection hk with hk; exact hk.symm)))
    cur := hd.cur
    v := h.v.grown hd.grown h.hvp
    r := h.r.grown hd.grown h.hrp }
theorem BSt.set (h : BSt B p lo R R' b w wr vb rb l) (i : Nat) (hi : i < l.length) (v : Value) : BSt B p lo R R' b w (wr.setCell ⟨vb, i, none⟩ v) vb rb (l.set i v) :=
  { h with
    hp := h.hp.set h.nv i v
    fr := h.fr.grown (grownBy_setCell wr vb i v) (fun k hk => .inl (by injection hk with hk; subst hk; exact h.hvw))
    cur := h.cur.other (grownBy_setCell wr vb i v) (by have := h.hpl; have := h.hlo; have := h.hvw; have := h.cur.low; omega) h.hvp.symm
    v := h.v.set i hi v
    r := h.r.other h.hvr.symm i v }
theorem BSt.weak (h : BSt B p lo R R' b w wr vb rb l) : BSt B p lo R R' false w wr vb rb l := { h with hp := h.hp.weak }
/-- An expression was stored into a row of the books. -/
theorem BSt.put {g r' len c i : Nat} {y : EK} (h : BSt B p lo R R' b w wr vb rb l) (hg : R' g = some (.ex r' len c)) (hx : KidOk R' b r' y) (hi : i ≤ len) (hc : i < c) :
    BSt B p lo R (R'.put g (.ex r' (max len (i + 1)) c)) b w (wr.setCells g (i * 10) y.L) vb rb l ∧ Ext wr.heap.size R' (R'.put g (.ex r' (max len (i + 1)) c)) := by
  obtain ⟨k1, k2⟩ := h.hp.put (N := wr.heap.size) hg hx hi hc
  have hgv : vb ≠ g := by rintro rfl; rw [h.nv] at hg; cases hg
  have hgr : rb ≠ g := by rintro rfl; rw [h.nr] at hg; cases hg
  have hgl := h.hp.lt hg
  refine ⟨{ h with
    hp := k1
    ext := h.ext.trans k2 h.fr.size
    fr := h.fr.grown (grown_sets g (i * 10) y.L) (fun k hk => by
      injection hk with hk
      subst hk
      by_cases hn : R g = none
      · by_cases hlt : g < w.heap.size
        · have := h.ext.no g hlt hn; rw [this] at hg; cases hg
        · exact .inl (by omega)
      · exact .inr (.inr hn))
    cur := h.cur.other (grown_sets g (i * 10) y.L) (by have := h.hpl; have := h.cur.low; omega) (by have := h.hpl; omega)
    nv := (RM.put_ne _ _ hgv).trans h.nv
    nr := (RM.put_ne _ _ hgr).trans h.nr
    v := h.v.sets hgv _ _
    r := h.r.sets hgr _ _ }, k2⟩
/-- A new row of expressions enters the books. -/
theorem BSt.addEx {g r' len c : Nat} (h : BSt B p lo R R' false w wr vb rb l) (hg : R' g = none) (hw : w.heap.size ≤ g) (hgv : g ≠ vb) (hgr : g ≠ rb) (hl : len ≤ c) (hroom : Room wr g (c * 10))
    (hel : ∀ i, i < len → ∃ x : EK, KidOk R' false r' x ∧ cellsAt wr g (i * 10) x.L) : BSt B p lo R (R'.put g (.ex r' len c)) false w wr vb rb l ∧ Ext g R' (R'.put g (.ex r' len c)) := by
  obtain ⟨k1, k2⟩ := h.hp.addEx (N := g) (r := r') hg (Nat.le_trans h.hlo hw) (fun e => by cases e) hl hroom hel (Nat.le_refl _)
  exact ⟨{ h with
    hp := k1
    ext := h.ext.trans k2 hw
    nv := (RM.put_ne _ _ hgv.symm).trans h.nv
    nr := (RM.put_ne _ _ hgr.symm).trans h.nr }, k2⟩
theorem BSt.fin {n : Nat} {y : EK} (h : BSt B p lo R R' b w wr vb rb l) (hk : KidOk R' false n y) : BentPost B p lo R n w (.returned (.agg #[.int .i64 y.k, .int .i64 y.op, .bool y.ng, .int .i64 y.vk, .int .i64 y.vn, .string y.vt, .string y.qu, .string y.nm, .slice y.ka y.m y.kc, .slice y.sa y.ms y.sc])) (wr.setCells rb 0 y.L) :=
  ⟨y, R', rfl, hk, (h.hp.sets h.nr 0 y.L).weak, h.ext, h.fr.grown (grown_sets rb 0 y.L) (fun k hk => .inl (by injection hk with hk; subst hk; exact h.hrw)),
    h.cur.other (grown_sets rb 0 y.L) (by have := h.hpl; have := h.hlo; have := h.hrw; have := h.cur.low; omega) h.hrp.symm⟩
end
end Go.Proofs.Ytfpoakdmclekoaa
