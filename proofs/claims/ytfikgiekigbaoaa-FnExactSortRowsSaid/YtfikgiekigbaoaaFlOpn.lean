/-
  Rows of tokens and of values that came in as arguments, opened: how they read says how they lie.
-/
import Derived.Test.YtfikgiekigbaoaaRows
import Derived.WalkKit
import Derived.ProofKit
import Derived.OpenShut
import Derived.ChangeOld
import Derived.Deep.Slices
import Derived.Test.YtfikgiekigbaoaaFlat
namespace Go.Proofs.Ytfikgiekigbaoaa
open Go Go.RowKit Go.ChangeShapes Go.WideShapes

theorem exists_list {α : Type} (n : Nat) (Q : Nat → α → Prop) (h : ∀ i, i < n → ∃ z, Q i z) : ∃ xs : List α, xs.length = n ∧ ∀ i (h : i < xs.length), Q i xs[i] := by
  induction n with
  | zero => exact ⟨[], rfl, fun i h => absurd h (by simp)⟩
  | succ n ih =>
    obtain ⟨xs, hl, hq⟩ := ih fun i hi => h i (by omega)
    obtain ⟨z, hz⟩ := h n (by omega)
    refine ⟨xs ++ [z], by simp [hl], fun i hi => ?_⟩
    by_cases hin : i < xs.length
    · rw [List.getElem_append_left hin]; exact hq i hin
    · have : i = n := by simp at hi; omega
      subst this
      rw [List.getElem_append_right (by omega)]
      simpa using hz

section
variable {H : Type} {enc : TypeId × Value → H} {W : World} {spare : Nat → Bool} {held : Bool}

theorem rowP_of {P : Program} {α : Type} {C : α → List Value → Prop} {t e : TypeId} {size fuel : Nat} {cs : List Value} {x : DataW H × List MemPlace} (ht : P.underlying t = some (.slice e)) (hsz : P.cellsOf e = size) (hpos : 0 < size)
    (h : DataW.trod enc P W 0 spare held fuel t cs = some x) (hC : ∀ m, m < fuel → ∀ cs' y, DataW.trod enc P W 0 spare held m e cs' = some y → ∃ z, C z cs') :
    ∃ (a : Option Addr) (cap : Nat) (xs : List α), cs = [.slice a xs.length cap] ∧ RowP W 0 maxLen size C xs a := by
  rcases DataW.trod_slice ht h with ⟨rfl, _⟩ | ⟨⟨b, o, sp⟩, len, cap, elems, rest, n, hfu, rfl, rfl, hb, hl, hm, hlen, hel, _, _⟩
  · exact ⟨none, 0, [], rfl, by simp, fun h => absurd h (by simp)⟩
  · have hq : ∀ i, i < len → ∃ z, ∃ cs', C z cs' ∧ cellsAt W b (o + i * size) cs' ∧ sp = none ∧ b < W.heap.size := fun i hi => by
      have h1 := hel i hi
      rw [List.getElem?_eq_getElem (by omega)] at h1
      obtain ⟨cs', h1, h2⟩ := Option.bind_eq_some_iff.1 h1
      obtain ⟨z, hz⟩ := hC n (by omega) cs' _ h2
      rw [hsz] at h1
      obtain ⟨_, hcl, hat⟩ := World.cells?_some h1
      have hlast := hat 0 hpos
      rw [List.getElem?_eq_getElem (by omega)] at hlast
      have hspot : sp = none := by
        have h0 := hel 0 (by omega)
        rw [List.getElem?_eq_getElem (by omega)] at h0
        obtain ⟨cs0, h0, _⟩ := Option.bind_eq_some_iff.1 h0
        rw [hsz] at h0
        obtain ⟨_, hcl0, hat0⟩ := World.cells?_some h0
        have h00 := hat0 0 hpos
        rw [List.getElem?_eq_getElem (by omega)] at h00
        simpa [Addr.add] using World.cell?_spot h00
      subst hspot
      have hadd : ∀ k, (⟨b, o, none⟩ : Addr).add k = ⟨b, o + k, none⟩ := fun k => by unfold Addr.add; split <;> simp_all
      have hadd2 : ∀ i k, (⟨b, i, none⟩ : Addr).add k = ⟨b, i + k, none⟩ := fun i k => by unfold Addr.add; split <;> simp_all
      refine ⟨z, cs', hz, fun j hj => ?_, rfl, ?_⟩
      · have := hat j (by omega)
        rw [hadd, hadd2, List.getElem?_eq_getElem hj] at this
        exact this
      · rw [hadd, hadd2] at hlast
        exact World.block_lt_of_cell? W _ hlast
    obtain ⟨xs, hxl, hxs⟩ := exists_list len _ hq
    refine ⟨some ⟨b, o, sp⟩, cap, xs, by rw [hxl], by omega, fun h0 => ?_⟩
    obtain ⟨_, _, _, hsp, hbW⟩ := hxs 0 h0
    subst hsp
    exact ⟨b, o, rfl, Nat.zero_le _, hbW, fun i hi => by obtain ⟨cs', h1, h2, _⟩ := hxs i hi; exact ⟨cs', h1, h2⟩⟩

theorem fld {P : Program} {n i o k : Nat} {t : TypeId} {cs : List Value} {ys : List (DataW H × List MemPlace)} (h : DataW.trod enc P W 0 spare held n t ((cs.drop o).take k) = ys[i]?) (hi : i < ys.length) :
    DataW.trod enc P W 0 spare held n t ((cs.drop o).take k) = some ys[i] := by rw [h, List.getElem?_eq_getElem hi]


theorem len3 {cs : List Value} (h : cs.length = 3) : ∃ c0 c1 c2, cs = [c0, c1, c2] := by
  match cs, h with
  | [c0, c1, c2], _ => exact ⟨_, _, _, rfl⟩

theorem Try.cells_int : Try.prog.cellsOf 3 = 1 := by kernel_rfl
theorem Try.cells_string : Try.prog.cellsOf 9 = 1 := by kernel_rfl
theorem Try.cells_T : Try.prog.cellsOf 48 = 3 := by kernel_rfl
theorem Try.cells_V : Try.prog.cellsOf 55 = 3 := by kernel_rfl
theorem Try.cells_sV : Try.prog.cellsOf 28 = 1 := by kernel_rfl
set_option maxRecDepth 10000 in
theorem opnTk {m : Nat} {cs : List Value} {x : DataW H × List MemPlace} (h : DataW.trod enc Try.prog W 0 spare held m 48 cs = some x) : ∃ z, tkC maxLen z cs := by
  obtain ⟨ys, f, hfu, _, hlen, hyl, hf⟩ := DataW.trod_struct Try.underlying48 h
  rw [Try.cells_T] at hlen
  have hyl2 : ys.length = 3 := hyl
  obtain ⟨c0, c1, c2, rfl⟩ := len3 hlen
  clear hlen h
  have g0 := fld (hf 0 _ rfl) (by omega)
  simp only [List.getElem_toArray, List.getElem_cons_zero, List.getElem_cons_succ, Try.cells_int] at g0
  obtain ⟨a0, e0, _⟩ := DataW.trod_int Try.underlying3 g0
  simp at e0
  subst e0
  have g1 := fld (hf 1 _ rfl) (by omega)
  simp only [List.getElem_toArray, List.getElem_cons_zero, List.getElem_cons_succ, Try.cells_string] at g1
  obtain ⟨a1, e1, _, w1⟩ := DataW.trod_string Try.underlying9 g1
  simp at e1
  subst e1
  have g2 := fld (hf 2 _ rfl) (by omega)
  simp only [List.getElem_toArray, List.getElem_cons_zero, List.getElem_cons_succ, Try.cells_int] at g2
  obtain ⟨a2, e2, _⟩ := DataW.trod_int Try.underlying3 g2
  simp at e2
  subst e2
  exact ⟨⟨a0, a1, a2⟩, rfl, w1⟩

set_option maxRecDepth 10000 in
theorem opnVa {m : Nat} {cs : List Value} {x : DataW H × List MemPlace} (h : DataW.trod enc Try.prog W 0 spare held m 55 cs = some x) : ∃ z, vaC maxLen z cs := by
  obtain ⟨ys, f, hfu, _, hlen, hyl, hf⟩ := DataW.trod_struct Try.underlying55 h
  rw [Try.cells_V] at hlen
  have hyl2 : ys.length = 3 := hyl
  obtain ⟨c0, c1, c2, rfl⟩ := len3 hlen
  clear hlen h
  have g0 := fld (hf 0 _ rfl) (by omega)
  simp only [List.getElem_toArray, List.getElem_cons_zero, List.getElem_cons_succ, Try.cells_int] at g0
  obtain ⟨a0, e0, _⟩ := DataW.trod_int Try.underlying3 g0
  simp at e0
  subst e0
  have g1 := fld (hf 1 _ rfl) (by omega)
  simp only [List.getElem_toArray, List.getElem_cons_zero, List.getElem_cons_succ, Try.cells_int] at g1
  obtain ⟨a1, e1, _⟩ := DataW.trod_int Try.underlying3 g1
  simp at e1
  subst e1
  have g2 := fld (hf 2 _ rfl) (by omega)
  simp only [List.getElem_toArray, List.getElem_cons_zero, List.getElem_cons_succ, Try.cells_string] at g2
  obtain ⟨a2, e2, _, w2⟩ := DataW.trod_string Try.underlying9 g2
  simp at e2
  subst e2
  exact ⟨⟨a0, a1, a2⟩, rfl, w2⟩

/-- A row of rows of values that came in: each row's cell holds a slice. -/
def rvC (W : World) (M : Nat) (x : List ValF) (cs : List Value) : Prop := ∃ a c, cs = [.slice a x.length c] ∧ RowP W 0 M 3 (vaC M) x a
theorem opnRv {m : Nat} {cs : List Value} {x : DataW H × List MemPlace} (h : DataW.trod enc Try.prog W 0 spare held m 28 cs = some x) : ∃ z, rvC W maxLen z cs := by
  obtain ⟨a, c, xs, rfl, hr⟩ := rowP_of (C := vaC maxLen) Try.underlying28 Try.cells_V (by omega) h (fun k hk cs' y hy => opnVa hy)
  exact ⟨xs, a, c, rfl, hr⟩
end
end Go.Proofs.Ytfikgiekigbaoaa
