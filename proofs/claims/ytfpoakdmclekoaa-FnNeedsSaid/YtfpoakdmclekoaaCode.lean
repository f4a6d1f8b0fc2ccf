/-
  A law's argument as the bytes of a draw.
-/
import Derived.Test.YtfpoakdmclekoaaCurN
namespace Go.Proofs.Ytfpoakdmclekoaa
open Go.RowKit Go.Lib

/-- A slice of integers that came in: nil, or a row of 'cap' cells that holds zs. -/
def IsRow (k : IntKind) (w : World) (a : Option Addr) (len cap : Nat) (zs : List Int) : Prop :=
  (a = none ∧ len = 0 ∧ cap = 0 ∧ zs = []) ∨
  ∃ x, a = some x ∧ len ≤ cap ∧ cap ≤ maxLen ∧ zs.length = cap ∧ (∀ i, i < zs.length → w.cell? (x.add i) = some (.int k (zs.getD i 0))) ∧ ∀ n ∈ zs, (Lit.int k n).wf = true

theorem Code.of_row {w : World} {a : Option Addr} {n c : Nat} {zs : List Int} (h : IsRow .u8 w a n c zs) (hn : n ≤ 1048576) : Code w.heap.size w a n (fun j => zs.getD j 0) := by
  refine ⟨hn, fun h0 => ?_⟩
  rcases h with ⟨_, rfl, _, _⟩ | ⟨x, rfl, hl, hm, hz, hcell, hwf⟩
  · exact absurd rfl h0
  · obtain ⟨b, off, spot⟩ := x
    have hc := hcell 0 (by omega)
    have hspot : spot = none := by simpa [Addr.add] using World.cell?_spot hc
    subst hspot
    have hb : b < w.heap.size := by simpa [Addr.add] using World.block_lt_of_cell? w _ hc
    refine ⟨b, off, rfl, hb, fun j hj => ?_⟩
    have hj' : j < zs.length := by omega
    have e := hcell j hj'
    have hw := hwf (zs.getD j 0) (by simp [List.getD, List.getElem?_eq_getElem hj'])
    have hbd := bounds_u8 hw
    refine ⟨?_, by omega, by omega⟩
    rw [← e]
    by_cases h00 : j = 0
    · subst h00; simp [Addr.add]
    · simp [Addr.add, h00]

theorem IsRow.len_le {k : IntKind} {w : World} {a : Option Addr} {n c : Nat} {zs : List Int} (h : IsRow k w a n c zs) : n ≤ maxLen := by
  rcases h with ⟨_, rfl, _, _⟩ | ⟨x, rfl, hl, hm, _⟩
  · unfold maxLen; omega
  · omega

theorem Code.mono {B B' : Nat} {w : World} {a : Option Addr} {n : Nat} {z : Nat → Int} (h : Code B w a n z) (hB : B ≤ B') : Code B' w a n z := by
  refine ⟨h.n1, fun hn => ?_⟩
  obtain ⟨b, off, rfl, hbB, hcell⟩ := h.ex hn
  exact ⟨b, off, rfl, by omega, hcell⟩

theorem bigC {w : World} (a : Option Addr) (n c : Nat) (hn : n ≤ maxLen) : Calls Try.prog 31 #[.slice a n c] w fun e w' => e = .returned (.bool (decide (1048576 < n))) ∧ w = w' := by
  unfold maxLen at hn
  by_cases h : 1048576 < n
  · go_enter Try.func31, Try.ntmps31
    go_wp2_with fail
    go_ret
    exact ⟨ret_bool (by simp; omega), rfl⟩
  · go_enter Try.func31, Try.ntmps31
    go_wp2_with fail
    go_ret
    exact ⟨ret_bool (by simp; omega), rfl⟩
end Go.Proofs.Ytfpoakdmclekoaa
