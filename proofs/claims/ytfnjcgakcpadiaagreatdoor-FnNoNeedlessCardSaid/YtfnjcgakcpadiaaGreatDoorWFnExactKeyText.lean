/-
  The walk of FnExactKeyText.
-/
import Derived.Test.YtfnjcgakcpadiaaGreatDoorKeyW
namespace Go.Proofs.YtfnjcgakcpadiaaGreatDoor
open Go.RowKit

set_option maxRecDepth 100000 in
theorem specWords (w : World) :
    Calls Tryz.prog 57 #[] w fun e w' => e = .returned (.slice (some ⟨w.heap.size, 0, none⟩) 29 29) ∧ w' = w.alloc (.cells (kwL.map Value.string).toArray 9) := by
  go_enter Tryz.func57, Tryz.ntmps57
  go_wp2_with fail
  go_ret
  exact ⟨rfl, rfl⟩

theorem kw_cellS (w : World) (t : TypeId) (j : Nat) (hj : j < 29) : (w.alloc (.cells (kwL.map Value.string).toArray t)).cell? ⟨w.heap.size, j, none⟩ = some (.string (kw j)) := by
  have h : (kwL.map Value.string).toArray[j]? = some (.string (kw j)) := by
    have hl : j < kwL.length := by show j < 29; omega
    have e : kwL[j]? = some (kw j) := by
      unfold kw
      rw [List.getD, List.getElem?_eq_getElem hl]
      rfl
    simp [e]
  have hh : (w.alloc (.cells (kwL.map Value.string).toArray t)).heap[w.heap.size]? = some (.cells (kwL.map Value.string).toArray t) := by
    show (w.heap.push _)[w.heap.size]? = _
    simp
  unfold World.cell?
  rw [hh]
  exact h

theorem l1InC (x lo hi : Int) (w : World) : Calls Tryz.prog 58 #[.int .i64 x, .int .i64 lo, .int .i64 hi] w fun e w' => e = .returned (.bool (decide (lo ≤ x) && decide (x ≤ hi))) ∧ w = w' := by
  by_cases h0 : lo ≤ x
  · by_cases h1 : x ≤ hi
    · go_enter Tryz.func58, Tryz.ntmps58
      go_wp2
      all_goals go_ret
      all_goals exact ⟨ret_bool (by simp [h0, h1]), rfl⟩
    · have h1' : hi < x := by omega
      go_enter Tryz.func58, Tryz.ntmps58
      go_wp2
      all_goals go_ret
      all_goals exact ⟨ret_bool (by simp; try omega), rfl⟩
  · have h0' : x < lo := by omega
    go_enter Tryz.func58, Tryz.ntmps58
    go_wp2
    all_goals go_ret
    all_goals exact ⟨ret_bool (by simp; try omega), rfl⟩

/-- A cell of the first world, behind a call that left all as it was. -/
theorem some_below {w w' : World} {g : Nat} (h : ∃ m, w.cell? ⟨g, 0, none⟩ = some (.int .i64 m)) (hb : Below w.heap.size w w') : ∃ m, w'.cell? ⟨g, 0, none⟩ = some (.int .i64 m) := by
  obtain ⟨m, hm⟩ := h
  exact ⟨m, (hb.cell (p := ⟨g, 0, none⟩) (World.block_lt_of_cell? w _ hm)).trans hm⟩
end Go.Proofs.YtfnjcgakcpadiaaGreatDoor
