/-
  The walk of FnExactKeyText.
-/
import Derived.Test.YtifkldghbdpdmaaDoorKeyW
namespace Go.Proofs.YtifkldghbdpdmaaDoor
open Go.RowKit

set_option maxRecDepth 100000 in
theorem specWords (w : World) :
    Calls Tryd.prog 48 #[] w fun e w' => e = .returned (.slice (some ⟨w.heap.size, 0, none⟩) 29 29) ∧ w' = w.alloc (.cells (kwL.map Value.string).toArray 9) := by
  go_enter Tryd.func48, Tryd.ntmps48
  go_wp2_with fail
  go_ret
  exact ⟨rfl, rfl⟩

theorem kw_cellS (w : World) (t : TypeId) (j : Nat) (hj : j < 29) : (w.alloc (.cells (kwL.map Value.string).toArray t)).cell? ⟨w.heap.size, j, none⟩ = some (.string (kw j)) := by
  have h : (kwL.map Value.string).toArray[j]? = some (.string (kw j)) := by
    have hl : j < kwL.length := by show j < 29; omega
    have e : kwL[j]? = some (kw j) := by
      unfold kw
      rw [List.getD, List.getElem?_eq_getElem hl]
      rfl
    simp [e]
  have hh : (w.alloc (.cells (kwL.map Value.string).toArray t)).heap[w.heap.size]? = some (.cells (kwL.map Value.string).toArray t) := by
    show (w.heap.push _)[w.heap.size]? = _
    simp
  unfold World.cell?
  rw [hh]
  exact h

theorem l1InC (x lo hi : Int) (w : World) : Calls Tryd.prog 47 #[.int .i64 x, .int .i64 lo, .int .i64 hi] w fun e w' => e = .returned (.bool (decide (lo ≤ x) && decide (x ≤ hi))) ∧ w = w' := by
  by_cases h0 : lo ≤ x
  · by_cases h1 : x ≤ hi
    · go_enter Tryd.func47, Tryd.ntmps47
      go_wp2
      all_goals go_ret
      all_goals exact ⟨ret_bool (by simp [h0, h1]), rfl⟩
    · have h1' : hi < x := by omega
      go_enter Tryd.func47, Tryd.ntmps47
      go_wp2
      all_goals go_ret
      all_goals exact ⟨ret_bool (by simp; try omega), rfl⟩
  · have h0' : x < lo := by omega
    go_enter Tryd.func47, Tryd.ntmps47
    go_wp2
    all_goals go_ret
    all_goals exact ⟨ret_bool (by simp; try omega), rfl⟩

set_option maxRecDepth 100000 in
theorem specKeyText (k : Int) (w : World) :
    Calls Tryd.prog 17 #[.int .i64 k] w fun e w' => e = .returned (.string (if 1 ≤ k ∧ k ≤ 28 then kw k.toNat else ⟨#[]⟩)) ∧ Below w.heap.size w w' := by
  by_cases h : 1 ≤ k ∧ k ≤ 28
  · rw [if_pos h]
    obtain ⟨j, rfl⟩ : ∃ j : Nat, k = (j : Int) := ⟨k.toNat, by omega⟩
    have hj : j < 29 := by omega
    have hj2 : (j : Int) < 29 := by omega
    have hb : (decide (1 ≤ (j : Int)) && decide ((j : Int) ≤ 28)) = true := by simp; omega
    rw [Int.toNat_natCast]
    go_enter Tryd.func17, Tryd.ntmps17
    go_wp2_with fail
    refine (l1InC _ _ _ w).mono ?_
    rintro e w1 ⟨rfl, rfl⟩
    rw [hb]
    go_wp2_with fail
    refine (specWords w).mono ?_
    rintro e w1 ⟨rfl, rfl⟩
    have hc := kw_cellS w 9 j hj
    have hb1 : Below w.heap.size w (w.alloc (.cells (kwL.map Value.string).toArray 9)) := by go_grown
    generalize (w.alloc (.cells (kwL.map Value.string).toArray 9)) = W at hc hb1 ⊢
    have HB := hide hb1
    clear hb1 h
    go_wp2_with fail
    all_goals go_ret
    all_goals exact ⟨rfl, HB.out⟩
  · rw [if_neg h]
    have hb : (decide (1 ≤ k) && decide (k ≤ 28)) = false := by simp; omega
    go_enter Tryd.func17, Tryd.ntmps17
    go_wp2_with fail
    refine (l1InC _ _ _ w).mono ?_
    rintro e w1 ⟨rfl, rfl⟩
    rw [hb]
    go_wp2_with fail
    all_goals go_ret
    all_goals exact ⟨rfl, by go_grown⟩

/-- A cell of the first world, behind a call that left all as it was. -/
theorem some_below {w w' : World} {g : Nat} (h : ∃ m, w.cell? ⟨g, 0, none⟩ = some (.int .i64 m)) (hb : Below w.heap.size w w') : ∃ m, w'.cell? ⟨g, 0, none⟩ = some (.int .i64 m) := by
  obtain ⟨m, hm⟩ := h
  exact ⟨m, (hb.cell (p := ⟨g, 0, none⟩) (World.block_lt_of_cell? w _ hm)).trans hm⟩

set_option maxRecDepth 100000 in
theorem fnExactKeyText.walk (k : Int) (w : World) (hm : ∃ m, w.cell? ⟨2, 0, none⟩ = some (.int .i64 m)) :
    Calls Tryd.prog 4 #[.int .i64 k] w fun e w' => e = .returned (.bool true) ∧ Below w.heap.size w w' := by
  have HM := hide hm
  clear hm
  go_enter Tryd.func4, Tryd.ntmps4
  go_wp2_with fail
  refine (specKeyText k w).mono ?_
  rintro e w1 ⟨rfl, hb1⟩
  have H1 := hide hb1
  clear hb1
  have hI := fun m w h => implKeyText k m w h
  generalize (if 1 ≤ k ∧ k ≤ 28 then kw k.toNat else (⟨#[]⟩ : ByteArray)) = r at hI ⊢
  go_wp2_with fail
  obtain ⟨m, hm⟩ := some_below HM.out H1.out
  refine (hI m w1 hm).mono ?_
  rintro e w2 ⟨rfl, hb2⟩
  have H2 := hide (below_via H1.out hb2)
  clear hb2
  go_wp2_with fail
  all_goals go_ret
  all_goals exact ⟨rfl, H2.out⟩
end Go.Proofs.YtifkldghbdpdmaaDoor
