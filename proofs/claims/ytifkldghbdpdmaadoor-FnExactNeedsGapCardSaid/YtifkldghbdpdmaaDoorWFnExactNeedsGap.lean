/-
  The walk of FnExactNeedsGap.
-/
import Derived.Test.YtifkldghbdpdmaaDoorGapI
import Derived.Test.YtifkldghbdpdmaaDoorGapS
import Derived.Test.YtifkldghbdpdmaaDoorTokV
namespace Go.Proofs.YtifkldghbdpdmaaDoor
open Go.RowKit

set_option maxRecDepth 100000 in
set_option maxHeartbeats 400000 in
theorem fnExactNeedsGap.walk (k : Int) (s : ByteArray) (a : Int) (k' : Int) (s' : ByteArray) (a' : Int) (w : World) (_wk : (Lit.int .i64 k).wf = true) (ws : s.size ≤ maxLen) (_wa : (Lit.int .i64 a).wf = true)
    (_wk' : (Lit.int .i64 k').wf = true) (ws' : s'.size ≤ maxLen) (_wa' : (Lit.int .i64 a').wf = true) (hR : Ready w) :
    Calls Tryd.prog 13 #[.agg #[.int .i64 k, .string s, .int .i64 a], .agg #[.int .i64 k', .string s', .int .i64 a']] w fun e w' => e = .returned (.bool true) ∧ Below w.heap.size w w' := by
  unfold maxLen at ws ws'
  have HR := hide hR
  clear hR
  by_cases h3 : s.size ≤ 1048576
  · by_cases h4 : s.size + s'.size ≤ 1048576
    · have hI := fun w h => implGap k s a k' s' a' w (by omega) (by omega) h
      have hS := fun w => specGap k s a k' s' a' w (by omega) (by omega)
      generalize gapB k s k' s' = r at hI hS
      go_enter Tryd.func13, Tryd.ntmps13
      go_wp2_with (go_at_call 33; go_in)
      generalize hW : World.alloc _ _ = W1
      have c0 : W1.cell? ⟨w.heap.size, 0, none⟩ = some (.int .i64 k) := by rw [← hW]; simp [go_sem]
      have c1 : W1.cell? ⟨w.heap.size, 1, none⟩ = some (.string s) := by rw [← hW]; simp [go_sem]
      have c2 : W1.cell? ⟨w.heap.size, 2, none⟩ = some (.int .i64 a) := by rw [← hW]; simp [go_sem]
      have d0 : W1.cell? ⟨w.heap.size + 1, 0, none⟩ = some (.int .i64 k') := by rw [← hW]; simp [go_sem]
      have d1 : W1.cell? ⟨w.heap.size + 1, 1, none⟩ = some (.string s') := by rw [← hW]; simp [go_sem]
      have d2 : W1.cell? ⟨w.heap.size + 1, 2, none⟩ = some (.int .i64 a') := by rw [← hW]; simp [go_sem]
      have hz : w.heap.size + 1 < W1.heap.size := by rw [← hW]; simp
      have hb0 : Below w.heap.size w W1 := by rw [← hW]; go_grown
      have HB0 := hide hb0
      clear hW hb0
      have e0 := BelowOf.cell c0 (by omega)
      have e1 := BelowOf.cell c1 (by omega)
      have e2 := BelowOf.cell c2 (by omega)
      have f0 := BelowOf.cell d0 (by omega)
      have f1 := BelowOf.cell d1 (by omega)
      have f2 := BelowOf.cell d2 (by omega)
      refine wp_region_wq (by kernel_rfl) (by kernel_rfl) ?_
      repeat (refine WQ.step (fun K hK => ?_); go_simp; first | (refine hK _ ?_; clear hK K) | (apply Exists.intro; refine ⟨fun _ => ?_, hK _ ?_⟩; ((first | exact Calls.below_of (toTokenC _ _ _ _) | exact Calls.below_of (hS _))); clear hK K))
      refine WQ.nil ?_
      intro W2 hq2
      have hb2 := BelowOf.of hq2
      clear hq2
      have HB2 := hide (below_via HB0.out hb2)
      obtain ⟨hc2, hf2⟩ := bcell hb2
      rw [← hc2 _ _ (by omega)] at c0 c1 c2 d0 d1 d2
      have hz2 : w.heap.size + 1 < W2.heap.size := by have := hb2.size; omega
      clear hb2 hc2 hf2 e0 e1 e2 f0 f1 f2 hz
      go_wp2_with fail
      have e0 := BelowOf.cell c0 (by omega)
      have e1 := BelowOf.cell c1 (by omega)
      have e2 := BelowOf.cell c2 (by omega)
      have f0 := BelowOf.cell d0 (by omega)
      have f1 := BelowOf.cell d1 (by omega)
      have f2 := BelowOf.cell d2 (by omega)
      have hJ := fun p : BelowOf W2 => hI p.world (HR.out.below (below_via HB2.out p.h))
      refine wp_region_wq (by kernel_rfl) (by kernel_rfl) ?_
      repeat (refine WQ.step (fun K hK => ?_); go_simp; first | (refine hK _ ?_; clear hK K) | (apply Exists.intro; refine ⟨fun _ => ?_, hK _ ?_⟩; ((first | exact Calls.below_of (toTokenC _ _ _ _) | exact Calls.below_of (hJ _))); clear hK K))
      refine WQ.nil ?_
      intro W3 hq3
      have hb3 := BelowOf.of hq3
      clear hq3
      have HB3 := hide (below_via HB2.out hb3)
      clear hb3 e0 e1 e2 f0 f1 f2 c0 c1 c2 d0 d1 d2
      cases r
      all_goals
        go_wp2_with fail
        all_goals go_ret
        all_goals exact ⟨rfl, HB3.out⟩
    · go_enter Tryd.func13, Tryd.ntmps13
      go_wp2
      all_goals go_ret
      all_goals exact ⟨rfl, by go_grown⟩
  · go_enter Tryd.func13, Tryd.ntmps13
    go_wp2
    go_ret
    exact ⟨rfl, by go_grown⟩
end Go.Proofs.YtifkldghbdpdmaaDoor
