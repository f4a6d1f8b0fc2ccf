/-
  The walk of FnExactTokenOk.
-/
import Derived.Test.YtifkldghbdpdmaaDoorTokC
namespace Go.Proofs.YtifkldghbdpdmaaDoor
open Go.RowKit

set_option maxRecDepth 100000 in
set_option maxHeartbeats 400000 in
theorem fnExactTokenOk.walk (k : Int) (s : ByteArray) (a : Int) (w : World) (_wk : (Lit.int .i64 k).wf = true) (ws : s.size ≤ maxLen) (_wa : (Lit.int .i64 a).wf = true) (hR : Ready w) :
    Calls Tryd.prog 11 #[.agg #[.int .i64 k, .string s, .int .i64 a]] w fun e w' => e = .returned (.bool true) ∧ Below w.heap.size w w' := by
  unfold maxLen at ws
  have HR := hide hR
  clear hR
  by_cases h3 : s.size ≤ 1048576
  · have hI := fun w h => implTokenOk k s a w h3 h
    have hS := fun w => specTokenOk k s a w h3
    generalize tokOk k s = r at hI hS
    go_enter Tryd.func11, Tryd.ntmps11
    go_wp2_with (first | (go_at_call 34; refine (hS _).mono ?_; rintro e w1 ⟨rfl, hb1⟩; obtain ⟨hc1, hf1⟩ := bcell hb1; have hz1 : w.heap.size < w1.heap.size := by have := hb1.size; simp at this; omega) | (go_at_call 33; go_in) | (go_at_call 35; go_in))
    have hb2 : Below w.heap.size w w1 := below_via (by go_grown) hb1
    have H2 := hide hb2
    have H4 : Hid (∀ W, Below w1.heap.size w1 W → Ready W) := fun W h => HR.out.below (below_via H2.out h)
    clear hb1 hb2
    refine (hI _ (H4.out _ (by go_grown))).mono ?_
    rintro e w2 ⟨rfl, hb3⟩
    cases r
    all_goals
      go_wp2
      all_goals go_ret
      all_goals exact ⟨rfl, below_via (below_via H2.out (by go_grown)) hb3⟩
  · go_enter Tryd.func11, Tryd.ntmps11
    go_wp2
    go_ret
    exact ⟨rfl, by go_grown⟩
end Go.Proofs.YtifkldghbdpdmaaDoor
