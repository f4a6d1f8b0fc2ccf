/-
  The walk of FnExactNumber.
-/
import Derived.Test.YtifkldghbdpdmaaDoorNumI
namespace Go.Proofs.YtifkldghbdpdmaaDoor
open Go.RowKit

set_option maxRecDepth 100000 in
theorem fnExactNumber.walk (s : ByteArray) (w : World) (ws : s.size ≤ maxLen) (hR : Ready w) :
    Calls Tryd.prog 9 #[.string s] w fun e w' => e = .returned (.bool true) ∧ Below w.heap.size w w' := by
  unfold maxLen at ws
  have HR := hide hR
  clear hR
  by_cases h3 : s.size ≤ 1048576
  · have h4 : ¬ (1048576 : Int) < s.size := by omega
    have hI := fun w h => implNumber s (by omega) w h
    have hS := specNumber s (by omega) w
    generalize numN s = r at hI hS
    generalize numB s = b at hI hS
    have hC : b = true ∨ b = false := by cases b <;> simp
    go_enter Tryd.func9, Tryd.ntmps9
    go_wp2_with fail
    refine hS.mono ?_
    rintro e w1 ⟨rfl, hb1⟩
    have H1 := hide hb1
    clear hb1 hS
    go_wp2_with fail
    refine (hI w1 (HR.out.below H1.out)).mono ?_
    rintro e w2 ⟨rfl, hb2⟩
    have H2 := hide (below_via H1.out hb2)
    clear hb2 hI
    rcases hC with rfl | rfl
    all_goals
      go_wp2_with fail
      all_goals go_ret
      all_goals exact ⟨rfl, H2.out⟩
  · have h4 : (1048576 : Int) < s.size := by omega
    go_enter Tryd.func9, Tryd.ntmps9
    go_wp2_with fail
    all_goals go_ret
    all_goals exact ⟨rfl, by go_grown⟩
end Go.Proofs.YtifkldghbdpdmaaDoor
