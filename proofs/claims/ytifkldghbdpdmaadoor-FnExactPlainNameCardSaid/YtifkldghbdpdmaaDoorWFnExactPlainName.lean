/-
  The walk of FnExactPlainName.
-/
import Derived.Test.YtifkldghbdpdmaaDoorPlainN
namespace Go.Proofs.YtifkldghbdpdmaaDoor
open Go.RowKit

set_option maxRecDepth 100000 in
theorem fnExactPlainName.walk (s : ByteArray) (w : World) (ws : s.size ≤ maxLen) (hm : ∃ m, w.cell? ⟨2, 0, none⟩ = some (.int .i64 m)) :
    Calls Tryd.prog 7 #[.string s] w fun e w' => e = .returned (.bool true) ∧ Below w.heap.size w w' := by
  unfold maxLen at ws
  have HM := hide hm
  clear hm
  by_cases h3 : s.size ≤ 1048576
  · have h4 : ¬ (1048576 : Int) < s.size := by omega
    go_enter Tryd.func7, Tryd.ntmps7
    go_wp2_with fail
    refine (specPlain s w h3).mono ?_
    rintro e w1 ⟨rfl, hb1⟩
    have H1 := hide hb1
    clear hb1
    have hI := fun w m h => implPlain s w h3 m h
    generalize plainB s = r at hI ⊢
    go_wp2_with fail
    obtain ⟨m, hm⟩ := some_below HM.out H1.out
    refine (hI w1 m hm).mono ?_
    rintro e w2 ⟨rfl, hb2⟩
    have H2 := hide (below_via H1.out hb2)
    clear hb2
    cases r
    all_goals
      go_wp2_with fail
      all_goals go_ret
      all_goals exact ⟨rfl, H2.out⟩
  · have h4 : (1048576 : Int) < s.size := by omega
    go_enter Tryd.func7, Tryd.ntmps7
    go_wp2_with fail
    all_goals go_ret
    all_goals exact ⟨rfl, by go_grown⟩
end Go.Proofs.YtifkldghbdpdmaaDoor
