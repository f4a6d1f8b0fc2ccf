/-
  The walk of FnExactValueText.
-/
import Derived.Test.YtifkldghbdpdmaaDoorValT
namespace Go.Proofs.YtifkldghbdpdmaaDoor
open Go.RowKit

set_option maxRecDepth 100000 in
set_option maxHeartbeats 400000 in
theorem fnExactValueText.walk (k n : Int) (s : ByteArray) (w : World) (_wk : (Lit.int .i64 k).wf = true) (wn : (Lit.int .i64 n).wf = true) (ws : s.size ≤ maxLen)
    (htab : Lib.TabIs Tryd.prog w "internal/strconv.uint64pow10" .u64 Lib.pow10Tab) (hm : ∃ m, w.cell? ⟨2, 0, none⟩ = some (.int .i64 m)) :
    Calls Tryd.prog 10 #[.agg #[.int .i64 k, .int .i64 n, .string s]] w fun e w' => e = .returned (.bool true) ∧ Below w.heap.size w w' := by
  unfold maxLen at ws
  obtain ⟨h0, h1⟩ := bounds_i64 wn
  have HT := hide (Lib.tabBelow_of_tabIs htab)
  have HM := hide hm
  clear wn htab hm
  by_cases h3 : s.size ≤ 1048576
  · have hI := fun w a b => implValueText k n s w h3 h0 h1 a b
    have hS := fun w => specValueText k n s w h3 h0 h1
    generalize valT k n s = r at hI hS
    go_enter Tryd.func10, Tryd.ntmps10
    go_wp2_with (first | (go_at_call 30; refine (hS _).mono ?_; rintro e w1 ⟨rfl, hb1⟩; obtain ⟨hc1, hf1⟩ := bcell hb1; have hz1 : w.heap.size < w1.heap.size := by have := hb1.size; simp at this; omega) | (go_at_call 29; go_in) | (go_at_call 31; go_in))
    have hb2 : Below w.heap.size w w1 := below_via (by go_grown) hb1
    have H2 := hide hb2
    have H3 : ∀ W, Below w1.heap.size w1 W → Lib.TabIs Tryd.prog W "internal/strconv.uint64pow10" .u64 Lib.pow10Tab ∧ ∃ m, W.cell? ⟨2, 0, none⟩ = some (.int .i64 m) := fun W h => ⟨HT.out W (below_via H2.out h), some_below HM.out (below_via H2.out h)⟩
    have H4 := hide H3
    clear hb1 hb2 H3
    refine (hI _ (H4.out _ (by go_grown)).1 (H4.out _ (by go_grown)).2).mono ?_
    rintro e w2 ⟨rfl, hb3⟩
    go_wp2
    all_goals go_ret
    all_goals exact ⟨rfl, below_via (below_via H2.out (by go_grown)) hb3⟩
  · go_enter Tryd.func10, Tryd.ntmps10
    go_wp2
    go_ret
    exact ⟨rfl, by go_grown⟩
end Go.Proofs.YtifkldghbdpdmaaDoor
