/-
  The walk of FnExactUnary.
-/
import Derived.Test.YtopmlhplkaoleaaRows
import Derived.WalkKit
import Derived.WalkLawsBesides
import Derived.WalkSpells
import Derived.Handy
import Derived.Deep.Light
import Derived.Test.YtopmlhplkaoleaaM1
import Derived.Test.YtopmlhplkaoleaaB
import Derived.Test.YtopmlhplkaoleaaWValOk
import Derived.Test.YtopmlhplkaoleaaWCalcA
import Derived.Test.YtopmlhplkaoleaaWToV
import Derived.Test.YtopmlhplkaoleaaWUnary
namespace Go.Proofs.Ytopmlhplkaoleaa
open Go.RowKit

set_option maxHeartbeats 800000 in
theorem fnExactUnary.walk (op k n : Int) (s : ByteArray) (w : World) (wop : (Lit.int .i64 op).wf = true) (wk : (Lit.int .i64 k).wf = true) (wn : (Lit.int .i64 n).wf = true) (ws : s.size ≤ maxLen) :
    Calls Try.prog 12 #[.int .i64 op, .agg #[.int .i64 k, .int .i64 n, .string s]] w fun e w' => e = .returned (.bool true) ∧ Below w.heap.size w w' := by
  unfold maxLen at ws
  clear wop wk
  by_cases h3 : s.size ≤ 1048576
  · go_enter Try.func12, Try.ntmps12
    go_wp2_with (first | (go_at_call 22; go_in) | fail)
    refine (toValueC _ _ _ _).mono ?_
    rintro e w1 ⟨rfl, hb1⟩
    have hb1' : Below w.heap.size w w1 := below_via (by go_grown) hb1
    have hc : w1.cell? ⟨w.heap.size, 0, none⟩ = some (.int .i64 k) ∧ w1.cell? ⟨w.heap.size, 1, none⟩ = some (.int .i64 n) ∧ w1.cell? ⟨w.heap.size, 2, none⟩ = some (.string s) ∧ w.heap.size < w1.heap.size := by
      obtain ⟨hc1, _⟩ := bcell hb1
      refine ⟨?_, ?_, ?_, ?_⟩
      · rw [hc1 _ _ (by simp; omega)]; simp [go_sem]
      · rw [hc1 _ _ (by simp; omega)]; simp [go_sem]
      · rw [hc1 _ _ (by simp; omega)]; simp [go_sem]
      · have := hb1.size; simp at this; omega
    obtain ⟨c0, c1, c2, hz1⟩ := hc
    have H1 := hide hb1'
    clear hb1 hb1'
    go_wp2_with fail
    refine (specUnary _ _ _ _ _ ws wn).mono ?_
    rintro e w2 ⟨rfl, hb2⟩
    obtain ⟨hc2, _⟩ := bcell hb2
    rw [← hc2 _ _ hz1] at c0 c1 c2
    have hz2 : w.heap.size < w2.heap.size := by have := hb2.size; omega
    have H2 := hide hb2
    clear hb2 hc2 hz1
    go_wp2_with fail
    refine (toValueC _ _ _ _).mono ?_
    rintro e w3 ⟨rfl, hb3⟩
    obtain ⟨x0, x1, x2, _, _, _, hz3⟩ := kept3 hb3
    have hb3' : Below w2.heap.size w2 w3 := below_via (by go_grown) hb3
    have H3 := hide hb3'
    clear hb3 hb3' c0 c1 c2 hz2
    go_wp2_with fail
    refine (implUnary _ _ _ _ _ ws wn).mono ?_
    rintro e w4 ⟨rfl, hb4⟩
    obtain ⟨hc4, _⟩ := bcell hb4
    rw [← hc4 _ _ hz3] at x0 x1 x2
    have hz4 : w2.heap.size < w4.heap.size := by have := hb4.size; omega
    have H4 := hide hb4
    clear hb4 hc4 hz3
    go_wp2_with go_in
    all_goals go_ret
    all_goals have hA : Below w.heap.size w w4 := below_via (below_via (below_via H1.out H2.out) H3.out) H4.out
    all_goals exact ⟨rfl, below_via hA (by go_grown)⟩
  · go_enter Try.func12, Try.ntmps12
    go_wp2
    go_ret
    exact ⟨rfl, by go_grown⟩
end Go.Proofs.Ytopmlhplkaoleaa
