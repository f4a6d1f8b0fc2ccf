/-
  The walk of FnExactOrder.
-/
import Derived.Test.YtopmlhplkaoleaaRows
import Derived.WalkKit
import Derived.WalkLawsBesides
import Derived.WalkSpells
import Derived.Handy
import Derived.Deep.Light
import Derived.StillTailTactics
import Derived.Test.YtopmlhplkaoleaaM1
import Derived.Test.YtopmlhplkaoleaaB
import Derived.Test.YtopmlhplkaoleaaOrd
import Derived.Test.YtopmlhplkaoleaaQ
namespace Go.Proofs.Ytopmlhplkaoleaa
open Go.RowKit

theorem cmpInt (x y : Int) (w : World) :
    Calls Try.prog 63 #[.int .i64 x, .int .i64 y] w fun e w' => e = .returned (.int .i64 (cmpI x y)) ∧ w' = w := by
  rcases cmpI_cases x y with ⟨h, e⟩ | ⟨rfl, e⟩ | ⟨h, e⟩
  all_goals rw [e]; clear e
  all_goals
    go_enter Try.func63, Try.ntmps63
    go_wp2
    all_goals go_ret
    all_goals exact ⟨rfl, rfl⟩

theorem cmpStr (a b : ByteArray) (w : World) :
    Calls Try.prog 64 #[.string a, .string b] w fun e w' => e = .returned (.int .i64 (cmpS a.toList b.toList)) ∧ w' = w := by
  rcases cmpS_cases a.toList b.toList with ⟨h1, h2, h3, e⟩ | ⟨h3, h1, h2, e⟩ | ⟨h1, h2, h3, e⟩
  · rw [e]; clear e h3
    go_enter Try.func64, Try.ntmps64
    go_wp2
    all_goals go_ret
    all_goals exact ⟨rfl, rfl⟩
  · rw [e]; clear e
    have h4 : (a.toList == b.toList) = true := by simpa using h3
    clear h3
    go_enter Try.func64, Try.ntmps64
    go_wp2
    all_goals go_ret
    all_goals exact ⟨rfl, rfl⟩
  · rw [e]; clear e
    have h4 : (a.toList == b.toList) = false := by simpa using h3
    clear h3
    go_enter Try.func64, Try.ntmps64
    go_wp2
    all_goals go_ret
    all_goals exact ⟨rfl, rfl⟩

theorem cmpOr3 (x y z : Int) (w : World) (b : Nat) (h0 : w.cell? ⟨b, 0, none⟩ = some (.int .i64 x)) (h1 : w.cell? ⟨b, 1, none⟩ = some (.int .i64 y)) (h2 : w.cell? ⟨b, 2, none⟩ = some (.int .i64 z)) :
    Calls Try.prog 62 #[.slice (some ⟨b, 0, none⟩) 3 3] w fun e w' => e = .returned (.int .i64 (if x = 0 then (if y = 0 then z else y) else x)) ∧ w' = w := by
  by_cases hx : x = 0
  · subst hx
    by_cases hy : y = 0
    · subst hy
      by_cases hz : z = 0
      all_goals
        go_enter Try.func62, Try.ntmps62
        go_wp2
        refine wp_loop_rounds 4 ?_
        repeat any_goals (rw [rounds_succ]; go_wp2)
        all_goals go_ret
        all_goals exact ⟨by simp [hz], rfl⟩
    · go_enter Try.func62, Try.ntmps62
      go_wp2
      refine wp_loop_rounds 4 ?_
      repeat any_goals (rw [rounds_succ]; go_wp2)
      all_goals go_ret
      all_goals exact ⟨by simp [hy], rfl⟩
  · go_enter Try.func62, Try.ntmps62
    go_wp2
    refine wp_loop_rounds 4 ?_
    repeat any_goals (rw [rounds_succ]; go_wp2)
    all_goals go_ret
    all_goals exact ⟨by simp [hx], rfl⟩

set_option maxHeartbeats 400000 in
theorem specOrder (k n : Int) (s : ByteArray) (k' n' : Int) (s' : ByteArray) (w : World) :
    Calls Try.prog 33 #[.agg #[.int .i64 k, .int .i64 n, .string s], .agg #[.int .i64 k', .int .i64 n', .string s']] w fun e w' => e = .returned (.int .i64 (ordF k n s.toList k' n' s'.toList)) ∧ Below w.heap.size w w' := by
  go_enter Try.func33, Try.ntmps33
  go_wp2
  all_goals go_ret
  all_goals refine ⟨ret_int ?_, by go_grown⟩
  all_goals go_light
  all_goals simp_all [ordF, cmpI, cmpS]
  all_goals omega

set_option maxRecDepth 100000 in
set_option maxHeartbeats 400000 in
theorem implOrder (k n : Int) (s : ByteArray) (k' n' : Int) (s' : ByteArray)  (w : World) :
    Calls Try.prog 34 #[.agg #[.int .i64 k, .int .i64 n, .string s], .agg #[.int .i64 k', .int .i64 n', .string s']] w fun e w' => e = .returned (.int .i64 (ordF k n s.toList k' n' s'.toList)) ∧ Below w.heap.size w w' := by
  go_enter Try.func34, Try.ntmps34
  go_wp2_with fail
  refine wp_region_still_tail 15 (by kernel_rfl) (by kernel_rfl) ?_
  simp only [List.take_succ_cons, List.take_zero, List.drop_succ_cons, List.drop_zero]
  change wpStill _ _ (World.drew _) (fun a' => wpList _ _ _ _ a' (World.drew _)) _ _
  repeat (first | still_step | still_call (cmpInt _ _ _) | still_call (cmpStr _ _ _))
  refine wpStill_nil ?_
  go_wp2_with fail
  refine (cmpOr3 (cmpI k k') (cmpI n n') (cmpS s.toList s'.toList) _ _ ?_ ?_ ?_).mono ?_
  · simp [go_sem]
  · simp [go_sem]
  · simp [go_sem]
  rintro e w1 ⟨rfl, rfl⟩
  go_wp2
  all_goals go_ret
  all_goals refine ⟨ret_int ?_, by go_grown⟩
  all_goals go_light
  all_goals simp_all [ordF]

theorem toValueC (k n : Int) (s : ByteArray) (w : World) :
    Calls Try.prog 24 #[.agg #[.int .i64 k, .int .i64 n, .string s]] w fun e w' => e = .returned (.agg #[.int .i64 k, .int .i64 n, .string s]) ∧ Below w.heap.size w w' := by
  go_enter Try.func24, Try.ntmps24
  go_wp2
  go_returns
  exact ⟨rfl, by go_grown⟩

set_option maxHeartbeats 800000 in
theorem fnExactOrder.walk (k n : Int) (s : ByteArray) (k' n' : Int) (s' : ByteArray) (w : World) (wk : (Lit.int .i64 k).wf = true) (wn : (Lit.int .i64 n).wf = true) (ws : s.size ≤ maxLen)
    (wk' : (Lit.int .i64 k').wf = true) (wn' : (Lit.int .i64 n').wf = true) (ws' : s'.size ≤ maxLen) :
    Calls Try.prog 9 #[.agg #[.int .i64 k, .int .i64 n, .string s], .agg #[.int .i64 k', .int .i64 n', .string s']] w fun e w' => e = .returned (.bool true) ∧ Below w.heap.size w w' := by
  unfold maxLen at ws ws'
  clear wk wn wk' wn'
  by_cases h3 : s.size ≤ 1048576
  · by_cases h4 : s'.size ≤ 1048576 - s.size
    · go_enter Try.func9, Try.ntmps9
      go_wp2_with go_in
      generalize hW : World.alloc _ _ = W1
      have c0 : W1.cell? ⟨w.heap.size, 0, none⟩ = some (.int .i64 k) := by rw [← hW]; simp [go_sem]
      have c1 : W1.cell? ⟨w.heap.size, 1, none⟩ = some (.int .i64 n) := by rw [← hW]; simp [go_sem]
      have c2 : W1.cell? ⟨w.heap.size, 2, none⟩ = some (.string s) := by rw [← hW]; simp [go_sem]
      have d0 : W1.cell? ⟨w.heap.size + 1, 0, none⟩ = some (.int .i64 k') := by rw [← hW]; simp [go_sem]
      have d1 : W1.cell? ⟨w.heap.size + 1, 1, none⟩ = some (.int .i64 n') := by rw [← hW]; simp [go_sem]
      have d2 : W1.cell? ⟨w.heap.size + 1, 2, none⟩ = some (.string s') := by rw [← hW]; simp [go_sem]
      have hz : w.heap.size + 1 < W1.heap.size := by rw [← hW]; simp
      have hb0 : Below w.heap.size w W1 := by rw [← hW]; go_grown
      have HB0 := hide hb0
      clear hW hb0
      have e0 := BelowOf.cell c0 (by omega)
      have e1 := BelowOf.cell c1 (by omega)
      have e2 := BelowOf.cell c2 (by omega)
      have f0 := BelowOf.cell d0 (by omega)
      have f1 := BelowOf.cell d1 (by omega)
      have f2 := BelowOf.cell d2 (by omega)
      refine wp_region_quiet_below (by kernel_rfl) (by kernel_rfl) ?_
      repeat (quiet_step (first | exact Calls.below_of (toValueC _ _ _ _) | exact Calls.below_of (specOrder _ _ _ _ _ _ _)))
      refine wpQuiet_nil ?_
      intro W2 hq2
      have hb2 := BelowOf.of hq2
      clear hq2
      have HB2 := hide hb2
      obtain ⟨hc2, hf2⟩ := bcell hb2
      rw [← hc2 _ _ (by omega)] at c0 c1 c2 d0 d1 d2
      have hz2 : w.heap.size + 1 < W2.heap.size := by have := hb2.size; omega
      clear hb2 hc2 hf2 e0 e1 e2 f0 f1 f2 hz
      go_wp2_with fail
      have e0 := BelowOf.cell c0 (by omega)
      have e1 := BelowOf.cell c1 (by omega)
      have e2 := BelowOf.cell c2 (by omega)
      have f0 := BelowOf.cell d0 (by omega)
      have f1 := BelowOf.cell d1 (by omega)
      have f2 := BelowOf.cell d2 (by omega)
      refine wp_region_quiet_below (by kernel_rfl) (by kernel_rfl) ?_
      repeat (quiet_step (first | exact Calls.below_of (toValueC _ _ _ _) | exact Calls.below_of (implOrder _ _ _ _ _ _ _)))
      refine wpQuiet_nil ?_
      intro W3 hq3
      have hb3 := BelowOf.of hq3
      clear hq3
      have HB3 := hide hb3
      clear hb3 e0 e1 e2 f0 f1 f2 c0 c1 c2 d0 d1 d2
      go_wp2_with fail
      all_goals go_ret
      all_goals exact ⟨rfl, below_via (below_via HB0.out HB2.out) HB3.out⟩
    · go_enter Try.func9, Try.ntmps9
      go_wp2
      all_goals go_ret
      all_goals exact ⟨rfl, by go_grown⟩
  · go_enter Try.func9, Try.ntmps9
    go_wp2
    go_ret
    exact ⟨rfl, by go_grown⟩
end Go.Proofs.Ytopmlhplkaoleaa
