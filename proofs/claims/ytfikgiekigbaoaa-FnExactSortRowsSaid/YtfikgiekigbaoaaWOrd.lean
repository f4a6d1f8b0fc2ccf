/-
  What Order computes, in the program and in the reference.
-/
import Derived.Test.YtfikgiekigbaoaaRows
import Derived.WalkKit
import Derived.WalkLawsBesides
import Derived.WalkSpells
import Derived.Handy
import Derived.Deep.Light
import Derived.StillTailTactics
import Derived.Test.YtfikgiekigbaoaaM1
import Derived.Test.YtfikgiekigbaoaaB
import Derived.Test.YtfikgiekigbaoaaOrd
import Derived.Test.YtfikgiekigbaoaaQ
namespace Go.Proofs.Ytfikgiekigbaoaa
open Go.RowKit

theorem cmpInt (x y : Int) (w : World) :
    Calls Try.prog 46 #[.int .i64 x, .int .i64 y] w fun e w' => e = .returned (.int .i64 (cmpI x y)) ∧ w' = w := by
  rcases cmpI_cases x y with ⟨h, e⟩ | ⟨rfl, e⟩ | ⟨h, e⟩
  all_goals rw [e]; clear e
  all_goals
    go_enter Try.func46, Try.ntmps46
    go_wp2
    all_goals go_ret
    all_goals exact ⟨rfl, rfl⟩

theorem cmpStr (a b : ByteArray) (w : World) :
    Calls Try.prog 47 #[.string a, .string b] w fun e w' => e = .returned (.int .i64 (cmpS a.toList b.toList)) ∧ w' = w := by
  rcases cmpS_cases a.toList b.toList with ⟨h1, h2, h3, e⟩ | ⟨h3, h1, h2, e⟩ | ⟨h1, h2, h3, e⟩
  · rw [e]; clear e h3
    go_enter Try.func47, Try.ntmps47
    go_wp2
    all_goals go_ret
    all_goals exact ⟨rfl, rfl⟩
  · rw [e]; clear e
    have h4 : (a.toList == b.toList) = true := by simpa using h3
    clear h3
    go_enter Try.func47, Try.ntmps47
    go_wp2
    all_goals go_ret
    all_goals exact ⟨rfl, rfl⟩
  · rw [e]; clear e
    have h4 : (a.toList == b.toList) = false := by simpa using h3
    clear h3
    go_enter Try.func47, Try.ntmps47
    go_wp2
    all_goals go_ret
    all_goals exact ⟨rfl, rfl⟩

theorem cmpOr3 (x y z : Int) (w : World) (b : Nat) (h0 : w.cell? ⟨b, 0, none⟩ = some (.int .i64 x)) (h1 : w.cell? ⟨b, 1, none⟩ = some (.int .i64 y)) (h2 : w.cell? ⟨b, 2, none⟩ = some (.int .i64 z)) :
    Calls Try.prog 45 #[.slice (some ⟨b, 0, none⟩) 3 3] w fun e w' => e = .returned (.int .i64 (if x = 0 then (if y = 0 then z else y) else x)) ∧ w' = w := by
  by_cases hx : x = 0
  · subst hx
    by_cases hy : y = 0
    · subst hy
      by_cases hz : z = 0
      all_goals
        go_enter Try.func45, Try.ntmps45
        go_wp2
        refine wp_loop_rounds 4 ?_
        repeat any_goals (rw [rounds_succ]; go_wp2)
        all_goals go_ret
        all_goals exact ⟨by simp, rfl⟩
    · go_enter Try.func45, Try.ntmps45
      go_wp2
      refine wp_loop_rounds 4 ?_
      repeat any_goals (rw [rounds_succ]; go_wp2)
      all_goals go_ret
      all_goals exact ⟨by simp, rfl⟩
  · go_enter Try.func45, Try.ntmps45
    go_wp2
    refine wp_loop_rounds 4 ?_
    repeat any_goals (rw [rounds_succ]; go_wp2)
    all_goals go_ret
    all_goals exact ⟨by simp, rfl⟩

set_option maxHeartbeats 400000 in
theorem specOrder (k n : Int) (s : ByteArray) (k' n' : Int) (s' : ByteArray) (w : World) :
    Calls Try.prog 32 #[.agg #[.int .i64 k, .int .i64 n, .string s], .agg #[.int .i64 k', .int .i64 n', .string s']] w fun e w' => e = .returned (.int .i64 (ordF k n s.toList k' n' s'.toList)) ∧ Below w.heap.size w w' := by
  go_enter Try.func32, Try.ntmps32
  go_wp2
  all_goals go_ret
  all_goals refine ⟨ret_int ?_, by go_grown⟩
  all_goals go_light
  all_goals simp_all [ordF, cmpI, cmpS]
  all_goals omega

set_option maxRecDepth 100000 in
set_option maxHeartbeats 400000 in
theorem implOrder (k n : Int) (s : ByteArray) (k' n' : Int) (s' : ByteArray)  (w : World) :
    Calls Try.prog 35 #[.agg #[.int .i64 k, .int .i64 n, .string s], .agg #[.int .i64 k', .int .i64 n', .string s']] w fun e w' => e = .returned (.int .i64 (ordF k n s.toList k' n' s'.toList)) ∧ Below w.heap.size w w' := by
  go_enter Try.func35, Try.ntmps35
  go_wp2_with fail
  refine wp_region_still_tail 15 (by kernel_rfl) (by kernel_rfl) ?_
  simp only [List.take_succ_cons, List.take_zero, List.drop_succ_cons, List.drop_zero]
  change wpStill _ _ (World.drew _) (fun a' => wpList _ _ _ _ a' (World.drew _)) _ _
  repeat (first | still_step | still_call (cmpInt _ _ _) | still_call (cmpStr _ _ _))
  refine wpStill_nil ?_
  go_wp2_with fail
  refine (cmpOr3 (cmpI k k') (cmpI n n') (cmpS s.toList s'.toList) _ _ ?_ ?_ ?_).mono ?_
  · simp [go_sem]
  · simp [go_sem]
  · simp [go_sem]
  rintro e w1 ⟨rfl, rfl⟩
  go_wp2
  all_goals go_ret
  all_goals refine ⟨ret_int ?_, by go_grown⟩
  all_goals go_light
  all_goals simp_all [ordF]

end Go.Proofs.Ytfikgiekigbaoaa
