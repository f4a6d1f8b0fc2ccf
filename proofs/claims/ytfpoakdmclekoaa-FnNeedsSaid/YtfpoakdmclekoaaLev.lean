/-
  LevelOf, in the reference and in the program.
-/
import Derived.Test.YtfpoakdmclekoaaRows
import Derived.WalkLawsBesides
import Derived.Deep.Light
import Derived.Test.YtfpoakdmclekoaaM1
import Derived.Test.YtfpoakdmclekoaaTreAt
namespace Go.Proofs.Ytfpoakdmclekoaa
open Go.RowKit

/-- The level of a binary operator. -/
def binL (op : Int) : Int := if op = 1 then 1 else if op = 2 then 2 else if 3 ≤ op ∧ op ≤ 8 then 4 else if op = 9 then 5 else if op = 10 ∨ op = 11 then 6 else if 12 ≤ op ∧ op ≤ 14 then 7 else 0
/-- The level of an expression. -/
def levL (k op : Int) : Int := if k = 4 then binL op else if k = 3 then (if op = 15 then 3 else if op = 16 then 8 else 0) else if 5 ≤ k ∧ k ≤ 8 then 4 else if k = 1 ∨ k = 2 ∨ k = 9 then 9 else 0
theorem binL_le (op : Int) : 0 ≤ binL op ∧ binL op ≤ 7 := by unfold binL; repeat' split; all_goals omega
theorem levL_le (k op : Int) : 0 ≤ levL k op ∧ levL k op ≤ 9 := by have := binL_le op; unfold levL; repeat' split; all_goals omega

theorem specIn (a lo hi : Int) (w : World) : Calls Try.prog 36 #[.int .i64 a, .int .i64 lo, .int .i64 hi] w fun e w' => e = .returned (.bool (decide (lo ≤ a ∧ a ≤ hi))) ∧ w = w' := by
  by_cases h1 : lo ≤ a
  · by_cases h2 : a ≤ hi
    · go_enter Try.func36, Try.ntmps36
      go_wp2
      all_goals go_ret
      all_goals exact ⟨by simp [h1, h2], rfl⟩
    · have h3 : ¬ a ≤ hi := h2
      go_enter Try.func36, Try.ntmps36
      go_wp2
      all_goals go_ret
      all_goals exact ⟨by simp; omega, rfl⟩
  · have h3 : ¬ lo ≤ a := h1
    go_enter Try.func36, Try.ntmps36
    go_wp2
    all_goals go_ret
    all_goals exact ⟨by simp; omega, rfl⟩

theorem kinds (k : Int) : k = 1 ∨ k = 2 ∨ k = 3 ∨ k = 4 ∨ k = 5 ∨ k = 6 ∨ k = 7 ∨ k = 8 ∨ k = 9 ∨ (¬ k = 1 ∧ ¬ k = 2 ∧ ¬ k = 3 ∧ ¬ k = 4 ∧ ¬ k = 5 ∧ ¬ k = 6 ∧ ¬ k = 7 ∧ ¬ k = 8 ∧ ¬ k = 9) := by omega
theorem opers (k : Int) : k = 1 ∨ k = 2 ∨ k = 3 ∨ k = 4 ∨ k = 5 ∨ k = 6 ∨ k = 7 ∨ k = 8 ∨ k = 9 ∨ k = 10 ∨ k = 11 ∨ k = 12 ∨ k = 13 ∨ k = 14 ∨ (¬ (1 ≤ k ∧ k ≤ 14)) := by omega
theorem beq_no {a b : Int} (h : ¬ a = b) : (a == b) = false := by simpa using h

set_option maxRecDepth 100000 in
set_option maxHeartbeats 1600000 in
theorem specLevel (k op : Int) (v2 v3 v4 v5 v6 v7 v8 v9 : Value) (w : World) :
    Calls Try.prog 11 #[.agg #[.int .i64 k, .int .i64 op, v2, v3, v4, v5, v6, v7, v8, v9]] w fun e w' => e = .returned (.int .i64 (levL k op)) ∧ Below w.heap.size w w' := by
  rcases kinds k with rfl | rfl | rfl | rfl | rfl | rfl | rfl | rfl | rfl | ⟨k1, k2, k3, k4, k5, k6, k7, k8, k9⟩
  case inr.inr.inr.inl =>
    have hin := fun w => specIn op 1 14 w
    rcases opers op with rfl | rfl | rfl | rfl | rfl | rfl | rfl | rfl | rfl | rfl | rfl | rfl | rfl | rfl | hno
    case inr.inr.inr.inr.inr.inr.inr.inr.inr.inr.inr.inr.inr.inr =>
      have e0 : levL 4 op = 0 := by unfold levL binL; repeat' split; all_goals omega
      rw [e0]
      have ed : decide (1 ≤ op ∧ op ≤ 14) = false := decide_eq_false hno
      rw [ed] at hin
      clear ed e0 hno
      go_enter Try.func11, Try.ntmps11
      go_wp2_with fail
      refine (hin _).mono ?_
      rintro e w1 ⟨rfl, rfl⟩
      go_wp2_with fail
      all_goals go_ret
      all_goals exact ⟨rfl, by go_grown⟩
    all_goals
      rw [show (decide ((1 : Int) ≤ _ ∧ _ ≤ (14 : Int))) = true from by decide] at hin
      go_enter Try.func11, Try.ntmps11
      go_wp2_with fail
      refine (hin _).mono ?_
      rintro e w1 ⟨rfl, rfl⟩
      go_wp2_with fail
      all_goals go_ret
      all_goals exact ⟨rfl, by go_grown⟩
  case inr.inr.inl =>
    by_cases h15 : op = 15
    · subst h15
      go_enter Try.func11, Try.ntmps11
      go_wp2_with fail
      all_goals go_ret
      all_goals exact ⟨rfl, by go_grown⟩
    · by_cases h16 : op = 16
      · subst h16
        go_enter Try.func11, Try.ntmps11
        go_wp2_with fail
        all_goals go_ret
        all_goals exact ⟨rfl, by go_grown⟩
      · have g1 := beq_no h15
        have g2 := beq_no h16
        have e0 : levL 3 op = 0 := by unfold levL; simp [h15, h16]
        rw [e0]
        clear h15 h16 e0
        go_enter Try.func11, Try.ntmps11
        go_wp2_with fail
        all_goals go_ret
        all_goals exact ⟨rfl, by go_grown⟩
  case inr.inr.inr.inr.inr.inr.inr.inr.inr =>
    have e0 : levL k op = 0 := by unfold levL; repeat' split; all_goals omega
    rw [e0]
    have g1 := beq_no k1
    have g2 := beq_no k2
    have g3 := beq_no k3
    have g4 := beq_no k4
    have g5 := beq_no k5
    have g6 := beq_no k6
    have g7 := beq_no k7
    have g8 := beq_no k8
    have g9 := beq_no k9
    clear k1 k2 k3 k4 k5 k6 k7 k8 k9 e0
    go_enter Try.func11, Try.ntmps11
    go_wp2_with fail
    all_goals go_ret
    all_goals exact ⟨rfl, by go_grown⟩
  all_goals
    go_enter Try.func11, Try.ntmps11
    go_wp2_with fail
    all_goals go_ret
    all_goals exact ⟨rfl, by go_grown⟩

set_option maxRecDepth 100000 in
set_option maxHeartbeats 1600000 in
theorem implBin (op : Int) (w : World) : Calls Try.prog 40 #[.int .i64 op] w fun e w' => e = .returned (.int .i64 (binL op)) ∧ w = w' := by
  rcases opers op with rfl | rfl | rfl | rfl | rfl | rfl | rfl | rfl | rfl | rfl | rfl | rfl | rfl | rfl | hno
  case inr.inr.inr.inr.inr.inr.inr.inr.inr.inr.inr.inr.inr.inr =>
    have e0 : binL op = 0 := by unfold binL; repeat' split; all_goals omega
    rw [e0]
    have g1 := beq_no (show ¬ op = 1 by omega)
    have g2 := beq_no (show ¬ op = 2 by omega)
    have g3 := beq_no (show ¬ op = 3 by omega)
    have g4 := beq_no (show ¬ op = 4 by omega)
    have g5 := beq_no (show ¬ op = 5 by omega)
    have g6 := beq_no (show ¬ op = 6 by omega)
    have g7 := beq_no (show ¬ op = 7 by omega)
    have g8 := beq_no (show ¬ op = 8 by omega)
    have g9 := beq_no (show ¬ op = 9 by omega)
    have g10 := beq_no (show ¬ op = 10 by omega)
    have g11 := beq_no (show ¬ op = 11 by omega)
    have g12 := beq_no (show ¬ op = 12 by omega)
    have g13 := beq_no (show ¬ op = 13 by omega)
    have g14 := beq_no (show ¬ op = 14 by omega)
    clear hno e0
    go_enter Try.func40, Try.ntmps40
    go_wp2_with fail
    all_goals go_ret
    all_goals exact ⟨rfl, rfl⟩
  all_goals
    go_enter Try.func40, Try.ntmps40
    go_wp2_with fail
    all_goals go_ret
    all_goals exact ⟨rfl, rfl⟩

set_option maxRecDepth 100000 in
set_option maxHeartbeats 1600000 in
theorem implLevel (k op : Int) (v2 v3 v4 v5 v6 v7 v8 v9 : Value) (w : World) :
    Calls Try.prog 13 #[.agg #[.int .i64 k, .int .i64 op, v2, v3, v4, v5, v6, v7, v8, v9]] w fun e w' => e = .returned (.int .i64 (levL k op)) ∧ Below w.heap.size w w' := by
  rcases kinds k with rfl | rfl | rfl | rfl | rfl | rfl | rfl | rfl | rfl | ⟨k1, k2, k3, k4, k5, k6, k7, k8, k9⟩
  case inr.inr.inr.inl =>
    have e0 : levL 4 op = binL op := by unfold levL; simp
    rw [e0]
    clear e0
    go_enter Try.func13, Try.ntmps13
    go_wp2_with fail
    refine (implBin op _).mono ?_
    rintro e w1 ⟨rfl, rfl⟩
    go_wp2_with fail
    all_goals go_ret
    all_goals exact ⟨rfl, by go_grown⟩
  case inr.inr.inl =>
    by_cases h15 : op = 15
    · subst h15
      go_enter Try.func13, Try.ntmps13
      go_wp2_with fail
      all_goals go_ret
      all_goals exact ⟨rfl, by go_grown⟩
    · by_cases h16 : op = 16
      · subst h16
        go_enter Try.func13, Try.ntmps13
        go_wp2_with fail
        all_goals go_ret
        all_goals exact ⟨rfl, by go_grown⟩
      · have g1 := beq_no h15
        have g2 := beq_no h16
        have e0 : levL 3 op = 0 := by unfold levL; simp [h15, h16]
        rw [e0]
        clear h15 h16 e0
        go_enter Try.func13, Try.ntmps13
        go_wp2_with fail
        all_goals go_ret
        all_goals exact ⟨rfl, by go_grown⟩
  case inr.inr.inr.inr.inr.inr.inr.inr.inr =>
    have e0 : levL k op = 0 := by unfold levL; repeat' split; all_goals omega
    rw [e0]
    have g1 := beq_no k1
    have g2 := beq_no k2
    have g3 := beq_no k3
    have g4 := beq_no k4
    have g5 := beq_no k5
    have g6 := beq_no k6
    have g7 := beq_no k7
    have g8 := beq_no k8
    have g9 := beq_no k9
    clear k1 k2 k3 k4 k5 k6 k7 k8 k9 e0
    go_enter Try.func13, Try.ntmps13
    go_wp2_with fail
    all_goals go_ret
    all_goals exact ⟨rfl, by go_grown⟩
  all_goals
    go_enter Try.func13, Try.ntmps13
    go_wp2_with fail
    all_goals go_ret
    all_goals exact ⟨rfl, by go_grown⟩
end Go.Proofs.Ytfpoakdmclekoaa
