/-
  PlainName, in the program and in the reference.
-/
import Derived.Test.YtifkldghbdpdmaaDoorKeyO
namespace Go.Proofs.YtifkldghbdpdmaaDoor
open Go.RowKit

/-- A letter, the underscore; a digit; a byte that can stand in a word. -/
def letB (c : UInt8) : Bool := (decide (97 ≤ c.toNat) && decide (c.toNat ≤ 122)) || (decide (65 ≤ c.toNat) && decide (c.toNat ≤ 90)) || decide (c.toNat = 95)
def digB (c : UInt8) : Bool := decide (48 ≤ c.toNat) && decide (c.toNat ≤ 57)
def partB (c : UInt8) : Bool := letB c || digB c

theorem isDigitC (c : UInt8) (w : World) : Calls Tryd.prog 59 #[.int .u8 (c.toNat : Int)] w fun e w' => e = .returned (.bool (digB c)) ∧ w = w' := by
  have hc := UInt8.toNat_lt c
  go_enter Tryd.func59, Tryd.ntmps59
  go_wp2
  all_goals go_ret
  all_goals refine ⟨ret_bool ?_, rfl⟩
  all_goals rw [Bool.eq_iff_iff]
  all_goals simp [digB]
  all_goals omega

theorem isStartC (c : UInt8) (w : World) : Calls Tryd.prog 79 #[.int .u8 (c.toNat : Int)] w fun e w' => e = .returned (.bool (letB c)) ∧ w = w' := by
  have hc := UInt8.toNat_lt c
  go_enter Tryd.func79, Tryd.ntmps79
  go_wp2
  all_goals go_ret
  all_goals refine ⟨ret_bool ?_, rfl⟩
  all_goals rw [Bool.eq_iff_iff]
  all_goals simp [letB]
  all_goals omega

theorem isPartC (c : UInt8) (w : World) : Calls Tryd.prog 60 #[.int .u8 (c.toNat : Int)] w fun e w' => e = .returned (.bool (partB c)) ∧ w = w' := by
  unfold partB
  go_enter Tryd.func60, Tryd.ntmps60
  go_wp2_with fail
  refine (isStartC c w).mono ?_
  rintro e w1 ⟨rfl, rfl⟩
  cases hl : letB c
  · go_wp2_with fail
    refine (isDigitC c w).mono ?_
    rintro e w1 ⟨rfl, rfl⟩
    cases hd : digB c
    all_goals
      go_wp2_with fail
      go_ret
      refine ⟨?_, rfl⟩
      rw [hl, hd]
      rfl
  · go_wp2_with fail
    go_ret
    refine ⟨?_, rfl⟩
    rw [hl]
    rfl

theorem figureC (c : UInt8) (w : World) : Calls Tryd.prog 56 #[.int .u8 (c.toNat : Int)] w fun e w' => e = .returned (.bool (digB c)) ∧ w = w' := by
  have hc := UInt8.toNat_lt c
  go_enter Tryd.func56, Tryd.ntmps56
  go_wp2
  all_goals go_ret
  all_goals refine ⟨ret_bool ?_, rfl⟩
  all_goals rw [Bool.eq_iff_iff]
  all_goals simp [digB]
  all_goals omega

theorem letterC (c : UInt8) (w : World) : Calls Tryd.prog 57 #[.int .u8 (c.toNat : Int)] w fun e w' => e = .returned (.bool (letB c)) ∧ w = w' := by
  have hc := UInt8.toNat_lt c
  go_enter Tryd.func57, Tryd.ntmps57
  go_wp2
  all_goals go_ret
  all_goals refine ⟨ret_bool ?_, rfl⟩
  all_goals rw [Bool.eq_iff_iff]
  all_goals simp [letB]
  all_goals omega

/-- What PlainName answers. -/
def plainB (s : ByteArray) : Bool := decide (1 ≤ s.size) && decide (s.size ≤ 20) && !(digB (s.data.toList.getD 0 0)) && decide (keyNo (upAll s) = 0) && s.data.toList.all partB

theorem nameOkI (s : ByteArray) (w : World) : Calls Tryd.prog 58 #[.string s] w fun e w' => e = .returned (.bool (decide (1 ≤ s.size) && decide (s.size ≤ 20))) ∧ w = w' := by
  go_enter Tryd.func58, Tryd.ntmps58
  go_wp2
  all_goals go_ret
  all_goals refine ⟨ret_bool ?_, rfl⟩
  all_goals rw [Bool.eq_iff_iff]
  all_goals simp
  all_goals omega

theorem nameOkS (s : ByteArray) (w : World) : Calls Tryd.prog 55 #[.string s] w fun e w' => e = .returned (.bool (decide (1 ≤ s.size) && decide (s.size ≤ 20))) ∧ w = w' := by
  go_enter Tryd.func55, Tryd.ntmps55
  go_wp2_with fail
  refine (l1InC _ _ _ w).mono ?_
  rintro e w1 ⟨rfl, rfl⟩
  go_wp2_with fail
  all_goals go_ret
  all_goals refine ⟨ret_bool ?_, rfl⟩
  all_goals rw [Bool.eq_iff_iff]
  all_goals simp
  all_goals omega
end Go.Proofs.YtifkldghbdpdmaaDoor
