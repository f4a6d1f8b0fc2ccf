/-
  PlainName, in the program and in the reference.
-/
import Derived.Test.YtfnjcgakcpadiaaDoorKeyO
namespace Go.Proofs.YtfnjcgakcpadiaaDoor
open Go.RowKit

/-- A letter, the underscore; a digit; a byte that can stand in a word. -/
def letB (c : UInt8) : Bool := (decide (97 ≤ c.toNat) && decide (c.toNat ≤ 122)) || (decide (65 ≤ c.toNat) && decide (c.toNat ≤ 90)) || decide (c.toNat = 95)
def digB (c : UInt8) : Bool := decide (48 ≤ c.toNat) && decide (c.toNat ≤ 57)
def partB (c : UInt8) : Bool := letB c || digB c

theorem isDigitC (c : UInt8) (w : World) : Calls Tryd.prog 32 #[.int .u8 (c.toNat : Int)] w fun e w' => e = .returned (.bool (digB c)) ∧ w = w' := by
  have hc := UInt8.toNat_lt c
  go_enter Tryd.func32, Tryd.ntmps32
  go_wp2
  all_goals go_ret
  all_goals refine ⟨ret_bool ?_, rfl⟩
  all_goals rw [Bool.eq_iff_iff]
  all_goals simp [digB]
  all_goals omega

theorem isStartC (c : UInt8) (w : World) : Calls Tryd.prog 52 #[.int .u8 (c.toNat : Int)] w fun e w' => e = .returned (.bool (letB c)) ∧ w = w' := by
  have hc := UInt8.toNat_lt c
  go_enter Tryd.func52, Tryd.ntmps52
  go_wp2
  all_goals go_ret
  all_goals refine ⟨ret_bool ?_, rfl⟩
  all_goals rw [Bool.eq_iff_iff]
  all_goals simp [letB]
  all_goals omega

theorem isPartC (c : UInt8) (w : World) : Calls Tryd.prog 33 #[.int .u8 (c.toNat : Int)] w fun e w' => e = .returned (.bool (partB c)) ∧ w = w' := by
  unfold partB
  go_enter Tryd.func33, Tryd.ntmps33
  go_wp2_with fail
  refine (isStartC c w).mono ?_
  rintro e w1 ⟨rfl, rfl⟩
  cases hl : letB c
  · go_wp2_with fail
    refine (isDigitC c w).mono ?_
    rintro e w1 ⟨rfl, rfl⟩
    cases hd : digB c
    all_goals
      go_wp2_with fail
      go_ret
      refine ⟨?_, rfl⟩
      rw [hl, hd]
      rfl
  · go_wp2_with fail
    go_ret
    refine ⟨?_, rfl⟩
    rw [hl]
    rfl

theorem figureC (c : UInt8) (w : World) : Calls Tryd.prog 34 #[.int .u8 (c.toNat : Int)] w fun e w' => e = .returned (.bool (digB c)) ∧ w = w' := by
  have hc := UInt8.toNat_lt c
  go_enter Tryd.func34, Tryd.ntmps34
  go_wp2
  all_goals go_ret
  all_goals refine ⟨ret_bool ?_, rfl⟩
  all_goals rw [Bool.eq_iff_iff]
  all_goals simp [digB]
  all_goals omega

theorem letterC (c : UInt8) (w : World) : Calls Tryd.prog 36 #[.int .u8 (c.toNat : Int)] w fun e w' => e = .returned (.bool (letB c)) ∧ w = w' := by
  have hc := UInt8.toNat_lt c
  go_enter Tryd.func36, Tryd.ntmps36
  go_wp2
  all_goals go_ret
  all_goals refine ⟨ret_bool ?_, rfl⟩
  all_goals rw [Bool.eq_iff_iff]
  all_goals simp [letB]
  all_goals omega

/-- What PlainName answers. -/
def plainB (s : ByteArray) : Bool := decide (1 ≤ s.size) && decide (s.size ≤ 20) && !(digB (s.data.toList.getD 0 0)) && decide (keyNo (upAll s) = 0) && s.data.toList.all partB

theorem nameOkI (s : ByteArray) (w : World) : Calls Tryd.prog 27 #[.string s] w fun e w' => e = .returned (.bool (decide (1 ≤ s.size) && decide (s.size ≤ 20))) ∧ w = w' := by
  go_enter Tryd.func27, Tryd.ntmps27
  go_wp2
  all_goals go_ret
  all_goals refine ⟨ret_bool ?_, rfl⟩
  all_goals rw [Bool.eq_iff_iff]
  all_goals simp
  all_goals omega

theorem nameOkS (s : ByteArray) (w : World) : Calls Tryd.prog 26 #[.string s] w fun e w' => e = .returned (.bool (decide (1 ≤ s.size) && decide (s.size ≤ 20))) ∧ w = w' := by
  go_enter Tryd.func26, Tryd.ntmps26
  go_wp2_with fail
  refine (l1InC _ _ _ w).mono ?_
  rintro e w1 ⟨rfl, rfl⟩
  go_wp2_with fail
  all_goals go_ret
  all_goals refine ⟨ret_bool ?_, rfl⟩
  all_goals rw [Bool.eq_iff_iff]
  all_goals simp
  all_goals omega
end Go.Proofs.YtfnjcgakcpadiaaDoor
