/-
  SignOk, in the reference and in the program.
-/
import Derived.Test.YtfnjcgakcpadiaaGreatDoorRows
import Derived.WalkKit
import Derived.WalkLawsBesides
import Derived.WalkSpells
import Derived.Handy
import Derived.Deep.Light
import Derived.Test.YtfnjcgakcpadiaaGreatDoorGBase
import Derived.Test.YtfnjcgakcpadiaaGreatDoorIdxS
namespace Go.Proofs.YtfnjcgakcpadiaaGreatDoor
open Go.RowKit

/-- The operators, as they are spelled. -/
def signL : List ByteArray := [⟨#[40]⟩, ⟨#[41]⟩, ⟨#[44]⟩, ⟨#[46]⟩, ⟨#[42]⟩, ⟨#[43]⟩, ⟨#[45]⟩, ⟨#[47]⟩, ⟨#[37]⟩, ⟨#[61]⟩, ⟨#[60, 62]⟩, ⟨#[60]⟩, ⟨#[60, 61]⟩, ⟨#[62]⟩, ⟨#[62, 61]⟩, ⟨#[124, 124]⟩]
def signB : List (List UInt8) := [[40], [41], [44], [46], [42], [43], [45], [47], [37], [61], [60, 62], [60], [60, 61], [62], [62, 61], [124, 124]]
def signOk (s : ByteArray) : Bool := signB.any fun l => s.toList == l

theorem signL_B : signL.map ByteArray.toList = signB := by
  simp [signL, signB, ByteArray.toList_eq]

theorem signOk_contains (s : ByteArray) : Lib.containsS signL s = signOk s := by
  rw [Bool.eq_iff_iff, Lib.containsS_iff]
  simp only [signOk, ← signL_B, List.any_map, List.any_eq_true, Function.comp, beq_iff_eq]
  constructor
  · intro h
    exact ⟨s, h, rfl⟩
  · rintro ⟨x, hx, he⟩
    have : s = x := by
      rw [ByteArray.toList_eq, ByteArray.toList_eq] at he
      cases s; cases x; simp at he; rw [he]
    rw [this]; exact hx

set_option maxHeartbeats 800000 in
theorem specSignOk (s : ByteArray) (w : World) : Calls Tryz.prog 34 #[.string s] w fun e w' => e = .returned (.bool (signOk s)) ∧ w = w' := by
  go_enter Tryz.func34, Tryz.ntmps34
  go_wp2
  all_goals go_ret
  all_goals refine ⟨ret_bool ?_, rfl⟩
  all_goals go_light
  all_goals simp_all [signOk, signB]

set_option maxHeartbeats 800000 in
theorem implSignOk (s : ByteArray) (w : World) : Calls Tryz.prog 45 #[.string s] w fun e w' => e = .returned (.bool (signOk s)) ∧ Below w.heap.size w w' := by
  go_enter Tryz.func45, Tryz.ntmps45
  go_wp2_with (first | (go_at_call 73; fail) | (go_at_call 66; go_in) | fail)
  refine (slices_Contains_string w.heap.size 0 16 16 signL s _ (by decide) (by decide) (fun j hj => ?_)).mono ?_
  · have hj' : j < 16 := hj
    have : j = 0 ∨ j = 1 ∨ j = 2 ∨ j = 3 ∨ j = 4 ∨ j = 5 ∨ j = 6 ∨ j = 7 ∨ j = 8 ∨ j = 9 ∨ j = 10 ∨ j = 11 ∨ j = 12 ∨ j = 13 ∨ j = 14 ∨ j = 15 := by omega
    rcases this with rfl | rfl | rfl | rfl | rfl | rfl | rfl | rfl | rfl | rfl | rfl | rfl | rfl | rfl | rfl | rfl
    all_goals simp [go_sem, signL]
  · rintro e w' ⟨rfl, rfl⟩
    go_wp2_with fail
    go_ret
    exact ⟨ret_bool (signOk_contains s), by go_grown⟩
end Go.Proofs.YtfnjcgakcpadiaaGreatDoor
