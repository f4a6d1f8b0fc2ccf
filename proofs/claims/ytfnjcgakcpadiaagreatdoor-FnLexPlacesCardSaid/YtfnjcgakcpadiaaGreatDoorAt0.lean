/-
  at0: a number out of a draw.
-/
import Derived.Test.YtfnjcgakcpadiaaGreatDoorGBase
namespace Go.Proofs.YtfnjcgakcpadiaaGreatDoor
open Go.RowKit

theorem at0C {B : Nat} {w : World} {a : Option Addr} {n : Nat} {z : Nat → Int} (c : Nat) (h : Code B w a n z) (i : Nat) (hi : i ≤ 8) :
    Calls Tryz.prog 20 #[.slice a n c, .int .i64 (i : Int)] w fun e w' => ∃ x : Int, e = .returned (.int .i64 x) ∧ 0 ≤ x ∧ x < 256 ∧ w = w' := by
  have hn1 := h.n1
  by_cases hlt : i < n
  · obtain ⟨b, off, rfl, _, hcell⟩ := h.ex (by omega)
    obtain ⟨e1, z0, z1⟩ := hcell i hlt
    have hlt2 : (i : Int) < n := by omega
    clear hcell
    go_enter Tryz.func20, Tryz.ntmps20
    go_wp2_with fail
    all_goals go_ret
    all_goals exact ⟨_, rfl, z0, z1, rfl⟩
  · have hlt2 : ¬ (i : Int) < n := by omega
    have e : wrap64 (wrap64 (i * 7) + n) = (i : Int) * 7 + n := by simp only [wrap64]; omega
    go_enter Tryz.func20, Tryz.ntmps20
    go_wp2_with fail
    all_goals go_ret
    all_goals exact ⟨_, rfl, by omega, by omega, rfl⟩
end Go.Proofs.YtfnjcgakcpadiaaGreatDoor
