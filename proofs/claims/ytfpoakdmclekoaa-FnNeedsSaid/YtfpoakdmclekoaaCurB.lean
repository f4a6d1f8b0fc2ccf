/-
  The drawing functions over the cursor: l1Below, l1Once, l1PickInt, l1Pick.
-/
import Derived.Test.YtfpoakdmclekoaaCur
import Derived.Test.YtfpoakdmclekoaaQ
namespace Go.Proofs.Ytfpoakdmclekoaa
open Go.RowKit Go.Lib

set_option maxRecDepth 100000 in
set_option maxHeartbeats 800000 in
theorem l1BelowC {B p : Nat} {w : World} (h : Cur B w p) (n : Int) : Calls Try.prog 88 #[.pointer (some ⟨p, 0, none⟩), .int .i64 n] w fun e w' => ∃ x : Int, e = .returned (.int .i64 x) ∧ 0 ≤ x ∧ (0 < n → x < n) ∧ Cur B w' p ∧ w.grownBy w' (some p) := by
  by_cases h0 : n ≤ 0
  · go_enter Try.func88, Try.ntmps88
    go_wp2_with fail
    go_ret
    exact ⟨0, rfl, by omega, by omega, h, World.grownBy.refl _ _⟩
  · have hp : 0 < n := by omega
    have e0 : (n == 0) = false := by simp; omega
    have e1 : ¬ n = 0 := by omega
    have e2 : ¬ n = -1 := by omega
    by_cases h1 : n ≤ 256
    · go_enter Try.func88, Try.ntmps88
      go_wp2_with fail
      refine (l1ByteC h).mono ?_
      rintro e w1 ⟨x, rfl, x0, x1, hc1, hg1⟩
      go_wp2_with fail
      go_ret
      exact ⟨x % n, rfl, Int.emod_nonneg _ (by omega), fun _ => Int.emod_lt_of_pos _ hp, hc1, hg1⟩
    · go_enter Try.func88, Try.ntmps88
      go_wp2_with fail
      refine (l1ByteC h).mono ?_
      rintro e w1 ⟨x, rfl, x0, x1, hc1, hg1⟩
      go_wp2_with fail
      refine (l1ByteC hc1).mono ?_
      rintro e w2 ⟨y, rfl, y0, y1, hc2, hg2⟩
      have hg2' := grownBy_trans hg1 hg2
      clear hg1 hg2 hc1
      go_wp2_with fail
      refine (l1ByteC hc2).mono ?_
      rintro e w3 ⟨z, rfl, z0, z1, hc3, hg3⟩
      have hg3' := grownBy_trans hg2' hg3
      clear hg2' hg3 hc2
      go_wp2_with fail
      refine (l1ByteC hc3).mono ?_
      rintro e w4 ⟨v, rfl, v0, v1, hc4, hg4⟩
      have hg4' := grownBy_trans hg3' hg4
      clear hg3' hg4 hc3
      go_wp2_with fail
      go_ret
      exact ⟨_ % n, rfl, Int.emod_nonneg _ (by omega), fun _ => Int.emod_lt_of_pos _ hp, hc4, hg4'⟩

theorem l1OnceC {B p : Nat} {w : World} (h : Cur B w p) (n : Int) : Calls Try.prog 85 #[.pointer (some ⟨p, 0, none⟩), .int .i64 n] w fun e w' => ∃ b : Bool, e = .returned (.bool b) ∧ Cur B w' p ∧ w.grownBy w' (some p) := by
  go_enter Try.func85, Try.ntmps85
  go_wp2_with fail
  refine (l1BelowC h n).mono ?_
  rintro e w1 ⟨x, rfl, x0, x1, hc1, hg1⟩
  go_wp2_with fail
  all_goals go_ret
  all_goals exact ⟨_, rfl, hc1, hg1⟩
set_option maxRecDepth 100000 in
theorem l1PickIntC {B p b n c : Nat} {w : World} {f : Nat → Int} (h : Cur B w p) (hn : 0 < n) (hn1 : n ≤ 1048576) (hbp : b ≠ p) (hf : ∀ j, j < n → w.cell? ⟨b, j, none⟩ = some (.int .i64 (f j))) :
    Calls Try.prog 84 #[.pointer (some ⟨p, 0, none⟩), .slice (some ⟨b, 0, none⟩) n c] w fun e w' => ∃ j, j < n ∧ e = .returned (.int .i64 (f j)) ∧ Cur B w' p ∧ w.grownBy w' (some p) := by
  have HF := hide hf
  clear hf
  go_enter Try.func84, Try.ntmps84
  go_wp2_with fail
  refine (l1BelowC h n).mono ?_
  rintro e w1 ⟨x, rfl, x0, x1, hc1, hg1⟩
  obtain ⟨j, rfl⟩ : ∃ j : Nat, x = j := ⟨x.toNat, by omega⟩
  have hj : j < n := by have := x1 (by omega); omega
  have hcell := hg1.cell (HF.out j hj) (by intro e; injection e with e; exact hbp e)
  have HC := hide (And.intro hc1 hg1)
  clear x1 hc1 hg1
  go_wp2_with fail
  go_ret
  exact ⟨j, hj, rfl, HC.out.1, HC.out.2⟩

set_option maxRecDepth 100000 in
theorem l1PickC {B p b n c : Nat} {w : World} {f : Nat → ByteArray} (h : Cur B w p) (hn : 0 < n) (hn1 : n ≤ 1048576) (hbp : b ≠ p) (hf : ∀ j, j < n → w.cell? ⟨b, j, none⟩ = some (.string (f j))) :
    Calls Try.prog 98 #[.pointer (some ⟨p, 0, none⟩), .slice (some ⟨b, 0, none⟩) n c] w fun e w' => ∃ j, j < n ∧ e = .returned (.string (f j)) ∧ Cur B w' p ∧ w.grownBy w' (some p) := by
  have HF := hide hf
  clear hf
  go_enter Try.func98, Try.ntmps98
  go_wp2_with fail
  refine (l1BelowC h n).mono ?_
  rintro e w1 ⟨x, rfl, x0, x1, hc1, hg1⟩
  obtain ⟨j, rfl⟩ : ∃ j : Nat, x = j := ⟨x.toNat, by omega⟩
  have hj : j < n := by have := x1 (by omega); omega
  have hcell := hg1.cell (HF.out j hj) (by intro e; injection e with e; exact hbp e)
  have HC := hide (And.intro hc1 hg1)
  clear x1 hc1 hg1
  go_wp2_with fail
  go_ret
  exact ⟨j, hj, rfl, HC.out.1, HC.out.2⟩
end Go.Proofs.Ytfpoakdmclekoaa
