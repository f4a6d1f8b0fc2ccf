/-
  slices.SortStableFunc over fewer than twenty rows: one insertion sort.
-/
import Derived.Test.YtfikgiekigbaoaaIns
namespace Go.Proofs.Ytfikgiekigbaoaa
open Go Go.RowKit

set_option maxHeartbeats 4000000 in
set_option maxRecDepth 100000 in
theorem stableSmallC (w : World) (g cap : Nat) (ps : Array Rw) (S : SegA w g ps) (hsz : ps.size < 20) :
    Calls Try.prog 49 #[.slice (some ⟨g, 0, none⟩) ps.size cap, .int .i64 (ps.size : Int), .func (.func 15) #[] #[]] w
      (fun e w' => e = .returned (.tuple #[]) ∧ ∃ qs, SwR 0 ps.size ps qs ∧ Asc 0 ps.size qs ∧ SegA w' g qs ∧ w.grownBy w' (some g)) := by
  have hC := hide (insertC w g cap 0 ps.size ps S (Nat.zero_le _) (Nat.le_refl _) (by omega))
  clear S
  obtain ⟨n, hn⟩ : ∃ n, ps.size = n := ⟨_, rfl⟩
  rw [hn] at hC hsz ⊢
  clear hn
  have h20 : ¬ (20 : Int) ≤ (n : Int) := by omega
  have h21 : ¬ (20 : Int) < (n : Int) := by omega
  go_enter Try.func49, Try.ntmps49
  go_wp2_with fail
  refine wp_loop_rounds 1 ?_
  rw [rounds_succ]
  go_wp2_with fail
  refine hC.out.mono ?_
  rintro e w1 ⟨rfl, hq⟩
  have HQ := hide hq
  clear hq hC
  go_wp2_with fail
  refine wp_loop_rounds 1 ?_
  rw [rounds_succ]
  go_wp2_with fail
  go_end0
  exact ⟨rfl, HQ.out⟩

set_option maxHeartbeats 4000000 in
set_option maxRecDepth 100000 in
theorem sortStableSmallC (w : World) (g cap : Nat) (ps : Array Rw) (S : SegA w g ps) (hsz : ps.size < 20) :
    Calls Try.prog 39 #[.slice (some ⟨g, 0, none⟩) ps.size cap, .func (.func 15) #[] #[]] w
      (fun e w' => e = .returned (.tuple #[]) ∧ ∃ qs, SwR 0 ps.size ps qs ∧ Asc 0 ps.size qs ∧ SegA w' g qs ∧ w.grownBy w' (some g)) := by
  have hC := hide (stableSmallC w g cap ps S hsz)
  clear S
  obtain ⟨n, hn⟩ : ∃ n, ps.size = n := ⟨_, rfl⟩
  rw [hn] at hC hsz ⊢
  clear hn
  go_enter Try.func39, Try.ntmps39
  go_wp2_with fail
  refine hC.out.mono ?_
  rintro e w1 ⟨rfl, hq⟩
  have HQ := hide hq
  clear hq hC
  go_wp2_with fail
  go_end0
  exact ⟨rfl, HQ.out⟩
end Go.Proofs.Ytfikgiekigbaoaa
