/-
  The walk of FnZig.
-/
import Derived.Test.YtnamikhhbedpeaaDrawN
namespace Go.Proofs.Ytnamikhhbedpeaa
open Go.RowKit Go.Lib

set_option maxRecDepth 100000 in
theorem fnZig.walk (a : Option Addr) (n c : Nat) (zs : List Int) (w : World) (w0 : IsRow .u8 w a n c zs) :
    Calls Try.prog 4 #[.slice a n c] w fun e w' => e = .returned (.bool true) ∧ Below w.heap.size w w' := by
  have hlen := w0.len_le
  by_cases hbig : 1048576 < n
  · go_enter Try.func4, Try.ntmps4
    go_wp2_with (go_at_call 13; refine (bigC _ _ _ hlen).mono ?_; rintro e w1 ⟨rfl, rfl⟩)
    all_goals go_ret
    all_goals exact ⟨rfl, by go_grown⟩
  · have HC := hide (Code.of_row w0 (by omega))
    go_enter Try.func4, Try.ntmps4
    go_wp2_with (go_at_call 13; refine (bigC _ _ _ hlen).mono ?_; rintro e w1 ⟨rfl, rfl⟩)
    refine (drawZigC c HC.out (Nat.le_refl _)).mono ?_
    rintro e w1 ⟨x, rfl, x0, x1, hb1⟩
    have H1 := hide hb1
    clear hb1
    obtain ⟨u0, u1⟩ := zigF_in x x0 x1
    go_wp2_with fail
    refine (implZig x x0 x1 _).mono ?_
    rintro e w2 ⟨rfl, rfl⟩
    have hux := hide (unzig_zig x)
    have hxor := xor_one (zigF x) u0 u1
    have hy := hide (unzig_xor x)
    obtain ⟨y, hy0⟩ : ∃ y, Hid (y = if zigF x % 2 = 0 then zigF x + 1 else zigF x - 1) := ⟨_, rfl⟩
    have hyr : 0 ≤ y ∧ y < 18446744073709551616 := by rw [hy0.out]; split <;> omega
    rw [← hy0.out] at hxor
    have hyz : unzigF y = -1 - x := by rw [hy0.out]; exact hy.out
    have HY := hide hyz
    clear hyz hy
    go_wp2_with fail
    refine (implUnzig (zigF x) u0 u1 _).mono ?_
    rintro e w3 ⟨rfl, rfl⟩
    rw [hux.out]
    go_wp2_with fail
    refine (specZig x x0 x1 _).mono ?_
    rintro e w3 ⟨rfl, rfl⟩
    go_wp2_with fail
    refine (implUnzig y hyr.1 hyr.2 _).mono ?_
    rintro e w3 ⟨rfl, rfl⟩
    rw [HY.out]
    go_wp2_with fail
    all_goals go_ret
    all_goals exact ⟨rfl, H1.out⟩
end Go.Proofs.Ytnamikhhbedpeaa
