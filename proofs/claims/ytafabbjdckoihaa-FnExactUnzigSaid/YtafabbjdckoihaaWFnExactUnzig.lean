/-
  The walk of FnExactUnzig.
-/
import Derived.Test.YtafabbjdckoihaaRows
import Derived.WalkKit
import Derived.WalkLawsBesides
import Derived.WalkSpells
import Derived.Handy
import Derived.Test.YtafabbjdckoihaaM1
namespace Go.Proofs.Ytafabbjdckoihaa.fnExactUnzig
open Go.RowKit

def unzigF (u : Int) : Int := if u % 2 = 1 then -(u / 2) - 1 else u / 2

theorem specUnzig (u : Int) (h : 0 ≤ u) (h' : u < 18446744073709551616) (w : World) :
    Calls Try.prog 19 #[.int .u64 u] w fun e w' => e = .returned (.int .i64 (unzigF u)) ∧ w = w' := by
  go_enter Try.func19, Try.ntmps19
  go_wp2
  all_goals go_ret
  · have hu : (u % 2 == 1) = true := by assumption
    exact ⟨ret_int (by rw [unzigF, if_pos (by simpa using hu)]), rfl⟩
  · have hu : (u % 2 == 1) = false := by assumption
    exact ⟨ret_int (by rw [unzigF, if_neg (by simpa using hu)]), rfl⟩
theorem unzig_bits (u : Int) (h : 0 ≤ u) (h' : u < 18446744073709551616) :
    bits BinOp.xor IntKind.i64 (u / 2) (wrap64 (-wrap64 (bits BinOp.and IntKind.u64 u 1))) = unzigF u := by
  rw [bits_and_u64_one u h h', unzigF]
  by_cases hu : u % 2 = 1
  · rw [hu, if_pos rfl, show wrap64 (-wrap64 1) = -1 from by simp [wrap64], bits_xor_i64_ones _ (by omega) (by omega)]
    omega
  · have e : u % 2 = 0 := by omega
    rw [if_neg hu, e, show wrap64 (-wrap64 0) = 0 from by simp [wrap64], bits_xor_i64_zero _ (by omega) (by omega)]

theorem implUnzig (u : Int) (h : 0 ≤ u) (h' : u < 18446744073709551616) (w : World) :
    Calls Try.prog 20 #[.int .u64 u] w fun e w' => e = .returned (.int .i64 (unzigF u)) ∧ w = w' := by
  go_enter Try.func20, Try.ntmps20
  go_wp2
  go_ret
  exact ⟨ret_int (unzig_bits u h h'), rfl⟩
theorem walk (a0 : Int) (w : World) (w0 : (Lit.int .u64 a0).wf = true) :
    Calls Try.prog 6 #[.int .u64 a0] w fun e w' => e = .returned (.bool true) ∧ Below w.heap.size w w' := by
  have hb := bounds_u64 w0
  have h1 : 0 ≤ a0 := by omega
  have h2 : a0 < 18446744073709551616 := by omega
  clear hb w0
  go_enter Try.func6, Try.ntmps6
  go_wp2_with (first | (go_at_call 19; refine (specUnzig _ h1 h2 _).mono ?_; rintro e w' ⟨rfl, rfl⟩) | (go_at_call 20; refine (implUnzig _ h1 h2 _).mono ?_; rintro e w' ⟨rfl, rfl⟩))
  all_goals go_ret
  all_goals exact ⟨rfl, by go_grown⟩
end Go.Proofs.Ytafabbjdckoihaa.fnExactUnzig
