/-
  Zig, Unzig: the contracts, and that each takes the other back.
-/
import Derived.Test.YtnamikhhbedpeaaRows
import Derived.WalkKit
import Derived.WalkLawsBesides
import Derived.WalkSpells
import Derived.Handy
import Derived.Test.YtnamikhhbedpeaaM1
namespace Go.Proofs.Ytnamikhhbedpeaa
open Go.RowKit

def zigF (n : Int) : Int := if n < 0 then -2 * n - 1 else 2 * n

theorem specZig (n : Int) (h : -9223372036854775808 ≤ n) (h' : n ≤ 9223372036854775807) (w : World) :
    Calls Try.prog 19 #[.int .i64 n] w fun e w' => e = .returned (.int .u64 (zigF n)) ∧ w = w' := by
  by_cases hn : n < 0
  · go_enter Try.func19, Try.ntmps19
    go_wp2
    go_ret
    exact ⟨ret_int (by rw [zigF, if_pos (by omega)]; omega), rfl⟩
  · go_enter Try.func19, Try.ntmps19
    go_wp2
    go_ret
    exact ⟨ret_int (by rw [zigF, if_neg (by omega)]), rfl⟩
theorem implZig (n : Int) (h : -9223372036854775808 ≤ n) (h' : n ≤ 9223372036854775807) (w : World) :
    Calls Try.prog 17 #[.int .i64 n] w fun e w' => e = .returned (.int .u64 (zigF n)) ∧ w = w' := by
  go_enter Try.func17, Try.ntmps17
  go_wp2
  go_ret
  exact ⟨ret_int (zig_bits n h h'), rfl⟩

def unzigF (u : Int) : Int := if u % 2 = 1 then -(u / 2) - 1 else u / 2

theorem unzig_bits (u : Int) (h : 0 ≤ u) (h' : u < 18446744073709551616) :
    bits BinOp.xor IntKind.i64 (u / 2) (wrap64 (-wrap64 (bits BinOp.and IntKind.u64 u 1))) = unzigF u := by
  rw [bits_and_u64_one u h h', unzigF]
  by_cases hu : u % 2 = 1
  · rw [hu, if_pos rfl, show wrap64 (-wrap64 1) = -1 from by simp [wrap64], bits_xor_i64_ones _ (by omega) (by omega)]
    omega
  · have e : u % 2 = 0 := by omega
    rw [if_neg hu, e, show wrap64 (-wrap64 0) = 0 from by simp [wrap64], bits_xor_i64_zero _ (by omega) (by omega)]

theorem implUnzig (u : Int) (h : 0 ≤ u) (h' : u < 18446744073709551616) (w : World) :
    Calls Try.prog 18 #[.int .u64 u] w fun e w' => e = .returned (.int .i64 (unzigF u)) ∧ w = w' := by
  go_enter Try.func18, Try.ntmps18
  go_wp2
  go_ret
  exact ⟨ret_int (unzig_bits u h h'), rfl⟩

theorem xor_one_nat (u : Nat) : u ^^^ 1 = if u % 2 = 0 then u + 1 else u - 1 := by
  have h1 : (u ^^^ 1) / 2 = u / 2 := by rw [Nat.xor_div_two]; simp
  have h2 : (u ^^^ 1) % 2 = (u + 1) % 2 := by
    have h3 := Nat.xor_mod_two_pow (a := u) (b := 1) (n := 1)
    rw [Nat.pow_one] at h3
    rw [h3]
    have h4 : u % 2 = 0 ∨ u % 2 = 1 := by omega
    rcases h4 with h4 | h4
    · rw [h4, show (u + 1) % 2 = 1 by omega]; decide
    · rw [h4, show (u + 1) % 2 = 0 by omega]; decide
  split <;> omega

theorem xor_one (u : Int) (h : 0 ≤ u) (h' : u < 18446744073709551616) : bits .xor .u64 u 1 = if u % 2 = 0 then u + 1 else u - 1 := by
  obtain ⟨n, rfl⟩ : ∃ n : Nat, u = n := ⟨u.toNat, by omega⟩
  rw [show (1 : Int) = ((1 : Nat) : Int) from rfl, u64_xor_nat n 1 (by omega) (by omega), xor_one_nat]
  split <;> split <;> omega

theorem zigF_in (n : Int) (h : -9223372036854775808 ≤ n) (h' : n ≤ 9223372036854775807) : 0 ≤ zigF n ∧ zigF n < 18446744073709551616 := by
  unfold zigF; split <;> omega

theorem unzig_zig (n : Int) : unzigF (zigF n) = n := by
  unfold zigF unzigF; split <;> split <;> omega

theorem unzig_xor (n : Int) : unzigF (if zigF n % 2 = 0 then zigF n + 1 else zigF n - 1) = -1 - n := by
  unfold zigF unzigF; repeat' split
  all_goals omega
end Go.Proofs.Ytnamikhhbedpeaa
