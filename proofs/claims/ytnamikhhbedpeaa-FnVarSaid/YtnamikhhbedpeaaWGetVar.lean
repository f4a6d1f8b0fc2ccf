/-
  GetVar: what it reads.
-/
import Derived.Test.YtnamikhhbedpeaaRows
import Derived.WalkKit
import Derived.WalkLawsBesides
import Derived.WalkSpells
import Derived.Handy
import Derived.Deep.Light
import Derived.Test.YtnamikhhbedpeaaM1
import Derived.Test.YtnamikhhbedpeaaB
import Derived.Test.YtnamikhhbedpeaaQ
import Derived.Test.YtnamikhhbedpeaaWPutVar
namespace Go.Proofs.Ytnamikhhbedpeaa
open Go.RowKit

/-- One more group of seven bits. -/
def nu (u d k : Nat) : Nat := (u + d % 128 * 2 ^ (7 * k)) % 18446744073709551616
theorem nu_lt (u d k : Nat) : nu u d k < 18446744073709551616 := Nat.mod_lt _ (by decide)

def gvF (s : ByteArray) (a k u : Nat) : Nat × Nat × Bool :=
  if h : k < 10 ∧ a + k < s.size then
    (if (s[a + k]'h.2).toNat < 128 then
      (if (pvf (nu u (s[a + k]'h.2).toNat k) == (s.extract a (a + k + 1)).toList) = true then (nu u (s[a + k]'h.2).toNat k, a + k + 1, true) else (0, 0, false))
    else gvF s a (k + 1) (nu u (s[a + k]'h.2).toNat k))
  else (0, 0, false)
  termination_by 10 - k

def gvI (s : ByteArray) (x : Int) : Nat × Nat × Bool := if 0 ≤ x then gvF s x.toNat 0 0 else (0, 0, false)

theorem wrap_u64_nat (d : Nat) (h : d < 18446744073709551616) : IntKind.u64.wrap (d : Int) = (d : Int) := by rw [IntKind.wrap_u64]; omega

theorem nu_spec (u d k : Nat) : IntKind.u64.wrap ((u : Int) + IntKind.u64.wrap ((d : Int) % 128 * 2 ^ (7 * k))) = (nu u d k : Int) := by
  have e : ((d : Int) % 128 * 2 ^ (7 * k)) = ((d % 128 * 2 ^ (7 * k) : Nat) : Int) := by push_cast; rfl
  rw [e, IntKind.wrap_u64, IntKind.wrap_u64, nu]
  generalize d % 128 * 2 ^ (7 * k) = m
  omega

theorem wrap_succ2 (a k m z : Nat) (hm : m = a + k + 1) (h1 : m ≤ z) (h2 : z ≤ 1048576) : IntKind.i64.wrap (IntKind.i64.wrap ((a : Int) + (k : Int)) + 1) = (m : Int) := by
  rw [IntKind.wrap_i64, IntKind.wrap_i64]
  omega

end Go.Proofs.Ytnamikhhbedpeaa
