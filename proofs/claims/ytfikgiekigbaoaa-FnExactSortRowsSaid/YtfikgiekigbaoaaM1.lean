/-
  Plain facts on machine integers: wraps and the bitwise operators, no program in sight.
-/
import Derived.Laws.Bits64b
import Derived.Laws.BitsLemmas
import Derived.Laws.Bits64
import Derived.RowKit
namespace Go.Proofs.Ytfikgiekigbaoaa
open Go Go.RowKit

theorem ret_int {k : IntKind} {a b : Int} (h : a = b) : Ending.returned (.int k a) = .returned (.int k b) := by rw [h]
theorem ret_bool {a b : Bool} (h : a = b) : Ending.returned (.bool a) = .returned (.bool b) := by rw [h]

theorem toNat_ofNat_lt (n : Nat) (h : n < 256) : ((UInt8.ofNat n).toNat : Int) = (n : Int) := by
  rw [UInt8.toNat_ofNat']
  omega

theorem nat_xor_ones (a : Nat) (h : a < 18446744073709551616) : a ^^^ 18446744073709551615 = 18446744073709551615 - a := by
  have e : (BitVec.ofNat 64 a ^^^ BitVec.allOnes 64).toNat = (~~~ (BitVec.ofNat 64 a)).toNat := by rw [BitVec.xor_allOnes]
  rw [BitVec.toNat_xor, BitVec.toNat_not, BitVec.toNat_ofNat, BitVec.toNat_allOnes] at e
  rw [Nat.mod_eq_of_lt (by omega)] at e
  simpa using e

theorem bits_xor_u64_ones (a : Int) (h0 : 0 ≤ a) (h1 : a < 18446744073709551616) : bits .xor .u64 a 18446744073709551615 = 18446744073709551615 - a := by
  obtain ⟨n, rfl⟩ : ∃ n : Nat, a = n := ⟨a.toNat, by omega⟩
  have := bits_xor_u64_nat n 18446744073709551615 (by omega) (by omega)
  rw [nat_xor_ones n (by omega)] at this
  have e : ((18446744073709551615 : Nat) : Int) = 18446744073709551615 := rfl
  rw [e] at this
  rw [this]
  omega

theorem bits_xor_u64_zero (a : Int) (h0 : 0 ≤ a) (h1 : a < 18446744073709551616) : bits .xor .u64 a 0 = a := by
  obtain ⟨n, rfl⟩ : ∃ n : Nat, a = n := ⟨a.toNat, by omega⟩
  have := bits_xor_u64_nat n 0 (by omega) (by omega)
  simpa using this

theorem zig_bits (n : Int) (h : -9223372036854775808 ≤ n) (h' : n ≤ 9223372036854775807) :
    bits .xor .u64 (IntKind.u64.wrap (IntKind.u64.wrap n * 2)) (IntKind.u64.wrap (n / 9223372036854775808)) = if n < 0 then -2 * n - 1 else 2 * n := by
  simp only [IntKind.wrap_u64]
  by_cases hn : n < 0
  · have e1 : n / 9223372036854775808 = -1 := by omega
    rw [e1, if_pos hn]
    have e2 : (-1 : Int) % 18446744073709551616 = 18446744073709551615 := by decide
    rw [e2, bits_xor_u64_ones _ (by omega) (by omega)]
    omega
  · have e1 : n / 9223372036854775808 = 0 := by omega
    rw [e1, if_neg hn]
    have e2 : (0 : Int) % 18446744073709551616 = 0 := by decide
    rw [e2, bits_xor_u64_zero _ (by omega) (by omega)]
    omega

theorem bits_xor_i64_zero (x : Int) (h0 : -9223372036854775808 ≤ x) (h1 : x ≤ 9223372036854775807) : bits .xor .i64 x 0 = x := by
  show IntKind.i64.wrap ((BitVec.ofInt 64 x ^^^ BitVec.ofInt 64 0).toNat : Int) = _
  have : (BitVec.ofInt 64 x ^^^ BitVec.ofInt 64 0) = BitVec.ofInt 64 x := by simp
  rw [this, IntKind.wrap_i64]
  rw [BitVec.toNat_ofInt]
  omega

theorem bits_xor_i64_ones (x : Int) (h0 : -9223372036854775808 ≤ x) (h1 : x ≤ 9223372036854775807) : bits .xor .i64 x (-1) = -1 - x := by
  show IntKind.i64.wrap ((BitVec.ofInt 64 x ^^^ BitVec.ofInt 64 (-1)).toNat : Int) = _
  have e : BitVec.ofInt 64 (-1) = BitVec.allOnes 64 := by decide
  rw [e, BitVec.xor_allOnes, IntKind.wrap_i64, BitVec.toNat_not, BitVec.toNat_ofInt]
  omega

theorem bits_and_u64_one (a : Int) (h0 : 0 ≤ a) (h1 : a < 18446744073709551616) : bits .and .u64 a 1 = a % 2 := by
  obtain ⟨n, rfl⟩ : ∃ n : Nat, a = n := ⟨a.toNat, by omega⟩
  have := bits_and_u64_nat n 1 (by omega) (by omega)
  rw [show ((1 : Nat) : Int) = 1 from rfl] at this
  rw [this, Nat.and_one_is_mod]
  omega
end Go.Proofs.Ytfikgiekigbaoaa
