/-
  Three truths: BoolValue; at0; what Calc and Unary make of the truths.
-/
import Derived.Test.YtnamikhhbedpeaaCode
import Derived.Test.YtnamikhhbedpeaaVals
namespace Go.Proofs.Ytnamikhhbedpeaa
open Go.RowKit Go.Lib

theorem at0C {B : Nat} {w : World} {a : Option Addr} {n : Nat} {z : Nat → Int} (c : Nat) (h : Code B w a n z) (i : Nat) (hi : i ≤ 8) :
    Calls Try.prog 32 #[.slice a n c, .int .i64 (i : Int)] w fun e w' => ∃ x : Int, e = .returned (.int .i64 x) ∧ 0 ≤ x ∧ x < 256 ∧ w = w' := by
  have hn1 := h.n1
  by_cases hlt : i < n
  · obtain ⟨b, off, rfl, _, hcell⟩ := h.ex (by omega)
    obtain ⟨e1, z0, z1⟩ := hcell i hlt
    have hlt2 : (i : Int) < n := by omega
    clear hcell
    go_enter Try.func32, Try.ntmps32
    go_wp2_with fail
    all_goals go_ret
    all_goals exact ⟨_, rfl, z0, z1, rfl⟩
  · have hlt2 : ¬ (i : Int) < n := by omega
    have e : wrap64 (wrap64 (i * 7) + n) = (i : Int) * 7 + n := by simp only [wrap64]; omega
    go_enter Try.func32, Try.ntmps32
    go_wp2_with fail
    all_goals go_ret
    all_goals exact ⟨_, rfl, by omega, by omega, rfl⟩

theorem implBoolF (w : World) : Calls Try.prog 31 #[.bool false] w fun e w' => e = .returned (.agg #[.int .i64 3, .int .i64 0, .string ByteArray.empty]) ∧ Below w.heap.size w w' := by
  go_enter Try.func31, Try.ntmps31
  go_wp2
  go_returns
  exact ⟨rfl, by go_grown⟩
theorem implBoolT (w : World) : Calls Try.prog 31 #[.bool true] w fun e w' => e = .returned (.agg #[.int .i64 3, .int .i64 1, .string ByteArray.empty]) ∧ Below w.heap.size w w' := by
  go_enter Try.func31, Try.ntmps31
  go_wp2
  go_returns
  exact ⟨rfl, by go_grown⟩
theorem specBoolF (w : World) : Calls Try.prog 35 #[.bool false] w fun e w' => e = .returned (.agg #[.int .i64 3, .int .i64 0, .string ByteArray.empty]) ∧ Below w.heap.size w w' := by
  go_enter Try.func35, Try.ntmps35
  go_wp2
  go_returns
  exact ⟨rfl, by go_grown⟩
theorem specBoolT (w : World) : Calls Try.prog 35 #[.bool true] w fun e w' => e = .returned (.agg #[.int .i64 3, .int .i64 1, .string ByteArray.empty]) ∧ Below w.heap.size w w' := by
  go_enter Try.func35, Try.ntmps35
  go_wp2
  go_returns
  exact ⟨rfl, by go_grown⟩

def tK (i : Nat) : Int := if i = 1 then 0 else 3
def tN (i : Nat) : Int := if i = 2 then 1 else 0

theorem third_and (i k : Nat) (hi : i < 3) (hk : k < 3) : clK 2 (tK i) (tN i) ByteArray.empty (tK k) (tN k) ByteArray.empty = tK (min i k) ∧ clN 2 (tK i) (tN i) ByteArray.empty (tK k) (tN k) ByteArray.empty = tN (min i k) ∧
    clS 2 (tK i) (tN i) ByteArray.empty (tK k) (tN k) ByteArray.empty = ByteArray.empty ∧ clE 2 (tK i) (tN i) ByteArray.empty (tK k) (tN k) ByteArray.empty = 0 := by
  have h1 : i = 0 ∨ i = 1 ∨ i = 2 := by omega
  have h2 : k = 0 ∨ k = 1 ∨ k = 2 := by omega
  rcases h1 with rfl | rfl | rfl <;> rcases h2 with rfl | rfl | rfl <;> simp [tK, tN, clK, clN, clS, clE, door, van, vaf, vat, lgE, lgK, lgN]

theorem third_or (i k : Nat) (hi : i < 3) (hk : k < 3) : clK 1 (tK i) (tN i) ByteArray.empty (tK k) (tN k) ByteArray.empty = tK (max i k) ∧ clN 1 (tK i) (tN i) ByteArray.empty (tK k) (tN k) ByteArray.empty = tN (max i k) ∧
    clS 1 (tK i) (tN i) ByteArray.empty (tK k) (tN k) ByteArray.empty = ByteArray.empty ∧ clE 1 (tK i) (tN i) ByteArray.empty (tK k) (tN k) ByteArray.empty = 0 := by
  have h1 : i = 0 ∨ i = 1 ∨ i = 2 := by omega
  have h2 : k = 0 ∨ k = 1 ∨ k = 2 := by omega
  rcases h1 with rfl | rfl | rfl <;> rcases h2 with rfl | rfl | rfl <;> simp [tK, tN, clK, clN, clS, clE, door, van, vaf, vat, lgE, lgK, lgN]

theorem third_not (i : Nat) (hi : i < 3) : unK 15 (tK i) (tN i) ByteArray.empty = tK (2 - i) ∧ unN 15 (tK i) (tN i) ByteArray.empty = tN (2 - i) ∧ unE 15 (tK i) (tN i) ByteArray.empty = 0 := by
  have h1 : i = 0 ∨ i = 1 ∨ i = 2 := by omega
  rcases h1 with rfl | rfl | rfl <;> simp [tK, tN, unK, unN, unE, van, vaf, vat]

theorem tN_wf (i : Nat) : (Lit.int .i64 (tN i)).wf = true := by unfold tN; split <;> decide

theorem thirdAnd (i k : Nat) (w : World) (hi : i < 3) (hk : k < 3) : Calls Try.prog 33 #[.int .i64 2, .agg #[.int .i64 (tK i), .int .i64 (tN i), .string ByteArray.empty], .agg #[.int .i64 (tK k), .int .i64 (tN k), .string ByteArray.empty]] w fun e w' =>
    e = .returned (.tuple #[.agg #[.int .i64 (tK (min i k)), .int .i64 (tN (min i k)), .string ByteArray.empty], .int .i64 0]) ∧ Below w.heap.size w w' := by
  have h := implCalc 2 (tK i) (tN i) ByteArray.empty (tK k) (tN k) ByteArray.empty w size_zero size_zero (tN_wf i) (tN_wf k)
  obtain ⟨e1, e2, e3, e4⟩ := third_and i k hi hk
  rw [e1, e2, e3, e4] at h
  exact h

theorem thirdOr (i k : Nat) (w : World) (hi : i < 3) (hk : k < 3) : Calls Try.prog 33 #[.int .i64 1, .agg #[.int .i64 (tK i), .int .i64 (tN i), .string ByteArray.empty], .agg #[.int .i64 (tK k), .int .i64 (tN k), .string ByteArray.empty]] w fun e w' =>
    e = .returned (.tuple #[.agg #[.int .i64 (tK (max i k)), .int .i64 (tN (max i k)), .string ByteArray.empty], .int .i64 0]) ∧ Below w.heap.size w w' := by
  have h := implCalc 1 (tK i) (tN i) ByteArray.empty (tK k) (tN k) ByteArray.empty w size_zero size_zero (tN_wf i) (tN_wf k)
  obtain ⟨e1, e2, e3, e4⟩ := third_or i k hi hk
  rw [e1, e2, e3, e4] at h
  exact h

theorem thirdNot (i : Nat) (w : World) (hi : i < 3) : Calls Try.prog 34 #[.int .i64 15, .agg #[.int .i64 (tK i), .int .i64 (tN i), .string ByteArray.empty]] w fun e w' =>
    e = .returned (.tuple #[.agg #[.int .i64 (tK (2 - i)), .int .i64 (tN (2 - i)), .string ByteArray.empty], .int .i64 0]) ∧ Below w.heap.size w w' := by
  have h := implUnary 15 (tK i) (tN i) ByteArray.empty w size_zero (tN_wf i)
  obtain ⟨e1, e2, e3⟩ := third_not i hi
  rw [e1, e2, e3] at h
  exact h
end Go.Proofs.Ytnamikhhbedpeaa
