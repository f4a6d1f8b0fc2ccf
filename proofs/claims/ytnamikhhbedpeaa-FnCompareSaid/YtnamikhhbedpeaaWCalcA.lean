/-
  Arithmetic on values: what the program and the reference compute.
-/
import Derived.Test.YtnamikhhbedpeaaRows
import Derived.WalkKit
import Derived.WalkLawsBesides
import Derived.WalkSpells
import Derived.Handy
import Derived.Deep.Light
import Derived.Test.YtnamikhhbedpeaaM1
import Derived.Test.YtnamikhhbedpeaaB
import Derived.Test.YtnamikhhbedpeaaWAddSub
import Derived.Test.YtnamikhhbedpeaaWMulC
namespace Go.Proofs.Ytnamikhhbedpeaa
open Go.RowKit

/-- The kind (1 where there is a number, else 0), the number and the error of an arithmetic operation. -/
def arK (op a b : Int) : Int := if op = 10 then (if addOk a b then 1 else 0) else if op = 11 then (if subOk a b then 1 else 0) else if op = 12 then (if mulOk a b then 1 else 0)
  else if b = 0 then 0 else if op = 14 then 1 else if a = -9223372036854775808 ∧ b = -1 then 0 else 1
def arN (op a b : Int) : Int := if op = 10 then addN a b else if op = 11 then subN a b else if op = 12 then mulN a b
  else if b = 0 then 0 else if op = 14 then a.tmod b else if a = -9223372036854775808 ∧ b = -1 then 0 else a.tdiv b
def arE (op a b : Int) : Int := if op = 10 then (if addOk a b then 0 else 2) else if op = 11 then (if subOk a b then 0 else 2) else if op = 12 then (if mulOk a b then 0 else 2)
  else if b = 0 then 3 else if op = 14 then 0 else if a = -9223372036854775808 ∧ b = -1 then 2 else 0

set_option maxHeartbeats 400000 in
theorem implDivided (op a b : Int) (w : World) (hop : op = 13 ∨ op = 14) (ha : (Lit.int .i64 a).wf = true) (hb : (Lit.int .i64 b).wf = true) :
    Calls Try.prog 82 #[.int .i64 op, .int .i64 a, .int .i64 b] w fun e w' => e = .returned (.tuple #[.agg #[.int .i64 (arK op a b), .int .i64 (arN op a b), .string ByteArray.empty], .int .i64 (arE op a b)]) ∧ Below w.heap.size w w' := by
  have h1 := bounds_i64 ha
  have h2 := bounds_i64 hb
  by_cases h0 : b = 0
  · subst h0
    have e1 : arK op a 0 = 0 := by rcases hop with rfl | rfl <;> simp [arK]
    have e2 : arN op a 0 = 0 := by rcases hop with rfl | rfl <;> simp [arN]
    have e3 : arE op a 0 = 3 := by rcases hop with rfl | rfl <;> simp [arE]
    rw [e1, e2, e3]
    clear e1 e2 e3 hop
    go_enter Try.func82, Try.ntmps82
    go_wp2
    go_returns
    exact ⟨rfl, by go_grown⟩
  have hb0 : (b == 0) = false := by simpa using h0
  rcases hop with rfl | rfl
  · by_cases hx : a = -9223372036854775808 ∧ b = -1
    · obtain ⟨rfl, rfl⟩ := hx
      have e1 : arK 13 (-9223372036854775808) (-1) = 0 := by simp [arK]
      have e2 : arN 13 (-9223372036854775808) (-1) = 0 := by simp [arN]
      have e3 : arE 13 (-9223372036854775808) (-1) = 2 := by simp [arE]
      rw [e1, e2, e3]
      clear e1 e2 e3
      go_enter Try.func82, Try.ntmps82
      go_wp2
      all_goals go_returns
      exact ⟨rfl, by go_grown⟩
    · have e1 : arK 13 a b = 1 := by simp [arK, h0, hx]
      have e2 : arN 13 a b = a.tdiv b := by simp [arN, h0, hx]
      have e3 : arE 13 a b = 0 := by simp [arE, h0, hx]
      rw [e1, e2, e3]
      have e4 := tdiv_wrap a b h1.1 h1.2 h0 hx
      have hc : ((a == -9223372036854775808) = true ∧ (b == -1) = false) ∨ (a == -9223372036854775808) = false := by
        by_cases h : a = -9223372036854775808
        · exact .inl ⟨by simpa using h, by simp; omega⟩
        · exact .inr (by simpa using h)
      clear e1 e2 e3 hx
      rcases hc with ⟨hc1, hc2⟩ | hc1
      all_goals
        go_enter Try.func82, Try.ntmps82
        go_wp2
        go_returns
        exact ⟨rfl, by go_grown⟩
  · have e1 : arK 14 a b = 1 := by simp [arK, h0]
    have e2 : arN 14 a b = a.tmod b := by simp [arN, h0]
    have e3 : arE 14 a b = 0 := by simp [arE, h0]
    rw [e1, e2, e3]
    clear e1 e2 e3
    have e4 := tmod_wrap a b h1.1 h1.2
    go_enter Try.func82, Try.ntmps82
    go_wp2
    go_returns
    exact ⟨rfl, by go_grown⟩

set_option maxHeartbeats 400000 in
theorem specDivide (op a b : Int) (w : World) (hop : op = 13 ∨ op = 14) (ha : (Lit.int .i64 a).wf = true) (hb : (Lit.int .i64 b).wf = true) :
    Calls Try.prog 76 #[.int .i64 op, .int .i64 a, .int .i64 b] w fun e w' => e = .returned (.tuple #[.agg #[.int .i64 (arK op a b), .int .i64 (arN op a b), .string ByteArray.empty], .int .i64 (arE op a b)]) ∧ Below w.heap.size w w' := by
  have h1 := bounds_i64 ha
  have h2 := bounds_i64 hb
  by_cases h0 : b = 0
  · subst h0
    have e1 : arK op a 0 = 0 := by rcases hop with rfl | rfl <;> simp [arK]
    have e2 : arN op a 0 = 0 := by rcases hop with rfl | rfl <;> simp [arN]
    have e3 : arE op a 0 = 3 := by rcases hop with rfl | rfl <;> simp [arE]
    rw [e1, e2, e3]
    clear e1 e2 e3 hop
    go_enter Try.func76, Try.ntmps76
    go_wp2
    go_returns
    exact ⟨rfl, by go_grown⟩
  have hb0 : (b == 0) = false := by simpa using h0
  rcases hop with rfl | rfl
  · by_cases hx : a = -9223372036854775808 ∧ b = -1
    · obtain ⟨rfl, rfl⟩ := hx
      have e1 : arK 13 (-9223372036854775808) (-1) = 0 := by simp [arK]
      have e2 : arN 13 (-9223372036854775808) (-1) = 0 := by simp [arN]
      have e3 : arE 13 (-9223372036854775808) (-1) = 2 := by simp [arE]
      rw [e1, e2, e3]
      clear e1 e2 e3
      have k1 : subOk 0 (-9223372036854775808) = false := by simp [subOk]
      have k2 : subN 0 (-9223372036854775808) = 0 := by simp [subN, k1]
      go_enter Try.func76, Try.ntmps76
      go_wp2_with (first | (go_at_call 24; refine (specSub 0 (-9223372036854775808) _ (by decide) (by decide)).mono ?_; rintro e w' ⟨rfl, rfl⟩) | go_in)
      all_goals go_returns
      exact ⟨rfl, by go_grown⟩
    · have e1 : arK 13 a b = 1 := by simp [arK, h0, hx]
      have e2 : arN 13 a b = a.tdiv b := by simp [arN, h0, hx]
      have e3 : arE 13 a b = 0 := by simp [arE, h0, hx]
      rw [e1, e2, e3]
      have e4 := tdiv_wrap a b h1.1 h1.2 h0 hx
      have hc : ((a == -9223372036854775808) = true ∧ (b == -1) = false) ∨ (a == -9223372036854775808) = false := by
        by_cases h : a = -9223372036854775808
        · exact .inl ⟨by simpa using h, by simp; omega⟩
        · exact .inr (by simpa using h)
      clear e1 e2 e3 hx
      by_cases hm : b = -1
      · subst hm
        have k0 : a.tdiv (-1) = -a := by rw [Int.tdiv_neg, Int.tdiv_one]
        rw [k0] at e4 ⊢
        have hne : a ≠ -9223372036854775808 := by
          rintro rfl
          rcases hc with ⟨_, hc⟩ | hc <;> simp at hc
        have k1 : subOk 0 a = true := by simp [subOk]; omega
        have k2 : subN 0 a = -a := by simp [subN, k1]
        clear hc k0
        go_enter Try.func76, Try.ntmps76
        go_wp2_with (first | (go_at_call 24; refine (specSub 0 a _ (by decide) ha).mono ?_; rintro e w' ⟨rfl, rfl⟩) | go_in)
        all_goals go_returns
        exact ⟨rfl, by go_grown⟩
      · have hm1 : (b == -1) = false := by simpa using hm
        clear hc
        go_enter Try.func76, Try.ntmps76
        go_wp2
        all_goals go_returns
        exact ⟨rfl, by go_grown⟩
  · have e1 : arK 14 a b = 1 := by simp [arK, h0]
    have e2 : arN 14 a b = a.tmod b := by simp [arN, h0]
    have e3 : arE 14 a b = 0 := by simp [arE, h0]
    rw [e1, e2, e3]
    clear e1 e2 e3
    have e4 := tmod_wrap a b h1.1 h1.2
    by_cases hm : b = -1
    · subst hm
      have k0 : a.tmod (-1) = 0 := by rw [Int.tmod_neg, Int.tmod_one]
      rw [k0] at e4 ⊢
      clear k0
      go_enter Try.func76, Try.ntmps76
      go_wp2
      all_goals go_returns
      exact ⟨rfl, by go_grown⟩
    · have hm1 : (b == -1) = false := by simpa using hm
      go_enter Try.func76, Try.ntmps76
      go_wp2
      all_goals go_returns
      exact ⟨rfl, by go_grown⟩

theorem ar_ok10 (a b : Int) : arK 10 a b = (if addOk a b then 1 else 0) ∧ arN 10 a b = addN a b ∧ arE 10 a b = (if addOk a b then 0 else 2) := by simp [arK, arN, arE]
theorem ar_ok11 (a b : Int) : arK 11 a b = (if subOk a b then 1 else 0) ∧ arN 11 a b = subN a b ∧ arE 11 a b = (if subOk a b then 0 else 2) := by simp [arK, arN, arE]
theorem ar_ok12 (a b : Int) : arK 12 a b = (if mulOk a b then 1 else 0) ∧ arN 12 a b = mulN a b ∧ arE 12 a b = (if mulOk a b then 0 else 2) := by simp [arK, arN, arE]

theorem specL6Num (n : Int) (ok : Bool) (w : World) (h : ok = false → n = 0) :
    Calls Try.prog 75 #[.int .i64 n, .bool ok] w fun e w' => e = .returned (.tuple #[.agg #[.int .i64 (if ok then 1 else 0), .int .i64 n, .string ByteArray.empty], .int .i64 (if ok then 0 else 2)]) ∧ Below w.heap.size w w' := by
  cases ok
  · have h0 := h rfl
    subst h0
    clear h
    go_enter Try.func75, Try.ntmps75
    go_wp2
    all_goals go_returns
    exact ⟨rfl, by go_grown⟩
  · clear h
    go_enter Try.func75, Try.ntmps75
    go_wp2
    all_goals go_returns
    exact ⟨rfl, by go_grown⟩

theorem add_no {a b : Int} (h : addOk a b = false) : addN a b = 0 := by simp [addN, h]
theorem sub_no {a b : Int} (h : subOk a b = false) : subN a b = 0 := by simp [subN, h]
theorem mul_no {a b : Int} (h : mulOk a b = false) : mulN a b = 0 := by simp [mulN, h]

theorem specNumAdd (a b : Int) (w : World) :
    Calls Try.prog 75 #[.int .i64 (addN a b), .bool (addOk a b)] w fun e w' => e = .returned (.tuple #[.agg #[.int .i64 (arK 10 a b), .int .i64 (arN 10 a b), .string ByteArray.empty], .int .i64 (arE 10 a b)]) ∧ Below w.heap.size w w' := by
  obtain ⟨e1, e2, e3⟩ := ar_ok10 a b
  rw [e1, e2, e3]
  exact specL6Num _ _ _ add_no
theorem specNumSub (a b : Int) (w : World) :
    Calls Try.prog 75 #[.int .i64 (subN a b), .bool (subOk a b)] w fun e w' => e = .returned (.tuple #[.agg #[.int .i64 (arK 11 a b), .int .i64 (arN 11 a b), .string ByteArray.empty], .int .i64 (arE 11 a b)]) ∧ Below w.heap.size w w' := by
  obtain ⟨e1, e2, e3⟩ := ar_ok11 a b
  rw [e1, e2, e3]
  exact specL6Num _ _ _ sub_no
theorem specNumMul (a b : Int) (w : World) :
    Calls Try.prog 75 #[.int .i64 (mulN a b), .bool (mulOk a b)] w fun e w' => e = .returned (.tuple #[.agg #[.int .i64 (arK 12 a b), .int .i64 (arN 12 a b), .string ByteArray.empty], .int .i64 (arE 12 a b)]) ∧ Below w.heap.size w w' := by
  obtain ⟨e1, e2, e3⟩ := ar_ok12 a b
  rw [e1, e2, e3]
  exact specL6Num _ _ _ mul_no

set_option maxHeartbeats 800000 in
theorem implArith (op a b : Int) (w : World) (hop : op = 10 ∨ op = 11 ∨ op = 12 ∨ op = 13 ∨ op = 14) (ha : (Lit.int .i64 a).wf = true) (hb : (Lit.int .i64 b).wf = true) :
    Calls Try.prog 61 #[.int .i64 op, .int .i64 a, .int .i64 b] w fun e w' => e = .returned (.tuple #[.agg #[.int .i64 (arK op a b), .int .i64 (arN op a b), .string ByteArray.empty], .int .i64 (arE op a b)]) ∧ Below w.heap.size w w' := by
  rcases hop with rfl | rfl | rfl | hop
  · obtain ⟨e1, e2, e3⟩ := ar_ok10 a b
    rw [e1, e2, e3]
    clear e1 e2 e3
    cases hok : addOk a b
    · have hn := add_no hok
      go_enter Try.func61, Try.ntmps61
      go_wp2_with (first | (go_at_call 21; refine (implAdd a b _ ha hb).mono ?_; rintro e w' ⟨rfl, rfl⟩) | go_in)
      all_goals go_returns
      exact ⟨by simp; rfl, by go_grown⟩
    · go_enter Try.func61, Try.ntmps61
      go_wp2_with (first | (go_at_call 21; refine (implAdd a b _ ha hb).mono ?_; rintro e w' ⟨rfl, rfl⟩) | go_in)
      all_goals go_returns
      exact ⟨rfl, by go_grown⟩
  · obtain ⟨e1, e2, e3⟩ := ar_ok11 a b
    rw [e1, e2, e3]
    clear e1 e2 e3
    cases hok : subOk a b
    · have hn := sub_no hok
      go_enter Try.func61, Try.ntmps61
      go_wp2_with (first | (go_at_call 23; refine (implSub a b _ ha hb).mono ?_; rintro e w' ⟨rfl, rfl⟩) | go_in)
      all_goals go_returns
      exact ⟨by simp; rfl, by go_grown⟩
    · go_enter Try.func61, Try.ntmps61
      go_wp2_with (first | (go_at_call 23; refine (implSub a b _ ha hb).mono ?_; rintro e w' ⟨rfl, rfl⟩) | go_in)
      all_goals go_returns
      exact ⟨rfl, by go_grown⟩
  · obtain ⟨e1, e2, e3⟩ := ar_ok12 a b
    rw [e1, e2, e3]
    clear e1 e2 e3
    cases hok : mulOk a b
    · have hn := mul_no hok
      go_enter Try.func61, Try.ntmps61
      go_wp2_with (first | (go_at_call 37; refine (implMulNum a b _ ha hb).mono ?_; rintro e w' ⟨rfl, rfl⟩) | go_in)
      all_goals go_returns
      exact ⟨by simp; rfl, by go_grown⟩
    · go_enter Try.func61, Try.ntmps61
      go_wp2_with (first | (go_at_call 37; refine (implMulNum a b _ ha hb).mono ?_; rintro e w' ⟨rfl, rfl⟩) | go_in)
      all_goals go_returns
      exact ⟨rfl, by go_grown⟩
  · have n1 : (op == 10) = false := by simp; omega
    have n2 : (op == 11) = false := by simp; omega
    have n3 : (op == 12) = false := by simp; omega
    go_enter Try.func61, Try.ntmps61
    go_wp2_with fail
    refine (implDivided op a b _ hop ha hb).mono ?_
    rintro e w1 ⟨rfl, hb1⟩
    obtain ⟨c0, c1, c2, f0, f1, f2, hz1⟩ := kept3 hb1
    have H1 := hide hb1
    clear hb1
    go_wp2
    have hA : Below w.heap.size w w1 := below_via (by go_grown) H1.out
    refine bodyPost_ret (v := .tuple #[.agg #[.int .i64 (arK op a b), .int .i64 (arN op a b), .string ByteArray.empty], .int .i64 (arE op a b)]) (by simp [results, Try.results61, go_sem, c0, c1, c2]) rfl ?_
    exact ⟨rfl, by go_grown⟩
end Go.Proofs.Ytnamikhhbedpeaa
