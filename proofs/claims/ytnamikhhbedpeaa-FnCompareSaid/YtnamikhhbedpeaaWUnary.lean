/-
  Unary operators on values: what the program and the reference compute.
-/
import Derived.Test.YtnamikhhbedpeaaRows
import Derived.WalkKit
import Derived.WalkLawsBesides
import Derived.WalkSpells
import Derived.Handy
import Derived.Deep.Light
import Derived.Test.YtnamikhhbedpeaaM1
import Derived.Test.YtnamikhhbedpeaaB
import Derived.Test.YtnamikhhbedpeaaWValOk
import Derived.Test.YtnamikhhbedpeaaWCalcA
namespace Go.Proofs.Ytnamikhhbedpeaa
open Go.RowKit

/-- The kind, the number and the error of a unary operation; the text is empty. -/
def unK (op k n : Int) (s : ByteArray) : Int := if valOk k n s = true then (if op = 15 ∧ k = 3 then 3 else if op = 16 ∧ k = 1 then arK 11 0 n else 0) else 0
def unN (op k n : Int) (s : ByteArray) : Int := if valOk k n s = true then (if op = 15 ∧ k = 3 then (if n = 0 then 1 else 0) else if op = 16 ∧ k = 1 then arN 11 0 n else 0) else 0
def unE (op k n : Int) (s : ByteArray) : Int := if valOk k n s = true then (if (op = 15 ∨ op = 16) ∧ k = 0 then 0 else if op = 15 ∧ k = 3 then 0 else if op = 16 ∧ k = 1 then arE 11 0 n else 1) else 1

theorem empty_of (s : ByteArray) (h : s.toList = []) : s = ByteArray.empty := by
  rw [ByteArray.toList_eq] at h
  cases s with
  | mk d =>
    have : d = #[] := by simpa using h
    subst this
    rfl

/-- The four shapes of a valid value. -/
theorem valOk_cases {k n : Int} {s : ByteArray} (h : valOk k n s = true) : (k = 0 ∧ n = 0 ∧ s = ByteArray.empty) ∨ (k = 1 ∧ s = ByteArray.empty) ∨ (k = 2 ∧ n = 0 ∧ s.size ≤ 200) ∨ (k = 3 ∧ (n = 0 ∨ n = 1) ∧ s = ByteArray.empty) := by
  unfold valOk at h
  by_cases h0 : k = 0
  · simp [h0] at h; exact .inl ⟨h0, h.1, empty_of s h.2⟩
  by_cases h1 : k = 1
  · simp [h1] at h; exact .inr (.inl ⟨h1, empty_of s h⟩)
  by_cases h2 : k = 2
  · simp [h2] at h; exact .inr (.inr (.inl ⟨h2, h.1, h.2⟩))
  by_cases h3 : k = 3
  · simp [h3] at h; exact .inr (.inr (.inr ⟨h3, h.1, empty_of s h.2⟩))
  · simp [h0, h1, h2, h3] at h

set_option maxHeartbeats 1600000 in
theorem implUnary (op k n : Int) (s : ByteArray) (w : World) (ws : s.size ≤ 9223372036854775807) (wn : (Lit.int .i64 n).wf = true) :
    Calls Try.prog 34 #[.int .i64 op, .agg #[.int .i64 k, .int .i64 n, .string s]] w fun e w' => e = .returned (.tuple #[.agg #[.int .i64 (unK op k n s), .int .i64 (unN op k n s), .string ByteArray.empty], .int .i64 (unE op k n s)]) ∧ Below w.heap.size w w' := by
  cases hv : valOk k n s
  · have e1 : unK op k n s = 0 := by simp [unK, hv]
    have e2 : unN op k n s = 0 := by simp [unN, hv]
    have e3 : unE op k n s = 1 := by simp [unE, hv]
    rw [e1, e2, e3]
    clear e1 e2 e3
    go_enter Try.func34, Try.ntmps34
    go_wp2_with fail
    refine (implValueOk _ _ _ _ ws).mono ?_
    rintro e w1 ⟨rfl, hb1⟩
    obtain ⟨⟨c0, c1, c2⟩, ⟨d0, d1, d2⟩, ⟨f0, f1, f2⟩, hz1⟩ := kept33 hb1
    have hz0 : w.heap.size < w1.heap.size := by omega
    have hz0' : w.heap.size < w1.heap.size + 1 := by omega
    have hz0'' : w.heap.size < w1.heap.size + 1 + 1 := by omega
    have H1 := hide hb1
    clear hb1
    go_wp2
    have hA : Below w.heap.size w w1 := below_via (by go_grown) H1.out
    all_goals refine bodyPost_ret (v := .tuple #[.agg #[.int .i64 0, .int .i64 0, .string ByteArray.empty], .int .i64 1]) (by simp [results, Try.results34, go_sem, d0, d1, d2]; try rfl) rfl ⟨rfl, ?_⟩
    all_goals go_grown
  by_cases h15 : op = 15
  · subst h15
    rcases valOk_cases hv with ⟨rfl, rfl, rfl⟩ | ⟨rfl, rfl⟩ | ⟨rfl, rfl, _⟩ | ⟨rfl, h01, rfl⟩
    · have e1 : unK 15 0 0 ByteArray.empty = 0 := by simp [unK, hv]
      have e2 : unN 15 0 0 ByteArray.empty = 0 := by simp [unN, hv]
      have e3 : unE 15 0 0 ByteArray.empty = 0 := by simp [unE, hv]
      rw [e1, e2, e3]
      clear e1 e2 e3
      go_enter Try.func34, Try.ntmps34
      go_wp2_with fail
      refine (implValueOk _ _ _ _ ws).mono ?_
      rintro e w1 ⟨rfl, hb1⟩
      obtain ⟨⟨c0, c1, c2⟩, ⟨d0, d1, d2⟩, ⟨f0, f1, f2⟩, hz1⟩ := kept33 hb1
      have hz0 : w.heap.size < w1.heap.size := by omega
      have hz0' : w.heap.size < w1.heap.size + 1 := by omega
      have hz0'' : w.heap.size < w1.heap.size + 1 + 1 := by omega
      have H1 := hide hb1
      clear hb1
      go_wp2
      have hA : Below w.heap.size w w1 := below_via (by go_grown) H1.out
      all_goals refine bodyPost_ret (v := .tuple #[.agg #[.int .i64 0, .int .i64 0, .string ByteArray.empty], .int .i64 0]) (by simp [results, Try.results34, go_sem, d0, d1, d2]; try rfl) rfl ⟨rfl, ?_⟩
      all_goals go_grown
    · have e1 : unK 15 1 n ByteArray.empty = 0 := by simp [unK, hv]
      have e2 : unN 15 1 n ByteArray.empty = 0 := by simp [unN, hv]
      have e3 : unE 15 1 n ByteArray.empty = 1 := by simp [unE, hv]
      rw [e1, e2, e3]
      clear e1 e2 e3
      go_enter Try.func34, Try.ntmps34
      go_wp2_with fail
      refine (implValueOk _ _ _ _ ws).mono ?_
      rintro e w1 ⟨rfl, hb1⟩
      obtain ⟨⟨c0, c1, c2⟩, ⟨d0, d1, d2⟩, ⟨f0, f1, f2⟩, hz1⟩ := kept33 hb1
      have hz0 : w.heap.size < w1.heap.size := by omega
      have hz0' : w.heap.size < w1.heap.size + 1 := by omega
      have hz0'' : w.heap.size < w1.heap.size + 1 + 1 := by omega
      have H1 := hide hb1
      clear hb1
      go_wp2
      have hA : Below w.heap.size w w1 := below_via (by go_grown) H1.out
      all_goals refine bodyPost_ret (v := .tuple #[.agg #[.int .i64 0, .int .i64 0, .string ByteArray.empty], .int .i64 1]) (by simp [results, Try.results34, go_sem, d0, d1, d2]; try rfl) rfl ⟨rfl, ?_⟩
      all_goals go_grown
    · have e1 : unK 15 2 0 s = 0 := by simp [unK, hv]
      have e2 : unN 15 2 0 s = 0 := by simp [unN, hv]
      have e3 : unE 15 2 0 s = 1 := by simp [unE, hv]
      rw [e1, e2, e3]
      clear e1 e2 e3
      go_enter Try.func34, Try.ntmps34
      go_wp2_with fail
      refine (implValueOk _ _ _ _ ws).mono ?_
      rintro e w1 ⟨rfl, hb1⟩
      obtain ⟨⟨c0, c1, c2⟩, ⟨d0, d1, d2⟩, ⟨f0, f1, f2⟩, hz1⟩ := kept33 hb1
      have hz0 : w.heap.size < w1.heap.size := by omega
      have hz0' : w.heap.size < w1.heap.size + 1 := by omega
      have hz0'' : w.heap.size < w1.heap.size + 1 + 1 := by omega
      have H1 := hide hb1
      clear hb1
      go_wp2
      have hA : Below w.heap.size w w1 := below_via (by go_grown) H1.out
      all_goals refine bodyPost_ret (v := .tuple #[.agg #[.int .i64 0, .int .i64 0, .string ByteArray.empty], .int .i64 1]) (by simp [results, Try.results34, go_sem, d0, d1, d2]; try rfl) rfl ⟨rfl, ?_⟩
      all_goals go_grown
    · rcases h01 with rfl | rfl
      · have e1 : unK 15 3 0 ByteArray.empty = 3 := by simp [unK, hv]
        have e2 : unN 15 3 0 ByteArray.empty = 1 := by simp [unN, hv]
        have e3 : unE 15 3 0 ByteArray.empty = 0 := by simp [unE, hv]
        rw [e1, e2, e3]
        clear e1 e2 e3
        go_enter Try.func34, Try.ntmps34
        go_wp2_with fail
        refine (implValueOk _ _ _ _ ws).mono ?_
        rintro e w1 ⟨rfl, hb1⟩
        obtain ⟨⟨c0, c1, c2⟩, ⟨d0, d1, d2⟩, ⟨f0, f1, f2⟩, hz1⟩ := kept33 hb1
        have hz0 : w.heap.size < w1.heap.size := by omega
        have hz0' : w.heap.size < w1.heap.size + 1 := by omega
        have hz0'' : w.heap.size < w1.heap.size + 1 + 1 := by omega
        have H1 := hide hb1
        clear hb1
        go_wp2
        have hA : Below w.heap.size w w1 := below_via (by go_grown) H1.out
        all_goals refine bodyPost_ret (v := .tuple #[.agg #[.int .i64 3, .int .i64 1, .string ByteArray.empty], .int .i64 0]) (by simp [results, Try.results34, go_sem, d0, d1, d2, hz1, hz0]; try rfl) rfl ⟨rfl, ?_⟩
        all_goals go_grown
      · have e1 : unK 15 3 1 ByteArray.empty = 3 := by simp [unK, hv]
        have e2 : unN 15 3 1 ByteArray.empty = 0 := by simp [unN, hv]
        have e3 : unE 15 3 1 ByteArray.empty = 0 := by simp [unE, hv]
        rw [e1, e2, e3]
        clear e1 e2 e3
        go_enter Try.func34, Try.ntmps34
        go_wp2_with fail
        refine (implValueOk _ _ _ _ ws).mono ?_
        rintro e w1 ⟨rfl, hb1⟩
        obtain ⟨⟨c0, c1, c2⟩, ⟨d0, d1, d2⟩, ⟨f0, f1, f2⟩, hz1⟩ := kept33 hb1
        have hz0 : w.heap.size < w1.heap.size := by omega
        have hz0' : w.heap.size < w1.heap.size + 1 := by omega
        have hz0'' : w.heap.size < w1.heap.size + 1 + 1 := by omega
        have H1 := hide hb1
        clear hb1
        go_wp2
        have hA : Below w.heap.size w w1 := below_via (by go_grown) H1.out
        all_goals refine bodyPost_ret (v := .tuple #[.agg #[.int .i64 3, .int .i64 0, .string ByteArray.empty], .int .i64 0]) (by simp [results, Try.results34, go_sem, d0, d1, d2, hz1, hz0]; try rfl) rfl ⟨rfl, ?_⟩
        all_goals go_grown
  by_cases h16 : op = 16
  · subst h16
    rcases valOk_cases hv with ⟨rfl, rfl, rfl⟩ | ⟨rfl, rfl⟩ | ⟨rfl, rfl, _⟩ | ⟨rfl, h01, rfl⟩
    · have e1 : unK 16 0 0 ByteArray.empty = 0 := by simp [unK, hv]
      have e2 : unN 16 0 0 ByteArray.empty = 0 := by simp [unN, hv]
      have e3 : unE 16 0 0 ByteArray.empty = 0 := by simp [unE, hv]
      rw [e1, e2, e3]
      clear e1 e2 e3
      go_enter Try.func34, Try.ntmps34
      go_wp2_with fail
      refine (implValueOk _ _ _ _ ws).mono ?_
      rintro e w1 ⟨rfl, hb1⟩
      obtain ⟨⟨c0, c1, c2⟩, ⟨d0, d1, d2⟩, ⟨f0, f1, f2⟩, hz1⟩ := kept33 hb1
      have hz0 : w.heap.size < w1.heap.size := by omega
      have hz0' : w.heap.size < w1.heap.size + 1 := by omega
      have hz0'' : w.heap.size < w1.heap.size + 1 + 1 := by omega
      have H1 := hide hb1
      clear hb1
      go_wp2
      have hA : Below w.heap.size w w1 := below_via (by go_grown) H1.out
      all_goals refine bodyPost_ret (v := .tuple #[.agg #[.int .i64 0, .int .i64 0, .string ByteArray.empty], .int .i64 0]) (by simp [results, Try.results34, go_sem, d0, d1, d2]; try rfl) rfl ⟨rfl, ?_⟩
      all_goals go_grown
    · have e1 : unK 16 1 n ByteArray.empty = arK 11 0 n := by simp [unK, hv]
      have e2 : unN 16 1 n ByteArray.empty = arN 11 0 n := by simp [unN, hv]
      have e3 : unE 16 1 n ByteArray.empty = arE 11 0 n := by simp [unE, hv]
      rw [e1, e2, e3]
      clear e1 e2 e3
      go_enter Try.func34, Try.ntmps34
      go_wp2_with fail
      refine (implValueOk _ _ _ _ ws).mono ?_
      rintro e w1 ⟨rfl, hb1⟩
      obtain ⟨⟨c0, c1, c2⟩, ⟨d0, d1, d2⟩, ⟨f0, f1, f2⟩, hz1⟩ := kept33 hb1
      have hz0 : w.heap.size < w1.heap.size := by omega
      have hz0' : w.heap.size < w1.heap.size + 1 := by omega
      have hz0'' : w.heap.size < w1.heap.size + 1 + 1 := by omega
      have H1 := hide hb1
      clear hb1
      go_wp2_with fail
      refine (implArith 11 0 n _ (by simp) (by decide) wn).mono ?_
      rintro e w2 ⟨rfl, hb2⟩
      obtain ⟨hc2, hf2⟩ := bcell hb2
      rw [← hc2 _ _ hz1] at d0 d1 d2
      rw [← hf2 _ _ hz1] at f0 f1 f2
      have H2 := hide hb2
      have hz2 : w.heap.size + 1 < w2.heap.size := by have := hb2.size; omega
      clear hb2 hc2 hf2 c0 c1 c2 hz1 hz0 hz0' hz0''
      go_wp2
      have hA : Below w.heap.size w w2 := below_via (below_via (by go_grown) H1.out) H2.out
      refine bodyPost_ret (v := .tuple #[.agg #[.int .i64 (arK 11 0 n), .int .i64 (arN 11 0 n), .string ByteArray.empty], .int .i64 (arE 11 0 n)]) (by simp [results, Try.results34, go_sem, d0, d1, d2]) rfl ⟨rfl, ?_⟩
      go_grown
    · have e1 : unK 16 2 0 s = 0 := by simp [unK, hv]
      have e2 : unN 16 2 0 s = 0 := by simp [unN, hv]
      have e3 : unE 16 2 0 s = 1 := by simp [unE, hv]
      rw [e1, e2, e3]
      clear e1 e2 e3
      go_enter Try.func34, Try.ntmps34
      go_wp2_with fail
      refine (implValueOk _ _ _ _ ws).mono ?_
      rintro e w1 ⟨rfl, hb1⟩
      obtain ⟨⟨c0, c1, c2⟩, ⟨d0, d1, d2⟩, ⟨f0, f1, f2⟩, hz1⟩ := kept33 hb1
      have hz0 : w.heap.size < w1.heap.size := by omega
      have hz0' : w.heap.size < w1.heap.size + 1 := by omega
      have hz0'' : w.heap.size < w1.heap.size + 1 + 1 := by omega
      have H1 := hide hb1
      clear hb1
      go_wp2
      have hA : Below w.heap.size w w1 := below_via (by go_grown) H1.out
      all_goals refine bodyPost_ret (v := .tuple #[.agg #[.int .i64 0, .int .i64 0, .string ByteArray.empty], .int .i64 1]) (by simp [results, Try.results34, go_sem, d0, d1, d2]; try rfl) rfl ⟨rfl, ?_⟩
      all_goals go_grown
    · rcases h01 with rfl | rfl
      · have e1 : unK 16 3 0 ByteArray.empty = 0 := by simp [unK, hv]
        have e2 : unN 16 3 0 ByteArray.empty = 0 := by simp [unN, hv]
        have e3 : unE 16 3 0 ByteArray.empty = 1 := by simp [unE, hv]
        rw [e1, e2, e3]
        clear e1 e2 e3
        go_enter Try.func34, Try.ntmps34
        go_wp2_with fail
        refine (implValueOk _ _ _ _ ws).mono ?_
        rintro e w1 ⟨rfl, hb1⟩
        obtain ⟨⟨c0, c1, c2⟩, ⟨d0, d1, d2⟩, ⟨f0, f1, f2⟩, hz1⟩ := kept33 hb1
        have hz0 : w.heap.size < w1.heap.size := by omega
        have hz0' : w.heap.size < w1.heap.size + 1 := by omega
        have hz0'' : w.heap.size < w1.heap.size + 1 + 1 := by omega
        have H1 := hide hb1
        clear hb1
        go_wp2
        have hA : Below w.heap.size w w1 := below_via (by go_grown) H1.out
        all_goals refine bodyPost_ret (v := .tuple #[.agg #[.int .i64 0, .int .i64 0, .string ByteArray.empty], .int .i64 1]) (by simp [results, Try.results34, go_sem, d0, d1, d2]; try rfl) rfl ⟨rfl, ?_⟩
        all_goals go_grown
      · have e1 : unK 16 3 1 ByteArray.empty = 0 := by simp [unK, hv]
        have e2 : unN 16 3 1 ByteArray.empty = 0 := by simp [unN, hv]
        have e3 : unE 16 3 1 ByteArray.empty = 1 := by simp [unE, hv]
        rw [e1, e2, e3]
        clear e1 e2 e3
        go_enter Try.func34, Try.ntmps34
        go_wp2_with fail
        refine (implValueOk _ _ _ _ ws).mono ?_
        rintro e w1 ⟨rfl, hb1⟩
        obtain ⟨⟨c0, c1, c2⟩, ⟨d0, d1, d2⟩, ⟨f0, f1, f2⟩, hz1⟩ := kept33 hb1
        have hz0 : w.heap.size < w1.heap.size := by omega
        have hz0' : w.heap.size < w1.heap.size + 1 := by omega
        have hz0'' : w.heap.size < w1.heap.size + 1 + 1 := by omega
        have H1 := hide hb1
        clear hb1
        go_wp2
        have hA : Below w.heap.size w w1 := below_via (by go_grown) H1.out
        all_goals refine bodyPost_ret (v := .tuple #[.agg #[.int .i64 0, .int .i64 0, .string ByteArray.empty], .int .i64 1]) (by simp [results, Try.results34, go_sem, d0, d1, d2]; try rfl) rfl ⟨rfl, ?_⟩
        all_goals go_grown
  have e1 : unK op k n s = 0 := by simp [unK, h15, h16]
  have e2 : unN op k n s = 0 := by simp [unN, h15, h16]
  have e3 : unE op k n s = 1 := by simp [unE, h15, h16]
  rw [e1, e2, e3]
  clear e1 e2 e3
  have g15 : (op == 15) = false := by simpa using h15
  have g16 : (op == 16) = false := by simpa using h16
  have g15' : (op != 15) = true := by simpa using h15
  have g16' : (op != 16) = true := by simpa using h16
  go_enter Try.func34, Try.ntmps34
  go_wp2_with fail
  refine (implValueOk _ _ _ _ ws).mono ?_
  rintro e w1 ⟨rfl, hb1⟩
  obtain ⟨⟨c0, c1, c2⟩, ⟨d0, d1, d2⟩, ⟨f0, f1, f2⟩, hz1⟩ := kept33 hb1
  have hz0 : w.heap.size < w1.heap.size := by omega
  have hz0' : w.heap.size < w1.heap.size + 1 := by omega
  have hz0'' : w.heap.size < w1.heap.size + 1 + 1 := by omega
  have H1 := hide hb1
  clear hb1
  go_wp2
  have hA : Below w.heap.size w w1 := below_via (by go_grown) H1.out
  all_goals refine bodyPost_ret (v := .tuple #[.agg #[.int .i64 0, .int .i64 0, .string ByteArray.empty], .int .i64 1]) (by simp [results, Try.results34, go_sem, d0, d1, d2]; try rfl) rfl ⟨rfl, ?_⟩
  all_goals go_grown

end Go.Proofs.Ytnamikhhbedpeaa
