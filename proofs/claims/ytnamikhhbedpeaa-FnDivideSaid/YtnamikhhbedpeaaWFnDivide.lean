/-
  The walk of FnDivide.
-/
import Derived.Test.YtnamikhhbedpeaaDrawP
import Derived.Test.YtnamikhhbedpeaaCarry
import Derived.Test.YtnamikhhbedpeaaVals
namespace Go.Proofs.Ytnamikhhbedpeaa
open Go.RowKit Go.Lib

theorem divZ (op a : Int) (h : op = 13 ∨ op = 14) : arE op a 0 = 3 ∧ arK op a 0 = 0 ∧ arN op a 0 = 0 := by
  rcases h with rfl | rfl <;> simp [arE, arK, arN]

/-- Quotient and remainder. -/
theorem div_facts (x y : Int) (hx : In x) (hy : In y) (_h0 : y ≠ 0) (_hov : ¬ (x = -9223372036854775808 ∧ y = -1)) :
    ∃ q r : Int, x.tdiv y = q ∧ x.tmod y = r ∧ wrap64 (wrap64 (q * y) + r) = x ∧ (r = 0 ∨ (r < 0 ∧ x < 0) ∨ (0 < r ∧ 0 ≤ x)) ∧ (0 < y → r < y ∧ -y < r) ∧ (y < 0 → y < r ∧ r < -y) := by
  unfold In at hx hy
  refine ⟨_, _, rfl, rfl, ?_, ?_, ?_, ?_⟩
  · have h := Int.tdiv_mul_add_tmod x y
    simp only [wrap64]
    omega
  · by_cases h : 0 ≤ x
    · have := Int.tmod_nonneg y h
      omega
    · have h1 : (-x).tmod y = -(x.tmod y) := Int.neg_tmod x y
      have := Int.tmod_nonneg y (show 0 ≤ -x by omega)
      omega
  · intro h
    exact ⟨Int.tmod_lt_of_pos x h, Int.lt_tmod_of_pos x h⟩
  · intro h
    have h1 : x.tmod (-y) = x.tmod y := Int.tmod_neg x y
    have h2 := Int.tmod_lt_of_pos x (show 0 < -y by omega)
    have h3 := Int.lt_tmod_of_pos x (show 0 < -y by omega)
    omega
theorem divC (x y : Int) (h0 : y ≠ 0) (hov : ¬ (x = -9223372036854775808 ∧ y = -1)) : arE 13 x y = 0 ∧ arK 13 x y = 1 ∧ arN 13 x y = x.tdiv y ∧ arE 14 x y = 0 ∧ arK 14 x y = 1 ∧ arN 14 x y = x.tmod y := by
  simp [arE, arK, arN, h0, hov]
theorem divO : arE 13 (-9223372036854775808) (-1) = 2 ∧ arK 13 (-9223372036854775808) (-1) = 0 ∧ arN 13 (-9223372036854775808) (-1) = 0 ∧ arE 14 (-9223372036854775808) (-1) = 0 ∧ arK 14 (-9223372036854775808) (-1) = 1 ∧ arN 14 (-9223372036854775808) (-1) = 0 := by
  simp [arE, arK, arN]

set_option maxRecDepth 100000 in
set_option maxHeartbeats 2000000 in
theorem fnDivide.walk (a : Option Addr) (n c : Nat) (zs : List Int) (w : World) (w0 : IsRow .u8 w a n c zs) :
    Calls Try.prog 11 #[.slice a n c] w fun e w' => e = .returned (.bool true) ∧ Below w.heap.size w w' := by
  have hlen := w0.len_le
  by_cases hbig : 1048576 < n
  · go_enter Try.func11, Try.ntmps11
    go_wp2_with (go_at_call 13; refine (bigC _ _ _ hlen).mono ?_; rintro e w1 ⟨rfl, rfl⟩)
    all_goals go_ret
    all_goals exact ⟨rfl, by go_grown⟩
  · have HC := hide (Code.of_row w0 (by omega))
    go_enter Try.func11, Try.ntmps11
    go_wp2_with (go_at_call 13; refine (bigC _ _ _ hlen).mono ?_; rintro e w1 ⟨rfl, rfl⟩)
    refine (drawAddNumC c HC.out (Nat.le_refl _)).mono ?_
    rintro e w1 ⟨x, y, rfl, hx, hy, hb1⟩
    have H1 := hide hb1
    have HX := hide (And.intro hx hy)
    clear hb1 hx hy HC hbig
    by_cases hy0 : y = 0
    · subst hy0
      obtain ⟨e1, e2, e3⟩ := divZ 13 x (.inl rfl)
      obtain ⟨d1, d2, d3⟩ := divZ 14 x (.inr rfl)
      go_wp2_with fail
      refine (implIntValue _ _).mono ?_
      rintro e w2 ⟨rfl, hb⟩
      have H2 := hide (below_via (below_via H1.out (by go_grown)) hb)
      clear hb
      go_wp2_with fail
      refine (implIntValue _ _).mono ?_
      rintro e w3 ⟨rfl, hb⟩
      have H3 := hide (below_via (below_via H2.out (by go_grown)) hb)
      clear hb
      go_wp2_with fail
      refine (implCalcAr _ _ _ _ (.inl rfl) HX.out.1.wf HX.out.2.wf).mono ?_
      rintro e w4 ⟨rfl, hb⟩
      have H4 := hide (below_via (below_via H3.out (by go_grown)) hb)
      rw [e1, e2, e3]
      clear hb e1 e2 e3
      go_wp2_with fail
      refine (implIntValue _ _).mono ?_
      rintro e w5 ⟨rfl, hb⟩
      have H5 := hide (below_via (below_via H4.out (by go_grown)) hb)
      clear hb
      go_wp2_with fail
      refine (implIntValue _ _).mono ?_
      rintro e w6 ⟨rfl, hb⟩
      have H6 := hide (below_via (below_via H5.out (by go_grown)) hb)
      clear hb
      go_wp2_with fail
      refine (implCalcAr _ _ _ _ (.inr rfl) HX.out.1.wf HX.out.2.wf).mono ?_
      rintro e w7 ⟨rfl, hb⟩
      have H7 := hide (below_via (below_via H6.out (by go_grown)) hb)
      rw [d1, d2, d3]
      clear hb d1 d2 d3
      go_wp2_with fail
      all_goals go_ret
      all_goals exact ⟨rfl, below_via H7.out (by go_grown)⟩
    by_cases hov : x = -9223372036854775808 ∧ y = -1
    · obtain ⟨rfl, rfl⟩ := hov
      have HD := hide divO
      go_wp2_with fail
      refine (implIntValue _ _).mono ?_
      rintro e w2 ⟨rfl, hb⟩
      have H2 := hide (below_via (below_via H1.out (by go_grown)) hb)
      clear hb
      go_wp2_with fail
      refine (implIntValue _ _).mono ?_
      rintro e w3 ⟨rfl, hb⟩
      have H3 := hide (below_via (below_via H2.out (by go_grown)) hb)
      clear hb
      go_wp2_with fail
      refine (implCalcAr _ _ _ _ (.inl rfl) HX.out.1.wf HX.out.2.wf).mono ?_
      rintro e w4 ⟨rfl, hb⟩
      rw [HD.out.1, HD.out.2.1, HD.out.2.2.1]
      have H4 := hide (below_via (below_via H3.out (by go_grown)) hb)
      clear hb
      go_wp2_with fail
      refine (implIntValue _ _).mono ?_
      rintro e w5 ⟨rfl, hb⟩
      have H5 := hide (below_via (below_via H4.out (by go_grown)) hb)
      obtain ⟨q0, q1, q2, qf0, qf1, qf2, qs⟩ := kept3 hb
      generalize w4.heap.size = bq at q0 q1 q2 qf0 qf1 qf2 qs ⊢
      clear hb qf0 qf1 qf2
      go_wp2_with fail
      refine (implIntValue _ _).mono ?_
      rintro e w6 ⟨rfl, hb⟩
      have H6 := hide (below_via H5.out hb)
      replace q0 := carry_cell hb q0 qs
      replace q1 := carry_cell hb q1 qs
      replace q2 := carry_cell hb q2 qs
      replace qs := carry_size hb qs
      clear hb
      go_wp2_with fail
      refine (implCalcAr _ _ _ _ (.inr rfl) HX.out.1.wf HX.out.2.wf).mono ?_
      rintro e w7 ⟨rfl, hb⟩
      rw [HD.out.2.2.2.1, HD.out.2.2.2.2.1, HD.out.2.2.2.2.2]
      have H7 := hide (below_via H6.out hb)
      replace q0 := carry_cell hb q0 qs
      replace q1 := carry_cell hb q1 qs
      replace q2 := carry_cell hb q2 qs
      replace qs := carry_size hb qs
      clear hb
      go_wp2_with fail
      refine (specIntValue _ _).mono ?_
      rintro e w8 ⟨rfl, hb⟩
      have H8 := hide (below_via (below_via H7.out (by go_grown)) hb)
      obtain ⟨r0, r1, r2, rf0, rf1, rf2, rs⟩ := kept3 hb
      replace q0 := carryA_cell hb q0 qs
      replace q1 := carryA_cell hb q1 qs
      replace q2 := carryA_cell hb q2 qs
      replace qs := carryA_size hb qs
      generalize w7.heap.size = br at r0 r1 r2 rf0 rf1 rf2 rs ⊢
      clear hb rf0 rf1 rf2
      go_wp2_with fail
      refine (specIntValue _ _).mono ?_
      rintro e w9 ⟨rfl, hb⟩
      have H9 := hide (below_via H8.out hb)
      replace q0 := carry_cell hb q0 qs
      replace q1 := carry_cell hb q1 qs
      replace q2 := carry_cell hb q2 qs
      replace r0 := carry_cell hb r0 rs
      replace r1 := carry_cell hb r1 rs
      replace r2 := carry_cell hb r2 rs
      replace qs := carry_size hb qs
      replace rs := carry_size hb rs
      clear hb
      go_wp2_with fail
      refine (specCalcAr _ _ _ _ (.inl rfl) HX.out.1.wf HX.out.2.wf).mono ?_
      rintro e wa ⟨rfl, hb⟩
      rw [HD.out.1, HD.out.2.1, HD.out.2.2.1]
      have HA := hide (below_via H9.out hb)
      replace q0 := carry_cell hb q0 qs
      replace q1 := carry_cell hb q1 qs
      replace q2 := carry_cell hb q2 qs
      replace r0 := carry_cell hb r0 rs
      replace r1 := carry_cell hb r1 rs
      replace r2 := carry_cell hb r2 rs
      replace qs := carry_size hb qs
      replace rs := carry_size hb rs
      clear hb HD
      go_wp2_with fail
      all_goals go_ret
      all_goals exact ⟨rfl, below_via HA.out (by go_grown)⟩
    · have HD := divC x y hy0 hov
      obtain ⟨q, r, hq, hr, hw, hs, hp, hm⟩ := div_facts x y HX.out.1 HX.out.2 hy0 hov
      rw [hq, hr] at HD
      replace HD := hide HD
      have HS := hide (And.intro hs (And.intro hp hm))
      clear hq hr hs hp hm hov
      go_wp2_with fail
      refine (implIntValue _ _).mono ?_
      rintro e w2 ⟨rfl, hb⟩
      have H2 := hide (below_via (below_via H1.out (by go_grown)) hb)
      clear hb
      go_wp2_with fail
      refine (implIntValue _ _).mono ?_
      rintro e w3 ⟨rfl, hb⟩
      have H3 := hide (below_via (below_via H2.out (by go_grown)) hb)
      clear hb
      go_wp2_with fail
      refine (implCalcAr _ _ _ _ (.inl rfl) HX.out.1.wf HX.out.2.wf).mono ?_
      rintro e w4 ⟨rfl, hb⟩
      rw [HD.out.1, HD.out.2.1, HD.out.2.2.1]
      have H4 := hide (below_via (below_via H3.out (by go_grown)) hb)
      clear hb
      go_wp2_with fail
      refine (implIntValue _ _).mono ?_
      rintro e w5 ⟨rfl, hb⟩
      have H5 := hide (below_via (below_via H4.out (by go_grown)) hb)
      obtain ⟨q0, q1, q2, qf0, qf1, qf2, qs⟩ := kept3 hb
      generalize w4.heap.size = bq at q0 q1 q2 qf0 qf1 qf2 qs ⊢
      clear hb qf0 qf1 qf2
      go_wp2_with fail
      refine (implIntValue _ _).mono ?_
      rintro e w6 ⟨rfl, hb⟩
      have H6 := hide (below_via H5.out hb)
      replace q0 := carry_cell hb q0 qs
      replace q1 := carry_cell hb q1 qs
      replace q2 := carry_cell hb q2 qs
      replace qs := carry_size hb qs
      clear hb
      go_wp2_with fail
      refine (implCalcAr _ _ _ _ (.inr rfl) HX.out.1.wf HX.out.2.wf).mono ?_
      rintro e w7 ⟨rfl, hb⟩
      rw [HD.out.2.2.2.1, HD.out.2.2.2.2.1, HD.out.2.2.2.2.2]
      have H7 := hide (below_via H6.out hb)
      replace q0 := carry_cell hb q0 qs
      replace q1 := carry_cell hb q1 qs
      replace q2 := carry_cell hb q2 qs
      replace qs := carry_size hb qs
      clear hb
      go_wp2_with fail
      refine (specIntValue _ _).mono ?_
      rintro e w8 ⟨rfl, hb⟩
      have H8 := hide (below_via (below_via H7.out (by go_grown)) hb)
      obtain ⟨r0, r1, r2, rf0, rf1, rf2, rs⟩ := kept3 hb
      replace q0 := carryA_cell hb q0 qs
      replace q1 := carryA_cell hb q1 qs
      replace q2 := carryA_cell hb q2 qs
      replace qs := carryA_size hb qs
      generalize w7.heap.size = br at r0 r1 r2 rf0 rf1 rf2 rs ⊢
      clear hb rf0 rf1 rf2
      go_wp2_with fail
      refine (specIntValue _ _).mono ?_
      rintro e w9 ⟨rfl, hb⟩
      have H9 := hide (below_via H8.out hb)
      replace q0 := carry_cell hb q0 qs
      replace q1 := carry_cell hb q1 qs
      replace q2 := carry_cell hb q2 qs
      replace r0 := carry_cell hb r0 rs
      replace r1 := carry_cell hb r1 rs
      replace r2 := carry_cell hb r2 rs
      replace qs := carry_size hb qs
      replace rs := carry_size hb rs
      clear hb
      go_wp2_with fail
      refine (specCalcAr _ _ _ _ (.inl rfl) HX.out.1.wf HX.out.2.wf).mono ?_
      rintro e wa ⟨rfl, hb⟩
      rw [HD.out.1, HD.out.2.1, HD.out.2.2.1]
      have HA := hide (below_via H9.out hb)
      replace q0 := carry_cell hb q0 qs
      replace q1 := carry_cell hb q1 qs
      replace q2 := carry_cell hb q2 qs
      replace r0 := carry_cell hb r0 rs
      replace r1 := carry_cell hb r1 rs
      replace r2 := carry_cell hb r2 rs
      replace qs := carry_size hb qs
      replace rs := carry_size hb rs
      clear hb HD
      have hyb := HX.out.2
      unfold In at hyb
      obtain ⟨hy1, hy2⟩ := hyb
      have hpm := HS.out.2
      obtain ⟨hp, hm⟩ := hpm
      rcases Int.lt_or_gt_of_ne hy0 with hyn | hyp
      · obtain ⟨m1, m2⟩ := hm hyn
        clear hp hm
        by_cases hmin : y = -9223372036854775808
        · subst hmin
          rcases HS.out.1 with rfl | ⟨hr, hx⟩ | ⟨hr, hx⟩
          all_goals clear HS
          all_goals (try rw [Int.add_zero] at hw)
          all_goals go_wp2_with fail
          all_goals go_ret
          all_goals exact ⟨rfl, below_via HA.out (by go_grown)⟩
        · have n2 : wrap64 (wrap64 (-wrap64 (y + 1)) + 1) = -y := by simp only [wrap64]; omega
          have f1 : decide (y < 0) = true := by simpa using hyn
          have f2 : decide (0 < y) = false := by simp; omega
          rcases HS.out.1 with rfl | ⟨hr, hx⟩ | ⟨hr, hx⟩
          all_goals clear HS
          all_goals (try rw [Int.add_zero] at hw)
          all_goals go_wp2_with fail
          all_goals go_ret
          all_goals exact ⟨rfl, below_via HA.out (by go_grown)⟩
      · obtain ⟨p1, p2⟩ := hp hyp
        clear hp hm
        have n1 : wrap64 (-y) = -y := by simp only [wrap64]; omega
        have f1 : decide (0 < y) = true := by simpa using hyp
        rcases HS.out.1 with rfl | ⟨hr, hx⟩ | ⟨hr, hx⟩
        all_goals clear HS
        all_goals (try rw [Int.add_zero] at hw)
        all_goals go_wp2_with fail
        all_goals go_ret
        all_goals exact ⟨rfl, below_via HA.out (by go_grown)⟩
end Go.Proofs.Ytnamikhhbedpeaa
