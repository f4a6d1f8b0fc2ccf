/-
  The walk of FnMul.
-/
import Derived.Test.YtnamikhhbedpeaaDrawM
import Derived.Test.YtnamikhhbedpeaaCarry
import Derived.Test.YtnamikhhbedpeaaVals
import Derived.Test.YtnamikhhbedpeaaQ
namespace Go.Proofs.Ytnamikhhbedpeaa
open Go.RowKit Go.Lib

theorem mulN_in {a b : Int} : In (mulN a b) := by unfold mulN mulOk In; split <;> simp_all <;> omega

/-- A product is divided again. -/
theorem mul_back {x y : Int} (hx : In x) (h : mulOk x y = true) (hy : y ≠ 0) :
    arE 13 (mulN x y) y = 0 ∧ arK 13 (mulN x y) y = 1 ∧ arN 13 (mulN x y) y = x ∧ arE 14 (mulN x y) y = 0 ∧ arK 14 (mulN x y) y = 1 ∧ arN 14 (mulN x y) y = 0 := by
  have e : mulN x y = x * y := by simp [mulN, h]
  have hov : ¬ (x * y = -9223372036854775808 ∧ y = -1) := by
    rintro ⟨h1, rfl⟩
    unfold In at hx
    omega
  rw [e]
  simp [arE, arK, arN, hy, hov, Int.mul_tdiv_cancel _ hy]

set_option maxRecDepth 100000 in
set_option maxHeartbeats 2000000 in
theorem fnMul.walk (a : Option Addr) (n c : Nat) (zs : List Int) (w : World) (w0 : IsRow .u8 w a n c zs) :
    Calls Try.prog 9 #[.slice a n c] w fun e w' => e = .returned (.bool true) ∧ Below w.heap.size w w' := by
  have hlen := w0.len_le
  by_cases hbig : 1048576 < n
  · go_enter Try.func9, Try.ntmps9
    go_wp2_with (go_at_call 13; refine (bigC _ _ _ hlen).mono ?_; rintro e w1 ⟨rfl, rfl⟩)
    all_goals go_ret
    all_goals exact ⟨rfl, by go_grown⟩
  · have HC := hide (Code.of_row w0 (by omega))
    go_enter Try.func9, Try.ntmps9
    go_wp2_with (go_at_call 13; refine (bigC _ _ _ hlen).mono ?_; rintro e w1 ⟨rfl, rfl⟩)
    refine (drawMulNumC c HC.out (Nat.le_refl _)).mono ?_
    rintro e w1 ⟨x, y, rfl, hx, hy, hb1⟩
    have H1 := hide hb1
    have HX := hide (And.intro hx hy)
    clear hb1 hx hy HC hbig
    go_wp2_with fail
    refine (implMulNum x y _ HX.out.1.wf HX.out.2.wf).mono ?_
    rintro e w2 ⟨rfl, rfl⟩
    go_wp2_with fail
    refine (specMulNum x y _ HX.out.1.wf HX.out.2.wf).mono ?_
    rintro e w2 ⟨rfl, rfl⟩
    go_wp2_with fail
    refine (implMulNum y x _ HX.out.2.wf HX.out.1.wf).mono ?_
    rintro e w2 ⟨rfl, rfl⟩
    rw [mulN_comm y x, mulOk_comm y x]
    cases ho : mulOk x y
    · have e0 : mulN x y = 0 := by simp [mulN, ho]
      rw [e0]
      clear ho e0
      go_wp2_with fail
      go_ret
      exact ⟨rfl, H1.out⟩
    by_cases hy0 : y = 0
    · have e0 : mulN x y = 0 := by subst hy0; simp [mulN]
      rw [e0]
      clear ho e0
      go_wp2_with fail
      go_ret
      exact ⟨rfl, H1.out⟩
    have HD := hide (mul_back HX.out.1 ho hy0)
    have HP := hide (mulN_in (a := x) (b := y))
    clear ho
    generalize mulN x y = pr at HD HP ⊢
    go_wp2_with fail
    refine (implIntValue _ _).mono ?_
    rintro e w2 ⟨rfl, hb⟩
    have H2 := hide (below_via (below_via H1.out (by go_grown)) hb)
    clear hb
    go_wp2_with fail
    refine (implIntValue _ _).mono ?_
    rintro e w3 ⟨rfl, hb⟩
    have H3 := hide (below_via (below_via H2.out (by go_grown)) hb)
    clear hb
    go_wp2_with fail
    refine (implCalcAr _ _ _ _ (.inl rfl) HP.out.wf HX.out.2.wf).mono ?_
    rintro e w4 ⟨rfl, hb⟩
    rw [HD.out.1, HD.out.2.1, HD.out.2.2.1]
    have H4 := hide (below_via (below_via H3.out (by go_grown)) hb)
    clear hb
    go_wp2_with fail
    refine (implIntValue _ _).mono ?_
    rintro e w5 ⟨rfl, hb⟩
    have H5 := hide (below_via (below_via H4.out (by go_grown)) hb)
    obtain ⟨q0, q1, q2, qf0, qf1, qf2, qs⟩ := kept3 hb
    generalize w4.heap.size = bq at q0 q1 q2 qf0 qf1 qf2 qs ⊢
    clear hb qf0 qf1 qf2
    go_wp2_with fail
    refine (implIntValue _ _).mono ?_
    rintro e w6 ⟨rfl, hb⟩
    have H6 := hide (below_via H5.out hb)
    replace q0 := carry_cell hb q0 qs
    replace q1 := carry_cell hb q1 qs
    replace q2 := carry_cell hb q2 qs
    replace qs := carry_size hb qs
    clear hb
    go_wp2_with fail
    refine (implCalcAr _ _ _ _ (.inr rfl) HP.out.wf HX.out.2.wf).mono ?_
    rintro e w7 ⟨rfl, hb⟩
    rw [HD.out.2.2.2.1, HD.out.2.2.2.2.1, HD.out.2.2.2.2.2]
    have H7 := hide (below_via H6.out hb)
    replace q0 := carry_cell hb q0 qs
    replace q1 := carry_cell hb q1 qs
    replace q2 := carry_cell hb q2 qs
    replace qs := carry_size hb qs
    clear hb HD
    go_wp2_with fail
    generalize hW : World.alloc _ _ = W1
    have r0 : W1.cell? ⟨w7.heap.size, 0, none⟩ = some (.int .i64 1) := by rw [← hW]; simp [go_sem]
    have r1 : W1.cell? ⟨w7.heap.size, 1, none⟩ = some (.int .i64 0) := by rw [← hW]; simp [go_sem]
    have r2 : W1.cell? ⟨w7.heap.size, 2, none⟩ = some (.string ByteArray.empty) := by rw [← hW]; simp [go_sem]
    have hbW : Below w7.heap.size w7 W1 := by rw [← hW]; go_grown
    have rs : w7.heap.size < W1.heap.size := by rw [← hW]; simp
    have HW := hide (below_via H7.out hbW)
    replace q0 := carry_cell hbW q0 qs
    replace q1 := carry_cell hbW q1 qs
    replace q2 := carry_cell hbW q2 qs
    replace qs := carry_size hbW qs
    clear hW hbW
    generalize w7.heap.size = br at r0 r1 r2 rs ⊢
    have e0 := BelowOf.cell q0 qs
    have e1 := BelowOf.cell q1 qs
    have e2 := BelowOf.cell q2 qs
    have f0 := BelowOf.cell r0 rs
    have f1 := BelowOf.cell r1 rs
    have f2 := BelowOf.cell r2 rs
    refine wp_region_wq (by kernel_rfl) (by kernel_rfl) ?_
    repeat (refine WQ.step (fun K hK => ?_); go_simp; first | (refine hK _ ?_; clear hK K) | (apply Exists.intro; refine ⟨fun _ => ?_, hK _ ?_⟩; (go_at_call 40; exact Calls.below_of (specIntValue _ _)); clear hK K))
    refine WQ.nil ?_
    intro W2 hq2
    have HB2 := hide (below_via HW.out (BelowOf.of hq2))
    clear hq2
    go_wp2_with fail
    all_goals go_ret
    all_goals exact ⟨rfl, HB2.out⟩
end Go.Proofs.Ytnamikhhbedpeaa
