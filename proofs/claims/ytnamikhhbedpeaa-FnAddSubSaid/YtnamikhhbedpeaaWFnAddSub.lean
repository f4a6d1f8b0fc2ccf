/-
  The walk of FnAddSub.
-/
import Derived.Test.YtnamikhhbedpeaaDrawP
import Derived.Test.YtnamikhhbedpeaaWAddSub
namespace Go.Proofs.Ytnamikhhbedpeaa
open Go.RowKit Go.Lib

theorem addN_comm (a b : Int) : addN b a = addN a b := by unfold addN addOk; rw [Int.add_comm b a]
theorem addOk_comm (a b : Int) : addOk b a = addOk a b := by unfold addOk; rw [Int.add_comm b a]
theorem addN_in {a b : Int} : In (addN a b) := by unfold addN addOk In; split <;> simp_all <;> omega
theorem subN_in {a b : Int} : In (subN a b) := by unfold subN subOk In; split <;> simp_all <;> omega

theorem add_sub {x y : Int} (hx : In x) (h : addOk x y = true) : subN (addN x y) y = x ∧ subOk (addN x y) y = true := by
  have e : addN x y = x + y := by simp [addN, h]
  have ho : subOk (x + y) y = true := by
    unfold In at hx
    simp only [subOk, Bool.and_eq_true, decide_eq_true_eq]
    omega
  rw [e, subN, ho, if_pos rfl]
  exact ⟨by omega, rfl⟩

theorem sub_add {x y : Int} (hx : In x) (h : subOk x y = true) : addN (subN x y) y = x ∧ addOk (subN x y) y = true := by
  have e : subN x y = x - y := by simp [subN, h]
  have ho : addOk (x - y) y = true := by
    unfold In at hx
    simp only [addOk, Bool.and_eq_true, decide_eq_true_eq]
    omega
  rw [e, addN, ho, if_pos rfl]
  exact ⟨by omega, rfl⟩

set_option maxRecDepth 100000 in
set_option maxHeartbeats 800000 in
theorem fnAddSub.walk (a : Option Addr) (n c : Nat) (zs : List Int) (w : World) (w0 : IsRow .u8 w a n c zs) :
    Calls Try.prog 5 #[.slice a n c] w fun e w' => e = .returned (.bool true) ∧ Below w.heap.size w w' := by
  have hlen := w0.len_le
  by_cases hbig : 1048576 < n
  · go_enter Try.func5, Try.ntmps5
    go_wp2_with (go_at_call 13; refine (bigC _ _ _ hlen).mono ?_; rintro e w1 ⟨rfl, rfl⟩)
    all_goals go_ret
    all_goals exact ⟨rfl, by go_grown⟩
  · have HC := hide (Code.of_row w0 (by omega))
    go_enter Try.func5, Try.ntmps5
    go_wp2_with (go_at_call 13; refine (bigC _ _ _ hlen).mono ?_; rintro e w1 ⟨rfl, rfl⟩)
    refine (drawAddNumC c HC.out (Nat.le_refl _)).mono ?_
    rintro e w1 ⟨x, y, rfl, hx, hy, hb1⟩
    have H1 := hide hb1
    have HX := hide (And.intro hx hy)
    clear hb1 hx hy HC hbig
    go_wp2_with fail
    refine (implAdd x y _ HX.out.1.wf HX.out.2.wf).mono ?_
    rintro e w2 ⟨rfl, rfl⟩
    go_wp2_with fail
    refine (specAdd x y _ HX.out.1.wf HX.out.2.wf).mono ?_
    rintro e w2 ⟨rfl, rfl⟩
    go_wp2_with fail
    refine (implAdd y x _ HX.out.2.wf HX.out.1.wf).mono ?_
    rintro e w2 ⟨rfl, rfl⟩
    rw [addN_comm x y, addOk_comm x y]
    go_wp2_with fail
    refine (implSub x y _ HX.out.1.wf HX.out.2.wf).mono ?_
    rintro e w2 ⟨rfl, rfl⟩
    go_wp2_with fail
    refine (specSub x y _ HX.out.1.wf HX.out.2.wf).mono ?_
    rintro e w2 ⟨rfl, rfl⟩
    cases ho : addOk x y <;> cases hs : subOk x y
    · have hs0 : subN x y = 0 := by simp [subN, hs]
      rw [hs0]
      clear ho hs hs0
      go_wp2_with fail
      go_ret
      exact ⟨rfl, H1.out⟩
    · have hb := hide (sub_add HX.out.1 hs)
      clear ho hs
      go_wp2_with fail
      refine (implAdd (subN x y) y _ subN_in.wf HX.out.2.wf).mono ?_
      rintro e w2 ⟨rfl, rfl⟩
      rw [hb.out.1, hb.out.2]
      go_wp2_with fail
      all_goals go_ret
      all_goals exact ⟨rfl, H1.out⟩
    · have hs0 : subN x y = 0 := by simp [subN, hs]
      have hb := hide (add_sub HX.out.1 ho)
      rw [hs0]
      clear ho hs hs0
      go_wp2_with fail
      refine (implSub (addN x y) y _ addN_in.wf HX.out.2.wf).mono ?_
      rintro e w2 ⟨rfl, rfl⟩
      rw [hb.out.1, hb.out.2]
      go_wp2_with fail
      all_goals go_ret
      all_goals exact ⟨rfl, H1.out⟩
    · have hb := hide (add_sub HX.out.1 ho)
      have hb' := hide (sub_add HX.out.1 hs)
      clear ho hs
      go_wp2_with fail
      refine (implSub (addN x y) y _ addN_in.wf HX.out.2.wf).mono ?_
      rintro e w2 ⟨rfl, rfl⟩
      rw [hb.out.1, hb.out.2]
      go_wp2_with fail
      refine (implAdd (subN x y) y _ subN_in.wf HX.out.2.wf).mono ?_
      rintro e w2 ⟨rfl, rfl⟩
      rw [hb'.out.1, hb'.out.2]
      go_wp2_with fail
      all_goals go_ret
      all_goals exact ⟨rfl, H1.out⟩
end Go.Proofs.Ytnamikhhbedpeaa
