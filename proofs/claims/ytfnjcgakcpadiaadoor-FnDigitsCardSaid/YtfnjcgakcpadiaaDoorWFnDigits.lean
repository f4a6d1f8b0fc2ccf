/-
  The walk of FnDigits.
-/
import Derived.Test.YtfnjcgakcpadiaaDoorDrW
import Derived.Test.YtfnjcgakcpadiaaDoorNumI
namespace Go.Proofs.YtfnjcgakcpadiaaDoor
open Go.RowKit

theorem itoa_neg_no (n : Int) (h : n < 0) : ¬ isNum ⟨(Lib.itoa n).toArray⟩ := by
  intro hn
  have hf := num_figs hn 45 (by simp [Lib.itoa, h])
  exact absurd hf (by decide)

set_option maxRecDepth 100000 in
set_option maxHeartbeats 800000 in
theorem fnDigits.walk (a : Option Addr) (n c : Nat) (zs : List Int) (w : World) (w0 : IsRow .u8 w a n c zs) (hR : Ready w) :
    Calls Tryd.prog 4 #[.slice a n c] w fun e w' => e = .returned (.bool true) ∧ Below w.heap.size w w' := by
  have hlen := w0.len_le
  have HR := hide hR
  clear hR
  by_cases hbig : 1048576 < n
  · go_enter Tryd.func4, Tryd.ntmps4
    go_wp2_with (go_at_call 7; refine (bigC _ _ _ hlen).mono ?_; rintro e w1 ⟨rfl, rfl⟩)
    all_goals go_ret
    all_goals exact ⟨rfl, by go_grown⟩
  · have HC := hide (Code.of_row w0 (by omega))
    go_enter Tryd.func4, Tryd.ntmps4
    go_wp2_with (go_at_call 7; refine (bigC _ _ _ hlen).mono ?_; rintro e w1 ⟨rfl, rfl⟩)
    refine (dDrawDigitsC c HC.out (Nat.le_refl _)).mono ?_
    rintro e w1 ⟨x, rfl, x0, x1, hb1⟩
    have H1 := hide hb1
    clear hb1
    have hD := fun w h => implDigits x x0 x1 w h
    have hS := fun w => specDigits x x0 x1 w
    have hsz : (⟨(Lib.itoa x).toArray⟩ : ByteArray).size ≤ 281474976710656 := by
      by_cases hx : 0 ≤ x
      · obtain ⟨m, rfl⟩ : ∃ m : Nat, x = (m : Int) := ⟨x.toNat, by omega⟩
        have := (numS_size m (by omega)).2
        unfold numS at this
        omega
      · obtain ⟨m, rfl⟩ : ∃ m : Nat, x = -(m : Int) := ⟨x.natAbs, by omega⟩
        have e : Lib.itoa (-(m : Int)) = 45 :: Lib.decDigits m := by unfold Lib.itoa; rw [if_pos (by omega)]; simp
        have hn := nDig_le 18 m (by omega)
        rw [e]
        show (45 :: Lib.decDigits m).length ≤ _
        rw [List.length_cons, Lib.decDigits_length]
        omega
    have hN := fun w h => implNumber ⟨(Lib.itoa x).toArray⟩ hsz w h
    by_cases hx : x < 0
    · obtain ⟨e1, e2⟩ := numN_no (itoa_neg_no x hx)
      rw [e1, e2] at hN
      clear e1 e2 hsz
      generalize (⟨(Lib.itoa x).toArray⟩ : ByteArray) = S at hD hS hN
      go_wp2_with fail
      refine (hD _ (HR.out.below H1.out).tab).mono ?_
      rintro e w2 ⟨rfl, hb2⟩
      have H2 := hide (below_via H1.out hb2)
      clear hb2
      go_wp2_with fail
      refine (hN _ (HR.out.below H2.out)).mono ?_
      rintro e w3 ⟨rfl, hb3⟩
      have H3 := hide (below_via H2.out hb3)
      clear hb3
      go_wp2_with fail
      refine (hD _ (HR.out.below H3.out).tab).mono ?_
      rintro e w4 ⟨rfl, hb4⟩
      have H4 := hide (below_via H3.out hb4)
      clear hb4
      go_wp2_with fail
      refine (hS _).mono ?_
      rintro e w5 ⟨rfl, hb5⟩
      have H5 := hide (below_via H4.out hb5)
      clear hb5 hD hS hN
      go_wp2_with fail
      all_goals go_ret
      all_goals exact ⟨rfl, H5.out⟩
    · obtain ⟨m, rfl⟩ : ∃ m : Nat, x = (m : Int) := ⟨x.toNat, by omega⟩
      obtain ⟨e1, e2⟩ := numN_yes (s := ⟨(Lib.itoa (m : Int)).toArray⟩) (n := m) (by omega) rfl
      rw [e1, e2] at hN
      clear e1 e2 hsz
      generalize (⟨(Lib.itoa (m : Int)).toArray⟩ : ByteArray) = S at hD hS hN
      go_wp2_with fail
      refine (hD _ (HR.out.below H1.out).tab).mono ?_
      rintro e w2 ⟨rfl, hb2⟩
      have H2 := hide (below_via H1.out hb2)
      clear hb2
      go_wp2_with fail
      refine (hN _ (HR.out.below H2.out)).mono ?_
      rintro e w3 ⟨rfl, hb3⟩
      have H3 := hide (below_via H2.out hb3)
      clear hb3
      go_wp2_with fail
      refine (hD _ (HR.out.below H3.out).tab).mono ?_
      rintro e w4 ⟨rfl, hb4⟩
      have H4 := hide (below_via H3.out hb4)
      clear hb4
      go_wp2_with fail
      refine (hS _).mono ?_
      rintro e w5 ⟨rfl, hb5⟩
      have H5 := hide (below_via H4.out hb5)
      clear hb5 hD hS hN
      go_wp2_with fail
      all_goals go_ret
      all_goals exact ⟨rfl, H5.out⟩
end Go.Proofs.YtfnjcgakcpadiaaDoor
