/-
  DrawPutVar: a number drawn.
-/
import Derived.Test.YtnamikhhbedpeaaDrawN
namespace Go.Proofs.Ytnamikhhbedpeaa
open Go.RowKit Go.Lib

set_option maxRecDepth 100000 in
theorem drawPutVarC {B : Nat} {w : World} {a : Option Addr} {n : Nat} {z : Nat → Int} (c : Nat) (h : Code B w a n z) (hB : B ≤ w.heap.size) :
    Calls Try.prog 25 #[.slice a n c] w fun e w' => ∃ u : Nat, e = .returned (.int .u64 (u : Int)) ∧ u < 18446744073709551616 ∧ Below w.heap.size w w' := by
  go_enter Try.func25, Try.ntmps25
  go_wp2_with fail
  refine (l1NewC c (h.mono hB) (Nat.le_refl _)).mono ?_
  rintro e w1 ⟨p, rfl, hc1, hb1⟩
  have H1 := hide (And.intro hc1 hb1)
  clear hc1 hb1
  go_wp2_with fail
  refine (l1WholeC H1.out.1).mono ?_
  rintro e w2 ⟨x, rfl, x0, x1, hc2, hg2⟩
  have H2 := hide (Below.grown H1.out.2 hg2 H1.out.2.size (fun k hk => by cases hk; exact H1.out.1.low))
  clear hc2 hg2
  go_wp2_with fail
  refine (specZig x x0 x1 _).mono ?_
  rintro e w3 ⟨rfl, rfl⟩
  obtain ⟨u0, u1⟩ := zigF_in x x0 x1
  go_wp2_with fail
  go_ret
  exact ⟨(zigF x).toNat, by rw [show ((zigF x).toNat : Int) = zigF x by omega]; rfl, by omega, H2.out⟩
end Go.Proofs.Ytnamikhhbedpeaa
