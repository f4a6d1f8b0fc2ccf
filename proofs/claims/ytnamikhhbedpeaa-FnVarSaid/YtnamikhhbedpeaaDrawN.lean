/-
  DrawZig, DrawPutVar: a whole number drawn.
-/
import Derived.Test.YtnamikhhbedpeaaCode
import Derived.Test.YtnamikhhbedpeaaZigC
namespace Go.Proofs.Ytnamikhhbedpeaa
open Go.RowKit Go.Lib

set_option maxRecDepth 100000 in
theorem drawZigC {B : Nat} {w : World} {a : Option Addr} {n : Nat} {z : Nat → Int} (c : Nat) (h : Code B w a n z) (hB : B ≤ w.heap.size) :
    Calls Try.prog 16 #[.slice a n c] w fun e w' => ∃ x : Int, e = .returned (.int .i64 x) ∧ -9223372036854775808 ≤ x ∧ x ≤ 9223372036854775807 ∧ Below w.heap.size w w' := by
  go_enter Try.func16, Try.ntmps16
  go_wp2_with fail
  refine (l1NewC c (h.mono hB) (Nat.le_refl _)).mono ?_
  rintro e w1 ⟨p, rfl, hc1, hb1⟩
  have H1 := hide (And.intro hc1 hb1)
  clear hc1 hb1
  go_wp2_with fail
  refine (l1WholeC H1.out.1).mono ?_
  rintro e w2 ⟨x, rfl, x0, x1, hc2, hg2⟩
  have H2 := hide (Below.grown H1.out.2 hg2 H1.out.2.size (fun k hk => by cases hk; exact H1.out.1.low))
  clear hc2 hg2
  go_wp2_with fail
  go_ret
  exact ⟨x, rfl, x0, x1, H2.out⟩
end Go.Proofs.Ytnamikhhbedpeaa
