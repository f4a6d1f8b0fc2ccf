/-
  l6Pair, DrawAddNum: two whole numbers drawn.
-/
import Derived.Test.YtnamikhhbedpeaaCode
namespace Go.Proofs.Ytnamikhhbedpeaa
open Go.RowKit Go.Lib

/-- A machine integer's bounds. -/
def In (x : Int) : Prop := -9223372036854775808 ≤ x ∧ x ≤ 9223372036854775807
theorem In.wf {x : Int} (h : In x) : (Lit.int .i64 x).wf = true := by
  obtain ⟨h1, h2⟩ := h
  simp only [Lit.wf, IntKind.min, IntKind.max, IntKind.signed, IntKind.bits, Bool.and_eq_true, decide_eq_true_eq, if_true]
  omega

set_option maxRecDepth 100000 in
theorem l6PairC {B : Nat} {w : World} {a : Option Addr} {n : Nat} {z : Nat → Int} (c : Nat) (h : Code B w a n z) (hB : B ≤ w.heap.size) :
    Calls Try.prog 51 #[.slice a n c] w fun e w' => ∃ x y : Int, e = .returned (.tuple #[.int .i64 x, .int .i64 y]) ∧ In x ∧ In y ∧ Below w.heap.size w w' := by
  go_enter Try.func51, Try.ntmps51
  go_wp2_with fail
  refine (l1NewC c (h.mono hB) (Nat.le_refl _)).mono ?_
  rintro e w1 ⟨p, rfl, hc1, hb1⟩
  have H1 := hide (And.intro hc1 hb1)
  clear hc1 hb1
  go_wp2_with fail
  refine (l1WholeC H1.out.1).mono ?_
  rintro e w2 ⟨x, rfl, x0, x1, hc2, hg2⟩
  have H2 := hide (And.intro hc2 (Below.grown H1.out.2 hg2 H1.out.2.size (fun k hk => by cases hk; exact H1.out.1.low)))
  clear hc2 hg2
  go_wp2_with fail
  refine (l1WholeC H2.out.1).mono ?_
  rintro e w3 ⟨y, rfl, y0, y1, hc3, hg3⟩
  have H3 := hide (Below.grown H2.out.2 hg3 H2.out.2.size (fun k hk => by cases hk; exact H1.out.1.low))
  clear hc3 hg3
  go_wp2_with fail
  go_returns
  exact ⟨x, y, rfl, ⟨x0, x1⟩, ⟨y0, y1⟩, H3.out⟩

set_option maxRecDepth 100000 in
theorem drawAddNumC {B : Nat} {w : World} {a : Option Addr} {n : Nat} {z : Nat → Int} (c : Nat) (h : Code B w a n z) (hB : B ≤ w.heap.size) :
    Calls Try.prog 20 #[.slice a n c] w fun e w' => ∃ x y : Int, e = .returned (.tuple #[.int .i64 x, .int .i64 y]) ∧ In x ∧ In y ∧ Below w.heap.size w w' := by
  go_enter Try.func20, Try.ntmps20
  go_wp2_with fail
  refine (l6PairC c h hB).mono ?_
  rintro e w1 ⟨x, y, rfl, hx, hy, hb1⟩
  have H1 := hide hb1
  clear hb1
  go_wp2_with fail
  go_returns
  exact ⟨x, y, rfl, hx, hy, H1.out⟩
end Go.Proofs.Ytnamikhhbedpeaa
