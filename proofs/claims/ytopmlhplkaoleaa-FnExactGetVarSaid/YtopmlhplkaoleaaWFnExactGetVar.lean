/-
  The walk of FnExactGetVar.
-/
import Derived.Test.YtopmlhplkaoleaaRows
import Derived.WalkKit
import Derived.WalkLawsBesides
import Derived.WalkSpells
import Derived.Handy
import Derived.Test.YtopmlhplkaoleaaM1
import Derived.Test.YtopmlhplkaoleaaB
import Derived.Test.YtopmlhplkaoleaaWGetVar
import Derived.Test.YtopmlhplkaoleaaWGetVarI
namespace Go.Proofs.Ytopmlhplkaoleaa
open Go.RowKit

set_option maxRecDepth 100000 in
theorem fnExactGetVar.walk (s : ByteArray) (x : Int) (w : World) (_ws : s.size ≤ maxLen) (wx : (Lit.int .i64 x).wf = true) :
    Calls Try.prog 7 #[.string s, .int .i64 x] w fun e w' => e = .returned (.bool true) ∧ Below w.heap.size w w' := by
  have hx := (bounds_i64 wx).2
  by_cases h : s.size ≤ 1048576
  · generalize hv : gvI s x = v
    have HV := hide hv
    have HX := hide hx
    clear hv hx wx
    go_enter Try.func7, Try.ntmps7
    go_wp2_with fail
    refine (specGetVar s x _ h).mono ?_
    rintro e w1 ⟨rfl, hb1⟩
    have H1 := hide hb1
    rw [HV.out]
    clear hb1
    go_wp2_with fail
    refine (implGetVar s x _ h (by have := HX.out; omega)).mono ?_
    rintro e w2 ⟨rfl, hb2⟩
    have H2 := hide (below_via H1.out hb2)
    rw [HV.out]
    clear hb2 H1
    go_wp2_with fail
    all_goals go_ret
    all_goals exact ⟨rfl, H2.out⟩
  · clear hx wx
    go_enter Try.func7, Try.ntmps7
    go_wp2_with fail
    all_goals go_ret
    all_goals exact ⟨rfl, by go_grown⟩
end Go.Proofs.Ytopmlhplkaoleaa
