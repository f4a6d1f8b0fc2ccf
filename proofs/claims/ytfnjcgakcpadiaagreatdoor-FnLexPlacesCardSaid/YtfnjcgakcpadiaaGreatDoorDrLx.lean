/-
  DrawLex: a source drawn.
-/
import Derived.Test.YtfnjcgakcpadiaaGreatDoorDrSrc
namespace Go.Proofs.YtfnjcgakcpadiaaGreatDoor
open Go.RowKit

set_option maxRecDepth 100000 in
theorem dDrawLexC {B : Nat} {w : World} {a : Option Addr} {n : Nat} {z : Nat → Int} (c : Nat) (h : Code B w a n z) (hB : B ≤ w.heap.size) :
    Calls Tryz.prog 18 #[.slice a n c] w fun e w' => ∃ s : ByteArray, e = .returned (.string s) ∧ s.size ≤ 2020 ∧ Below w.heap.size w w' := by
  go_enter Tryz.func18, Tryz.ntmps18
  go_wp2_with fail
  refine (l1NewC c (h.mono hB) (Nat.le_refl _)).mono ?_
  rintro e w1 ⟨p, rfl, hc1, hb1⟩
  have H1 := hide (And.intro hc1 hb1)
  clear hc1 hb1
  go_wp2_with fail
  refine (l3SourceC H1.out.1).mono ?_
  rintro e w2 ⟨s, rfl, hs, hd⟩
  have H2 := hide (hd.toBelow H1.out.2 (Nat.le_refl _) H1.out.1.low)
  clear hd
  go_wp2_with fail
  all_goals go_ret
  all_goals exact ⟨s, rfl, hs, H2.out⟩
end Go.Proofs.YtfnjcgakcpadiaaGreatDoor
