/-
  The walk of FnExactParts.
-/
import Derived.Test.YtopmlhplkaoleaaRows
import Derived.WalkKit
import Derived.WalkLawsBesides
import Derived.WalkSpells
import Derived.Handy
import Derived.Deep.Light
import Derived.Test.YtopmlhplkaoleaaM1
import Derived.Test.YtopmlhplkaoleaaB
import Derived.Test.YtopmlhplkaoleaaWParts
import Derived.Test.YtopmlhplkaoleaaStrs
namespace Go.Proofs.Ytopmlhplkaoleaa
open Go.RowKit Go.Lib

set_option maxHeartbeats 800000 in
theorem fnExactParts.walk (s : ByteArray) (b : Int) (w : World) (_ws : s.size ≤ maxLen) (_wb : (Lit.int .u8 b).wf = true) :
    Calls Try.prog 8 #[.string s, .int .u8 b] w fun e w' => e = .returned (.bool true) ∧ Below w.heap.size w w' := by
  by_cases h : s.size ≤ 1048576
  · have hn := pfx_len b s s.size 0 0 (by omega)
    generalize hp : pfx b s 0 0 = l at hn
    have HP := hide hp
    clear hp
    generalize hnl : l.length = n at hn
    have HN := hide hnl
    clear hnl
    go_enter Try.func8, Try.ntmps8
    go_wp2_with fail
    refine (specParts s b _ h).mono ?_
    rintro e w1 ⟨v, rfl, ho, hnn, hb1⟩
    rw [HP.out, HN.out] at ho
    obtain ⟨g0, c0, rfl, hg0, hg0', _⟩ := owns_form ho hnn
    have hs0 := StrsF.of_owns ho
    have H1 := hide (And.intro hs0 hb1)
    clear ho hnn hs0 hb1
    go_wp2_with fail
    refine (implParts s b _ h).mono ?_
    rintro e w2 ⟨v, rfl, ho, hnn, hb2⟩
    rw [HP.out, HN.out] at ho
    obtain ⟨g1, c1, rfl, hg1, hg1', _⟩ := owns_form ho hnn
    have hs1 := StrsF.of_owns ho
    have hs0 := H1.out.1.below hb2
    have hbA := below_via H1.out.2 hb2
    have H2 := hide (And.intro hs0 (And.intro hs1 hbA))
    clear ho hnn hs0 hs1 hb2 hbA H1
    go_wp2_with fail
    refine (eqStringSC H2.out.2.1 H2.out.1 (by omega)).mono ?_
    rintro e w3 ⟨rfl, hb3⟩
    have H3 := hide (And.intro (H2.out.1.below hb3) (And.intro (H2.out.2.1.below hb3) (below_via H2.out.2.2 hb3)))
    clear hb3 H2
    go_wp2_with fail
    refine (markStringSC H3.out.2.1 (by omega) _ (by omega) (by omega)).mono ?_
    rintro e w4 ⟨rfl, hs4, hg4⟩
    have hbB := Below.grown H3.out.2.2 hg4 H3.out.2.2.size (fun k hk => by cases hk; omega)
    have H4 := hide (And.intro (H3.out.1.other hg4 (by omega)) (And.intro hs4 hbB))
    clear hs4 hg4 hbB H3
    go_wp2_with fail
    refine (heldStringSC H4.out.2.1 (by omega) (by omega) (by omega)).mono ?_
    rintro e w5 ⟨rfl, hb5⟩
    have H5 := hide (And.intro (H4.out.1.below hb5) (And.intro (H4.out.2.1.below hb5) (below_via H4.out.2.2 hb5)))
    clear hb5 H4
    go_wp2_with fail
    refine (implParts s b _ h).mono ?_
    rintro e w6 ⟨v, rfl, ho, hnn, hb6⟩
    rw [HP.out, HN.out] at ho
    obtain ⟨g2, c2, rfl, hg2, hg2', _⟩ := owns_form ho hnn
    have hs2 := StrsF.of_owns ho
    have H6 := hide (And.intro (H5.out.1.below hb6) (And.intro (H5.out.2.1.below hb6) (And.intro hs2 (below_via H5.out.2.2 hb6))))
    clear ho hnn hs2 hb6 H5
    go_wp2_with fail
    refine (eqStringSC H6.out.2.2.1 H6.out.1 (by omega)).mono ?_
    rintro e w7 ⟨rfl, hb7⟩
    have H7 := hide (And.intro (H6.out.2.1.below hb7) (below_via H6.out.2.2.2 hb7))
    clear hb7 H6
    go_wp2_with fail
    refine (heldStringSC H7.out.1 (by omega) (by omega) (by omega)).mono ?_
    rintro e w8 ⟨rfl, hb8⟩
    have H8 := hide (below_via H7.out.2 hb8)
    clear hb8 H7
    go_wp2_with fail
    all_goals go_ret
    all_goals exact ⟨rfl, H8.out⟩
  · go_enter Try.func8, Try.ntmps8
    go_wp2
    all_goals go_ret
    all_goals exact ⟨rfl, by go_grown⟩
end Go.Proofs.Ytopmlhplkaoleaa
