/-
  slices.insertionSortCmpFunc over rows of values.
-/
import Derived.Test.YtfikgiekigbaoaaSeg
import Derived.Test.YtfikgiekigbaoaaOrdR
import Derived.Test.YtfikgiekigbaoaaQ
import Derived.BigQuiet
import Derived.BigRegion
import Derived.Deep.LoopGhost
namespace Go.Proofs.Ytfikgiekigbaoaa
open Go Go.RowKit

/-- What the inner loop keeps: all but the one under way ascend; it is no more than what lies behind it. -/
def AscBut (a i j : Nat) (ps : Array Rw) : Prop := (∀ k l, a ≤ k → k < l → l ≤ i → l < ps.size → k ≠ j → l ≠ j → ordR (atR ps k).2 (atR ps l).2 ≤ 0) ∧ (∀ l, j < l → l ≤ i → l < ps.size → ordR (atR ps j).2 (atR ps l).2 ≤ 0)
theorem AscBut.start {a i : Nat} {ps : Array Rw} (h : Asc a i ps) : AscBut a i i ps := ⟨fun k l h1 h2 h3 h4 _ h6 => h k l h1 h2 (by omega) h4, fun l h1 h2 => absurd h2 (by omega)⟩
theorem AscBut.swap {a i jp : Nat} {ps : Array Rw} (h : AscBut a i (jp + 1) ps) (hj : jp + 1 < ps.size) (hlt : ordR (atR ps (jp + 1)).2 (atR ps jp).2 ≤ 0) (ha : a ≤ jp) (hi : jp + 1 ≤ i) :
    AscBut a i jp (ps.swap (jp + 1) jp hj (by omega)) := by
  refine ⟨fun k l h1 h2 h3 h4 h5 h6 => ?_, fun l h1 h2 h3 => ?_⟩
  · rw [Array.size_swap] at h4
    rw [atR_swap _ _ _ _ _ _ (by omega), atR_swap _ _ _ _ _ _ h4]
    by_cases e1 : k = jp + 1
    · rw [if_pos e1, if_neg (by omega), if_neg (by omega)]
      exact h.1 jp l ha (by omega) h3 h4 (by omega) (by omega)
    · rw [if_neg e1, if_neg h5]
      by_cases e2 : l = jp + 1
      · rw [if_pos e2]
        exact h.1 k jp h1 (by omega) (by omega) (by omega) (by omega) (by omega)
      · rw [if_neg e2, if_neg h6]
        exact h.1 k l h1 h2 h3 h4 e1 e2
  · rw [Array.size_swap] at h3
    rw [atR_swap _ _ _ _ _ jp (by omega), atR_swap _ _ _ _ _ l h3, if_neg (by omega), if_pos rfl]
    by_cases e2 : l = jp + 1
    · rw [if_pos e2]; exact hlt
    · rw [if_neg e2, if_neg (by omega)]
      exact h.2 l (by omega) h2 h3
theorem AscBut.stop {a i j : Nat} {ps : Array Rw} (h : AscBut a i j ps) (hs : j ≤ a ∨ ∃ jp, j = jp + 1 ∧ a ≤ jp ∧ ordR (atR ps jp).2 (atR ps j).2 ≤ 0) (haj : a ≤ j) : Asc a (i + 1) ps := by
  intro k l h1 h2 h3 h4
  by_cases e1 : k = j
  · subst e1; exact h.2 l h2 (by omega) h4
  · by_cases e2 : l = j
    · subst e2
      rcases hs with hs | ⟨jp, rfl, h6, h7⟩
      · omega
      · by_cases e3 : k = jp
        · subst e3; exact h7
        · exact ordR_trans (h.1 k jp h1 (by omega) (by omega) (by omega) e1 (by omega)) h7
    · exact h.1 k l h1 h2 (by omega) h4 e1 e2

theorem gTrans {a b c : World} {row : Option Nat} (h : a.grownBy b row) (k : b.grownBy c row) : a.grownBy c row := ⟨k.os.trans h.os, k.tape.trans h.tape, k.output.trans h.output, Nat.le_trans h.size k.size, fun i hi hne => (k.block i (Nat.lt_of_lt_of_le hi h.size) hne).trans (h.block i hi hne)⟩
theorem grow_of_below {w w' : World} (h : Below w.heap.size w w') (row : Option Nat) : w.grownBy w' row := ⟨h.os, h.tape, h.output, h.size, fun k hk _ => h.block k hk⟩
theorem ordR_le_of {x y : List ValF} (h : ¬ ordR x y < 0) : ordR y x ≤ 0 := by rw [ordR_swap]; omega

set_option maxHeartbeats 4000000 in
set_option maxRecDepth 100000 in
theorem insertC (w : World) (g cap a b : Nat) (ps : Array Rw) (S : SegA w g ps) (hab : a ≤ b) (hb : b ≤ ps.size) (hsz : ps.size ≤ 1048576) :
    Calls Try.prog 55 #[.slice (some ⟨g, 0, none⟩) ps.size cap, .int .i64 (a : Int), .int .i64 (b : Int), .func (.func 15) #[] #[]] w
      (fun e w' => e = .returned (.tuple #[]) ∧ ∃ qs, SwR a b ps qs ∧ Asc a b qs ∧ SegA w' g qs ∧ w.grownBy w' (some g)) := by
  have S0 := hide S
  clear S
  obtain ⟨n, hn⟩ : ∃ n, Hid (ps.size = n) := ⟨_, rfl⟩
  rw [hn.out] at hb hsz ⊢
  have wa1 : IntKind.i64.wrap ((a : Int) + 1) = (a : Int) + 1 := IntWalk.i64_in _ (by omega)
  go_enter Try.func55, Try.ntmps55
  go_wp2_with fail
  go_loopw [8] (fun u wr => ∃ (i : Nat), u = .int .i64 ((i : Int) + 1) ∧ a ≤ i ∧ (i < b ∨ i = a) ∧ Hid (∃ ds : Array Rw, SwR a b ps ds ∧ Asc a (i + 1) ds ∧ SegA wr g ds ∧ w.grownBy wr (some g))) (fun u _ => b + 1 - (intOf u).toNat)
  case atStart => exact ⟨a, rfl, by omega, .inr rfl, ps, SwR.refl _ _ _, fun i j h1 h2 h3 => absurd h3 (by omega), S0.out, World.grownBy.refl _ _⟩
  case round =>
    clear S0
    obtain ⟨i0, rfl, hai, hib, HO⟩ := hrel
    by_cases hlt : i0 + 1 < b
    · have hlt2 : (i0 : Int) + 1 < b := by omega
      have wi1 : IntKind.i64.wrap ((i0 : Int) + 1 + 1) = (i0 : Int) + 1 + 1 := IntWalk.i64_in _ (by omega)
      go_wp2_with fail
      go_loopw [9] (fun u wr => ∃ (j : Nat), u = .int .i64 (j : Int) ∧ a ≤ j ∧ j ≤ i0 + 1 ∧ Hid (∃ ds : Array Rw, SwR a b ps ds ∧ AscBut a (i0 + 1) j ds ∧ SegA wr g ds ∧ w.grownBy wr (some g))) (fun u _ => (intOf u).toNat)
      case atStart => exact ⟨i0 + 1, by go_num, by omega, Nat.le_refl _, let ⟨ds, h1, h2, h3, h4⟩ := HO.out; ⟨ds, h1, AscBut.start h2, h3, h4⟩⟩
      case round =>
        clear HO
        obtain ⟨j, rfl, haj, hji, HI⟩ := hrel
        by_cases hja : a < j
        · obtain ⟨jp, rfl⟩ : ∃ q, j = q + 1 := ⟨j - 1, by omega⟩
          obtain ⟨ds, D1, D2, D3, D4⟩ := HI.out
          clear HI
          have hds : ds.size = n := D1.size.trans hn.out
          have k0 := D3.cell (jp + 1) (by omega)
          have k1 := D3.cell jp (by omega)
          have f0 := D3.free (jp + 1)
          have f1 := D3.free jp
          obtain ⟨ax, cx, hx1, hx2, hx3⟩ := D3.row (jp + 1) (by omega)
          obtain ⟨ay, cy, hy1, hy2, hy3⟩ := D3.row jp (by omega)
          have hC := hide (fun p : BelowOf wr => Calls.below_of (p := p) (implOrderRow p.h cx cy hx2 hy2 (Nat.le_refl _) (Nat.le_refl _)))
          rw [hx1] at k0
          rw [hy1] at k1
          obtain ⟨m, hm⟩ : ∃ m, Hid ((atR ds (jp + 1)).2.length = m) := ⟨_, rfl⟩
          obtain ⟨m', hm'⟩ : ∃ m, Hid ((atR ds jp).2.length = m) := ⟨_, rfl⟩
          obtain ⟨r, hr⟩ : ∃ r, Hid (ordR (atR ds (jp + 1)).2 (atR ds jp).2 = r) := ⟨_, rfl⟩
          rw [hm.out, hm'.out, hr.out] at hC
          rw [hm.out] at k0 hx1
          rw [hm'.out] at k1 hy1
          have g0 := BelowOf.cell k0 D3.lt
          have g1 := BelowOf.cell k1 D3.lt
          have DD := hide (And.intro D1 (And.intro D2 (And.intro D3 D4)))
          have HX := hide (And.intro hx1 hy1)
          have HDS := hide hds
          clear D1 D2 D3 D4 hx1 hx2 hx3 hy1 hy2 hy3 hds k0 k1
          have z1 : (a : Int) < (jp : Int) + 1 := by omega
          have z2 : (jp : Int) + 1 < (n : Int) := by omega
          have z3 : (jp : Int) < (n : Int) := by omega
          have z4 : (0 : Int) ≤ (jp : Int) + 1 := by omega
          have z5 : IntKind.i64.wrap (jp : Int) = (jp : Int) := IntWalk.i64_in _ (by omega)
          have z6 : IntKind.i64.wrap (((jp + 1 : Nat) : Int) - 1) = (jp : Int) := by rw [show (((jp + 1 : Nat) : Int) - 1) = (jp : Int) by omega]; exact z5
          by_cases hneg : r < 0
          · have hd : decide (r < 0) = true := decide_eq_true hneg
            go_wp2_with fail
            refine wp_region_wq (by kernel_rfl) (by kernel_rfl) ?_
            repeat (refine WQ.step (fun K hK => ?_); go_simp; first | (refine hK _ ?_; clear hK K) | (apply Exists.intro; refine ⟨fun _ => ?_, hK _ ?_⟩; (exact hC.out _); clear hK K))
            refine WQ.nil ?_
            intro W2 hq2
            have HB2 := hide (BelowOf.of hq2)
            clear hq2 g0 g1
            have D3 := hide (DD.out.2.2.1.below HB2.out)
            have k0 := D3.out.cell (jp + 1) (by have := HDS.out; omega)
            have k1 := D3.out.cell jp (by have := HDS.out; omega)
            have q0 := D3.out.free (jp + 1)
            have q1 := D3.out.free jp
            have D5 := hide (D3.out.swap (jp + 1) jp (by have := HDS.out; omega) (by have := HDS.out; omega))
            rw [HX.out.1] at k0 D5
            rw [HX.out.2] at k1 D5
            have DG := hide (gTrans DD.out.2.2.2 (gTrans (grow_of_below HB2.out (some g)) (gTrans (seg_grown_set g (jp + 1) (.slice ay m' cy)) (seg_grown_set g jp (.slice ax m cx)))))
            have c2 : (W2.setCell ⟨g, jp + 1, none⟩ (.slice ay m' cy)).cell? ⟨g, jp, none⟩ = some (.slice ay m' cy) := (World.cell?_setCell_other _ _ _ _ (fun e => by injection e with _ e2 _; omega)).trans k1
            have DP := hide (And.intro DD.out.1 (And.intro DD.out.2.1 (hr.out)))
            clear HX hC hd DD HB2 D3
            have D6 := hide (And.intro D5.out DG.out)
            clear D5 DG
            go_wp2_with fail
            go_big_region
            clear c2 k0 k1 q0 q1
            generalize (W2.setCell ⟨g, jp + 1, none⟩ (.slice ay m' cy)).setCell ⟨g, jp, none⟩ (.slice ax m cx) = W3 at D6 ⊢
            have HF := hide (show ∃ es : Array Rw, SwR a b ps es ∧ AscBut a (i0 + 1) jp es ∧ SegA W3.drew g es ∧ w.grownBy W3.drew (some g) from
              ⟨_, DP.out.1.swap (jp + 1) jp (by have := HDS.out; omega) (by have := HDS.out; omega) (by omega) (by omega) (by omega) (by omega), AscBut.swap DP.out.2.1 (by have := HDS.out; omega) (by rw [DP.out.2.2]; omega) (by omega) hji, D6.out.1.below (Below.refl _ _).drew, gTrans D6.out.2 (grow_of_below (Below.refl _ _).drew (some g))⟩)
            clear D6 DP
            go_wp2_with fail
            go_roundw
            case rel => exact ⟨jp, by go_num, by omega, by omega, HF.out⟩
            case measure => simp [intOf]
          · have hd : decide (r < 0) = false := decide_eq_false hneg
            go_wp2_with fail
            refine wp_region_wq (by kernel_rfl) (by kernel_rfl) ?_
            repeat (refine WQ.step (fun K hK => ?_); go_simp; first | (refine hK _ ?_; clear hK K) | (apply Exists.intro; refine ⟨fun _ => ?_, hK _ ?_⟩; (exact hC.out _); clear hK K))
            refine WQ.nil ?_
            intro W2 hq2
            have HB2 := hide (BelowOf.of hq2)
            clear hq2 g0 g1
            have HF := hide (show ∃ es : Array Rw, SwR a b ps es ∧ Asc a (i0 + 1 + 1) es ∧ SegA W2 g es ∧ w.grownBy W2 (some g) from ⟨ds, DD.out.1, AscBut.stop DD.out.2.1 (.inr ⟨jp, rfl, by omega, ordR_le_of (by rw [hr.out]; omega)⟩) (by omega), DD.out.2.2.1.below HB2.out, gTrans DD.out.2.2.2 (grow_of_below HB2.out (some g))⟩)
            clear HX hC hd DD HB2
            go_wp2_with fail
            go_roundw
            case rel => exact ⟨i0 + 1, by go_num, by omega, .inl hlt, HF.out⟩
            case measure => simp [intOf]; omega
        · have hz : ¬ (a : Int) < (j : Int) := by omega
          have hz2 : decide ((a : Int) < (j : Int)) = false := decide_eq_false hz
          go_wp2_with fail
          refine wp_region_wq (by kernel_rfl) (by kernel_rfl) ?_
          repeat (refine WQ.step (fun K hK => ?_); go_simp; first | (refine hK _ ?_; clear hK K) | (apply Exists.intro; refine ⟨fun _ => ?_, hK _ ?_⟩; (fail); clear hK K))
          refine WQ.nil ?_
          intro W2 hq2
          have HB2 := hide (BelowOf.of hq2)
          clear hq2
          have HF := hide (show ∃ es : Array Rw, SwR a b ps es ∧ Asc a (i0 + 1 + 1) es ∧ SegA W2 g es ∧ w.grownBy W2 (some g) from let ⟨ds, d1, d2, d3, d4⟩ := HI.out; ⟨ds, d1, AscBut.stop d2 (.inl (by omega)) haj, d3.below HB2.out, gTrans d4 (grow_of_below HB2.out (some g))⟩)
          clear HI HB2
          go_wp2_with fail
          go_roundw
          case rel => exact ⟨i0 + 1, by go_num, by omega, .inl hlt, HF.out⟩
          case measure => simp [intOf]; omega
    · have hlt2 : ¬ (i0 : Int) + 1 < b := by omega
      go_wp2_with fail
      go_end0
      obtain ⟨ds, d1, d2, d3, d4⟩ := HO.out
      exact ⟨rfl, ds, d1, fun i j h1 h2 h3 h4 => d2 i j h1 h2 (by omega) h4, d3, d4⟩
end Go.Proofs.Ytfikgiekigbaoaa
