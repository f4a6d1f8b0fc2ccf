/-
  slices.swapRangeCmpFunc and slices.rotateCmpFunc over rows of values.
-/
import Derived.Test.YtfikgiekigbaoaaMrg
import Derived.Test.YtfikgiekigbaoaaIns
namespace Go.Proofs.Ytfikgiekigbaoaa
open Go Go.RowKit

set_option maxHeartbeats 4000000 in
set_option maxRecDepth 100000 in
theorem swapRangeC (w : World) (g cap a b n : Nat) (ps : Array Rw) (S : SegA w g ps) (hab : a + n ≤ b) (hb : b + n ≤ ps.size) (hsz : ps.size ≤ 1048576) (f : Value) :
    Calls Try.prog 65 #[.slice (some ⟨g, 0, none⟩) ps.size cap, .int .i64 (a : Int), .int .i64 (b : Int), .int .i64 (n : Int), f] w
      (fun e w' => e = .returned (.tuple #[]) ∧ ∃ qs, (∀ t, t < ps.size → atR qs t = swpF (atR ps) a b n t) ∧ SwR a (b + n) ps qs ∧ SegA w' g qs ∧ w.grownBy w' (some g)) := by
  have S0 := hide S
  clear S
  obtain ⟨m, hm⟩ : ∃ n, Hid (ps.size = n) := ⟨_, rfl⟩
  rw [hm.out] at hb hsz ⊢
  go_enter Try.func65, Try.ntmps65
  go_wp2_with fail
  go_loopw [10] (fun u wr => ∃ (i : Nat), u = .int .i64 (i : Int) ∧ i ≤ n ∧ Hid (∃ ds : Array Rw, (∀ t, t < ps.size → atR ds t = swpF (atR ps) a b i t) ∧ SwR a (b + n) ps ds ∧ SegA wr g ds ∧ w.grownBy wr (some g))) (fun u _ => n - (intOf u).toNat)
  case atStart => exact ⟨0, rfl, by omega, ps, fun t _ => (swp_zero _ _ _ _).symm, SwR.refl _ _ _, S0.out, World.grownBy.refl _ _⟩
  case round =>
    clear S0
    obtain ⟨i, rfl, hi, HO⟩ := hrel
    by_cases hlt : i < n
    · have hlt2 : (i : Int) < n := by omega
      obtain ⟨ds, D1, D2, D3, D4⟩ := HO.out
      clear HO
      have hds : ds.size = m := D2.size.trans hm.out
      have k0 := D3.cell (a + i) (by omega)
      have k1 := D3.cell (b + i) (by omega)
      have f0 := D3.free (a + i)
      have f1 := D3.free (b + i)
      obtain ⟨ax, cx, hx1, _⟩ := D3.row (a + i) (by omega)
      obtain ⟨ay, cy, hy1, _⟩ := D3.row (b + i) (by omega)
      have HDS := hide hds
      have hi1 : a + i < ds.size := by omega
      have hi2 : b + i < ds.size := by omega
      have D5 := hide (D3.swap (a + i) (b + i) hi1 hi2)
      rw [hx1] at k0 D5
      rw [hy1] at k1 D5
      generalize (atR ds (a + i)).2.length = lx at k0 D5
      generalize (atR ds (b + i)).2.length = ly at k1 D5
      have DG := hide (gTrans D4 (gTrans (seg_grown_set g (a + i) (.slice ay ly cy)) (seg_grown_set g (b + i) (.slice ax lx cx))))
      have c2 : (wr.setCell ⟨g, a + i, none⟩ (.slice ay ly cy)).cell? ⟨g, b + i, none⟩ = some (.slice ay ly cy) := (World.cell?_setCell_other _ _ _ _ (fun e => by injection e with _ e2 _; omega)).trans k1
      have DD := hide (And.intro D1 D2)
      clear D1 D2 D3 D4 hx1 hy1 hds
      have z1 : (a : Int) + (i : Int) < (m : Int) := by omega
      have z2 : (b : Int) + (i : Int) < (m : Int) := by omega
      have z3 : (0 : Int) ≤ (a : Int) + (i : Int) := by omega
      have z4 : (0 : Int) ≤ (b : Int) + (i : Int) := by omega
      have z5 : IntKind.i64.wrap ((a : Int) + (i : Int)) = (a : Int) + (i : Int) := IntWalk.i64_in _ (by omega)
      have z6 : IntKind.i64.wrap ((b : Int) + (i : Int)) = (b : Int) + (i : Int) := IntWalk.i64_in _ (by omega)
      have z7 : ((a : Int) + (i : Int)).toNat = a + i := by omega
      have z8 : ((b : Int) + (i : Int)).toNat = b + i := by omega
      go_wp2_with fail
      go_big_region
      clear c2 k0 k1 f0 f1
      generalize (wr.setCell ⟨g, a + i, none⟩ (.slice ay ly cy)).setCell ⟨g, b + i, none⟩ (.slice ax lx cx) = W3 at D5 DG ⊢
      have HF := hide (show ∃ es : Array Rw, (∀ t, t < ps.size → atR es t = swpF (atR ps) a b (i + 1) t) ∧ SwR a (b + n) ps es ∧ SegA W3.drew g es ∧ w.grownBy W3.drew (some g) from
        ⟨_, fun t ht => swp_step ps ds a b i t (by omega) (by have := hm.out; omega) (by have := HDS.out; have := hm.out; omega) DD.out.1 ht, DD.out.2.swap (a + i) (b + i) hi1 hi2 (by omega) (by omega) (by omega) (by omega), D5.out.below (Below.refl _ _).drew, gTrans DG.out (grow_of_below (Below.refl _ _).drew (some g))⟩)
      clear D5 DG DD
      go_wp2_with fail
      go_roundw
      case rel => exact ⟨i + 1, by go_num, by omega, HF.out⟩
      case measure => simp [intOf]; omega
    · have hlt2 : ¬ (i : Int) < n := by omega
      go_wp2_with fail
      go_end0
      obtain ⟨ds, d1, d2, d3, d4⟩ := HO.out
      have : i = n := by omega
      subst this
      exact ⟨rfl, ds, by rw [← hm.out]; exact d1, d2, d3, d4⟩

set_option maxHeartbeats 4000000 in
set_option maxRecDepth 100000 in
theorem rotateC (w : World) (g cap a m b : Nat) (ps : Array Rw) (S : SegA w g ps) (ham : a < m) (hmb : m < b) (hb : b ≤ ps.size) (hsz : ps.size ≤ 1048576) (f : Value) :
    Calls Try.prog 63 #[.slice (some ⟨g, 0, none⟩) ps.size cap, .int .i64 (a : Int), .int .i64 (m : Int), .int .i64 (b : Int), f] w
      (fun e w' => e = .returned (.tuple #[]) ∧ ∃ qs, (∀ t, t < ps.size → atR qs t = rotF (atR ps) a m b t) ∧ SwR a b ps qs ∧ SegA w' g qs ∧ w.grownBy w' (some g)) := by
  have S0 := hide S
  clear S
  obtain ⟨N, hN⟩ : ∃ n, Hid (ps.size = n) := ⟨_, rfl⟩
  rw [hN.out] at hb hsz ⊢
  have y1 : IntKind.i64.wrap ((m : Int) - (a : Int)) = (m : Int) - a := IntWalk.i64_in _ (by omega)
  have y2 : IntKind.i64.wrap ((b : Int) - (m : Int)) = (b : Int) - m := IntWalk.i64_in _ (by omega)
  go_enter Try.func63, Try.ntmps63
  go_wp2_with fail
  go_loopw [10, 11] (fun u v wr => ∃ (i j : Nat), u = .int .i64 (i : Int) ∧ v = .int .i64 (j : Int) ∧ 0 < i ∧ 0 < j ∧ i + a ≤ m ∧ m + j ≤ b ∧ Hid (∃ ds : Array Rw, (∀ t, t < ps.size → rotF (atR ds) (m - i) m (m + j) t = rotF (atR ps) a m b t) ∧ SwR a b ps ds ∧ SegA wr g ds ∧ w.grownBy wr (some g))) (fun u v _ => (intOf u).toNat + (intOf v).toNat)
  case atStart => exact ⟨m - a, b - m, by congr 1; omega, by congr 1; omega, by omega, by omega, by omega, by omega, ps, fun t _ => by rw [show m - (m - a) = a by omega, show m + (b - m) = b by omega], SwR.refl _ _ _, S0.out, World.grownBy.refl _ _⟩
  case round =>
    clear S0
    obtain ⟨i, j, rfl, rfl, hi, hj, hia, hjb, HO⟩ := hrel
    obtain ⟨ds, D1, D2, D3, D4⟩ := HO.out
    clear HO
    have hds : ds.size = N := D2.size.trans hN.out
    have x1 : IntKind.i64.wrap ((m : Int) - (i : Int)) = (m : Int) - i := IntWalk.i64_in _ (by omega)
    by_cases hij : i = j
    · subst hij
      have hC := hide (swapRangeC wr g cap (m - i) m i ds D3 (by omega) (by omega) (by omega) f)
      have HD := hide (And.intro D1 (And.intro D2 D4))
      rw [hds, show (((m - i : Nat)) : Int) = (m : Int) - i by omega] at hC
      clear D1 D2 D3 D4 hds
      go_wp2_with fail
      refine hC.out.mono ?_
      rintro e w2 ⟨rfl, qs, q1, q2, q3, q4⟩
      have HQ := hide (And.intro q1 (And.intro q2 (And.intro q3 q4)))
      clear q1 q2 q3 q4 hC
      go_wp2_with fail
      go_end0
      refine ⟨rfl, qs, fun t ht => ?_, HD.out.2.1.trans (HQ.out.2.1.mono (by omega) (by omega)), HQ.out.2.2.1, gTrans HD.out.2.2 HQ.out.2.2.2⟩
      rw [HQ.out.1 t ht, rot_end _ _ _ _ (by omega), HD.out.1 t (by rw [hN.out]; exact ht)]
    · have hne : ¬ (i : Int) = (j : Int) := by omega
      have hnb : ((i : Int) == (j : Int)) = false := by simpa using hne
      by_cases hgt : j < i
      · have hgt2 : (j : Int) < (i : Int) := by omega
        have hC := hide (swapRangeC wr g cap (m - i) m j ds D3 (by omega) (by omega) (by omega) f)
        have HD := hide (And.intro D1 (And.intro D2 D4))
        have x2 : IntKind.i64.wrap ((i : Int) - (j : Int)) = (i : Int) - j := IntWalk.i64_in _ (by omega)
        rw [hds, show (((m - i : Nat)) : Int) = (m : Int) - i by omega] at hC
        have HDS := hide hds
        clear D1 D2 D3 D4 hds hij
        go_wp2_with fail
        refine hC.out.mono ?_
        rintro e w2 ⟨rfl, qs, q1, q2, q3, q4⟩
        have HF := hide (show ∃ ds : Array Rw, (∀ t, t < ps.size → rotF (atR ds) (m - (i - j)) m (m + j) t = rotF (atR ps) a m b t) ∧ SwR a b ps ds ∧ SegA w2 g ds ∧ w.grownBy w2 (some g) from
          ⟨qs, fun t ht => by
            rw [show m - (i - j) = m - i + j by omega, rot_step1 (atR ds) (atR qs) i j m t N hj hgt (by omega) (by omega) (by rw [← hN.out]; exact ht) q1]
            exact HD.out.1 t ht, HD.out.2.1.trans (q2.mono (by omega) (by omega)), q3, gTrans HD.out.2.2 q4⟩)
        clear q1 q2 q3 q4 hC HD
        go_wp2_with fail
        go_roundw
        case rel => exact ⟨i - j, j, by congr 1; omega, rfl, by omega, hj, by omega, hjb, HF.out⟩
        case measure => simp [intOf]; omega
      · have hgt2 : ¬ (j : Int) < (i : Int) := by omega
        have hlt3 : (i : Int) < (j : Int) := by omega
        have hC := hide (swapRangeC wr g cap (m - i) (m + j - i) i ds D3 (by omega) (by omega) (by omega) f)
        have HD := hide (And.intro D1 (And.intro D2 D4))
        have x2 : IntKind.i64.wrap ((j : Int) - (i : Int)) = (j : Int) - i := IntWalk.i64_in _ (by omega)
        have x3 : IntKind.i64.wrap ((m : Int) + (j : Int)) = (m : Int) + j := IntWalk.i64_in _ (by omega)
        have x4 : IntKind.i64.wrap ((m : Int) + (j : Int) - (i : Int)) = (m : Int) + j - i := IntWalk.i64_in _ (by omega)
        rw [hds, show (((m - i : Nat)) : Int) = (m : Int) - i by omega, show (((m + j - i : Nat)) : Int) = (m : Int) + j - i by omega] at hC
        have HDS := hide hds
        clear D1 D2 D3 D4 hds hij
        go_wp2_with fail
        refine hC.out.mono ?_
        rintro e w2 ⟨rfl, qs, q1, q2, q3, q4⟩
        have HF := hide (show ∃ ds : Array Rw, (∀ t, t < ps.size → rotF (atR ds) (m - i) m (m + (j - i)) t = rotF (atR ps) a m b t) ∧ SwR a b ps ds ∧ SegA w2 g ds ∧ w.grownBy w2 (some g) from
          ⟨qs, fun t ht => by
            rw [rot_step2 (atR ds) (atR qs) i j m t N hi (by omega) (by omega) (by omega) (by rw [← hN.out]; exact ht) q1]
            exact HD.out.1 t ht, HD.out.2.1.trans (q2.mono (by omega) (by omega)), q3, gTrans HD.out.2.2 q4⟩)
        clear q1 q2 q3 q4 hC HD
        go_wp2_with fail
        go_roundw
        case rel => exact ⟨i, j - i, rfl, by congr 1; omega, hi, by omega, hia, by omega, HF.out⟩
        case measure => simp [intOf]; omega
end Go.Proofs.Ytfikgiekigbaoaa
