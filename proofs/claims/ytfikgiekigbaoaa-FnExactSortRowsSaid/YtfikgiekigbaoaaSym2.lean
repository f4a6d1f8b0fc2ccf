/-
  slices.symMergeCmpFunc over rows of values: many against one.
-/
import Derived.Test.YtfikgiekigbaoaaSym1
namespace Go.Proofs.Ytfikgiekigbaoaa
open Go Go.RowKit

set_option maxHeartbeats 4000000 in
set_option maxRecDepth 100000 in
theorem sym2 (w : World) (g cap a m b : Nat) (ps : Array Rw) (S : SegA w g ps) (ham : a + 1 < m) (hbm : b = m + 1) (hb : b ≤ ps.size) (hsz : ps.size ≤ 1048576) (A1 : Asc a m ps) :
    Calls Try.prog 56 #[.slice (some ⟨g, 0, none⟩) ps.size cap, .int .i64 (a : Int), .int .i64 (m : Int), .int .i64 ((m : Int) + 1), .func (.func 15) #[] #[]] w (SymPost w g a b ps) := by
  have A1' := hide (ascF_of A1 (by omega))
  have S0 := hide S
  have HBM := hide hbm
  have hbm2 : m + 1 ≤ b := by omega
  clear S A1
  obtain ⟨N, hN⟩ : ∃ n, Hid (ps.size = n) := ⟨_, rfl⟩
  rw [hN.out] at hb hsz ⊢
  have hmN : m + 1 ≤ N := by omega
  clear hbm
  have y1 : IntKind.i64.wrap ((m : Int) - (a : Int)) = (m : Int) - a := IntWalk.i64_in _ (by omega)
  have y2 : ((m : Int) - (a : Int) == 1) = false := by simp; omega
  have y3 : IntKind.i64.wrap ((m : Int) + 1 - (m : Int)) = 1 := by rw [show (m : Int) + 1 - m = 1 by omega]; exact IntWalk.i64_in _ (by omega)
  have y4 : ¬ ((m : Int) - (a : Int) = 1) := by omega
  go_enter Try.func56, Try.ntmps56
  go_wp2_with fail
  go_loopw [14, 15] (fun u v wr => ∃ (i j : Nat), u = .int .i64 (i : Int) ∧ v = .int .i64 (j : Int) ∧ a ≤ i ∧ i ≤ j ∧ j ≤ m ∧ Hid ((∀ h, a ≤ h → h < i → Le (atR ps h) (atR ps m)) ∧ (∀ h, j ≤ h → h < m → Le (atR ps m) (atR ps h)) ∧ SegA wr g ps ∧ w.grownBy wr (some g))) (fun u v _ => (intOf v).toNat - (intOf u).toNat)
  case atStart => exact ⟨a, m, rfl, rfl, by omega, by omega, by omega, fun h h1 h2 => absurd h2 (by omega), fun h h1 h2 => absurd h2 (by omega), S0.out, World.grownBy.refl _ _⟩
  case round =>
    clear S0
    obtain ⟨i, j, rfl, rfl, hai, hij, hjm, HO⟩ := hrel
    by_cases hlt : i < j
    · have hlt2 : (i : Int) < j := by omega
      go_upto_region 17 with fail
      have e2 : ((i : Int) + (j : Int)) / 2 = (((i + j) / 2 : Nat) : Int) := by omega
      obtain ⟨h, hh⟩ : ∃ h, Hid (h = (i + j) / 2) := ⟨_, hide rfl⟩
      have h1 : i ≤ h := by have := hh.out; omega
      have h2 : h < j := by have := hh.out; omega
      rw [e2, ← hh.out]
      clear e2 hh
      obtain ⟨B1, B2, B3, B4⟩ := HO.out
      clear HO
      have hp1 : (m) < ps.size := by have := hN.out; omega
      have hp2 : (h) < ps.size := by have := hN.out; omega
      have k0 := B3.cell (m) hp1
      have k1 := B3.cell (h) hp2
      obtain ⟨ax, cx, hx1, hx2, _⟩ := B3.row (m) hp1
      obtain ⟨ay, cy, hy1, hy2, _⟩ := B3.row (h) hp2
      have hC := hide (fun p : BelowOf wr => Calls.below_of (p := p) (implOrderRow p.h cx cy hx2 hy2 (Nat.le_refl _) (Nat.le_refl _)))
      rw [hx1] at k0
      rw [hy1] at k1
      obtain ⟨r, hr⟩ : ∃ r, Hid (ordR (atR ps (m)).2 (atR ps (h)).2 = r) := ⟨_, hide rfl⟩
      rw [hr.out] at hC
      generalize (atR ps (m)).2.length = lx at k0 hC
      generalize (atR ps (h)).2.length = ly at k1 hC
      have g0 := BelowOf.cell k0 B3.lt
      have g1 := BelowOf.cell k1 B3.lt
      have HB := hide (And.intro B1 (And.intro B2 (And.intro B3 B4)))
      clear B1 B2 B3 B4 hx1 hx2 hy1 hy2 k0 k1
      have zb0 : (h : Int) < (N : Int) := by omega
      have zb1 : (m : Int) < (N : Int) := by omega
      by_cases hneg : r < 0
      · have hd : decide (r < 0) = true := decide_eq_true hneg
        go_wp2_with fail
        refine wp_region_wq (by kernel_rfl) (by kernel_rfl) ?_
        repeat (refine WQ.step (fun K hK => ?_); go_simp; first | (refine hK _ ?_; clear hK K) | (apply Exists.intro; refine ⟨fun _ => ?_, hK _ ?_⟩; (exact hC.out _); clear hK K))
        refine WQ.nil ?_
        intro W2 hq2
        have HB2 := hide (BelowOf.of hq2)
        clear hq2 g0 g1 hC
        have HF := hide (show (∀ q, a ≤ q → q < i → Le (atR ps q) (atR ps m)) ∧ (∀ q, h ≤ q → q < m → Le (atR ps m) (atR ps q)) ∧ SegA W2 g ps ∧ w.grownBy W2 (some g) from ⟨HB.out.1, fun q e1 e2 => by
          have hle : Le (atR ps m) (atR ps h) := by unfold Le; rw [hr.out]; omega
          by_cases e : q = h
          · rw [e]; exact hle
          · exact hle.trans (A1'.out h q (by omega) (by omega) e2), HB.out.2.2.1.below HB2.out, gTrans HB.out.2.2.2 (grow_of_below HB2.out (some g))⟩)
        clear HB HB2
        go_wp2_with fail
        go_roundw
        case rel => exact ⟨i, h, rfl, rfl, by omega, by omega, by omega, HF.out⟩
        case measure => simp [intOf]; omega
      · have hd : decide (r < 0) = false := decide_eq_false hneg
        go_wp2_with fail
        refine wp_region_wq (by kernel_rfl) (by kernel_rfl) ?_
        repeat (refine WQ.step (fun K hK => ?_); go_simp; first | (refine hK _ ?_; clear hK K) | (apply Exists.intro; refine ⟨fun _ => ?_, hK _ ?_⟩; (exact hC.out _); clear hK K))
        refine WQ.nil ?_
        intro W2 hq2
        have HB2 := hide (BelowOf.of hq2)
        clear hq2 g0 g1 hC
        have HF := hide (show (∀ q, a ≤ q → q < h + 1 → Le (atR ps q) (atR ps m)) ∧ (∀ q, j ≤ q → q < m → Le (atR ps m) (atR ps q)) ∧ SegA W2 g ps ∧ w.grownBy W2 (some g) from ⟨fun q e1 e2 => by
          have hle : Le (atR ps h) (atR ps m) := Le.of_not (by rw [hr.out]; omega)
          by_cases e : q = h
          · rw [e]; exact hle
          · exact (A1'.out q h e1 (by omega) (by omega)).trans hle, HB.out.2.1, HB.out.2.2.1.below HB2.out, gTrans HB.out.2.2.2 (grow_of_below HB2.out (some g))⟩)
        clear HB HB2
        go_wp2_with fail
        go_roundw
        case rel => exact ⟨h + 1, j, by go_num, rfl, by omega, by omega, hjm, HF.out⟩
        case measure => simp [intOf]; omega
    · have hlt2 : ¬ (i : Int) < j := by omega
      have hij2 : i = j := by omega
      subst hij2
      obtain ⟨B1, B2, B3, B4⟩ := HO.out
      have HB := hide (And.intro B1 B2)
      have HS := hide (And.intro B3 B4)
      clear B1 B2 B3 B4 HO
      go_wp2_with fail
      go_loopw [17] (fun u wr => ∃ k : Nat, u = .int .i64 (k : Int) ∧ i ≤ k ∧ k ≤ m ∧ Hid (∃ ds : Array Rw, (∀ t, t < ps.size → atR ds t = shlF (atR ps) m k t) ∧ SwR a b ps ds ∧ SegA wr g ds ∧ w.grownBy wr (some g))) (fun u _ => (intOf u).toNat)
      case atStart => exact ⟨m, rfl, by omega, by omega, ps, fun t _ => (shl_zero _ _ _).symm, SwR.refl _ _ _, HS.out.1, HS.out.2⟩
      case round =>
        clear HS
        obtain ⟨k0, rfl, hik, hkm, HO⟩ := hrel
        by_cases hkt : i < k0
        · obtain ⟨k, rfl⟩ : ∃ q, k0 = q + 1 := ⟨k0 - 1, by omega⟩
          have hkt2 : (i : Int) < (k : Int) + 1 := by omega
          have zk1 : (k : Int) + 1 < (N : Int) := by omega
          have zk2 : (k : Int) < (N : Int) := by omega
          have zk3 : (0 : Int) ≤ (k : Int) + 1 := by omega
          have zk5 : IntKind.i64.wrap (k : Int) = (k : Int) := IntWalk.i64_in _ (by omega)
          have zk6 : IntKind.i64.wrap (((k + 1 : Nat) : Int) - 1) = (k : Int) := by rw [show (((k + 1 : Nat) : Int) - 1) = (k : Int) by omega]; exact zk5
          obtain ⟨ds, D1, D2, D3, D4⟩ := HO.out
          clear HO
          have hds : ds.size = N := D2.size.trans hN.out
          have hi1 : (k + 1) < ds.size := by omega
          have hi2 : (k) < ds.size := by omega
          have k0 := D3.cell (k + 1) hi1
          have k1 := D3.cell (k) hi2
          have f0 := D3.free (k + 1)
          have f1 := D3.free (k)
          obtain ⟨ax, cx, hx1, _⟩ := D3.row (k + 1) hi1
          obtain ⟨ay, cy, hy1, _⟩ := D3.row (k) hi2
          have D5 := hide (D3.swap (k + 1) (k) hi1 hi2)
          rw [hx1] at k0 D5
          rw [hy1] at k1 D5
          generalize (atR ds (k + 1)).2.length = lx at k0 D5
          generalize (atR ds (k)).2.length = ly at k1 D5
          have DG := hide (gTrans D4 (gTrans (seg_grown_set g (k + 1) (.slice ay ly cy)) (seg_grown_set g (k) (.slice ax lx cx))))
          have c2 : (wr.setCell ⟨g, k + 1, none⟩ (.slice ay ly cy)).cell? ⟨g, k, none⟩ = some (.slice ay ly cy) := (World.cell?_setCell_other _ _ _ _ (fun e => by injection e with _ e2 _; omega)).trans k1
          have DD := hide (And.intro D1 D2)
          have HDS := hide hds
          clear D1 D2 D3 D4 hx1 hy1 hds
          go_wp2_with fail
          go_big_region
          clear c2 k0 k1 f0 f1
          generalize (wr.setCell ⟨g, k + 1, none⟩ (.slice ay ly cy)).setCell ⟨g, k, none⟩ (.slice ax lx cx) = W3 at D5 DG ⊢
          have HF := hide (show ∃ es : Array Rw, (∀ t, t < ps.size → atR es t = shlF (atR ps) m k t) ∧ SwR a b ps es ∧ SegA W3.drew g es ∧ w.grownBy W3.drew (some g) from ⟨_, fun t ht => shl_step ps ds m k t hkm (by have := hN.out; omega) (by have := HDS.out; have := hN.out; omega) DD.out.1 ht, DD.out.2.swap (k + 1) (k) hi1 hi2 (by omega) (by omega) (by omega) (by omega), D5.out.below (Below.refl _ _).drew, gTrans DG.out (grow_of_below (Below.refl _ _).drew (some g))⟩)
          clear D5 DG DD
          go_wp2_with fail
          go_roundw
          case rel => exact ⟨k, by go_num, by omega, by omega, HF.out⟩
          case measure => simp [intOf]
        · have hkt2 : ¬ (i : Int) < (k0 : Int) := by omega
          have hki2 : k0 = i := by omega
          subst hki2
          go_wp2_with fail
          go_end0
          obtain ⟨ds, D1, D2, D3, D4⟩ := HO.out
          refine ⟨rfl, ds, D2, ?_, D3, D4⟩
          rw [HBM.out]
          exact asc_of (y := shlF (atR ps) m k0) (asc_shl (by omega) (by omega) A1'.out HB.out.1 HB.out.2) (fun t ht => D1 t (by rw [← D2.size]; exact ht))
end Go.Proofs.Ytfikgiekigbaoaa
