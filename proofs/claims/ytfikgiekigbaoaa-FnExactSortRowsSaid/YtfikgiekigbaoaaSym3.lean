/-
  slices.symMergeCmpFunc over rows of values: the general case, and the whole.
-/
import Derived.Test.YtfikgiekigbaoaaSym2
import Derived.Deep.CutBlock
import Derived.Deep.DeepCutAuto
namespace Go.Proofs.Ytfikgiekigbaoaa
open Go Go.RowKit

/-- symMerge over at most K rows. -/
def SymOk (K : Nat) : Prop := ∀ (w : World) (g cap a m b : Nat) (ps : Array Rw), SegA w g ps → a < m → m < b → b ≤ ps.size → ps.size ≤ 1048576 → b - a ≤ K → Asc a m ps → Asc m b ps →
  Calls Try.prog 56 #[.slice (some ⟨g, 0, none⟩) ps.size cap, .int .i64 (a : Int), .int .i64 (m : Int), .int .i64 (b : Int), .func (.func 15) #[] #[]] w (SymPost w g a b ps)

set_option maxHeartbeats 8000000 in
set_option maxRecDepth 100000 in
theorem sym3 {K : Nat} (IH : SymOk K) (w : World) (g cap a m b : Nat) (ps : Array Rw) (S : SegA w g ps) (ham : a + 1 < m) (hmb : m + 1 < b) (hb : b ≤ ps.size) (hsz : ps.size ≤ 1048576) (hK : b - a ≤ K + 1) (A1 : Asc a m ps) (A2 : Asc m b ps) :
    Calls Try.prog 56 #[.slice (some ⟨g, 0, none⟩) ps.size cap, .int .i64 (a : Int), .int .i64 (m : Int), .int .i64 (b : Int), .func (.func 15) #[] #[]] w (SymPost w g a b ps) := by
  have A1' := hide (ascF_of A1 (by omega))
  have A2' := hide (ascF_of A2 hb)
  have S0 := hide S
  have HI := hide IH
  have HK := hide hK
  clear S A1 A2 IH hK
  obtain ⟨N, hN⟩ : ∃ n, Hid (ps.size = n) := ⟨_, rfl⟩
  rw [hN.out] at hb hsz ⊢
  have y1 : IntKind.i64.wrap ((m : Int) - (a : Int)) = (m : Int) - a := IntWalk.i64_in _ (by omega)
  have y2 : ((m : Int) - (a : Int) == 1) = false := by simp; omega
  have y3 : IntKind.i64.wrap ((b : Int) - (m : Int)) = (b : Int) - m := IntWalk.i64_in _ (by omega)
  have y4 : ((b : Int) - (m : Int) == 1) = false := by simp; omega
  have y5 : ¬ ((m : Int) - (a : Int) = 1) := by omega
  have y6 : ¬ ((b : Int) - (m : Int) = 1) := by omega
  obtain ⟨mid, hmidd⟩ : ∃ q, Hid (q = (a + b) / 2) := ⟨_, hide rfl⟩
  have hmid : ((a : Int) + (b : Int)) / 2 = (mid : Int) := by have := hmidd.out; omega
  have hm1 : 2 * mid ≤ a + b := by have := hmidd.out; omega
  have hm2 : a + b ≤ 2 * mid + 1 := by have := hmidd.out; omega
  have y7 : IntKind.i64.wrap ((mid : Int) + (m : Int)) = (mid : Int) + m := IntWalk.i64_in _ (by omega)
  have y8 : IntKind.i64.wrap ((mid : Int) + (m : Int) - (b : Int)) = (mid : Int) + m - b := IntWalk.i64_in _ (by omega)
  have y9 : IntKind.i64.wrap ((mid : Int) + (m : Int) - 1) = (mid : Int) + m - 1 := IntWalk.i64_in _ (by omega)
  clear hmidd
  go_enter Try.func56, Try.ntmps56
  go_upto_if 140 with fail
  go_cut [20, 21] (fun u v wx => ∃ s0 r0 : Nat, u = .int .i64 (s0 : Int) ∧ v = .int .i64 (r0 : Int) ∧ Side a m b mid s0 r0 ∧ w = wx)
  case first =>
    by_cases hms : mid < m
    · have hms2 : (mid : Int) < (m : Int) := by omega
      go_wp2_with fail
      go_meet
      case rel => exact ⟨mid + m - b, mid, by congr 1; omega, rfl, .inl ⟨hms, rfl, rfl⟩, rfl⟩
    · have hms2 : ¬ (mid : Int) < (m : Int) := by omega
      go_wp2_with fail
      go_meet
      case rel => exact ⟨a, m, rfl, rfl, .inr ⟨by omega, rfl, rfl⟩, rfl⟩
  case rest =>
  obtain ⟨s0, r0, rfl, rfl, hside, rfl⟩ := hcut
  have HSD := hide hside
  have hs1 : a ≤ s0 := by unfold Side at hside; omega
  have hs2 : r0 ≤ m := by unfold Side at hside; omega
  have hs3 : r0 ≤ mid := by unfold Side at hside; omega
  have hs4 : s0 ≤ r0 := by unfold Side at hside; omega
  have hs5 : mid + m ≤ b + s0 := by unfold Side at hside; omega
  clear hside
  go_wp2_with fail
  go_loopw [20, 21] (fun u v wr => ∃ (i j : Nat), u = .int .i64 (i : Int) ∧ v = .int .i64 (j : Int) ∧ s0 ≤ i ∧ i ≤ j ∧ j ≤ r0 ∧ Hid ((∀ c, s0 ≤ c → c < i → Le (atR ps c) (atR ps (mid + m - 1 - c))) ∧ (∀ c, j ≤ c → c < r0 → Le (atR ps (mid + m - 1 - c)) (atR ps c)) ∧ SegA wr g ps ∧ w.grownBy wr (some g))) (fun u v _ => (intOf v).toNat - (intOf u).toNat)
  case atStart => exact ⟨s0, r0, rfl, rfl, by omega, by omega, by omega, fun h h1 h2 => absurd h2 (by omega), fun h h1 h2 => absurd h2 (by omega), S0.out, World.grownBy.refl _ _⟩
  case round =>
    clear S0
    obtain ⟨i, j, rfl, rfl, hai, hij, hjb, HO⟩ := hrel
    by_cases hlt : i < j
    · as_aux_lemma =>
      have hlt2 : (i : Int) < j := by omega
      go_upto_region 35 with fail
      have e2 : ((i : Int) + (j : Int)) / 2 = (((i + j) / 2 : Nat) : Int) := by omega
      obtain ⟨h, hh⟩ : ∃ h, Hid (h = (i + j) / 2) := ⟨_, hide rfl⟩
      have h1 : i ≤ h := by have := hh.out; omega
      have h2 : h < j := by have := hh.out; omega
      rw [e2, ← hh.out]
      clear e2 hh
      obtain ⟨B1, B2, B3, B4⟩ := HO.out
      clear HO
      have hp1 : (mid + m - 1 - h) < ps.size := by have := hN.out; omega
      have hp2 : (h) < ps.size := by have := hN.out; omega
      have k0 := B3.cell (mid + m - 1 - h) hp1
      have k1 := B3.cell (h) hp2
      obtain ⟨ax, cx, hx1, hx2, _⟩ := B3.row (mid + m - 1 - h) hp1
      obtain ⟨ay, cy, hy1, hy2, _⟩ := B3.row (h) hp2
      have hC := hide (fun p : BelowOf wr => Calls.below_of (p := p) (implOrderRow p.h cx cy hx2 hy2 (Nat.le_refl _) (Nat.le_refl _)))
      rw [hx1] at k0
      rw [hy1] at k1
      obtain ⟨r, hr⟩ : ∃ r, Hid (ordR (atR ps (mid + m - 1 - h)).2 (atR ps (h)).2 = r) := ⟨_, hide rfl⟩
      rw [hr.out] at hC
      generalize (atR ps (mid + m - 1 - h)).2.length = lx at k0 hC
      generalize (atR ps (h)).2.length = ly at k1 hC
      have g0 := BelowOf.cell k0 B3.lt
      have g1 := BelowOf.cell k1 B3.lt
      have HB := hide (And.intro B1 (And.intro B2 (And.intro B3 B4)))
      clear B1 B2 B3 B4 hx1 hx2 hy1 hy2 k0 k1
      have hpc : IntKind.i64.wrap ((mid : Int) + (m : Int) - 1 - (h : Int)) = (mid : Int) + (m : Int) - 1 - h := IntWalk.i64_in _ (by omega)
      have hpq : (mid : Int) + (m : Int) - 1 - (h : Int) = ((mid + m - 1 - h : Nat) : Int) := by omega
      have zb0 : ((mid + m - 1 - h : Nat) : Int) < (N : Int) := by omega
      have zb1 : (h : Int) < (N : Int) := by omega
      obtain ⟨pc, hpcd⟩ : ∃ q, Hid (q = mid + m - 1 - h) := ⟨_, hide rfl⟩
      rw [← hpcd.out] at hpq zb0 g0
      have hpw : IntKind.i64.wrap (pc : Int) = (pc : Int) := IntWalk.i64_in _ (by have := hpcd.out; omega)
      by_cases hneg : r < 0
      · have hd : decide (r < 0) = true := decide_eq_true hneg
        go_wp2_with fail
        refine wp_region_wq (by kernel_rfl) (by kernel_rfl) ?_
        repeat (refine WQ.step (fun K hK => ?_); go_simp; first | (refine hK _ ?_; clear hK K) | (apply Exists.intro; refine ⟨fun _ => ?_, hK _ ?_⟩; (exact hC.out _); clear hK K))
        refine WQ.nil ?_
        intro W2 hq2
        have HB2 := hide (BelowOf.of hq2)
        clear hq2 g0 g1 hC
        have HF := hide (show (∀ c, s0 ≤ c → c < i → Le (atR ps c) (atR ps (mid + m - 1 - c))) ∧ (∀ c, h ≤ c → c < r0 → Le (atR ps (mid + m - 1 - c)) (atR ps c)) ∧ SegA W2 g ps ∧ w.grownBy W2 (some g) from ⟨HB.out.1, fun q e1 e2 => by
          have hle : Le (atR ps (mid + m - 1 - h)) (atR ps h) := by unfold Le; rw [hr.out]; omega
          by_cases e : q = h
          · rw [e]; exact hle
          · exact (A2'.out (mid + m - 1 - q) (mid + m - 1 - h) (by omega) (by omega) (by omega)).trans (hle.trans (A1'.out h q (by omega) (by omega) (by omega))), HB.out.2.2.1.below HB2.out, gTrans HB.out.2.2.2 (grow_of_below HB2.out (some g))⟩)
        clear HB HB2
        go_wp2_with fail
        go_roundw
        case rel => exact ⟨i, h, rfl, rfl, by omega, by omega, by omega, HF.out⟩
        case measure => simp [intOf]; omega
      · have hd : decide (r < 0) = false := decide_eq_false hneg
        go_wp2_with fail
        refine wp_region_wq (by kernel_rfl) (by kernel_rfl) ?_
        repeat (refine WQ.step (fun K hK => ?_); go_simp; first | (refine hK _ ?_; clear hK K) | (apply Exists.intro; refine ⟨fun _ => ?_, hK _ ?_⟩; (exact hC.out _); clear hK K))
        refine WQ.nil ?_
        intro W2 hq2
        have HB2 := hide (BelowOf.of hq2)
        clear hq2 g0 g1 hC
        have HF := hide (show (∀ c, s0 ≤ c → c < (h + 1) → Le (atR ps c) (atR ps (mid + m - 1 - c))) ∧ (∀ c, j ≤ c → c < r0 → Le (atR ps (mid + m - 1 - c)) (atR ps c)) ∧ SegA W2 g ps ∧ w.grownBy W2 (some g) from ⟨fun q e1 e2 => by
          have hle : Le (atR ps h) (atR ps (mid + m - 1 - h)) := Le.of_not (by rw [hr.out]; omega)
          by_cases e : q = h
          · rw [e]; exact hle
          · exact (A1'.out q h (by omega) (by omega) (by omega)).trans (hle.trans (A2'.out (mid + m - 1 - h) (mid + m - 1 - q) (by omega) (by omega) (by omega))), HB.out.2.1, HB.out.2.2.1.below HB2.out, gTrans HB.out.2.2.2 (grow_of_below HB2.out (some g))⟩)
        clear HB HB2
        go_wp2_with fail
        go_roundw
        case rel => exact ⟨h + 1, j, by go_num, rfl, by omega, by omega, by omega, HF.out⟩
        case measure => simp [intOf]; omega
    · have hlt2 : ¬ (i : Int) < j := by omega
      have hij2 : i = j := by omega
      subst hij2
      clear y1 y2 y3 y4 y5 y6 y7 y8 y9 hmid hlt hlt2
      obtain ⟨B1, B2, B3, B4⟩ := HO.out
      have hcu : Cut (atR ps) a m b mid s0 r0 i := ⟨hai, hjb, B1, B2⟩
      obtain ⟨e1, e2, e3, e4, e5, e6, e7, e8⟩ := hcu.facts HSD.out (by omega) (by omega) hm1 hm2
      have HC := hide hcu
      have HW := hide (And.intro B3 B4)
      clear B1 B2 B3 B4 HO hcu
      obtain ⟨e, hed⟩ : ∃ e, Hid (e = mid + m - i) := ⟨_, hide rfl⟩
      rw [← hed.out] at e4 e5 e6
      have hee : (mid : Int) + (m : Int) - (i : Int) = (e : Int) := by have := hed.out; omega
      have hew : IntKind.i64.wrap (e : Int) = (e : Int) := IntWalk.i64_in _ (by omega)
      go_upto_region 39 with fail
      go_cut [185] (fun c wx => c = .bool (decide (i < m ∧ m < e)) ∧ Hid (SegA wx g ps ∧ w.grownBy wx (some g)))
      case first =>
        as_aux_lemma =>
        by_cases c1 : i < m
        · have c1' : (i : Int) < (m : Int) := by omega
          by_cases c2 : m < e
          · have c2' : (m : Int) < (e : Int) := by omega
            go_wp2_with fail
            go_meet
            case rel => exact ⟨by rw [decide_eq_true (And.intro c1 c2)], HW.out⟩
          · have c2' : ¬ (m : Int) < (e : Int) := by omega
            go_wp2_with fail
            go_meet
            case rel => exact ⟨by rw [decide_eq_false (fun h => c2 h.2)], HW.out⟩
        · have c1' : ¬ (i : Int) < (m : Int) := by omega
          go_wp2_with fail
          go_meet
          case rel => exact ⟨by rw [decide_eq_false (fun h => c1 h.1)], HW.out⟩
      case rest =>
      obtain ⟨rfl, HW1⟩ := hcut
      clear HW
      go_upto_if 185 with fail
      go_cut [] (fun wx => Hid (∃ ds : Array Rw, (∀ t, t < ps.size → atR ds t = rotF (atR ps) i m e t) ∧ SwR a b ps ds ∧ SegA wx g ds ∧ w.grownBy wx (some g)))
      case first =>
        as_aux_lemma =>
        by_cases c : i < m ∧ m < e
        · rw [decide_eq_true c]
          have hC := hide (rotateC _ g cap i m e ps HW1.out.1 c.1 c.2 (by have := hN.out; omega) (by have := hN.out; omega) (.func (.func 15) #[] #[]))
          rw [hN.out] at hC
          clear c
          go_wp2_with fail
          refine hC.out.mono ?_
          rintro y w2 ⟨rfl, qs, q1, q2, q3, q4⟩
          have HF := hide (show ∃ ds : Array Rw, (∀ t, t < ps.size → atR ds t = rotF (atR ps) i m e t) ∧ SwR a b ps ds ∧ SegA w2 g ds ∧ w.grownBy w2 (some g) from ⟨qs, fun t ht => q1 t (by rw [← hN.out]; exact ht), q2.mono (by omega) (by omega), q3, gTrans HW1.out.2 q4⟩)
          clear q1 q2 q3 q4 hC
          go_wp2_with fail
          go_meet
          case rel => exact HF.out
        · rw [decide_eq_false c]
          have HF := hide (fun t => show atR ps t = rotF (atR ps) i m e t from by
            by_cases c1 : i < m
            · rw [show e = m by omega, rot_none2 _ _ _ _ (by omega)]
            · rw [show i = m by omega, rot_none1 _ _ _ _ (by omega)])
          clear c
          go_wp2_with fail
          go_meet
          case rel => exact ⟨ps, fun t _ => HF.out t, SwR.refl _ _ _, HW1.out.1, HW1.out.2⟩
      case rest =>
      obtain ⟨ds, D1, D2, D3, D4⟩ := hcut.out
      clear hcut HW1
      have hds : ds.size = N := D2.size.trans hN.out
      obtain ⟨P1, P2, P3, P4, P5⟩ := HC.out.parts (y := atR ds) HSD.out (by omega) (by omega) hm1 hm2 A1'.out A2'.out (fun t ht => by rw [← hed.out]; exact D1 t (by have := hN.out; omega))
      rw [← hed.out] at P3 P4
      have HP := hide (And.intro P1 (And.intro P2 (And.intro P3 (And.intro P4 P5))))
      have HD := hide (And.intro D2 hds)
      have HW := hide (And.intro D3 D4)
      clear P1 P2 P3 P4 P5 D1 D2 D3 D4 hds HC
      go_upto_region 41 with fail
      go_cut [199] (fun c wx => c = .bool (decide (a < i ∧ i < mid)) ∧ Hid (SegA wx g ds ∧ w.grownBy wx (some g)))
      case first =>
        as_aux_lemma =>
        by_cases c1 : a < i
        · have c1' : (a : Int) < (i : Int) := by omega
          by_cases c2 : i < mid
          · have c2' : (i : Int) < (mid : Int) := by omega
            go_wp2_with fail
            go_meet
            case rel => exact ⟨by rw [decide_eq_true (And.intro c1 c2)], HW.out⟩
          · have c2' : ¬ (i : Int) < (mid : Int) := by omega
            go_wp2_with fail
            go_meet
            case rel => exact ⟨by rw [decide_eq_false (fun h => c2 h.2)], HW.out⟩
        · have c1' : ¬ (a : Int) < (i : Int) := by omega
          go_wp2_with fail
          go_meet
          case rel => exact ⟨by rw [decide_eq_false (fun h => c1 h.1)], HW.out⟩
      case rest =>
      obtain ⟨rfl, HW1⟩ := hcut
      clear HW
      go_upto_if 199 with fail
      go_cut [] (fun wx => Hid (∃ z1 : Array Rw, SwR a mid ds z1 ∧ Asc a mid z1 ∧ SegA wx g z1 ∧ w.grownBy wx (some g)))
      case first =>
        as_aux_lemma =>
        by_cases c : a < i ∧ i < mid
        · rw [decide_eq_true c]
          have hC := hide (HI.out _ g cap a i mid ds HW1.out.1 c.1 c.2 (by have := HD.out.2; omega) (by have := HD.out.2; omega) (by have := HK.out; omega) (asc_of HP.out.1 fun t _ => rfl) (asc_of HP.out.2.1 fun t _ => rfl))
          rw [HD.out.2] at hC
          clear c
          go_wp2_with fail
          refine hC.out.mono ?_
          rintro y w2 ⟨rfl, qs, q1, q2, q3, q4⟩
          have HF := hide (show ∃ z1 : Array Rw, SwR a mid ds z1 ∧ Asc a mid z1 ∧ SegA w2 g z1 ∧ w.grownBy w2 (some g) from ⟨qs, q1, q2, q3, gTrans HW1.out.2 q4⟩)
          clear q1 q2 q3 q4 hC
          go_wp2_with fail
          go_meet
          case rel => exact HF.out
        · rw [decide_eq_false c]
          have HF := hide (show Asc a mid ds from by
            by_cases c1 : a < i
            · have h := HP.out.1
              rw [show i = mid by omega] at h
              exact asc_of h fun t _ => rfl
            · have h := HP.out.2.1
              rw [show i = a by omega] at h
              exact asc_of h fun t _ => rfl)
          clear c
          go_wp2_with fail
          go_meet
          case rel => exact ⟨ds, SwR.refl _ _ _, HF.out, HW1.out.1, HW1.out.2⟩
      case rest =>
      obtain ⟨z1, Z1, Z2, Z3, Z4⟩ := hcut.out
      clear hcut HW1
      have HZ := hide (And.intro Z1 (And.intro Z2 (show z1.size = N from Z1.size.trans HD.out.2)))
      have HW := hide (And.intro Z3 Z4)
      clear Z1 Z2 Z3 Z4
      have HFF := hide (fun (z2 : Array Rw) (W : World) (q1 : SwR mid b z1 z2) (q2 : Asc mid b z2) (q3 : SegA W g z2) (q4 : w.grownBy W (some g)) => show SymPost w g a b ps (.returned (.tuple #[])) W from
        ⟨rfl, z2, HD.out.1.trans ((HZ.out.1.mono (by omega) (by omega)).trans (q1.mono (by omega) (by omega))), merge_fin (by have := HD.out.2; omega) (by omega) HP.out.2.2.2.2 HZ.out.1 HZ.out.2.1 q1 q2, q3, q4⟩)
      have HT := hide (fun t (h1 : mid ≤ t) (h2 : t < b) => HZ.out.1.out t (by have := HD.out.2; omega) (.inr h1))
      go_upto_region 43 with fail
      go_cut [213] (fun c wx => c = .bool (decide (mid < e ∧ e < b)) ∧ Hid (SegA wx g z1 ∧ w.grownBy wx (some g)))
      case first =>
        as_aux_lemma =>
        by_cases c1 : mid < e
        · have c1' : (mid : Int) < (e : Int) := by omega
          by_cases c2 : e < b
          · have c2' : (e : Int) < (b : Int) := by omega
            go_wp2_with fail
            go_meet
            case rel => exact ⟨by rw [decide_eq_true (And.intro c1 c2)], HW.out⟩
          · have c2' : ¬ (e : Int) < (b : Int) := by omega
            go_wp2_with fail
            go_meet
            case rel => exact ⟨by rw [decide_eq_false (fun h => c2 h.2)], HW.out⟩
        · have c1' : ¬ (mid : Int) < (e : Int) := by omega
          go_wp2_with fail
          go_meet
          case rel => exact ⟨by rw [decide_eq_false (fun h => c1 h.1)], HW.out⟩
      case rest =>
      obtain ⟨rfl, HW1⟩ := hcut
      clear HW
      by_cases c : mid < e ∧ e < b
      · as_aux_lemma =>
        rw [decide_eq_true c]
        have hC := hide (HI.out _ g cap mid e b z1 HW1.out.1 c.1 c.2 (by have := HZ.out.2.2; omega) (by have := HZ.out.2.2; omega) (by have := HK.out; omega)
          (fun u v k1 k2 k3 k4 => by rw [HT.out u k1 (by omega), HT.out v (by omega) (by omega)]; exact HP.out.2.2.1 u v k1 k2 k3)
          (fun u v k1 k2 k3 k4 => by rw [HT.out u (by omega) (by omega), HT.out v (by omega) k3]; exact HP.out.2.2.2.1 u v k1 k2 k3))
        rw [HZ.out.2.2] at hC
        clear c
        go_wp2_with fail
        refine hC.out.mono ?_
        rintro y w2 ⟨rfl, qs, q1, q2, q3, q4⟩
        have HF := hide (HFF.out qs w2 q1 q2 q3 (gTrans HW1.out.2 q4))
        clear q1 q2 q3 q4 hC
        go_wp2_with fail
        go_end0
        exact HF.out
      · as_aux_lemma =>
        rw [decide_eq_false c]
        have HF := hide (HFF.out z1 _ (SwR.refl _ _ _) (fun u v k1 k2 k3 k4 => by
          rw [HT.out u k1 (by omega), HT.out v (by omega) k3]
          by_cases c1 : mid < e
          · exact HP.out.2.2.1 u v k1 k2 (by omega)
          · exact HP.out.2.2.2.1 u v (by omega) k2 k3) HW1.out.1 HW1.out.2)
        clear c
        go_wp2_with fail
        go_end0
        exact HF.out
end Go.Proofs.Ytfikgiekigbaoaa
