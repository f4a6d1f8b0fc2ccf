/-
  slices.stableCmpFunc and slices.SortStableFunc over rows of values, of any number up to 2^20.
-/
import Derived.Test.YtfikgiekigbaoaaSym3
import Derived.Deep.CutBlock
import Derived.Deep.DeepCutAuto
namespace Go.Proofs.Ytfikgiekigbaoaa
open Go Go.RowKit

theorem symC : ∀ K, SymOk K
  | 0 => fun w g cap a m b ps S ham hmb hb hsz hK A1 A2 => by omega
  | K + 1 => fun w g cap a m b ps S ham hmb hb hsz hK A1 A2 => by
    by_cases h1 : m = a + 1
    · subst h1
      rw [show (((a + 1 : Nat)) : Int) = (a : Int) + 1 by omega]
      exact sym1 w g cap a b ps S (by omega) hb hsz A2
    · by_cases h2 : b = m + 1
      · rw [h2, show (((m + 1 : Nat)) : Int) = (m : Int) + 1 by omega]
        exact sym2 w g cap a m (m + 1) ps S (by omega) rfl (by omega) hsz A1
      · exact sym3 (symC K) w g cap a m b ps S (by omega) (by omega) hb hsz hK A1 A2

theorem Asc.keep {x y a b : Nat} {ps qs : Array Rw} (h : Asc x y ps) (hs : SwR a b ps qs) (ho : y ≤ a ∨ b ≤ x) : Asc x y qs := fun i j h1 h2 h3 h4 => by
  have h4' : j < ps.size := by rw [← hs.size]; exact h4
  rw [hs.out i (by omega) (by omega), hs.out j h4' (by omega)]
  exact h i j h1 h2 h3 h4'
theorem Asc.cap {x y n : Nat} {ps : Array Rw} (h : Asc x n ps) (hn : ps.size ≤ n) : Asc x y ps := fun i j h1 h2 _ h4 => h i j h1 h2 (by omega) h4
theorem Asc.none {x y : Nat} {ps : Array Rw} (hn : ps.size ≤ x) : Asc x y ps := fun i j h1 h2 _ h4 => by omega
/-- Blocks of s rows ascend. -/
def BlkS (s : Nat) (ps : Array Rw) : Prop := ∀ r, Asc (r * s) (r * s + s) ps

set_option maxHeartbeats 8000000 in
set_option maxRecDepth 100000 in
theorem stableC (w : World) (g cap : Nat) (ps : Array Rw) (S : SegA w g ps) (hsz : ps.size ≤ 1048576) :
    Calls Try.prog 49 #[.slice (some ⟨g, 0, none⟩) ps.size cap, .int .i64 (ps.size : Int), .func (.func 15) #[] #[]] w
      (fun e w' => e = .returned (.tuple #[]) ∧ ∃ qs, SwR 0 ps.size ps qs ∧ Asc 0 ps.size qs ∧ SegA w' g qs ∧ w.grownBy w' (some g)) := by
  have S0 := hide S
  clear S
  obtain ⟨n, hn⟩ : ∃ n, Hid (ps.size = n) := ⟨_, hide rfl⟩
  rw [hn.out] at hsz ⊢
  go_enter Try.func49, Try.ntmps49
  go_wp2_with fail
  go_loopw [7, 8] (fun u v wr => ∃ q : Nat, u = .int .i64 (20 * (q : Int)) ∧ v = .int .i64 (20 * (q : Int) + 20) ∧ 20 * q ≤ n ∧ Hid (∃ ds : Array Rw, SwR 0 n ps ds ∧ (∀ r, r < q → Asc (20 * r) (20 * r + 20) ds) ∧ SegA wr g ds ∧ w.grownBy wr (some g))) (fun u v _ => n + 40 - (intOf v).toNat)
  case atStart => exact ⟨0, by simp, by simp, by omega, ps, SwR.refl _ _ _, fun r hr => absurd hr (by omega), S0.out, World.grownBy.refl _ _⟩
  case round =>
    clear S0
    obtain ⟨q, rfl, rfl, hq, HO⟩ := hrel
    obtain ⟨ds, D1, D2, D3, D4⟩ := HO.out
    clear HO
    have hds : ds.size = n := D1.size.trans hn.out
    by_cases hlt : 20 * q + 20 ≤ n
    · have hlt2 : 20 * (q : Int) + 20 ≤ (n : Int) := by omega
      have hC := hide (insertC wr g cap (20 * q) (20 * q + 20) ds D3 (by omega) (by omega) (by omega))
      rw [hds, show (((20 * q : Nat)) : Int) = 20 * (q : Int) by omega, show (((20 * q + 20 : Nat)) : Int) = 20 * (q : Int) + 20 by omega] at hC
      have x1 : IntKind.i64.wrap (20 * (q : Int) + 20 + 20) = 20 * (q : Int) + 20 + 20 := IntWalk.i64_in _ (by omega)
      have HD := hide (And.intro D1 (And.intro D2 D4))
      clear D1 D2 D3 D4 hds
      go_wp2_with fail
      refine hC.out.mono ?_
      rintro e w2 ⟨rfl, qs, q1, q2, q3, q4⟩
      have HF := hide (show ∃ ds : Array Rw, SwR 0 n ps ds ∧ (∀ r, r < q + 1 → Asc (20 * r) (20 * r + 20) ds) ∧ SegA w2 g ds ∧ w.grownBy w2 (some g) from
        ⟨qs, HD.out.1.trans (q1.mono (by omega) (by omega)), fun r hr => by
          by_cases e : r = q
          · subst e; exact q2
          · exact (HD.out.2.1 r (by omega)).keep q1 (by omega), q3, gTrans HD.out.2.2 q4⟩)
      clear q1 q2 q3 q4 hC HD
      go_wp2_with fail
      go_roundw
      case rel => exact ⟨q + 1, by (congr 1 <;> omega), by (congr 1 <;> omega), by omega, HF.out⟩
      case measure => simp [intOf]; omega
    · have hlt2 : ¬ 20 * (q : Int) + 20 ≤ (n : Int) := by omega
      have hC := hide (insertC wr g cap (20 * q) n ds D3 (by omega) (by omega) (by omega))
      rw [hds, show (((20 * q : Nat)) : Int) = 20 * (q : Int) by omega] at hC
      have HD := hide (And.intro D1 (And.intro D2 D4))
      clear D1 D2 D3 D4
      go_wp2_with fail
      refine hC.out.mono ?_
      rintro e w2 ⟨rfl, qs, q1, q2, q3, q4⟩
      have hqs : qs.size = n := q1.size.trans hds
      have HF := hide (show ∃ ds : Array Rw, SwR 0 n ps ds ∧ BlkS 20 ds ∧ SegA w2 g ds ∧ w.grownBy w2 (some g) from
        ⟨qs, HD.out.1.trans (q1.mono (by omega) (by omega)), fun r => by
          rw [show r * 20 = 20 * r by omega]
          by_cases e : r = q
          · subst e; exact q2.cap (by omega)
          · by_cases e2 : r < q
            · exact (HD.out.2.1 r e2).keep q1 (by omega)
            · exact Asc.none (by omega), q3, gTrans HD.out.2.2 q4⟩)
      clear q1 q2 q3 q4 hC HD hds hqs hlt hlt2 hq
      go_wp2_with fail
      go_loopw [6] (fun u wr => ∃ s : Nat, u = .int .i64 (s : Int) ∧ 20 ≤ s ∧ s ≤ 2097152 ∧ Hid (∃ ds : Array Rw, SwR 0 n ps ds ∧ BlkS s ds ∧ SegA wr g ds ∧ w.grownBy wr (some g))) (fun u _ => n - (intOf u).toNat)
      case atStart => exact ⟨20, rfl, by omega, by omega, HF.out⟩
      case round =>
        clear HF
        obtain ⟨s, rfl, hs1, hs2, HO⟩ := hrel
        by_cases hlt : s < n
        · have hlt2 : (s : Int) < (n : Int) := by omega
          obtain ⟨ds0, E1, E2, E3, E4⟩ := HO.out
          have HE := hide (And.intro E1 (And.intro E2 (And.intro E3 E4)))
          clear E1 E2 E3 E4 HO
          have x2 : IntKind.i64.wrap (2 * (s : Int)) = 2 * (s : Int) := IntWalk.i64_in _ (by omega)
          have x22 : IntKind.i64.wrap ((s : Int) * 2) = (s : Int) * 2 := IntWalk.i64_in _ (by omega)
          go_wp2_with fail
          go_loopw [7, 8] (fun u v wr => ∃ (k a : Nat), u = .int .i64 (a : Int) ∧ v = .int .i64 ((a : Int) + 2 * (s : Int)) ∧ a ≤ n ∧ Hid (a = k * (2 * s) ∧ ∃ ds : Array Rw, SwR 0 n ps ds ∧ (∀ r, r < k → Asc (r * (2 * s)) (r * (2 * s) + 2 * s) ds) ∧ (∀ r, a ≤ r * s → Asc (r * s) (r * s + s) ds) ∧ SegA wr g ds ∧ w.grownBy wr (some g))) (fun u v _ => n + 4 * s - (intOf v).toNat)
          case atStart => exact ⟨0, 0, rfl, by simp, by omega, by simp, ds0, HE.out.1, fun r hr => absurd hr (by omega), fun r _ => HE.out.2.1 r, HE.out.2.2.1, HE.out.2.2.2⟩
          case round =>
            clear HE
            obtain ⟨k, a, rfl, rfl, han, HO⟩ := hrel
            obtain ⟨hak, ds, D1, D2, D3, D4, D5⟩ := HO.out
            clear HO
            have hds : ds.size = n := D1.size.trans hn.out
            have ha2 : (2 * k) * s = a := by rw [hak, Nat.mul_comm 2 k, Nat.mul_assoc]
            have ha3 : (2 * k + 1) * s = a + s := by rw [Nat.add_mul, ha2, Nat.one_mul]
            have A1 := D3 (2 * k) (by omega)
            have A2 := D3 (2 * k + 1) (by omega)
            rw [ha2] at A1
            rw [ha3] at A2
            have HA := hide (And.intro ha2 (And.intro ha3 hak))
            clear ha2 ha3
            have x3 : IntKind.i64.wrap ((a : Int) + (s : Int)) = (a : Int) + s := IntWalk.i64_in _ (by omega)
            by_cases hb : a + 2 * s ≤ n
            · have hb2 : (a : Int) + 2 * (s : Int) ≤ (n : Int) := by omega
              have hC := hide (symC (2 * s) wr g cap a (a + s) (a + 2 * s) ds D4 (by omega) (by omega) (by omega) (by omega) (by omega) A1 (by rw [show a + 2 * s = a + s + s by omega]; exact A2))
              rw [hds, show (((a + s : Nat)) : Int) = (a : Int) + s by omega, show (((a + 2 * s : Nat)) : Int) = (a : Int) + 2 * (s : Int) by omega] at hC
              have x4 : IntKind.i64.wrap ((a : Int) + 2 * (s : Int) + 2 * (s : Int)) = (a : Int) + 2 * (s : Int) + 2 * (s : Int) := IntWalk.i64_in _ (by omega)
              have HD := hide (And.intro D1 (And.intro D2 (And.intro D3 D5)))
              clear D1 D2 D3 D4 D5 A1 A2 hds hak
              go_wp2_with fail
              refine hC.out.mono ?_
              rintro e w3 ⟨rfl, qs, q1, q2, q3, q4⟩
              have HF := hide (show a + 2 * s = (k + 1) * (2 * s) ∧ ∃ ds : Array Rw, SwR 0 n ps ds ∧ (∀ r, r < k + 1 → Asc (r * (2 * s)) (r * (2 * s) + 2 * s) ds) ∧ (∀ r, a + 2 * s ≤ r * s → Asc (r * s) (r * s + s) ds) ∧ SegA w3 g ds ∧ w.grownBy w3 (some g) from
                ⟨by rw [Nat.add_mul, Nat.one_mul, ← HA.out.2.2], qs, HD.out.1.trans (q1.mono (by omega) (by omega)), fun r hr => by
                  by_cases e : r = k
                  · subst e; rw [← HA.out.2.2]; exact q2
                  · have h1 : (r + 1) * (2 * s) ≤ k * (2 * s) := Nat.mul_le_mul_right _ (by omega)
                    rw [Nat.add_mul, Nat.one_mul, ← HA.out.2.2] at h1
                    exact (HD.out.2.1 r (by omega)).keep q1 (.inl h1), fun r hr => (HD.out.2.2.1 r (by omega)).keep q1 (.inr hr), q3, gTrans HD.out.2.2.2 q4⟩)
              clear q1 q2 q3 q4 hC HD
              go_wp2_with fail
              go_roundw
              case rel => exact ⟨k + 1, a + 2 * s, by (congr 1 <;> omega), by (congr 1 <;> omega), by omega, HF.out⟩
              case measure => simp [intOf]; omega
            · have hb2 : ¬ (a : Int) + 2 * (s : Int) ≤ (n : Int) := by omega
              have hfin := hide (fun (qs : Array Rw) (W : World) (hq : SwR a n ds qs) (h0 : Asc a n qs) (h3 : SegA W g qs) (h4 : w.grownBy W (some g)) => show ∃ ds : Array Rw, SwR 0 n ps ds ∧ BlkS (s * 2) ds ∧ SegA W g ds ∧ w.grownBy W (some g) from
                ⟨qs, D1.trans (hq.mono (by omega) (by omega)), fun r => by
                  have hqs : qs.size = n := hq.size.trans hds
                  rw [Nat.mul_comm s 2]
                  by_cases e : r = k
                  · subst e; rw [← hak]; exact h0.cap (by omega)
                  · by_cases e2 : r < k
                    · have h1 : (r + 1) * (2 * s) ≤ k * (2 * s) := Nat.mul_le_mul_right _ (by omega)
                      rw [Nat.add_mul, Nat.one_mul, ← hak] at h1
                      exact (D2 r e2).keep hq (.inl h1)
                    · have h1 : (k + 1) * (2 * s) ≤ r * (2 * s) := Nat.mul_le_mul_right _ (by omega)
                      rw [Nat.add_mul, Nat.one_mul, ← hak] at h1
                      exact Asc.none (by omega), h3, h4⟩)
              by_cases hm : a + s < n
              · have hm2 : (a : Int) + (s : Int) < (n : Int) := by omega
                have hC := hide (symC n wr g cap a (a + s) n ds D4 (by omega) (by omega) (by omega) (by omega) (by omega) A1 (fun i j k1 k2 k3 k4 => A2 i j k1 k2 (by omega) k4))
                rw [hds, show (((a + s : Nat)) : Int) = (a : Int) + s by omega] at hC
                have HD := hide D5
                clear D1 D2 D3 D4 D5 A1 A2 hds hak
                go_wp2_with fail
                refine hC.out.mono ?_
                rintro e w3 ⟨rfl, qs, q1, q2, q3, q4⟩
                have HF := hide (hfin.out qs w3 q1 q2 q3 (gTrans HD.out q4))
                clear q1 q2 q3 q4 hC HD hfin
                go_wp2_with fail
                go_roundw
                case rel => exact ⟨s * 2, by go_num, by omega, by omega, HF.out⟩
                case measure => simp [intOf]; omega
              · have hm2 : ¬ (a : Int) + (s : Int) < (n : Int) := by omega
                have HF := hide (hfin.out ds wr (SwR.refl _ _ _) (fun i j k1 k2 k3 k4 => A1 i j k1 k2 (by omega) k4) D4 D5)
                clear D1 D2 D3 D4 D5 A1 A2 hds hak hfin
                go_wp2_with fail
                go_roundw
                case rel => exact ⟨s * 2, by go_num, by omega, by omega, HF.out⟩
                case measure => simp [intOf]; omega
        · have hlt2 : ¬ (s : Int) < (n : Int) := by omega
          go_wp2_with fail
          go_end0
          obtain ⟨ds, E1, E2, E3, E4⟩ := HO.out
          have h0 := E2 0
          rw [Nat.zero_mul, Nat.zero_add] at h0
          have hds : ds.size = n := E1.size.trans hn.out
          exact ⟨rfl, ds, E1, fun i j k1 k2 k3 k4 => h0 i j k1 k2 (by omega) k4, E3, E4⟩
end Go.Proofs.Ytfikgiekigbaoaa
