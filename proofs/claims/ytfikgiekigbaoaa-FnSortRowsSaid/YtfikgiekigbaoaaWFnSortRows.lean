/-
  The walk of FnSortRows.
-/
import Derived.Test.YtfikgiekigbaoaaDrS
import Derived.Test.YtfikgiekigbaoaaSrtI
namespace Go.Proofs.Ytfikgiekigbaoaa
open Go Go.RowKit Go.Lib

theorem rvC.below {w w' : World} {M : Nat} {x : List ValF} {cs : List Value} (h : rvC w M x cs) (hb : Below w.heap.size w w') : rvC w' M x cs := by
  obtain ⟨a, c, h1, h2⟩ := h
  exact ⟨a, c, h1, h2.imp (Nat.le_refl _) (Nat.le_refl _) hb.size (fun b _ h => hb.block b h) (fun _ _ h => h)⟩

/-- Element i of a row of rows: its cell, and the row itself. -/
def ElAt (w : World) (b o : Nat) (x : List ValF) : Prop := ∃ a c, w.cell? ⟨b, o, none⟩ = some (.slice a x.length c) ∧ b < w.heap.size ∧ RowP w 0 1048576 3 (vaC 1048576) x a

theorem elAt_of {w : World} {xss : List (List ValF)} {b o : Nat} (hel : ∀ i (h : i < xss.length), ∃ cs, rvC w 1048576 xss[i] cs ∧ cellsAt w b (o + i * 1) cs) (hb : b < w.heap.size) (i : Nat) (h : i < xss.length) : ElAt w b (o + i) xss[i] := by
  obtain ⟨cs, ⟨a, c, rfl, hr⟩, hat⟩ := hel i h
  have h0 := hat 0 (by simp)
  simp only [Nat.mul_one, Nat.add_zero, List.getElem_cons_zero] at h0
  exact ⟨a, c, h0, hb, hr⟩

theorem SegA.el {w : World} {g : Nat} {ps : Array Rw} (h : SegA w g ps) (i : Nat) (hi : i < ps.size) : ElAt w g i (atR ps i).2 := by
  obtain ⟨a, c, h1, h2, _⟩ := h.row i hi
  exact ⟨a, c, by rw [h.cell i hi, h1], h.lt, h2⟩

/-- How many of the first k rows are x. -/
def cntR (x : List ValF) (f : Nat → List ValF) : Nat → Int
  | 0 => 0
  | k + 1 => cntR x f k + if ordR x (f k) = 0 then 1 else 0
theorem cntR_le (x : List ValF) (f : Nat → List ValF) (k : Nat) : 0 ≤ cntR x f k ∧ cntR x f k ≤ k := by
  induction k with
  | zero => simp [cntR]
  | succ k ih => unfold cntR; split <;> omega
theorem cntR_count (x : List ValF) (l : List (List ValF)) (f : Nat → List ValF) (hf : ∀ i (h : i < l.length), f i = l[i]) (k : Nat) (hk : k ≤ l.length) : cntR x f k = ((l.take k).countP (fun y => decide (ordR x y = 0)) : Nat) := by
  induction k with
  | zero => simp [cntR]
  | succ k ih =>
    have hk' : k < l.length := by omega
    unfold cntR
    rw [ih (by omega), List.take_succ_eq_append_getElem hk', List.countP_append, hf k hk']
    by_cases h : ordR x l[k] = 0 <;> simp [h]
theorem cntR_perm (x : List ValF) (l l' : List (List ValF)) (hp : l'.Perm l) (f f' : Nat → List ValF) (hf : ∀ i (h : i < l.length), f i = l[i]) (hf' : ∀ i (h : i < l'.length), f' i = l'[i]) : cntR x f l.length - cntR x f' l.length = 0 := by
  rw [cntR_count x l f hf _ (Nat.le_refl _), cntR_count x l' f' hf' _ (Nat.le_of_eq hp.length_eq.symm), List.take_length, ← hp.length_eq, List.take_length, hp.countP_eq]
  omega

set_option maxHeartbeats 8000000 in
set_option maxRecDepth 100000 in
theorem fnSortRows.walk (a : Option Addr) (n c : Nat) (zs : List Int) (w : World) (w0 : IsRow .u8 w a n c zs) :
    Calls Try.prog 6 #[.slice a n c] w fun e w' => e = .returned (.bool true) ∧ Below w.heap.size w w' := by
  have hlen := w0.len_le
  by_cases hbig : 1048576 < n
  · go_enter Try.func6, Try.ntmps6
    go_wp2_with (go_at_call 24; refine (bigC _ _ _ hlen).mono ?_; rintro e w1 ⟨rfl, rfl⟩)
    all_goals go_ret
    all_goals exact ⟨rfl, by go_grown⟩
  · have HC := hide (Code.of_row w0 (by omega))
    go_enter Try.func6, Try.ntmps6
    go_wp2_with (go_at_call 24; refine (bigC _ _ _ hlen).mono ?_; rintro e w1 ⟨rfl, rfl⟩)
    refine (drawSortRowsC c HC.out (Nat.le_refl _)).mono ?_
    rintro e w1 ⟨ao, co, xss, rfl, h6, hrow, hb1⟩
    have H1 := hide hb1
    have hS := hide (implSortRowsSmall (Below.refl w1.heap.size w1) co hrow (by omega))
    have HR := hide hrow
    clear hb1 hbig HC hlen w0 hrow
    obtain ⟨m, hm⟩ : ∃ m, Hid (xss.length = m) := ⟨_, rfl⟩
    rw [hm.out] at hS h6 ⊢
    go_wp2_with fail
    refine hS.out.mono ?_
    rintro e w2 ⟨g, c', ps, rfl, hperm, hasc, hseg, _, hb2⟩
    have hpm : ps.size = m := by have := hperm.length_eq; rw [hm.out] at this; simpa using this
    have HB := hide (below_via H1.out hb2)
    have HX := hide (show 0 < m → ∃ b o, ao = some ⟨b, o, none⟩ ∧ ∀ i (h : i < xss.length), ElAt w2 b (o + i) xss[i] from fun h0 => by
      obtain ⟨_, hr⟩ := HR.out.imp (C' := rvC w2 1048576) (lo' := 0) (M' := 1048576) (Nat.le_refl _) (Nat.le_refl _) hb2.size (fun b _ h => hb2.block b h) (fun _ _ h => h.below hb2)
      obtain ⟨b, o, rfl, _, hlt, hel⟩ := hr (by have := hm.out; omega)
      exact ⟨b, o, rfl, fun i hi => elAt_of hel hlt i hi⟩)
    have HY := hide (And.intro hperm (And.intro hasc (And.intro hseg hpm)))
    clear hperm hasc hseg hb2 hS HR H1
    rw [hpm]
    clear hpm
    go_wp2_with fail
    go_loopw [5] (fun u wr => ∃ i : Nat, u = .int .i64 (i : Int) ∧ i ≤ m ∧ Hid (Below w2.heap.size w2 wr)) (fun u _ => m - (intOf u).toNat)
    case atStart => exact ⟨0, rfl, by omega, Below.refl _ _⟩
    case round =>
      obtain ⟨i, rfl, hi, HW⟩ := hrel
      by_cases hlt : i < m
      · have hlt2 : (i : Int) < m := by omega
        obtain ⟨lb, lo, rfl, hel⟩ := HX.out (by omega)
        have hix : i < xss.length := by have := hm.out; omega
        obtain ⟨xi, hxi⟩ : ∃ x, Hid (xss[i] = x) := ⟨xss[i], hide rfl⟩
        have HE := hide hel
        clear hel
        go_wp2_with fail
        go_loopw [6, 7] (fun u v wr => ∃ k : Nat, v = .int .i64 (k : Int) ∧ k ≤ m ∧ u = .int .i64 (cntR xi (fun i => xss.getD i []) k - cntR xi (fun i => (atR ps i).2) k) ∧ Hid (Below w2.heap.size w2 wr)) (fun _ v _ => m - (intOf v).toNat)
        case atStart => exact ⟨0, rfl, by omega, rfl, HW.out⟩
        case round =>
          clear HW
          obtain ⟨k, rfl, hk, rfl, HW⟩ := hrel
          by_cases hkm : k < m
          · have hkm2 : (k : Int) < m := by omega
            have hkx : k < xss.length := by have := hm.out; omega
            have hb1 := cntR_le xi (fun i => xss.getD i []) k
            have hb2 := cntR_le xi (fun i => (atR ps i).2) k
            obtain ⟨a1, c1, k1, l1, r1⟩ := HE.out i hix
            obtain ⟨a2, c2, k2, l2, r2⟩ := HE.out k hkx
            obtain ⟨a3, c3, k3, l3, r3⟩ := HY.out.2.2.1.el k (by have := HY.out.2.2.2; omega)
            rw [hxi.out] at k1 r1
            have hA := hide (fun p : BelowOf wr => Calls.below_of (p := p) (specOrderRow (below_via HW.out p.h) c1 c2 r1 r2 (Nat.le_refl _) (Nat.le_refl _)))
            have hB := hide (fun (W : World) (p : BelowOf W) (hW : Below w2.heap.size w2 W) => Calls.below_of (p := p) (specOrderRow (below_via hW p.h) c1 c3 r1 r3 (Nat.le_refl _) (Nat.le_refl _)))
            have e1 := BelowOf.cell ((HW.out.cell (p := ⟨lb, lo + i, none⟩) l1).trans k1) (Nat.lt_of_lt_of_le l1 HW.out.size)
            have e2 := BelowOf.cell ((HW.out.cell (p := ⟨lb, lo + k, none⟩) l2).trans k2) (Nat.lt_of_lt_of_le l2 HW.out.size)
            have g1 := BelowOf.cell ((HW.out.cell (p := ⟨lb, lo + i, none⟩) l1).trans k1) (Nat.lt_of_lt_of_le l1 HW.out.size)
            have HG3 := hide (And.intro k3 l3)
            have HK1 := hide (And.intro k1 l1)
            obtain ⟨q1, hq1⟩ : ∃ q, Hid (ordR xi xss[k] = q) := ⟨ordR xi xss[k], hide rfl⟩
            obtain ⟨q2, hq2⟩ : ∃ q, Hid (ordR xi (atR ps k).2 = q) := ⟨ordR xi (atR ps k).2, hide rfl⟩
            have HN := hide (show cntR xi (fun i => xss.getD i []) (k + 1) - cntR xi (fun i => (atR ps i).2) (k + 1) = (cntR xi (fun i => xss.getD i []) k + (if q1 = 0 then 1 else 0)) - (cntR xi (fun i => (atR ps i).2) k + (if q2 = 0 then 1 else 0)) by
              rw [← hq1.out, ← hq2.out]
              show (cntR xi _ k + (if ordR xi (xss.getD k []) = 0 then 1 else 0)) - (cntR xi _ k + (if ordR xi (atR ps k).2 = 0 then 1 else 0)) = _
              rw [show xss.getD k [] = xss[k] by simp [hkx]])
            rw [hq1.out] at hA
            rw [hq2.out] at hB
            generalize xi.length = n1 at hA hB e1 g1 HK1
            generalize xss[k].length = n2 at hA e2
            generalize (atR ps k).2.length = n3 at hB HG3
            generalize cntR xi (fun i => xss.getD i []) k = N1 at HN hb1 ⊢
            generalize cntR xi (fun i => (atR ps i).2) k = N2 at HN hb2 ⊢
            clear k1 k2 k3 l1 l2 l3 r1 r2 r3 g1
            go_wp2_with fail
            refine wp_region_wq (by kernel_rfl) (by kernel_rfl) ?_
            repeat (refine WQ.step (fun K hK => ?_); go_simp; first | (refine hK _ ?_; clear hK K) | (apply Exists.intro; refine ⟨fun _ => ?_, hK _ ?_⟩; (exact hA.out _); clear hK K))
            refine WQ.nil ?_
            intro W2 hw2
            have HW2 := hide (below_via HW.out (BelowOf.of hw2))
            clear hw2 e1 e2 hA
            have f1 := BelowOf.cell ((HW2.out.cell (p := ⟨lb, lo + i, none⟩) HK1.out.2).trans HK1.out.1) (Nat.lt_of_lt_of_le HK1.out.2 HW2.out.size)
            have f3 := BelowOf.cell ((HW2.out.cell (p := ⟨g, k, none⟩) HG3.out.2).trans HG3.out.1) (Nat.lt_of_lt_of_le HG3.out.2 HW2.out.size)
            by_cases h01 : q1 = 0
            · subst h01
              go_wp2_with fail
              refine wp_region_wq (by kernel_rfl) (by kernel_rfl) ?_
              repeat (refine WQ.step (fun K hK => ?_); go_simp; first | (refine hK _ ?_; clear hK K) | (apply Exists.intro; refine ⟨fun _ => ?_, hK _ ?_⟩; (exact hB.out _ _ HW2.out); clear hK K))
              refine WQ.nil ?_
              intro W3 hw3
              have HW3 := hide (below_via HW2.out (BelowOf.of hw3))
              clear hw3 f1 f3 hB
              by_cases h02 : q2 = 0
              · subst h02
                go_wp2_with fail
                go_roundw
                case rel => exact ⟨k + 1, by go_num, by omega, by rw [HN.out]; go_num, HW3.out⟩
                case measure => simp [intOf]; omega
              · have d2 : (q2 == 0) = false := by simpa using h02
                rw [if_neg h02] at HN
                clear h02
                go_wp2_with fail
                go_roundw
                case rel => exact ⟨k + 1, by go_num, by omega, by rw [HN.out]; go_num, HW3.out⟩
                case measure => simp [intOf]; omega
            · have d1 : (q1 == 0) = false := by simpa using h01
              rw [if_neg h01] at HN
              clear h01
              go_wp2_with fail
              refine wp_region_wq (by kernel_rfl) (by kernel_rfl) ?_
              repeat (refine WQ.step (fun K hK => ?_); go_simp; first | (refine hK _ ?_; clear hK K) | (apply Exists.intro; refine ⟨fun _ => ?_, hK _ ?_⟩; (exact hB.out _ _ HW2.out); clear hK K))
              refine WQ.nil ?_
              intro W3 hw3
              have HW3 := hide (below_via HW2.out (BelowOf.of hw3))
              clear hw3 f1 f3 hB
              by_cases h02 : q2 = 0
              · subst h02
                go_wp2_with fail
                go_roundw
                case rel => exact ⟨k + 1, by go_num, by omega, by rw [HN.out]; go_num, HW3.out⟩
                case measure => simp [intOf]; omega
              · have d2 : (q2 == 0) = false := by simpa using h02
                rw [if_neg h02] at HN
                clear h02
                go_wp2_with fail
                go_roundw
                case rel => exact ⟨k + 1, by go_num, by omega, by rw [HN.out]; go_num, HW3.out⟩
                case measure => simp [intOf]; omega
          · have hkm2 : ¬ (k : Int) < m := by omega
            have hkk : k = m := by omega
            subst hkk
            have hN0 := cntR_perm xi xss (ps.toList.map Prod.snd) HY.out.1 (fun i => xss.getD i []) (fun i => (atR ps i).2) (fun i h => by simp [h]) (fun i h => by rw [atR_get _ _ (by simpa using h)]; simp)
            rw [hm.out] at hN0
            rw [hN0]
            clear hN0
            by_cases hi0 : i = 0
            · subst hi0
              go_wp2_with fail
              refine wp_region_wq (by kernel_rfl) (by kernel_rfl) ?_
              repeat (refine WQ.step (fun K hK => ?_); go_simp; first | (refine hK _ ?_; clear hK K) | (apply Exists.intro; refine ⟨fun _ => ?_, hK _ ?_⟩; (fail); clear hK K))
              refine WQ.nil ?_
              intro W2 hw2
              have HW2 := hide (below_via HW.out (BelowOf.of hw2))
              clear hw2
              go_wp2_with fail
              go_roundw
              case rel => exact ⟨1, by go_num, by omega, HW2.out⟩
              case measure => simp [intOf]; omega
            · obtain ⟨j, rfl⟩ : ∃ j, i = j + 1 := ⟨i - 1, by omega⟩
              obtain ⟨a1, c1, k1, l1, r1⟩ := HY.out.2.2.1.el j (by have := HY.out.2.2.2; omega)
              obtain ⟨a2, c2, k2, l2, r2⟩ := HY.out.2.2.1.el (j + 1) (by have := HY.out.2.2.2; omega)
              have hle := HY.out.2.1 j (j + 1) (Nat.zero_le _) (by omega) (by have := HY.out.2.2.2; omega) (by have := HY.out.2.2.2; omega)
              have hA := hide (fun p : BelowOf wr => Calls.below_of (p := p) (implOrderRow (below_via HW.out p.h) c1 c2 r1 r2 (Nat.le_refl _) (Nat.le_refl _)))
              have hB := hide (fun p : BelowOf wr => Calls.below_of (p := p) (specOrderRow (below_via HW.out p.h) c1 c2 r1 r2 (Nat.le_refl _) (Nat.le_refl _)))
              have e1 := BelowOf.cell ((HW.out.cell (p := ⟨g, j, none⟩) l1).trans k1) (Nat.lt_of_lt_of_le l1 HW.out.size)
              have e2 := BelowOf.cell ((HW.out.cell (p := ⟨g, j + 1, none⟩) l2).trans k2) (Nat.lt_of_lt_of_le l2 HW.out.size)
              generalize ordR (atR ps j).2 (atR ps (j + 1)).2 = r at hA hB hle
              generalize (atR ps j).2.length = n1 at hA hB e1
              generalize (atR ps (j + 1)).2.length = n2 at hA hB e2
              have hd : decide (0 < r) = false := decide_eq_false (by omega)
              have hd2 : ¬ 0 < r := by omega
              have z2 : (j : Int) + 1 < (k : Int) := by omega
              have z3 : (j : Int) < (k : Int) := by omega
              have z4 : (0 : Int) ≤ (j : Int) + 1 := by omega
              have z5 : IntKind.i64.wrap (j : Int) = (j : Int) := IntWalk.i64_in _ (by omega)
              have z6 : IntKind.i64.wrap (((j + 1 : Nat) : Int) - 1) = (j : Int) := by rw [show (((j + 1 : Nat) : Int) - 1) = (j : Int) by omega]; exact z5
              clear k1 k2 l1 l2 r1 r2 hi0
              go_wp2_with fail
              refine wp_region_wq (by kernel_rfl) (by kernel_rfl) ?_
              repeat (refine WQ.step (fun K hK => ?_); go_simp; first | (refine hK _ ?_; clear hK K) | (apply Exists.intro; refine ⟨fun _ => ?_, hK _ ?_⟩; (first | exact hA.out _ | exact hB.out _); clear hK K))
              refine WQ.nil ?_
              intro W2 hw2
              have HW2 := hide (below_via HW.out (BelowOf.of hw2))
              clear hw2 e1 e2 hA hB
              go_wp2_with fail
              go_roundw
              case rel => exact ⟨j + 1 + 1, by go_num, by omega, HW2.out⟩
              case measure => simp [intOf]; omega
      · have hlt2 : ¬ (i : Int) < m := by omega
        go_wp2_with fail
        go_ret
        exact ⟨rfl, below_via HB.out HW.out⟩
end Go.Proofs.Ytfikgiekigbaoaa
