import Derived.Test.YtfnjcgakcpadiaaGreatDoorGLexR
import Derived.Test.YtfnjcgakcpadiaaGreatDoorGBase
/-
  SameTokens, in the reference: kinds and texts.
-/
namespace Go.Proofs.YtfnjcgakcpadiaaGreatDoor
open Go.RowKit

/-- The first n tokens have the same kinds and texts. -/
def sameF (n : Nat) (f f' : Nat → Int × ByteArray × Int) : Bool := (List.range n).all fun i => ((f i).1 == (f' i).1) && ((f i).2.1.toList == (f' i).2.1.toList)
theorem sameF_all {n : Nat} {f f' : Nat → Int × ByteArray × Int} (h : ∀ i, i < n → ((f i).1 == (f' i).1) = true ∧ ((f i).2.1.toList == (f' i).2.1.toList) = true) : sameF n f f' = true := by
  unfold sameF
  rw [List.all_eq_true]
  intro i hi
  rw [List.mem_range] at hi
  rw [(h i hi).1, (h i hi).2]
  rfl
theorem sameF_no {n i : Nat} {f f' : Nat → Int × ByteArray × Int} (hi : i < n) (h : ((f i).1 == (f' i).1) = false ∨ ((f i).2.1.toList == (f' i).2.1.toList) = false) : sameF n f f' = false := by
  unfold sameF
  rw [List.all_eq_false]
  refine ⟨i, List.mem_range.mpr hi, ?_⟩
  rcases h with h | h <;> simp [h]
theorem sameF_self (n : Nat) (f : Nat → Int × ByteArray × Int) : sameF n f f = true := sameF_all fun i _ => ⟨by simp, by simp⟩

set_option maxRecDepth 100000 in
set_option maxHeartbeats 1600000 in
theorem specSameC {w : World} {g g' n c c' : Nat} {f f' : Nat → Int × ByteArray × Int} (h : ToksF w g n f) (h' : ToksF w g' n f') (hn : n ≤ 1048577) :
    Calls Tryz.prog 14 #[.slice (some ⟨g, 0, none⟩) n c, .slice (some ⟨g', 0, none⟩) n c'] w fun e w' => e = .returned (.bool (sameF n f f')) ∧ Below w.heap.size w w' := by
  have H := hide (And.intro h h')
  clear h h'
  obtain ⟨r, hr⟩ : ∃ r, Hid (sameF n f f' = r) := ⟨_, rfl⟩
  rw [hr.out]
  go_enter Tryz.func14, Tryz.ntmps14
  go_wp2_with fail
  go_loopw [5] (fun x wr => ∃ j : Nat, x = .int .i64 j ∧ j ≤ n ∧ Hid (∀ i, i < j → ((f i).1 == (f' i).1) = true ∧ ((f i).2.1.toList == (f' i).2.1.toList) = true) ∧ Hid (Below w.heap.size w wr)) (fun x _ => n - (intOf x).toNat)
  case atStart => exact ⟨0, rfl, by omega, (show ∀ i, i < 0 → _ from fun i hi => by omega), (show Below w.heap.size w _ by go_grown)⟩
  case round =>
    obtain ⟨j, rfl, hj, HJ, HB⟩ := hrel
    by_cases hlt : j < n
    · have hlt2 : (j : Int) < n := by omega
      have h1 := H.out.1.below HB.out
      have h2 := H.out.2.below HB.out
      obtain ⟨c0, c1, c2⟩ := h1.cell j hlt
      obtain ⟨d0, d1, d2⟩ := h2.cell j hlt
      have e0 := BelowOf.cell c0 h1.lt
      have e1 := BelowOf.cell c1 h1.lt
      have f0 := BelowOf.cell d0 h2.lt
      have f1 := BelowOf.cell d1 h2.lt
      clear h1 h2 c2 d2
      cases hk : ((f j).1 == (f' j).1)
      · have hk2 : ((f j).1 != (f' j).1) = true := by unfold bne; rw [hk]; rfl
        have HR := hide (hr.out.symm.trans (sameF_no hlt (.inl hk)))
        go_wp2_with fail
        refine wp_region_wq (by kernel_rfl) (by kernel_rfl) ?_
        repeat (refine WQ.step (fun K hK => ?_); go_simp; first | (refine hK _ ?_; clear hK K) | (apply Exists.intro; refine ⟨fun _ => ?_, hK _ ?_⟩; (fail); clear hK K))
        refine WQ.nil ?_
        intro W2 hq2
        have HB2 := hide (below_via HB.out (BelowOf.of hq2))
        clear hq2 e0 e1 f0 f1 c0 c1 d0 d1
        go_wp2_with fail
        all_goals go_ret
        all_goals exact ⟨by rw [HR.out]; rfl, HB2.out⟩
      · have hk2 : ((f j).1 != (f' j).1) = false := by unfold bne; rw [hk]; rfl
        cases ht : ((f j).2.1.toList == (f' j).2.1.toList)
        · have HR := hide (hr.out.symm.trans (sameF_no hlt (.inr ht)))
          go_wp2_with fail
          refine wp_region_wq (by kernel_rfl) (by kernel_rfl) ?_
          repeat (refine WQ.step (fun K hK => ?_); go_simp; first | (refine hK _ ?_; clear hK K) | (apply Exists.intro; refine ⟨fun _ => ?_, hK _ ?_⟩; (fail); clear hK K))
          refine WQ.nil ?_
          intro W2 hq2
          have HB2 := hide (below_via HB.out (BelowOf.of hq2))
          clear hq2 e0 e1 f0 f1 c0 c1 d0 d1
          go_wp2_with fail
          all_goals go_ret
          all_goals exact ⟨by rw [HR.out]; rfl, HB2.out⟩
        · have HJ2 := hide (And.intro hk ht)
          go_wp2_with fail
          refine wp_region_wq (by kernel_rfl) (by kernel_rfl) ?_
          repeat (refine WQ.step (fun K hK => ?_); go_simp; first | (refine hK _ ?_; clear hK K) | (apply Exists.intro; refine ⟨fun _ => ?_, hK _ ?_⟩; (fail); clear hK K))
          refine WQ.nil ?_
          intro W2 hq2
          have HB2 := hide (below_via HB.out (BelowOf.of hq2))
          clear hq2 e0 e1 f0 f1 c0 c1 d0 d1
          clear hk ht hk2
          go_wp2_with fail
          go_roundw
          case rel =>
            refine ⟨j + 1, by go_num, by omega, ?_, HB2.out⟩
            show ∀ i, i < j + 1 → _
            intro i hi
            by_cases hij : i = j
            · subst hij; exact HJ2.out
            · exact HJ.out i (by omega)
          case measure => simp [intOf]; omega
    · have hlt2 : ¬ (j : Int) < n := by omega
      obtain rfl : j = n := by omega
      have HR := hide (hr.out.symm.trans (sameF_all HJ.out))
      go_wp2_with fail
      all_goals go_ret
      all_goals exact ⟨by rw [HR.out]; rfl, HB.out⟩

theorem specSameN (a a' : Option Addr) (c c' : Nat) (w : World) : Calls Tryz.prog 14 #[.slice a 0 c, .slice a' 0 c'] w fun e w' => e = .returned (.bool true) ∧ w = w' := by
  go_enter Tryz.func14, Tryz.ntmps14
  go_wp2
  refine wp_loop_rounds 1 ?_
  rw [rounds_succ]
  go_wp2
  go_ret
  exact ⟨rfl, rfl⟩
end Go.Proofs.YtfnjcgakcpadiaaGreatDoor

/-
  SameTokens, in the program: tokens of the same kinds and texts.
-/
namespace Go.Proofs.YtfnjcgakcpadiaaGreatDoor
open Go.RowKit

theorem sameClo (k : Int) (s : ByteArray) (a a' : Int) (w : World) :
    Calls Tryz.prog 50 #[.agg #[.int .i64 k, .string s, .int .i64 a], .agg #[.int .i64 k, .string s, .int .i64 a']] w fun e w' => e = .returned (.bool true) ∧ Below w.heap.size w w' := by
  go_enter Tryz.func50, Tryz.ntmps50
  go_wp2
  go_ret
  exact ⟨by simp, by go_grown⟩

set_option maxRecDepth 100000 in
set_option maxHeartbeats 1600000 in
theorem equalTokC {w : World} {g g' n c c' : Nat} {f f' : Nat → Int × ByteArray × Int} (h : ToksF w g n f) (h' : ToksF w g' n f') (hn : n ≤ 1048577) (hs : ∀ i, i < n → (f i).1 = (f' i).1 ∧ (f i).2.1 = (f' i).2.1) :
    Calls Tryz.prog 49 #[.slice (some ⟨g, 0, none⟩) n c, .slice (some ⟨g', 0, none⟩) n c', .func (.func 50) #[] #[]] w fun e w' => e = .returned (.bool true) ∧ Below w.heap.size w w' := by
  have H := hide (And.intro h (And.intro h' hs))
  clear h h' hs
  go_enter Tryz.func49, Tryz.ntmps49
  go_wp2_with fail
  go_loopw [17] (fun x wr => ∃ j : Nat, x = .int .i64 j ∧ j ≤ n ∧ Hid (Below w.heap.size w wr)) (fun x _ => n - (intOf x).toNat)
  case atStart => exact ⟨0, rfl, by omega, (show Below w.heap.size w _ by go_grown)⟩
  case round =>
    obtain ⟨j, rfl, hj, HB⟩ := hrel
    by_cases hlt : j < n
    · have hlt2 : (j : Int) < n := by omega
      have h1 := H.out.1.below HB.out
      have h2 := H.out.2.1.below HB.out
      obtain ⟨e1, e2⟩ := H.out.2.2 j hlt
      obtain ⟨c0, c1, c2⟩ := h1.cell j hlt
      obtain ⟨d0, d1, d2⟩ := h2.cell j hlt
      rw [← e1] at d0
      rw [← e2] at d1
      have l1 := h1.lt
      have l2 := h2.lt
      clear h1 h2 e1 e2
      go_wp2_with (go_at_call 50; refine (sameClo _ _ _ _ _).mono ?_; rintro e w2 ⟨rfl, hb2⟩)
      go_roundw
      case rel => exact ⟨j + 1, by go_num, by omega, below_via HB.out ((((Below.refl wr.heap.size wr).alloc (Nat.le_refl _) _).alloc (by simp) _).trans (hb2.mono (by simp; omega)))⟩
      case measure => simp [intOf]; omega
    · have hlt2 : ¬ (j : Int) < n := by omega
      go_wp2_with fail
      go_ret
      exact ⟨rfl, HB.out⟩

set_option maxRecDepth 100000 in
theorem implSameC {w : World} {g g' n c c' : Nat} {f f' : Nat → Int × ByteArray × Int} (h : ToksF w g n f) (h' : ToksF w g' n f') (hn : n ≤ 1048577) (hs : ∀ i, i < n → (f i).1 = (f' i).1 ∧ (f i).2.1 = (f' i).2.1) :
    Calls Tryz.prog 21 #[.slice (some ⟨g, 0, none⟩) n c, .slice (some ⟨g', 0, none⟩) n c'] w fun e w' => e = .returned (.bool true) ∧ Below w.heap.size w w' := by
  have H := hide (And.intro h (And.intro h' hs))
  clear h h' hs
  go_enter Tryz.func21, Tryz.ntmps21
  go_wp2_with fail
  refine (equalTokC H.out.1 H.out.2.1 hn H.out.2.2).mono ?_
  rintro e w1 ⟨rfl, hb⟩
  go_wp2_with fail
  go_ret
  exact ⟨rfl, hb⟩

theorem implSameN (a a' : Option Addr) (c c' : Nat) (w : World) : Calls Tryz.prog 21 #[.slice a 0 c, .slice a' 0 c'] w fun e w' => e = .returned (.bool true) ∧ w = w' := by
  have hE : Calls Tryz.prog 49 #[.slice a 0 c, .slice a' 0 c', .func (.func 50) #[] #[]] w fun e w' => e = .returned (.bool true) ∧ w = w' := by
    go_enter Tryz.func49, Tryz.ntmps49
    go_wp2_with fail
    refine wp_loop_rounds 1 ?_
    rw [rounds_succ]
    go_wp2_with fail
    go_ret
    exact ⟨rfl, rfl⟩
  go_enter Tryz.func21, Tryz.ntmps21
  go_wp2_with fail
  refine hE.mono ?_
  rintro e w1 ⟨rfl, rfl⟩
  go_wp2_with fail
  go_ret
  exact ⟨rfl, rfl⟩
end Go.Proofs.YtfnjcgakcpadiaaGreatDoor
