/-
  TokenOk, in the program and in the reference.
-/
import Derived.Test.YtfnjcgakcpadiaaGreatDoorSignC
import Derived.Test.YtfnjcgakcpadiaaGreatDoorNumI
import Derived.Test.YtfnjcgakcpadiaaGreatDoorKeyO
import Derived.Test.YtfnjcgakcpadiaaGreatDoorPlainN
import Derived.Test.YtfnjcgakcpadiaaGreatDoorGBase
namespace Go.Proofs.YtfnjcgakcpadiaaGreatDoor
open Go.RowKit

/-- What TokenOk says of a token's kind and text. -/
noncomputable def tokOk (k : Int) (s : ByteArray) : Bool :=
  if k = 1 then !(keyNo (upAll s) == 0) && ((upAll s).toList == s.toList) else if k = 2 then decide (1 ≤ s.size) && decide (s.size ≤ 20) else if k = 3 then numB s else if k = 4 then decide (s.size ≤ 40) else if k = 5 then signOk s else false

theorem Ready.belowOf {w : World} (h : Ready w) (p : BelowOf w) : Ready p.world := h.below p.h
theorem box_belowT {w w1 : World} {o : Obj} (hb : Below (w.alloc o).heap.size (w.alloc o) w1) : Below w.heap.size w w1 :=
  below_via ((Below.refl _ _).alloc (Nat.le_refl _) _) hb

set_option maxRecDepth 100000 in
set_option maxHeartbeats 1600000 in
theorem implTokenOk (k : Int) (s : ByteArray) (a : Int) (w : World) (ws : s.size ≤ 1048576) (hR : Ready w) :
    Calls Tryz.prog 17 #[.agg #[.int .i64 k, .string s, .int .i64 a]] w fun e w' => e = .returned (.bool (tokOk k s)) ∧ Below w.heap.size w w' := by
  obtain ⟨r, hr⟩ : ∃ r, Hid (tokOk k s = r) := ⟨_, rfl⟩
  rw [hr.out]
  have HR := hide hR
  clear hR
  by_cases hk1 : k = 1
  · subst hk1
    have hres : r = (!(keyNo (upAll s) == 0) && ((upAll s).toList == s.toList)) := by rw [← hr.out]; unfold tokOk; rw [if_pos rfl]
    have HRES := hide hres
    have hnn := keyNo_nonneg (upAll s)
    clear hres hr
    go_enter Tryz.func17, Tryz.ntmps17
    go_wp2_with fail
    generalize hW : World.alloc _ _ = W1
    have q0 : W1.cell? ⟨w.heap.size, 0, none⟩ = some (.int .i64 1) := by rw [← hW]; simp [go_sem]
    have q1 : W1.cell? ⟨w.heap.size, 1, none⟩ = some (.string s) := by rw [← hW]; simp [go_sem]
    have hbW : Below w.heap.size w W1 := by rw [← hW]; go_grown
    have qs : w.heap.size < W1.heap.size := by rw [← hW]; simp
    have HW := hide hbW
    clear hW hbW
    have e1 := BelowOf.cell q1 qs
    have HM0 : Hid (∀ p : BelowOf W1, ∃ m, p.world.cell? ⟨0, 0, none⟩ = some (.int .i64 m)) := fun p => ((HR.out.below HW.out).belowOf p).max
    cases hz : (keyNo (upAll s) == 0)
    · rw [hz] at HRES
      have hz2 : decide (0 < keyNo (upAll s)) = true := by simp at hz ⊢; omega
      have hz3 : ¬ keyNo (upAll s) = 0 := by simpa using hz
      refine wp_region_wq (by kernel_rfl) (by kernel_rfl) ?_
      repeat (refine WQ.step (fun K hK => ?_); go_simp; first | (refine hK _ ?_; clear hK K) | (apply Exists.intro; refine ⟨fun _ => ?_, hK _ ?_⟩; ((first | (go_at_call 41; obtain ⟨m, hm⟩ := HM0.out _; exact Calls.below_of (implKeyOf s m _ ws hm)) | (go_at_call 42; exact Calls.below_of (implFold s ws _)))); clear hK K))
      refine WQ.nil ?_
      intro W2 hq2
      have HB2 := hide (below_via HW.out (BelowOf.of hq2))
      have HZ := hide (And.intro hz3 (show 0 < keyNo (upAll s) by omega))
      clear hq2 hz hz2 hz3 hnn
      go_wp2_with fail
      all_goals go_ret
      all_goals refine ⟨?_, HB2.out⟩
      all_goals rw [HRES.out]
      all_goals exact ret_bool (by simp [HZ.out.1])
    · rw [hz] at HRES
      have hz2 : decide (0 < keyNo (upAll s)) = false := by simp at hz ⊢; omega
      have hz3 : keyNo (upAll s) = 0 := by simpa using hz
      refine wp_region_wq (by kernel_rfl) (by kernel_rfl) ?_
      repeat (refine WQ.step (fun K hK => ?_); go_simp; first | (refine hK _ ?_; clear hK K) | (apply Exists.intro; refine ⟨fun _ => ?_, hK _ ?_⟩; ((first | (go_at_call 41; obtain ⟨m, hm⟩ := HM0.out _; exact Calls.below_of (implKeyOf s m _ ws hm)) | (go_at_call 42; exact Calls.below_of (implFold s ws _)))); clear hK K))
      refine WQ.nil ?_
      intro W2 hq2
      have HB2 := hide (below_via HW.out (BelowOf.of hq2))
      have HZ := hide hz3
      clear hq2 hz hz2 hz3 hnn
      go_wp2_with fail
      all_goals go_ret
      all_goals refine ⟨?_, HB2.out⟩
      all_goals rw [HRES.out]
      all_goals exact ret_bool (by simp)
  · have g1 : (k == 1) = false := by simpa using hk1
    by_cases hk2 : k = 2
    · subst hk2
      have hres : r = (decide (1 ≤ s.size) && decide (s.size ≤ 20)) := by rw [← hr.out]; unfold tokOk; rw [if_neg hk1, if_pos rfl]
      have HRES := hide hres
      clear hr hres
      go_enter Tryz.func17, Tryz.ntmps17
      go_wp2_with fail
      refine (nameOkI s _).mono ?_
      rintro e w1 ⟨rfl, rfl⟩
      rw [← HRES.out]
      go_wp2_with fail
      all_goals go_ret
      all_goals exact ⟨rfl, by go_grown⟩
    · have g2 : (k == 2) = false := by simpa using hk2
      by_cases hk3 : k = 3
      · subst hk3
        have hres : r = numB s := by rw [← hr.out]; unfold tokOk; rw [if_neg hk1, if_neg hk2, if_pos rfl]
        have HRES := hide hres
        clear hr hres
        go_enter Tryz.func17, Tryz.ntmps17
        go_wp2_with fail
        refine (implNumber s (by omega) _ (HR.out.below (by go_grown))).mono ?_
        rintro e w1 ⟨rfl, hb⟩
        rw [← HRES.out]
        generalize numN s = n
        have H1 := hide (box_belowT hb)
        clear hb
        go_wp2_with fail
        all_goals go_ret
        all_goals exact ⟨rfl, H1.out⟩
      · have g3 : (k == 3) = false := by simpa using hk3
        by_cases hk4 : k = 4
        · subst hk4
          have hres : r = decide (s.size ≤ 40) := by rw [← hr.out]; unfold tokOk; rw [if_neg hk1, if_neg hk2, if_neg hk3, if_pos rfl]
          subst hres
          clear hr
          go_enter Tryz.func17, Tryz.ntmps17
          go_wp2_with fail
          all_goals go_ret
          all_goals refine ⟨ret_bool ?_, by go_grown⟩
          all_goals rw [Bool.eq_iff_iff]
          all_goals simp
          all_goals omega
        · have g4 : (k == 4) = false := by simpa using hk4
          by_cases hk5 : k = 5
          · subst hk5
            have hres : r = signOk s := by rw [← hr.out]; unfold tokOk; rw [if_neg hk1, if_neg hk2, if_neg hk3, if_neg hk4, if_pos rfl]
            have HRES := hide hres
            clear hr hres
            go_enter Tryz.func17, Tryz.ntmps17
            go_wp2_with fail
            refine (implSignOk s _).mono ?_
            rintro e w1 ⟨rfl, hb⟩
            rw [← HRES.out]
            go_wp2_with fail
            all_goals go_ret
            all_goals exact ⟨rfl, box_belowT hb⟩
          · have g5 : (k == 5) = false := by simpa using hk5
            have hres : r = false := by rw [← hr.out]; unfold tokOk; rw [if_neg hk1, if_neg hk2, if_neg hk3, if_neg hk4, if_neg hk5]
            subst hres
            clear hr hk1 hk2 hk3 hk4 hk5
            go_enter Tryz.func17, Tryz.ntmps17
            go_wp2_with fail
            all_goals go_ret
            all_goals exact ⟨rfl, by go_grown⟩

set_option maxRecDepth 100000 in
set_option maxHeartbeats 1600000 in
theorem specTokenOk (k : Int) (s : ByteArray) (a : Int) (w : World) (ws : s.size ≤ 1048576) :
    Calls Tryz.prog 11 #[.agg #[.int .i64 k, .string s, .int .i64 a]] w fun e w' => e = .returned (.bool (tokOk k s)) ∧ Below w.heap.size w w' := by
  obtain ⟨r, hr⟩ : ∃ r, Hid (tokOk k s = r) := ⟨_, rfl⟩
  rw [hr.out]
  by_cases hk1 : k = 1
  · subst hk1
    have hres : r = (!(keyNo (upAll s) == 0) && ((upAll s).toList == s.toList)) := by rw [← hr.out]; unfold tokOk; rw [if_pos rfl]
    have HRES := hide hres
    have hnn := keyNo_nonneg (upAll s)
    clear hres hr
    go_enter Tryz.func11, Tryz.ntmps11
    go_wp2_with fail
    generalize hW : World.alloc _ _ = W1
    have q0 : W1.cell? ⟨w.heap.size, 0, none⟩ = some (.int .i64 1) := by rw [← hW]; simp [go_sem]
    have q1 : W1.cell? ⟨w.heap.size, 1, none⟩ = some (.string s) := by rw [← hW]; simp [go_sem]
    have hbW : Below w.heap.size w W1 := by rw [← hW]; go_grown
    have qs : w.heap.size < W1.heap.size := by rw [← hW]; simp
    have HW := hide hbW
    clear hW hbW
    have e1 := BelowOf.cell q1 qs
    cases hz : (keyNo (upAll s) == 0)
    · rw [hz] at HRES
      have hz2 : decide (0 < keyNo (upAll s)) = true := by simp at hz ⊢; omega
      have hz3 : ¬ keyNo (upAll s) = 0 := by simpa using hz
      refine wp_region_wq (by kernel_rfl) (by kernel_rfl) ?_
      repeat (refine WQ.step (fun K hK => ?_); go_simp; first | (refine hK _ ?_; clear hK K) | (apply Exists.intro; refine ⟨fun _ => ?_, hK _ ?_⟩; ((first | (go_at_call 30; exact Calls.below_of (specKeyOf s _ ws)) | (go_at_call 31; exact Calls.below_of (specFold s ws _)))); clear hK K))
      refine WQ.nil ?_
      intro W2 hq2
      have HB2 := hide (below_via HW.out (BelowOf.of hq2))
      have HZ := hide (And.intro hz3 (show 0 < keyNo (upAll s) by omega))
      clear hq2 hz hz2 hz3 hnn
      go_wp2_with fail
      all_goals go_ret
      all_goals refine ⟨?_, HB2.out⟩
      all_goals rw [HRES.out]
      all_goals exact ret_bool (by simp)
    · rw [hz] at HRES
      have hz2 : decide (0 < keyNo (upAll s)) = false := by simp at hz ⊢; omega
      have hz3 : keyNo (upAll s) = 0 := by simpa using hz
      refine wp_region_wq (by kernel_rfl) (by kernel_rfl) ?_
      repeat (refine WQ.step (fun K hK => ?_); go_simp; first | (refine hK _ ?_; clear hK K) | (apply Exists.intro; refine ⟨fun _ => ?_, hK _ ?_⟩; ((first | (go_at_call 30; exact Calls.below_of (specKeyOf s _ ws)) | (go_at_call 31; exact Calls.below_of (specFold s ws _)))); clear hK K))
      refine WQ.nil ?_
      intro W2 hq2
      have HB2 := hide (below_via HW.out (BelowOf.of hq2))
      have HZ := hide hz3
      clear hq2 hz hz2 hz3 hnn
      go_wp2_with fail
      all_goals go_ret
      all_goals refine ⟨?_, HB2.out⟩
      all_goals rw [HRES.out]
      all_goals exact ret_bool (by simp)
  · have g1 : (k == 1) = false := by simpa using hk1
    by_cases hk2 : k = 2
    · subst hk2
      have hres : r = (decide (1 ≤ s.size) && decide (s.size ≤ 20)) := by rw [← hr.out]; unfold tokOk; rw [if_neg hk1, if_pos rfl]
      have HRES := hide hres
      clear hr hres
      go_enter Tryz.func11, Tryz.ntmps11
      go_wp2_with fail
      refine (nameOkS s _).mono ?_
      rintro e w1 ⟨rfl, rfl⟩
      rw [← HRES.out]
      go_wp2_with fail
      all_goals go_ret
      all_goals exact ⟨rfl, by go_grown⟩
    · have g2 : (k == 2) = false := by simpa using hk2
      by_cases hk3 : k = 3
      · subst hk3
        have hres : r = numB s := by rw [← hr.out]; unfold tokOk; rw [if_neg hk1, if_neg hk2, if_pos rfl]
        have HRES := hide hres
        clear hr hres
        go_enter Tryz.func11, Tryz.ntmps11
        go_wp2_with fail
        refine (specNumber s (by omega) _).mono ?_
        rintro e w1 ⟨rfl, hb⟩
        rw [← HRES.out]
        generalize numN s = n
        have H1 := hide (box_belowT hb)
        clear hb
        go_wp2_with fail
        all_goals go_ret
        all_goals exact ⟨rfl, H1.out⟩
      · have g3 : (k == 3) = false := by simpa using hk3
        by_cases hk4 : k = 4
        · subst hk4
          have hres : r = decide (s.size ≤ 40) := by rw [← hr.out]; unfold tokOk; rw [if_neg hk1, if_neg hk2, if_neg hk3, if_pos rfl]
          subst hres
          clear hr
          go_enter Tryz.func11, Tryz.ntmps11
          go_wp2_with fail
          all_goals go_ret
          all_goals refine ⟨ret_bool ?_, by go_grown⟩
          all_goals rw [Bool.eq_iff_iff]
          all_goals simp
          all_goals omega
        · have g4 : (k == 4) = false := by simpa using hk4
          by_cases hk5 : k = 5
          · subst hk5
            have hres : r = signOk s := by rw [← hr.out]; unfold tokOk; rw [if_neg hk1, if_neg hk2, if_neg hk3, if_neg hk4, if_pos rfl]
            have HRES := hide hres
            clear hr hres
            go_enter Tryz.func11, Tryz.ntmps11
            go_wp2_with fail
            refine (specSignOk s _).mono ?_
            rintro e w1 ⟨rfl, rfl⟩
            rw [← HRES.out]
            go_wp2_with fail
            all_goals go_ret
            all_goals exact ⟨rfl, by go_grown⟩
          · have g5 : (k == 5) = false := by simpa using hk5
            have hres : r = false := by rw [← hr.out]; unfold tokOk; rw [if_neg hk1, if_neg hk2, if_neg hk3, if_neg hk4, if_neg hk5]
            subst hres
            clear hr hk1 hk2 hk3 hk4 hk5
            go_enter Tryz.func11, Tryz.ntmps11
            go_wp2_with fail
            all_goals go_ret
            all_goals exact ⟨rfl, by go_grown⟩
end Go.Proofs.YtfnjcgakcpadiaaGreatDoor
