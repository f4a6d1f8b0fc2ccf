/-
  NeedsGap, in the reference.
-/
import Derived.Test.YtfnjcgakcpadiaaGreatDoorGapL
namespace Go.Proofs.YtfnjcgakcpadiaaGreatDoor
open Go.RowKit

set_option maxRecDepth 100000 in
set_option maxHeartbeats 800000 in
theorem specWord (k : Int) (s : ByteArray) (a : Int) (w : World) (ws : s.size ≤ 1048576) :
    Calls Tryz.prog 28 #[.agg #[.int .i64 k, .string s, .int .i64 a]] w fun e w' => e = .returned (.bool (wordB k s)) ∧ Below w.heap.size w w' := by
  obtain ⟨r, hr⟩ : ∃ r, Hid (wordB k s = r) := ⟨_, rfl⟩
  rw [hr.out]
  by_cases hk2 : k = 2
  · subst hk2
    have hres : r = plainB s := by rw [← hr.out]; unfold wordB; simp
    have HRES := hide hres
    clear hr hres
    go_enter Tryz.func28, Tryz.ntmps28
    go_wp2_with fail
    refine (specPlain s _ ws).mono ?_
    rintro e w1 ⟨rfl, hb⟩
    have H1 := hide (box_belowT hb)
    clear hb
    rw [← HRES.out]
    go_wp2_with fail
    all_goals go_ret
    all_goals exact ⟨rfl, H1.out⟩
  · have hres : r = (k == 1 || k == 3) := by rw [← hr.out]; unfold wordB; have h : (k == 2) = false := by simpa using hk2
                                             rw [h]; simp
    have HRES := hide hres
    clear hr hres
    have g2 : (k == 2) = false := by simpa using hk2
    clear hk2
    by_cases hk1 : k = 1
    · subst hk1
      go_enter Tryz.func28, Tryz.ntmps28
      go_wp2_with fail
      all_goals go_ret
      all_goals exact ⟨by rw [HRES.out]; rfl, by go_grown⟩
    · have g1 : (k == 1) = false := by simpa using hk1
      clear hk1
      by_cases hk3 : k = 3
      · subst hk3
        go_enter Tryz.func28, Tryz.ntmps28
        go_wp2_with fail
        all_goals go_ret
        all_goals exact ⟨by rw [HRES.out]; rfl, by go_grown⟩
      · have g3 : (k == 3) = false := by simpa using hk3
        clear hk3
        have G := hide (And.intro g1 g3)
        go_enter Tryz.func28, Tryz.ntmps28
        go_wp2_with fail
        all_goals go_ret
        all_goals exact ⟨by rw [HRES.out, G.out.1, G.out.2]; rfl, by go_grown⟩

set_option maxRecDepth 100000 in
set_option maxHeartbeats 800000 in
theorem specQuot (k : Int) (s : ByteArray) (a : Int) (w : World) (ws : s.size ≤ 1048576) :
    Calls Tryz.prog 29 #[.agg #[.int .i64 k, .string s, .int .i64 a]] w fun e w' => e = .returned (.bool (quotB k s)) ∧ Below w.heap.size w w' := by
  obtain ⟨r, hr⟩ : ∃ r, Hid (quotB k s = r) := ⟨_, rfl⟩
  rw [hr.out]
  by_cases hk2 : k = 2
  · subst hk2
    have hres : r = !plainB s := by rw [← hr.out]; unfold quotB; simp
    have HRES := hide hres
    clear hr hres
    go_enter Tryz.func29, Tryz.ntmps29
    go_wp2_with fail
    refine (specPlain s _ ws).mono ?_
    rintro e w1 ⟨rfl, hb⟩
    have H1 := hide (box_belowT hb)
    clear hb
    generalize plainB s = b at HRES ⊢
    cases b
    all_goals
      go_wp2_with fail
      all_goals go_ret
      all_goals exact ⟨by rw [HRES.out]; rfl, H1.out⟩
  · have hres : r = false := by rw [← hr.out]; unfold quotB; have h : (k == 2) = false := by simpa using hk2
                                rw [h]; simp
    subst hres
    clear hr
    have g2 : (k == 2) = false := by simpa using hk2
    clear hk2
    go_enter Tryz.func29, Tryz.ntmps29
    go_wp2_with fail
    all_goals go_ret
    all_goals exact ⟨rfl, by go_grown⟩

set_option maxRecDepth 100000 in
set_option maxHeartbeats 1600000 in
theorem specGap_na (ka : Int) (sa : ByteArray) (aa : Int) (kb : Int) (sb : ByteArray) (ab : Int) (w : World) (wa : sa.size ≤ 1048576) (_wb : sb.size ≤ 1048576) (TA : Hid (tokOk ka sa = false)) :
    Calls Tryz.prog 10 #[.agg #[.int .i64 ka, .string sa, .int .i64 aa], .agg #[.int .i64 kb, .string sb, .int .i64 ab]] w fun e w' => e = .returned (.bool false) ∧ Below w.heap.size w w' := by
  go_enter Tryz.func10, Tryz.ntmps10
  go_wp2_with fail
  generalize hW : World.alloc _ _ = W1
  have hbx : Box2 W1 w.heap.size (w.heap.size + 1) ka sa aa kb sb ab := by rw [← hW]; exact Box2.made w _ _ _ _ _ _ _ _
  have hb1 : Below w.heap.size w W1 := by rw [← hW]; go_grown
  clear hW
  obtain ⟨bb, hbb⟩ : ∃ bb, bb = w.heap.size + 1 := ⟨_, rfl⟩
  rw [← hbb] at hbx ⊢
  obtain ⟨ba, hba⟩ : ∃ ba, ba = w.heap.size := ⟨_, rfl⟩
  rw [← hba] at hbx ⊢
  have HBA := hide (And.intro hba hbb)
  clear hba hbb
  have H0 := hide (And.intro hbx hb1)
  clear hbx hb1
  obtain ⟨q0, q1, q2, r0, r1, r2, _, _⟩ := H0.out.1
  refine (specTokenOk ka sa aa _ wa).mono ?_
  rintro e w1 ⟨rfl, hb⟩
  have H0 := hide (And.intro (H0.out.1.below hb) (below_via H0.out.2 hb))
  clear hb q0 q1 q2 r0 r1 r2
  obtain ⟨q0, q1, q2, r0, r1, r2, _, _⟩ := H0.out.1
  rw [TA.out]
  go_wp2_with fail
  all_goals go_ret
  all_goals exact ⟨rfl, H0.out.2⟩

set_option maxRecDepth 100000 in
set_option maxHeartbeats 1600000 in
theorem specGap_nb (ka : Int) (sa : ByteArray) (aa : Int) (kb : Int) (sb : ByteArray) (ab : Int) (w : World) (wa : sa.size ≤ 1048576) (wb : sb.size ≤ 1048576) (TA : Hid (tokOk ka sa = true)) (TB : Hid (tokOk kb sb = false)) :
    Calls Tryz.prog 10 #[.agg #[.int .i64 ka, .string sa, .int .i64 aa], .agg #[.int .i64 kb, .string sb, .int .i64 ab]] w fun e w' => e = .returned (.bool false) ∧ Below w.heap.size w w' := by
  go_enter Tryz.func10, Tryz.ntmps10
  go_wp2_with fail
  generalize hW : World.alloc _ _ = W1
  have hbx : Box2 W1 w.heap.size (w.heap.size + 1) ka sa aa kb sb ab := by rw [← hW]; exact Box2.made w _ _ _ _ _ _ _ _
  have hb1 : Below w.heap.size w W1 := by rw [← hW]; go_grown
  clear hW
  obtain ⟨bb, hbb⟩ : ∃ bb, bb = w.heap.size + 1 := ⟨_, rfl⟩
  rw [← hbb] at hbx ⊢
  obtain ⟨ba, hba⟩ : ∃ ba, ba = w.heap.size := ⟨_, rfl⟩
  rw [← hba] at hbx ⊢
  have HBA := hide (And.intro hba hbb)
  clear hba hbb
  have H0 := hide (And.intro hbx hb1)
  clear hbx hb1
  obtain ⟨q0, q1, q2, r0, r1, r2, _, _⟩ := H0.out.1
  refine (specTokenOk ka sa aa _ wa).mono ?_
  rintro e w1 ⟨rfl, hb⟩
  have H0 := hide (And.intro (H0.out.1.below hb) (below_via H0.out.2 hb))
  clear hb q0 q1 q2 r0 r1 r2
  obtain ⟨q0, q1, q2, r0, r1, r2, _, _⟩ := H0.out.1
  rw [TA.out]
  go_wp2_with fail
  refine (specTokenOk kb sb ab _ wb).mono ?_
  rintro e w1 ⟨rfl, hb⟩
  have H0 := hide (And.intro (H0.out.1.below hb) (below_via H0.out.2 hb))
  clear hb q0 q1 q2 r0 r1 r2
  obtain ⟨q0, q1, q2, r0, r1, r2, _, _⟩ := H0.out.1
  rw [TB.out]
  go_wp2_with fail
  all_goals go_ret
  all_goals exact ⟨rfl, H0.out.2⟩

set_option maxRecDepth 100000 in
set_option maxHeartbeats 1600000 in
theorem specGap_ww (ka : Int) (sa : ByteArray) (aa : Int) (kb : Int) (sb : ByteArray) (ab : Int) (w : World) (wa : sa.size ≤ 1048576) (wb : sb.size ≤ 1048576) (TA : Hid (tokOk ka sa = true)) (TB : Hid (tokOk kb sb = true)) (WA : Hid (wordB ka sa = true)) (WB : Hid (wordB kb sb = true)) :
    Calls Tryz.prog 10 #[.agg #[.int .i64 ka, .string sa, .int .i64 aa], .agg #[.int .i64 kb, .string sb, .int .i64 ab]] w fun e w' => e = .returned (.bool true) ∧ Below w.heap.size w w' := by
  go_enter Tryz.func10, Tryz.ntmps10
  go_wp2_with fail
  generalize hW : World.alloc _ _ = W1
  have hbx : Box2 W1 w.heap.size (w.heap.size + 1) ka sa aa kb sb ab := by rw [← hW]; exact Box2.made w _ _ _ _ _ _ _ _
  have hb1 : Below w.heap.size w W1 := by rw [← hW]; go_grown
  clear hW
  obtain ⟨bb, hbb⟩ : ∃ bb, bb = w.heap.size + 1 := ⟨_, rfl⟩
  rw [← hbb] at hbx ⊢
  obtain ⟨ba, hba⟩ : ∃ ba, ba = w.heap.size := ⟨_, rfl⟩
  rw [← hba] at hbx ⊢
  have HBA := hide (And.intro hba hbb)
  clear hba hbb
  have H0 := hide (And.intro hbx hb1)
  clear hbx hb1
  obtain ⟨q0, q1, q2, r0, r1, r2, _, _⟩ := H0.out.1
  refine (specTokenOk ka sa aa _ wa).mono ?_
  rintro e w1 ⟨rfl, hb⟩
  have H0 := hide (And.intro (H0.out.1.below hb) (below_via H0.out.2 hb))
  clear hb q0 q1 q2 r0 r1 r2
  obtain ⟨q0, q1, q2, r0, r1, r2, _, _⟩ := H0.out.1
  rw [TA.out]
  go_wp2_with fail
  refine (specTokenOk kb sb ab _ wb).mono ?_
  rintro e w1 ⟨rfl, hb⟩
  have H0 := hide (And.intro (H0.out.1.below hb) (below_via H0.out.2 hb))
  clear hb q0 q1 q2 r0 r1 r2
  obtain ⟨q0, q1, q2, r0, r1, r2, _, _⟩ := H0.out.1
  rw [TB.out]
  go_wp2_with fail
  refine (specWord ka sa aa _ wa).mono ?_
  rintro e w1 ⟨rfl, hb⟩
  have H0 := hide (And.intro (H0.out.1.below hb) (below_via H0.out.2 hb))
  clear hb q0 q1 q2 r0 r1 r2
  obtain ⟨q0, q1, q2, r0, r1, r2, _, _⟩ := H0.out.1
  rw [WA.out]
  go_wp2_with fail
  refine (specWord kb sb ab _ wb).mono ?_
  rintro e w1 ⟨rfl, hb⟩
  have H0 := hide (And.intro (H0.out.1.below hb) (below_via H0.out.2 hb))
  clear hb q0 q1 q2 r0 r1 r2
  obtain ⟨q0, q1, q2, r0, r1, r2, _, _⟩ := H0.out.1
  rw [WB.out]
  go_wp2_with fail
  all_goals go_ret
  all_goals exact ⟨rfl, H0.out.2⟩

set_option maxRecDepth 100000 in
set_option maxHeartbeats 1600000 in
theorem specGap_wx (ka : Int) (sa : ByteArray) (aa : Int) (kb : Int) (sb : ByteArray) (ab : Int) (w : World) (wa : sa.size ≤ 1048576) (wb : sb.size ≤ 1048576) (TA : Hid (tokOk ka sa = true)) (TB : Hid (tokOk kb sb = true)) (WA : Hid (wordB ka sa = true)) (WB : Hid (wordB kb sb = false)) (QA : Hid (quotB ka sa = false)) (k4 : (ka == 4) = false) (_k5 : (ka == 5) = false) (k5' : (ka != 5) = true) :
    Calls Tryz.prog 10 #[.agg #[.int .i64 ka, .string sa, .int .i64 aa], .agg #[.int .i64 kb, .string sb, .int .i64 ab]] w fun e w' => e = .returned (.bool false) ∧ Below w.heap.size w w' := by
  go_enter Tryz.func10, Tryz.ntmps10
  go_wp2_with fail
  generalize hW : World.alloc _ _ = W1
  have hbx : Box2 W1 w.heap.size (w.heap.size + 1) ka sa aa kb sb ab := by rw [← hW]; exact Box2.made w _ _ _ _ _ _ _ _
  have hb1 : Below w.heap.size w W1 := by rw [← hW]; go_grown
  clear hW
  obtain ⟨bb, hbb⟩ : ∃ bb, bb = w.heap.size + 1 := ⟨_, rfl⟩
  rw [← hbb] at hbx ⊢
  obtain ⟨ba, hba⟩ : ∃ ba, ba = w.heap.size := ⟨_, rfl⟩
  rw [← hba] at hbx ⊢
  have HBA := hide (And.intro hba hbb)
  clear hba hbb
  have H0 := hide (And.intro hbx hb1)
  clear hbx hb1
  obtain ⟨q0, q1, q2, r0, r1, r2, _, _⟩ := H0.out.1
  refine (specTokenOk ka sa aa _ wa).mono ?_
  rintro e w1 ⟨rfl, hb⟩
  have H0 := hide (And.intro (H0.out.1.below hb) (below_via H0.out.2 hb))
  clear hb q0 q1 q2 r0 r1 r2
  obtain ⟨q0, q1, q2, r0, r1, r2, _, _⟩ := H0.out.1
  rw [TA.out]
  go_wp2_with fail
  refine (specTokenOk kb sb ab _ wb).mono ?_
  rintro e w1 ⟨rfl, hb⟩
  have H0 := hide (And.intro (H0.out.1.below hb) (below_via H0.out.2 hb))
  clear hb q0 q1 q2 r0 r1 r2
  obtain ⟨q0, q1, q2, r0, r1, r2, _, _⟩ := H0.out.1
  rw [TB.out]
  go_wp2_with fail
  refine (specWord ka sa aa _ wa).mono ?_
  rintro e w1 ⟨rfl, hb⟩
  have H0 := hide (And.intro (H0.out.1.below hb) (below_via H0.out.2 hb))
  clear hb q0 q1 q2 r0 r1 r2
  obtain ⟨q0, q1, q2, r0, r1, r2, _, _⟩ := H0.out.1
  rw [WA.out]
  go_wp2_with fail
  refine (specWord kb sb ab _ wb).mono ?_
  rintro e w1 ⟨rfl, hb⟩
  have H0 := hide (And.intro (H0.out.1.below hb) (below_via H0.out.2 hb))
  clear hb q0 q1 q2 r0 r1 r2
  obtain ⟨q0, q1, q2, r0, r1, r2, _, _⟩ := H0.out.1
  rw [WB.out]
  go_wp2_with fail
  refine (specQuot ka sa aa _ wa).mono ?_
  rintro e w1 ⟨rfl, hb⟩
  have H0 := hide (And.intro (H0.out.1.below hb) (below_via H0.out.2 hb))
  clear hb q0 q1 q2 r0 r1 r2
  obtain ⟨q0, q1, q2, r0, r1, r2, _, _⟩ := H0.out.1
  rw [QA.out]
  go_wp2_with fail
  all_goals go_ret
  all_goals exact ⟨rfl, H0.out.2⟩

set_option maxRecDepth 100000 in
set_option maxHeartbeats 1600000 in
theorem specGap_qq (ka : Int) (sa : ByteArray) (aa : Int) (kb : Int) (sb : ByteArray) (ab : Int) (w : World) (wa : sa.size ≤ 1048576) (wb : sb.size ≤ 1048576) (TA : Hid (tokOk ka sa = true)) (TB : Hid (tokOk kb sb = true)) (WA : Hid (wordB ka sa = false)) (QA : Hid (quotB ka sa = true)) (QB : Hid (quotB kb sb = true)) (k4 : (ka == 4) = false) :
    Calls Tryz.prog 10 #[.agg #[.int .i64 ka, .string sa, .int .i64 aa], .agg #[.int .i64 kb, .string sb, .int .i64 ab]] w fun e w' => e = .returned (.bool true) ∧ Below w.heap.size w w' := by
  go_enter Tryz.func10, Tryz.ntmps10
  go_wp2_with fail
  generalize hW : World.alloc _ _ = W1
  have hbx : Box2 W1 w.heap.size (w.heap.size + 1) ka sa aa kb sb ab := by rw [← hW]; exact Box2.made w _ _ _ _ _ _ _ _
  have hb1 : Below w.heap.size w W1 := by rw [← hW]; go_grown
  clear hW
  obtain ⟨bb, hbb⟩ : ∃ bb, bb = w.heap.size + 1 := ⟨_, rfl⟩
  rw [← hbb] at hbx ⊢
  obtain ⟨ba, hba⟩ : ∃ ba, ba = w.heap.size := ⟨_, rfl⟩
  rw [← hba] at hbx ⊢
  have HBA := hide (And.intro hba hbb)
  clear hba hbb
  have H0 := hide (And.intro hbx hb1)
  clear hbx hb1
  obtain ⟨q0, q1, q2, r0, r1, r2, _, _⟩ := H0.out.1
  refine (specTokenOk ka sa aa _ wa).mono ?_
  rintro e w1 ⟨rfl, hb⟩
  have H0 := hide (And.intro (H0.out.1.below hb) (below_via H0.out.2 hb))
  clear hb q0 q1 q2 r0 r1 r2
  obtain ⟨q0, q1, q2, r0, r1, r2, _, _⟩ := H0.out.1
  rw [TA.out]
  go_wp2_with fail
  refine (specTokenOk kb sb ab _ wb).mono ?_
  rintro e w1 ⟨rfl, hb⟩
  have H0 := hide (And.intro (H0.out.1.below hb) (below_via H0.out.2 hb))
  clear hb q0 q1 q2 r0 r1 r2
  obtain ⟨q0, q1, q2, r0, r1, r2, _, _⟩ := H0.out.1
  rw [TB.out]
  go_wp2_with fail
  refine (specWord ka sa aa _ wa).mono ?_
  rintro e w1 ⟨rfl, hb⟩
  have H0 := hide (And.intro (H0.out.1.below hb) (below_via H0.out.2 hb))
  clear hb q0 q1 q2 r0 r1 r2
  obtain ⟨q0, q1, q2, r0, r1, r2, _, _⟩ := H0.out.1
  rw [WA.out]
  go_wp2_with fail
  refine (specQuot ka sa aa _ wa).mono ?_
  rintro e w1 ⟨rfl, hb⟩
  have H0 := hide (And.intro (H0.out.1.below hb) (below_via H0.out.2 hb))
  clear hb q0 q1 q2 r0 r1 r2
  obtain ⟨q0, q1, q2, r0, r1, r2, _, _⟩ := H0.out.1
  rw [QA.out]
  go_wp2_with fail
  refine (specQuot kb sb ab _ wb).mono ?_
  rintro e w1 ⟨rfl, hb⟩
  have H0 := hide (And.intro (H0.out.1.below hb) (below_via H0.out.2 hb))
  clear hb q0 q1 q2 r0 r1 r2
  obtain ⟨q0, q1, q2, r0, r1, r2, _, _⟩ := H0.out.1
  rw [QB.out]
  go_wp2_with fail
  all_goals go_ret
  all_goals exact ⟨rfl, H0.out.2⟩

set_option maxRecDepth 100000 in
set_option maxHeartbeats 1600000 in
theorem specGap_qx (ka : Int) (sa : ByteArray) (aa : Int) (kb : Int) (sb : ByteArray) (ab : Int) (w : World) (wa : sa.size ≤ 1048576) (wb : sb.size ≤ 1048576) (TA : Hid (tokOk ka sa = true)) (TB : Hid (tokOk kb sb = true)) (WA : Hid (wordB ka sa = false)) (QA : Hid (quotB ka sa = true)) (QB : Hid (quotB kb sb = false)) (k4 : (ka == 4) = false) (_k5 : (ka == 5) = false) (k5' : (ka != 5) = true) :
    Calls Tryz.prog 10 #[.agg #[.int .i64 ka, .string sa, .int .i64 aa], .agg #[.int .i64 kb, .string sb, .int .i64 ab]] w fun e w' => e = .returned (.bool false) ∧ Below w.heap.size w w' := by
  go_enter Tryz.func10, Tryz.ntmps10
  go_wp2_with fail
  generalize hW : World.alloc _ _ = W1
  have hbx : Box2 W1 w.heap.size (w.heap.size + 1) ka sa aa kb sb ab := by rw [← hW]; exact Box2.made w _ _ _ _ _ _ _ _
  have hb1 : Below w.heap.size w W1 := by rw [← hW]; go_grown
  clear hW
  obtain ⟨bb, hbb⟩ : ∃ bb, bb = w.heap.size + 1 := ⟨_, rfl⟩
  rw [← hbb] at hbx ⊢
  obtain ⟨ba, hba⟩ : ∃ ba, ba = w.heap.size := ⟨_, rfl⟩
  rw [← hba] at hbx ⊢
  have HBA := hide (And.intro hba hbb)
  clear hba hbb
  have H0 := hide (And.intro hbx hb1)
  clear hbx hb1
  obtain ⟨q0, q1, q2, r0, r1, r2, _, _⟩ := H0.out.1
  refine (specTokenOk ka sa aa _ wa).mono ?_
  rintro e w1 ⟨rfl, hb⟩
  have H0 := hide (And.intro (H0.out.1.below hb) (below_via H0.out.2 hb))
  clear hb q0 q1 q2 r0 r1 r2
  obtain ⟨q0, q1, q2, r0, r1, r2, _, _⟩ := H0.out.1
  rw [TA.out]
  go_wp2_with fail
  refine (specTokenOk kb sb ab _ wb).mono ?_
  rintro e w1 ⟨rfl, hb⟩
  have H0 := hide (And.intro (H0.out.1.below hb) (below_via H0.out.2 hb))
  clear hb q0 q1 q2 r0 r1 r2
  obtain ⟨q0, q1, q2, r0, r1, r2, _, _⟩ := H0.out.1
  rw [TB.out]
  go_wp2_with fail
  refine (specWord ka sa aa _ wa).mono ?_
  rintro e w1 ⟨rfl, hb⟩
  have H0 := hide (And.intro (H0.out.1.below hb) (below_via H0.out.2 hb))
  clear hb q0 q1 q2 r0 r1 r2
  obtain ⟨q0, q1, q2, r0, r1, r2, _, _⟩ := H0.out.1
  rw [WA.out]
  go_wp2_with fail
  refine (specQuot ka sa aa _ wa).mono ?_
  rintro e w1 ⟨rfl, hb⟩
  have H0 := hide (And.intro (H0.out.1.below hb) (below_via H0.out.2 hb))
  clear hb q0 q1 q2 r0 r1 r2
  obtain ⟨q0, q1, q2, r0, r1, r2, _, _⟩ := H0.out.1
  rw [QA.out]
  go_wp2_with fail
  refine (specQuot kb sb ab _ wb).mono ?_
  rintro e w1 ⟨rfl, hb⟩
  have H0 := hide (And.intro (H0.out.1.below hb) (below_via H0.out.2 hb))
  clear hb q0 q1 q2 r0 r1 r2
  obtain ⟨q0, q1, q2, r0, r1, r2, _, _⟩ := H0.out.1
  rw [QB.out]
  go_wp2_with fail
  all_goals go_ret
  all_goals exact ⟨rfl, H0.out.2⟩

set_option maxRecDepth 100000 in
set_option maxHeartbeats 1600000 in
theorem specGap_tt (sa : ByteArray) (aa : Int) (sb : ByteArray) (ab : Int) (w : World) (wa : sa.size ≤ 1048576) (wb : sb.size ≤ 1048576) (TA : Hid (tokOk 4 sa = true)) (TB : Hid (tokOk 4 sb = true)) (WA : Hid (wordB 4 sa = false)) (_QA : Hid (quotB 4 sa = false)) :
    Calls Tryz.prog 10 #[.agg #[.int .i64 4, .string sa, .int .i64 aa], .agg #[.int .i64 4, .string sb, .int .i64 ab]] w fun e w' => e = .returned (.bool true) ∧ Below w.heap.size w w' := by
  go_enter Tryz.func10, Tryz.ntmps10
  go_wp2_with fail
  generalize hW : World.alloc _ _ = W1
  have hbx : Box2 W1 w.heap.size (w.heap.size + 1) 4 sa aa 4 sb ab := by rw [← hW]; exact Box2.made w _ _ _ _ _ _ _ _
  have hb1 : Below w.heap.size w W1 := by rw [← hW]; go_grown
  clear hW
  obtain ⟨bb, hbb⟩ : ∃ bb, bb = w.heap.size + 1 := ⟨_, rfl⟩
  rw [← hbb] at hbx ⊢
  obtain ⟨ba, hba⟩ : ∃ ba, ba = w.heap.size := ⟨_, rfl⟩
  rw [← hba] at hbx ⊢
  have HBA := hide (And.intro hba hbb)
  clear hba hbb
  have H0 := hide (And.intro hbx hb1)
  clear hbx hb1
  obtain ⟨q0, q1, q2, r0, r1, r2, _, _⟩ := H0.out.1
  refine (specTokenOk 4 sa aa _ wa).mono ?_
  rintro e w1 ⟨rfl, hb⟩
  have H0 := hide (And.intro (H0.out.1.below hb) (below_via H0.out.2 hb))
  clear hb q0 q1 q2 r0 r1 r2
  obtain ⟨q0, q1, q2, r0, r1, r2, _, _⟩ := H0.out.1
  rw [TA.out]
  go_wp2_with fail
  refine (specTokenOk 4 sb ab _ wb).mono ?_
  rintro e w1 ⟨rfl, hb⟩
  have H0 := hide (And.intro (H0.out.1.below hb) (below_via H0.out.2 hb))
  clear hb q0 q1 q2 r0 r1 r2
  obtain ⟨q0, q1, q2, r0, r1, r2, _, _⟩ := H0.out.1
  rw [TB.out]
  go_wp2_with fail
  refine (specWord 4 sa aa _ wa).mono ?_
  rintro e w1 ⟨rfl, hb⟩
  have H0 := hide (And.intro (H0.out.1.below hb) (below_via H0.out.2 hb))
  clear hb q0 q1 q2 r0 r1 r2
  obtain ⟨q0, q1, q2, r0, r1, r2, _, _⟩ := H0.out.1
  rw [WA.out]
  go_wp2_with fail
  all_goals go_ret
  all_goals exact ⟨rfl, H0.out.2⟩

set_option maxRecDepth 100000 in
set_option maxHeartbeats 1600000 in
theorem specGap_tx (sa : ByteArray) (aa : Int) (kb : Int) (sb : ByteArray) (ab : Int) (w : World) (wa : sa.size ≤ 1048576) (wb : sb.size ≤ 1048576) (TA : Hid (tokOk 4 sa = true)) (TB : Hid (tokOk kb sb = true)) (WA : Hid (wordB 4 sa = false)) (QA : Hid (quotB 4 sa = false)) (k4 : (kb == 4) = false) :
    Calls Tryz.prog 10 #[.agg #[.int .i64 4, .string sa, .int .i64 aa], .agg #[.int .i64 kb, .string sb, .int .i64 ab]] w fun e w' => e = .returned (.bool false) ∧ Below w.heap.size w w' := by
  go_enter Tryz.func10, Tryz.ntmps10
  go_wp2_with fail
  generalize hW : World.alloc _ _ = W1
  have hbx : Box2 W1 w.heap.size (w.heap.size + 1) 4 sa aa kb sb ab := by rw [← hW]; exact Box2.made w _ _ _ _ _ _ _ _
  have hb1 : Below w.heap.size w W1 := by rw [← hW]; go_grown
  clear hW
  obtain ⟨bb, hbb⟩ : ∃ bb, bb = w.heap.size + 1 := ⟨_, rfl⟩
  rw [← hbb] at hbx ⊢
  obtain ⟨ba, hba⟩ : ∃ ba, ba = w.heap.size := ⟨_, rfl⟩
  rw [← hba] at hbx ⊢
  have HBA := hide (And.intro hba hbb)
  clear hba hbb
  have H0 := hide (And.intro hbx hb1)
  clear hbx hb1
  obtain ⟨q0, q1, q2, r0, r1, r2, _, _⟩ := H0.out.1
  refine (specTokenOk 4 sa aa _ wa).mono ?_
  rintro e w1 ⟨rfl, hb⟩
  have H0 := hide (And.intro (H0.out.1.below hb) (below_via H0.out.2 hb))
  clear hb q0 q1 q2 r0 r1 r2
  obtain ⟨q0, q1, q2, r0, r1, r2, _, _⟩ := H0.out.1
  rw [TA.out]
  go_wp2_with fail
  refine (specTokenOk kb sb ab _ wb).mono ?_
  rintro e w1 ⟨rfl, hb⟩
  have H0 := hide (And.intro (H0.out.1.below hb) (below_via H0.out.2 hb))
  clear hb q0 q1 q2 r0 r1 r2
  obtain ⟨q0, q1, q2, r0, r1, r2, _, _⟩ := H0.out.1
  rw [TB.out]
  go_wp2_with fail
  refine (specWord 4 sa aa _ wa).mono ?_
  rintro e w1 ⟨rfl, hb⟩
  have H0 := hide (And.intro (H0.out.1.below hb) (below_via H0.out.2 hb))
  clear hb q0 q1 q2 r0 r1 r2
  obtain ⟨q0, q1, q2, r0, r1, r2, _, _⟩ := H0.out.1
  rw [WA.out]
  go_wp2_with fail
  refine (specQuot 4 sa aa _ wa).mono ?_
  rintro e w1 ⟨rfl, hb⟩
  have H0 := hide (And.intro (H0.out.1.below hb) (below_via H0.out.2 hb))
  clear hb q0 q1 q2 r0 r1 r2
  obtain ⟨q0, q1, q2, r0, r1, r2, _, _⟩ := H0.out.1
  rw [QA.out]
  go_wp2_with fail
  all_goals go_ret
  all_goals exact ⟨rfl, H0.out.2⟩

set_option maxRecDepth 100000 in
set_option maxHeartbeats 1600000 in
theorem specGap_sx (sa : ByteArray) (aa : Int) (kb : Int) (sb : ByteArray) (ab : Int) (w : World) (wa : sa.size ≤ 1048576) (wb : sb.size ≤ 1048576) (TA : Hid (tokOk 5 sa = true)) (TB : Hid (tokOk kb sb = true)) (WA : Hid (wordB 5 sa = false)) (QA : Hid (quotB 5 sa = false)) (_k5 : (kb == 5) = false) (k5' : (kb != 5) = true) :
    Calls Tryz.prog 10 #[.agg #[.int .i64 5, .string sa, .int .i64 aa], .agg #[.int .i64 kb, .string sb, .int .i64 ab]] w fun e w' => e = .returned (.bool false) ∧ Below w.heap.size w w' := by
  go_enter Tryz.func10, Tryz.ntmps10
  go_wp2_with fail
  generalize hW : World.alloc _ _ = W1
  have hbx : Box2 W1 w.heap.size (w.heap.size + 1) 5 sa aa kb sb ab := by rw [← hW]; exact Box2.made w _ _ _ _ _ _ _ _
  have hb1 : Below w.heap.size w W1 := by rw [← hW]; go_grown
  clear hW
  obtain ⟨bb, hbb⟩ : ∃ bb, bb = w.heap.size + 1 := ⟨_, rfl⟩
  rw [← hbb] at hbx ⊢
  obtain ⟨ba, hba⟩ : ∃ ba, ba = w.heap.size := ⟨_, rfl⟩
  rw [← hba] at hbx ⊢
  have HBA := hide (And.intro hba hbb)
  clear hba hbb
  have H0 := hide (And.intro hbx hb1)
  clear hbx hb1
  obtain ⟨q0, q1, q2, r0, r1, r2, _, _⟩ := H0.out.1
  refine (specTokenOk 5 sa aa _ wa).mono ?_
  rintro e w1 ⟨rfl, hb⟩
  have H0 := hide (And.intro (H0.out.1.below hb) (below_via H0.out.2 hb))
  clear hb q0 q1 q2 r0 r1 r2
  obtain ⟨q0, q1, q2, r0, r1, r2, _, _⟩ := H0.out.1
  rw [TA.out]
  go_wp2_with fail
  refine (specTokenOk kb sb ab _ wb).mono ?_
  rintro e w1 ⟨rfl, hb⟩
  have H0 := hide (And.intro (H0.out.1.below hb) (below_via H0.out.2 hb))
  clear hb q0 q1 q2 r0 r1 r2
  obtain ⟨q0, q1, q2, r0, r1, r2, _, _⟩ := H0.out.1
  rw [TB.out]
  go_wp2_with fail
  refine (specWord 5 sa aa _ wa).mono ?_
  rintro e w1 ⟨rfl, hb⟩
  have H0 := hide (And.intro (H0.out.1.below hb) (below_via H0.out.2 hb))
  clear hb q0 q1 q2 r0 r1 r2
  obtain ⟨q0, q1, q2, r0, r1, r2, _, _⟩ := H0.out.1
  rw [WA.out]
  go_wp2_with fail
  refine (specQuot 5 sa aa _ wa).mono ?_
  rintro e w1 ⟨rfl, hb⟩
  have H0 := hide (And.intro (H0.out.1.below hb) (below_via H0.out.2 hb))
  clear hb q0 q1 q2 r0 r1 r2
  obtain ⟨q0, q1, q2, r0, r1, r2, _, _⟩ := H0.out.1
  rw [QA.out]
  go_wp2_with fail
  all_goals go_ret
  all_goals exact ⟨rfl, H0.out.2⟩

set_option maxRecDepth 100000 in
set_option maxHeartbeats 1600000 in
theorem specGap_ss (sa : ByteArray) (aa : Int) (sb : ByteArray) (ab : Int) (w : World) (wa : sa.size ≤ 1048576) (wb : sb.size ≤ 1048576) (TA : Hid (tokOk 5 sa = true)) (TB : Hid (tokOk 5 sb = true)) (WA : Hid (wordB 5 sa = false)) (QA : Hid (quotB 5 sa = false)) (hsb : 0 < sb.size) :
    Calls Tryz.prog 10 #[.agg #[.int .i64 5, .string sa, .int .i64 aa], .agg #[.int .i64 5, .string sb, .int .i64 ab]] w fun e w' => e = .returned (.bool (signGap sa sb)) ∧ Below w.heap.size w w' := by
  go_enter Tryz.func10, Tryz.ntmps10
  go_wp2_with fail
  generalize hW : World.alloc _ _ = W1
  have hbx : Box2 W1 w.heap.size (w.heap.size + 1) 5 sa aa 5 sb ab := by rw [← hW]; exact Box2.made w _ _ _ _ _ _ _ _
  have hb1 : Below w.heap.size w W1 := by rw [← hW]; go_grown
  clear hW
  obtain ⟨bb, hbb⟩ : ∃ bb, bb = w.heap.size + 1 := ⟨_, rfl⟩
  rw [← hbb] at hbx ⊢
  obtain ⟨ba, hba⟩ : ∃ ba, ba = w.heap.size := ⟨_, rfl⟩
  rw [← hba] at hbx ⊢
  have HBA := hide (And.intro hba hbb)
  clear hba hbb
  have H0 := hide (And.intro hbx hb1)
  clear hbx hb1
  obtain ⟨q0, q1, q2, r0, r1, r2, _, _⟩ := H0.out.1
  refine (specTokenOk 5 sa aa _ wa).mono ?_
  rintro e w1 ⟨rfl, hb⟩
  have H0 := hide (And.intro (H0.out.1.below hb) (below_via H0.out.2 hb))
  clear hb q0 q1 q2 r0 r1 r2
  obtain ⟨q0, q1, q2, r0, r1, r2, _, _⟩ := H0.out.1
  rw [TA.out]
  go_wp2_with fail
  refine (specTokenOk 5 sb ab _ wb).mono ?_
  rintro e w1 ⟨rfl, hb⟩
  have H0 := hide (And.intro (H0.out.1.below hb) (below_via H0.out.2 hb))
  clear hb q0 q1 q2 r0 r1 r2
  obtain ⟨q0, q1, q2, r0, r1, r2, _, _⟩ := H0.out.1
  rw [TB.out]
  go_wp2_with fail
  refine (specWord 5 sa aa _ wa).mono ?_
  rintro e w1 ⟨rfl, hb⟩
  have H0 := hide (And.intro (H0.out.1.below hb) (below_via H0.out.2 hb))
  clear hb q0 q1 q2 r0 r1 r2
  obtain ⟨q0, q1, q2, r0, r1, r2, _, _⟩ := H0.out.1
  rw [WA.out]
  go_wp2_with fail
  refine (specQuot 5 sa aa _ wa).mono ?_
  rintro e w1 ⟨rfl, hb⟩
  have H0 := hide (And.intro (H0.out.1.below hb) (below_via H0.out.2 hb))
  clear hb q0 q1 q2 r0 r1 r2
  obtain ⟨q0, q1, q2, r0, r1, r2, _, _⟩ := H0.out.1
  rw [QA.out]
  go_wp2_with fail
  all_goals go_ret
  all_goals refine ⟨ret_bool ?_, H0.out.2⟩
  all_goals clear q0 q1 q2 r0 r1 r2
  all_goals rw [signGap_at sa sb hsb]
  all_goals go_light
  all_goals simp_all

theorem specGap (ka : Int) (sa : ByteArray) (aa : Int) (kb : Int) (sb : ByteArray) (ab : Int) (w : World) (wa : sa.size ≤ 1048576) (wb : sb.size ≤ 1048576) :
    Calls Tryz.prog 10 #[.agg #[.int .i64 ka, .string sa, .int .i64 aa], .agg #[.int .i64 kb, .string sb, .int .i64 ab]] w fun e w' => e = .returned (.bool (gapB ka sa kb sb)) ∧ Below w.heap.size w w' := by
  cases ta : tokOk ka sa
  · rw [gap_na ta]
    exact specGap_na ka sa aa kb sb ab w wa wb ta
  cases tb : tokOk kb sb
  · rw [gap_nb tb]
    exact specGap_nb ka sa aa kb sb ab w wa wb ta tb
  rw [gap_both ta tb]
  rcases tok_cls ta with ⟨wa1, qa1, k4, k5⟩ | ⟨wa1, qa1, k4, k5⟩ | ⟨rfl, wa1, qa1⟩ | ⟨rfl, wa1, qa1⟩
  · rw [wa1, qa1, k4, k5]
    cases hw : wordB kb sb
    · exact specGap_wx ka sa aa kb sb ab w wa wb ta tb wa1 hw qa1 k4 k5 (by unfold bne; rw [k5]; rfl)
    · exact specGap_ww ka sa aa kb sb ab w wa wb ta tb wa1 hw
  · rw [wa1, qa1, k4, k5]
    cases hq : quotB kb sb
    · exact specGap_qx ka sa aa kb sb ab w wa wb ta tb wa1 qa1 hq k4 k5 (by unfold bne; rw [k5]; rfl)
    · exact specGap_qq ka sa aa kb sb ab w wa wb ta tb wa1 qa1 hq k4
  · rw [wa1, qa1]
    by_cases h4 : kb = 4
    · subst h4
      exact specGap_tt sa aa sb ab w wa wb ta tb wa1 qa1
    · have h4' : (kb == 4) = false := by simpa using h4
      rw [h4']
      exact specGap_tx sa aa kb sb ab w wa wb ta tb wa1 qa1 h4'
  · rw [wa1, qa1]
    by_cases h5 : kb = 5
    · subst h5
      exact specGap_ss sa aa sb ab w wa wb ta tb wa1 qa1 (sign_size tb)
    · have h5' : (kb == 5) = false := by simpa using h5
      rw [h5']
      exact specGap_sx sa aa kb sb ab w wa wb ta tb wa1 qa1 h5' (by unfold bne; rw [h5']; rfl)
end Go.Proofs.YtfnjcgakcpadiaaGreatDoor
