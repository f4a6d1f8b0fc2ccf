/-
  NeedsGap, in the program.
-/
import Derived.Test.YtfnjcgakcpadiaaGreatDoorGapL
namespace Go.Proofs.YtfnjcgakcpadiaaGreatDoor
open Go.RowKit

set_option maxRecDepth 100000 in
set_option maxHeartbeats 800000 in
theorem implWord (k : Int) (s : ByteArray) (a : Int) (w : World) (ws : s.size ≤ 1048576) (hR : Ready w) :
    Calls Tryz.prog 26 #[.agg #[.int .i64 k, .string s, .int .i64 a]] w fun e w' => e = .returned (.bool (wordB k s)) ∧ Below w.heap.size w w' := by
  obtain ⟨r, hr⟩ : ∃ r, Hid (wordB k s = r) := ⟨_, rfl⟩
  rw [hr.out]
  have HR := hide hR
  clear hR
  by_cases hk2 : k = 2
  · subst hk2
    have hres : r = plainB s := by rw [← hr.out]; unfold wordB; simp
    have HRES := hide hres
    clear hr hres
    go_enter Tryz.func26, Tryz.ntmps26
    go_wp2_with fail
    refine (implPlain s _ ws _ (HR.out.below (by go_grown)).max.choose_spec).mono ?_
    rintro e w1 ⟨rfl, hb⟩
    have H1 := hide (box_belowT hb)
    clear hb
    rw [← HRES.out]
    go_wp2_with fail
    all_goals go_ret
    all_goals exact ⟨rfl, H1.out⟩
  · have hres : r = (k == 1 || k == 3) := by rw [← hr.out]; unfold wordB; have h : (k == 2) = false := by simpa using hk2
                                             rw [h]; simp
    have HRES := hide hres
    clear hr hres
    have g2 : (k == 2) = false := by simpa using hk2
    clear hk2
    by_cases hk1 : k = 1
    · subst hk1
      go_enter Tryz.func26, Tryz.ntmps26
      go_wp2_with fail
      all_goals go_ret
      all_goals exact ⟨by rw [HRES.out]; rfl, by go_grown⟩
    · have g1 : (k == 1) = false := by simpa using hk1
      clear hk1
      by_cases hk3 : k = 3
      · subst hk3
        go_enter Tryz.func26, Tryz.ntmps26
        go_wp2_with fail
        all_goals go_ret
        all_goals exact ⟨by rw [HRES.out]; rfl, by go_grown⟩
      · have g3 : (k == 3) = false := by simpa using hk3
        clear hk3
        have G := hide (And.intro g1 g3)
        go_enter Tryz.func26, Tryz.ntmps26
        go_wp2_with fail
        all_goals go_ret
        all_goals exact ⟨by rw [HRES.out, G.out.1, G.out.2]; rfl, by go_grown⟩

set_option maxRecDepth 100000 in
set_option maxHeartbeats 800000 in
theorem implQuot (k : Int) (s : ByteArray) (a : Int) (w : World) (ws : s.size ≤ 1048576) (hR : Ready w) :
    Calls Tryz.prog 27 #[.agg #[.int .i64 k, .string s, .int .i64 a]] w fun e w' => e = .returned (.bool (quotB k s)) ∧ Below w.heap.size w w' := by
  obtain ⟨r, hr⟩ : ∃ r, Hid (quotB k s = r) := ⟨_, rfl⟩
  rw [hr.out]
  have HR := hide hR
  clear hR
  by_cases hk2 : k = 2
  · subst hk2
    have hres : r = !plainB s := by rw [← hr.out]; unfold quotB; simp
    have HRES := hide hres
    clear hr hres
    go_enter Tryz.func27, Tryz.ntmps27
    go_wp2_with fail
    refine (implPlain s _ ws _ (HR.out.below (by go_grown)).max.choose_spec).mono ?_
    rintro e w1 ⟨rfl, hb⟩
    have H1 := hide (box_belowT hb)
    clear hb
    generalize plainB s = b at HRES ⊢
    cases b
    all_goals
      go_wp2_with fail
      all_goals go_ret
      all_goals exact ⟨by rw [HRES.out]; rfl, H1.out⟩
  · have hres : r = false := by rw [← hr.out]; unfold quotB; have h : (k == 2) = false := by simpa using hk2
                                rw [h]; simp
    subst hres
    clear hr
    have g2 : (k == 2) = false := by simpa using hk2
    clear hk2
    go_enter Tryz.func27, Tryz.ntmps27
    go_wp2_with fail
    all_goals go_ret
    all_goals exact ⟨rfl, by go_grown⟩

set_option maxRecDepth 100000 in
set_option maxHeartbeats 1600000 in
theorem implGap_na (ka : Int) (sa : ByteArray) (aa : Int) (kb : Int) (sb : ByteArray) (ab : Int) (w : World) (wa : sa.size ≤ 1048576) (_wb : sb.size ≤ 1048576) (hR : Ready w) (TA : Hid (tokOk ka sa = false)) :
    Calls Tryz.prog 9 #[.agg #[.int .i64 ka, .string sa, .int .i64 aa], .agg #[.int .i64 kb, .string sb, .int .i64 ab]] w fun e w' => e = .returned (.bool false) ∧ Below w.heap.size w w' := by
  have HR := hide hR
  clear hR
  go_enter Tryz.func9, Tryz.ntmps9
  go_wp2_with fail
  generalize hW : World.alloc _ _ = W1
  have hbx : Box2 W1 w.heap.size (w.heap.size + 1) ka sa aa kb sb ab := by rw [← hW]; exact Box2.made w _ _ _ _ _ _ _ _
  have hb1 : Below w.heap.size w W1 := by rw [← hW]; go_grown
  clear hW
  obtain ⟨bb, hbb⟩ : ∃ bb, bb = w.heap.size + 1 := ⟨_, rfl⟩
  rw [← hbb] at hbx ⊢
  obtain ⟨ba, hba⟩ : ∃ ba, ba = w.heap.size := ⟨_, rfl⟩
  rw [← hba] at hbx ⊢
  have HBA := hide (And.intro hba hbb)
  clear hba hbb
  have H0 := hide (And.intro hbx hb1)
  clear hbx hb1
  obtain ⟨q0, q1, q2, r0, r1, r2, _, _⟩ := H0.out.1
  refine (implTokenOk ka sa aa _ wa (HR.out.below H0.out.2)).mono ?_
  rintro e w1 ⟨rfl, hb⟩
  have H0 := hide (And.intro (H0.out.1.below hb) (below_via H0.out.2 hb))
  clear hb q0 q1 q2 r0 r1 r2
  obtain ⟨q0, q1, q2, r0, r1, r2, _, _⟩ := H0.out.1
  rw [TA.out]
  go_wp2_with fail
  all_goals go_ret
  all_goals exact ⟨rfl, H0.out.2⟩

set_option maxRecDepth 100000 in
set_option maxHeartbeats 1600000 in
theorem implGap_nb (ka : Int) (sa : ByteArray) (aa : Int) (kb : Int) (sb : ByteArray) (ab : Int) (w : World) (wa : sa.size ≤ 1048576) (wb : sb.size ≤ 1048576) (hR : Ready w) (TA : Hid (tokOk ka sa = true)) (TB : Hid (tokOk kb sb = false)) :
    Calls Tryz.prog 9 #[.agg #[.int .i64 ka, .string sa, .int .i64 aa], .agg #[.int .i64 kb, .string sb, .int .i64 ab]] w fun e w' => e = .returned (.bool false) ∧ Below w.heap.size w w' := by
  have HR := hide hR
  clear hR
  go_enter Tryz.func9, Tryz.ntmps9
  go_wp2_with fail
  generalize hW : World.alloc _ _ = W1
  have hbx : Box2 W1 w.heap.size (w.heap.size + 1) ka sa aa kb sb ab := by rw [← hW]; exact Box2.made w _ _ _ _ _ _ _ _
  have hb1 : Below w.heap.size w W1 := by rw [← hW]; go_grown
  clear hW
  obtain ⟨bb, hbb⟩ : ∃ bb, bb = w.heap.size + 1 := ⟨_, rfl⟩
  rw [← hbb] at hbx ⊢
  obtain ⟨ba, hba⟩ : ∃ ba, ba = w.heap.size := ⟨_, rfl⟩
  rw [← hba] at hbx ⊢
  have HBA := hide (And.intro hba hbb)
  clear hba hbb
  have H0 := hide (And.intro hbx hb1)
  clear hbx hb1
  obtain ⟨q0, q1, q2, r0, r1, r2, _, _⟩ := H0.out.1
  refine (implTokenOk ka sa aa _ wa (HR.out.below H0.out.2)).mono ?_
  rintro e w1 ⟨rfl, hb⟩
  have H0 := hide (And.intro (H0.out.1.below hb) (below_via H0.out.2 hb))
  clear hb q0 q1 q2 r0 r1 r2
  obtain ⟨q0, q1, q2, r0, r1, r2, _, _⟩ := H0.out.1
  rw [TA.out]
  go_wp2_with fail
  refine (implTokenOk kb sb ab _ wb (HR.out.below H0.out.2)).mono ?_
  rintro e w1 ⟨rfl, hb⟩
  have H0 := hide (And.intro (H0.out.1.below hb) (below_via H0.out.2 hb))
  clear hb q0 q1 q2 r0 r1 r2
  obtain ⟨q0, q1, q2, r0, r1, r2, _, _⟩ := H0.out.1
  rw [TB.out]
  go_wp2_with fail
  all_goals go_ret
  all_goals exact ⟨rfl, H0.out.2⟩

set_option maxRecDepth 100000 in
set_option maxHeartbeats 1600000 in
theorem implGap_ww (ka : Int) (sa : ByteArray) (aa : Int) (kb : Int) (sb : ByteArray) (ab : Int) (w : World) (wa : sa.size ≤ 1048576) (wb : sb.size ≤ 1048576) (hR : Ready w) (TA : Hid (tokOk ka sa = true)) (TB : Hid (tokOk kb sb = true)) (WA : Hid (wordB ka sa = true)) (WB : Hid (wordB kb sb = true)) :
    Calls Tryz.prog 9 #[.agg #[.int .i64 ka, .string sa, .int .i64 aa], .agg #[.int .i64 kb, .string sb, .int .i64 ab]] w fun e w' => e = .returned (.bool true) ∧ Below w.heap.size w w' := by
  have HR := hide hR
  clear hR
  go_enter Tryz.func9, Tryz.ntmps9
  go_wp2_with fail
  generalize hW : World.alloc _ _ = W1
  have hbx : Box2 W1 w.heap.size (w.heap.size + 1) ka sa aa kb sb ab := by rw [← hW]; exact Box2.made w _ _ _ _ _ _ _ _
  have hb1 : Below w.heap.size w W1 := by rw [← hW]; go_grown
  clear hW
  obtain ⟨bb, hbb⟩ : ∃ bb, bb = w.heap.size + 1 := ⟨_, rfl⟩
  rw [← hbb] at hbx ⊢
  obtain ⟨ba, hba⟩ : ∃ ba, ba = w.heap.size := ⟨_, rfl⟩
  rw [← hba] at hbx ⊢
  have HBA := hide (And.intro hba hbb)
  clear hba hbb
  have H0 := hide (And.intro hbx hb1)
  clear hbx hb1
  obtain ⟨q0, q1, q2, r0, r1, r2, _, _⟩ := H0.out.1
  refine (implTokenOk ka sa aa _ wa (HR.out.below H0.out.2)).mono ?_
  rintro e w1 ⟨rfl, hb⟩
  have H0 := hide (And.intro (H0.out.1.below hb) (below_via H0.out.2 hb))
  clear hb q0 q1 q2 r0 r1 r2
  obtain ⟨q0, q1, q2, r0, r1, r2, _, _⟩ := H0.out.1
  rw [TA.out]
  go_wp2_with fail
  refine (implTokenOk kb sb ab _ wb (HR.out.below H0.out.2)).mono ?_
  rintro e w1 ⟨rfl, hb⟩
  have H0 := hide (And.intro (H0.out.1.below hb) (below_via H0.out.2 hb))
  clear hb q0 q1 q2 r0 r1 r2
  obtain ⟨q0, q1, q2, r0, r1, r2, _, _⟩ := H0.out.1
  rw [TB.out]
  go_wp2_with fail
  refine (implWord ka sa aa _ wa (HR.out.below H0.out.2)).mono ?_
  rintro e w1 ⟨rfl, hb⟩
  have H0 := hide (And.intro (H0.out.1.below hb) (below_via H0.out.2 hb))
  clear hb q0 q1 q2 r0 r1 r2
  obtain ⟨q0, q1, q2, r0, r1, r2, _, _⟩ := H0.out.1
  rw [WA.out]
  go_wp2_with fail
  refine (implWord kb sb ab _ wb (HR.out.below H0.out.2)).mono ?_
  rintro e w1 ⟨rfl, hb⟩
  have H0 := hide (And.intro (H0.out.1.below hb) (below_via H0.out.2 hb))
  clear hb q0 q1 q2 r0 r1 r2
  obtain ⟨q0, q1, q2, r0, r1, r2, _, _⟩ := H0.out.1
  rw [WB.out]
  go_wp2_with fail
  all_goals go_ret
  all_goals exact ⟨rfl, H0.out.2⟩

set_option maxRecDepth 100000 in
set_option maxHeartbeats 1600000 in
theorem implGap_wx (ka : Int) (sa : ByteArray) (aa : Int) (kb : Int) (sb : ByteArray) (ab : Int) (w : World) (wa : sa.size ≤ 1048576) (wb : sb.size ≤ 1048576) (hR : Ready w) (TA : Hid (tokOk ka sa = true)) (TB : Hid (tokOk kb sb = true)) (WA : Hid (wordB ka sa = true)) (WB : Hid (wordB kb sb = false)) (QA : Hid (quotB ka sa = false)) (k4 : (ka == 4) = false) (_k5 : (ka == 5) = false) (k5' : (ka != 5) = true) :
    Calls Tryz.prog 9 #[.agg #[.int .i64 ka, .string sa, .int .i64 aa], .agg #[.int .i64 kb, .string sb, .int .i64 ab]] w fun e w' => e = .returned (.bool false) ∧ Below w.heap.size w w' := by
  have HR := hide hR
  clear hR
  go_enter Tryz.func9, Tryz.ntmps9
  go_wp2_with fail
  generalize hW : World.alloc _ _ = W1
  have hbx : Box2 W1 w.heap.size (w.heap.size + 1) ka sa aa kb sb ab := by rw [← hW]; exact Box2.made w _ _ _ _ _ _ _ _
  have hb1 : Below w.heap.size w W1 := by rw [← hW]; go_grown
  clear hW
  obtain ⟨bb, hbb⟩ : ∃ bb, bb = w.heap.size + 1 := ⟨_, rfl⟩
  rw [← hbb] at hbx ⊢
  obtain ⟨ba, hba⟩ : ∃ ba, ba = w.heap.size := ⟨_, rfl⟩
  rw [← hba] at hbx ⊢
  have HBA := hide (And.intro hba hbb)
  clear hba hbb
  have H0 := hide (And.intro hbx hb1)
  clear hbx hb1
  obtain ⟨q0, q1, q2, r0, r1, r2, _, _⟩ := H0.out.1
  refine (implTokenOk ka sa aa _ wa (HR.out.below H0.out.2)).mono ?_
  rintro e w1 ⟨rfl, hb⟩
  have H0 := hide (And.intro (H0.out.1.below hb) (below_via H0.out.2 hb))
  clear hb q0 q1 q2 r0 r1 r2
  obtain ⟨q0, q1, q2, r0, r1, r2, _, _⟩ := H0.out.1
  rw [TA.out]
  go_wp2_with fail
  refine (implTokenOk kb sb ab _ wb (HR.out.below H0.out.2)).mono ?_
  rintro e w1 ⟨rfl, hb⟩
  have H0 := hide (And.intro (H0.out.1.below hb) (below_via H0.out.2 hb))
  clear hb q0 q1 q2 r0 r1 r2
  obtain ⟨q0, q1, q2, r0, r1, r2, _, _⟩ := H0.out.1
  rw [TB.out]
  go_wp2_with fail
  refine (implWord ka sa aa _ wa (HR.out.below H0.out.2)).mono ?_
  rintro e w1 ⟨rfl, hb⟩
  have H0 := hide (And.intro (H0.out.1.below hb) (below_via H0.out.2 hb))
  clear hb q0 q1 q2 r0 r1 r2
  obtain ⟨q0, q1, q2, r0, r1, r2, _, _⟩ := H0.out.1
  rw [WA.out]
  go_wp2_with fail
  refine (implWord kb sb ab _ wb (HR.out.below H0.out.2)).mono ?_
  rintro e w1 ⟨rfl, hb⟩
  have H0 := hide (And.intro (H0.out.1.below hb) (below_via H0.out.2 hb))
  clear hb q0 q1 q2 r0 r1 r2
  obtain ⟨q0, q1, q2, r0, r1, r2, _, _⟩ := H0.out.1
  rw [WB.out]
  go_wp2_with fail
  refine (implQuot ka sa aa _ wa (HR.out.below H0.out.2)).mono ?_
  rintro e w1 ⟨rfl, hb⟩
  have H0 := hide (And.intro (H0.out.1.below hb) (below_via H0.out.2 hb))
  clear hb q0 q1 q2 r0 r1 r2
  obtain ⟨q0, q1, q2, r0, r1, r2, _, _⟩ := H0.out.1
  rw [QA.out]
  go_wp2_with fail
  all_goals go_ret
  all_goals exact ⟨rfl, H0.out.2⟩

set_option maxRecDepth 100000 in
set_option maxHeartbeats 1600000 in
theorem implGap_qq (ka : Int) (sa : ByteArray) (aa : Int) (kb : Int) (sb : ByteArray) (ab : Int) (w : World) (wa : sa.size ≤ 1048576) (wb : sb.size ≤ 1048576) (hR : Ready w) (TA : Hid (tokOk ka sa = true)) (TB : Hid (tokOk kb sb = true)) (WA : Hid (wordB ka sa = false)) (QA : Hid (quotB ka sa = true)) (QB : Hid (quotB kb sb = true)) (_k4 : (ka == 4) = false) :
    Calls Tryz.prog 9 #[.agg #[.int .i64 ka, .string sa, .int .i64 aa], .agg #[.int .i64 kb, .string sb, .int .i64 ab]] w fun e w' => e = .returned (.bool true) ∧ Below w.heap.size w w' := by
  have HR := hide hR
  clear hR
  go_enter Tryz.func9, Tryz.ntmps9
  go_wp2_with fail
  generalize hW : World.alloc _ _ = W1
  have hbx : Box2 W1 w.heap.size (w.heap.size + 1) ka sa aa kb sb ab := by rw [← hW]; exact Box2.made w _ _ _ _ _ _ _ _
  have hb1 : Below w.heap.size w W1 := by rw [← hW]; go_grown
  clear hW
  obtain ⟨bb, hbb⟩ : ∃ bb, bb = w.heap.size + 1 := ⟨_, rfl⟩
  rw [← hbb] at hbx ⊢
  obtain ⟨ba, hba⟩ : ∃ ba, ba = w.heap.size := ⟨_, rfl⟩
  rw [← hba] at hbx ⊢
  have HBA := hide (And.intro hba hbb)
  clear hba hbb
  have H0 := hide (And.intro hbx hb1)
  clear hbx hb1
  obtain ⟨q0, q1, q2, r0, r1, r2, _, _⟩ := H0.out.1
  refine (implTokenOk ka sa aa _ wa (HR.out.below H0.out.2)).mono ?_
  rintro e w1 ⟨rfl, hb⟩
  have H0 := hide (And.intro (H0.out.1.below hb) (below_via H0.out.2 hb))
  clear hb q0 q1 q2 r0 r1 r2
  obtain ⟨q0, q1, q2, r0, r1, r2, _, _⟩ := H0.out.1
  rw [TA.out]
  go_wp2_with fail
  refine (implTokenOk kb sb ab _ wb (HR.out.below H0.out.2)).mono ?_
  rintro e w1 ⟨rfl, hb⟩
  have H0 := hide (And.intro (H0.out.1.below hb) (below_via H0.out.2 hb))
  clear hb q0 q1 q2 r0 r1 r2
  obtain ⟨q0, q1, q2, r0, r1, r2, _, _⟩ := H0.out.1
  rw [TB.out]
  go_wp2_with fail
  refine (implWord ka sa aa _ wa (HR.out.below H0.out.2)).mono ?_
  rintro e w1 ⟨rfl, hb⟩
  have H0 := hide (And.intro (H0.out.1.below hb) (below_via H0.out.2 hb))
  clear hb q0 q1 q2 r0 r1 r2
  obtain ⟨q0, q1, q2, r0, r1, r2, _, _⟩ := H0.out.1
  rw [WA.out]
  go_wp2_with fail
  refine (implQuot ka sa aa _ wa (HR.out.below H0.out.2)).mono ?_
  rintro e w1 ⟨rfl, hb⟩
  have H0 := hide (And.intro (H0.out.1.below hb) (below_via H0.out.2 hb))
  clear hb q0 q1 q2 r0 r1 r2
  obtain ⟨q0, q1, q2, r0, r1, r2, _, _⟩ := H0.out.1
  rw [QA.out]
  go_wp2_with fail
  refine (implQuot kb sb ab _ wb (HR.out.below H0.out.2)).mono ?_
  rintro e w1 ⟨rfl, hb⟩
  have H0 := hide (And.intro (H0.out.1.below hb) (below_via H0.out.2 hb))
  clear hb q0 q1 q2 r0 r1 r2
  obtain ⟨q0, q1, q2, r0, r1, r2, _, _⟩ := H0.out.1
  rw [QB.out]
  go_wp2_with fail
  all_goals go_ret
  all_goals exact ⟨rfl, H0.out.2⟩

set_option maxRecDepth 100000 in
set_option maxHeartbeats 1600000 in
theorem implGap_qx (ka : Int) (sa : ByteArray) (aa : Int) (kb : Int) (sb : ByteArray) (ab : Int) (w : World) (wa : sa.size ≤ 1048576) (wb : sb.size ≤ 1048576) (hR : Ready w) (TA : Hid (tokOk ka sa = true)) (TB : Hid (tokOk kb sb = true)) (WA : Hid (wordB ka sa = false)) (QA : Hid (quotB ka sa = true)) (QB : Hid (quotB kb sb = false)) (k4 : (ka == 4) = false) (_k5 : (ka == 5) = false) (k5' : (ka != 5) = true) :
    Calls Tryz.prog 9 #[.agg #[.int .i64 ka, .string sa, .int .i64 aa], .agg #[.int .i64 kb, .string sb, .int .i64 ab]] w fun e w' => e = .returned (.bool false) ∧ Below w.heap.size w w' := by
  have HR := hide hR
  clear hR
  go_enter Tryz.func9, Tryz.ntmps9
  go_wp2_with fail
  generalize hW : World.alloc _ _ = W1
  have hbx : Box2 W1 w.heap.size (w.heap.size + 1) ka sa aa kb sb ab := by rw [← hW]; exact Box2.made w _ _ _ _ _ _ _ _
  have hb1 : Below w.heap.size w W1 := by rw [← hW]; go_grown
  clear hW
  obtain ⟨bb, hbb⟩ : ∃ bb, bb = w.heap.size + 1 := ⟨_, rfl⟩
  rw [← hbb] at hbx ⊢
  obtain ⟨ba, hba⟩ : ∃ ba, ba = w.heap.size := ⟨_, rfl⟩
  rw [← hba] at hbx ⊢
  have HBA := hide (And.intro hba hbb)
  clear hba hbb
  have H0 := hide (And.intro hbx hb1)
  clear hbx hb1
  obtain ⟨q0, q1, q2, r0, r1, r2, _, _⟩ := H0.out.1
  refine (implTokenOk ka sa aa _ wa (HR.out.below H0.out.2)).mono ?_
  rintro e w1 ⟨rfl, hb⟩
  have H0 := hide (And.intro (H0.out.1.below hb) (below_via H0.out.2 hb))
  clear hb q0 q1 q2 r0 r1 r2
  obtain ⟨q0, q1, q2, r0, r1, r2, _, _⟩ := H0.out.1
  rw [TA.out]
  go_wp2_with fail
  refine (implTokenOk kb sb ab _ wb (HR.out.below H0.out.2)).mono ?_
  rintro e w1 ⟨rfl, hb⟩
  have H0 := hide (And.intro (H0.out.1.below hb) (below_via H0.out.2 hb))
  clear hb q0 q1 q2 r0 r1 r2
  obtain ⟨q0, q1, q2, r0, r1, r2, _, _⟩ := H0.out.1
  rw [TB.out]
  go_wp2_with fail
  refine (implWord ka sa aa _ wa (HR.out.below H0.out.2)).mono ?_
  rintro e w1 ⟨rfl, hb⟩
  have H0 := hide (And.intro (H0.out.1.below hb) (below_via H0.out.2 hb))
  clear hb q0 q1 q2 r0 r1 r2
  obtain ⟨q0, q1, q2, r0, r1, r2, _, _⟩ := H0.out.1
  rw [WA.out]
  go_wp2_with fail
  refine (implQuot ka sa aa _ wa (HR.out.below H0.out.2)).mono ?_
  rintro e w1 ⟨rfl, hb⟩
  have H0 := hide (And.intro (H0.out.1.below hb) (below_via H0.out.2 hb))
  clear hb q0 q1 q2 r0 r1 r2
  obtain ⟨q0, q1, q2, r0, r1, r2, _, _⟩ := H0.out.1
  rw [QA.out]
  go_wp2_with fail
  refine (implQuot kb sb ab _ wb (HR.out.below H0.out.2)).mono ?_
  rintro e w1 ⟨rfl, hb⟩
  have H0 := hide (And.intro (H0.out.1.below hb) (below_via H0.out.2 hb))
  clear hb q0 q1 q2 r0 r1 r2
  obtain ⟨q0, q1, q2, r0, r1, r2, _, _⟩ := H0.out.1
  rw [QB.out]
  go_wp2_with fail
  all_goals go_ret
  all_goals exact ⟨rfl, H0.out.2⟩

set_option maxRecDepth 100000 in
set_option maxHeartbeats 1600000 in
theorem implGap_tt (sa : ByteArray) (aa : Int) (sb : ByteArray) (ab : Int) (w : World) (wa : sa.size ≤ 1048576) (wb : sb.size ≤ 1048576) (hR : Ready w) (TA : Hid (tokOk 4 sa = true)) (TB : Hid (tokOk 4 sb = true)) (WA : Hid (wordB 4 sa = false)) (QA : Hid (quotB 4 sa = false)) :
    Calls Tryz.prog 9 #[.agg #[.int .i64 4, .string sa, .int .i64 aa], .agg #[.int .i64 4, .string sb, .int .i64 ab]] w fun e w' => e = .returned (.bool true) ∧ Below w.heap.size w w' := by
  have HR := hide hR
  clear hR
  go_enter Tryz.func9, Tryz.ntmps9
  go_wp2_with fail
  generalize hW : World.alloc _ _ = W1
  have hbx : Box2 W1 w.heap.size (w.heap.size + 1) 4 sa aa 4 sb ab := by rw [← hW]; exact Box2.made w _ _ _ _ _ _ _ _
  have hb1 : Below w.heap.size w W1 := by rw [← hW]; go_grown
  clear hW
  obtain ⟨bb, hbb⟩ : ∃ bb, bb = w.heap.size + 1 := ⟨_, rfl⟩
  rw [← hbb] at hbx ⊢
  obtain ⟨ba, hba⟩ : ∃ ba, ba = w.heap.size := ⟨_, rfl⟩
  rw [← hba] at hbx ⊢
  have HBA := hide (And.intro hba hbb)
  clear hba hbb
  have H0 := hide (And.intro hbx hb1)
  clear hbx hb1
  obtain ⟨q0, q1, q2, r0, r1, r2, _, _⟩ := H0.out.1
  refine (implTokenOk 4 sa aa _ wa (HR.out.below H0.out.2)).mono ?_
  rintro e w1 ⟨rfl, hb⟩
  have H0 := hide (And.intro (H0.out.1.below hb) (below_via H0.out.2 hb))
  clear hb q0 q1 q2 r0 r1 r2
  obtain ⟨q0, q1, q2, r0, r1, r2, _, _⟩ := H0.out.1
  rw [TA.out]
  go_wp2_with fail
  refine (implTokenOk 4 sb ab _ wb (HR.out.below H0.out.2)).mono ?_
  rintro e w1 ⟨rfl, hb⟩
  have H0 := hide (And.intro (H0.out.1.below hb) (below_via H0.out.2 hb))
  clear hb q0 q1 q2 r0 r1 r2
  obtain ⟨q0, q1, q2, r0, r1, r2, _, _⟩ := H0.out.1
  rw [TB.out]
  go_wp2_with fail
  refine (implWord 4 sa aa _ wa (HR.out.below H0.out.2)).mono ?_
  rintro e w1 ⟨rfl, hb⟩
  have H0 := hide (And.intro (H0.out.1.below hb) (below_via H0.out.2 hb))
  clear hb q0 q1 q2 r0 r1 r2
  obtain ⟨q0, q1, q2, r0, r1, r2, _, _⟩ := H0.out.1
  rw [WA.out]
  go_wp2_with fail
  refine (implQuot 4 sa aa _ wa (HR.out.below H0.out.2)).mono ?_
  rintro e w1 ⟨rfl, hb⟩
  have H0 := hide (And.intro (H0.out.1.below hb) (below_via H0.out.2 hb))
  clear hb q0 q1 q2 r0 r1 r2
  obtain ⟨q0, q1, q2, r0, r1, r2, _, _⟩ := H0.out.1
  rw [QA.out]
  go_wp2_with fail
  all_goals go_ret
  all_goals exact ⟨rfl, H0.out.2⟩

set_option maxRecDepth 100000 in
set_option maxHeartbeats 1600000 in
theorem implGap_tx (sa : ByteArray) (aa : Int) (kb : Int) (sb : ByteArray) (ab : Int) (w : World) (wa : sa.size ≤ 1048576) (wb : sb.size ≤ 1048576) (hR : Ready w) (TA : Hid (tokOk 4 sa = true)) (TB : Hid (tokOk kb sb = true)) (WA : Hid (wordB 4 sa = false)) (QA : Hid (quotB 4 sa = false)) (k4 : (kb == 4) = false) :
    Calls Tryz.prog 9 #[.agg #[.int .i64 4, .string sa, .int .i64 aa], .agg #[.int .i64 kb, .string sb, .int .i64 ab]] w fun e w' => e = .returned (.bool false) ∧ Below w.heap.size w w' := by
  have HR := hide hR
  clear hR
  go_enter Tryz.func9, Tryz.ntmps9
  go_wp2_with fail
  generalize hW : World.alloc _ _ = W1
  have hbx : Box2 W1 w.heap.size (w.heap.size + 1) 4 sa aa kb sb ab := by rw [← hW]; exact Box2.made w _ _ _ _ _ _ _ _
  have hb1 : Below w.heap.size w W1 := by rw [← hW]; go_grown
  clear hW
  obtain ⟨bb, hbb⟩ : ∃ bb, bb = w.heap.size + 1 := ⟨_, rfl⟩
  rw [← hbb] at hbx ⊢
  obtain ⟨ba, hba⟩ : ∃ ba, ba = w.heap.size := ⟨_, rfl⟩
  rw [← hba] at hbx ⊢
  have HBA := hide (And.intro hba hbb)
  clear hba hbb
  have H0 := hide (And.intro hbx hb1)
  clear hbx hb1
  obtain ⟨q0, q1, q2, r0, r1, r2, _, _⟩ := H0.out.1
  refine (implTokenOk 4 sa aa _ wa (HR.out.below H0.out.2)).mono ?_
  rintro e w1 ⟨rfl, hb⟩
  have H0 := hide (And.intro (H0.out.1.below hb) (below_via H0.out.2 hb))
  clear hb q0 q1 q2 r0 r1 r2
  obtain ⟨q0, q1, q2, r0, r1, r2, _, _⟩ := H0.out.1
  rw [TA.out]
  go_wp2_with fail
  refine (implTokenOk kb sb ab _ wb (HR.out.below H0.out.2)).mono ?_
  rintro e w1 ⟨rfl, hb⟩
  have H0 := hide (And.intro (H0.out.1.below hb) (below_via H0.out.2 hb))
  clear hb q0 q1 q2 r0 r1 r2
  obtain ⟨q0, q1, q2, r0, r1, r2, _, _⟩ := H0.out.1
  rw [TB.out]
  go_wp2_with fail
  refine (implWord 4 sa aa _ wa (HR.out.below H0.out.2)).mono ?_
  rintro e w1 ⟨rfl, hb⟩
  have H0 := hide (And.intro (H0.out.1.below hb) (below_via H0.out.2 hb))
  clear hb q0 q1 q2 r0 r1 r2
  obtain ⟨q0, q1, q2, r0, r1, r2, _, _⟩ := H0.out.1
  rw [WA.out]
  go_wp2_with fail
  refine (implQuot 4 sa aa _ wa (HR.out.below H0.out.2)).mono ?_
  rintro e w1 ⟨rfl, hb⟩
  have H0 := hide (And.intro (H0.out.1.below hb) (below_via H0.out.2 hb))
  clear hb q0 q1 q2 r0 r1 r2
  obtain ⟨q0, q1, q2, r0, r1, r2, _, _⟩ := H0.out.1
  rw [QA.out]
  go_wp2_with fail
  all_goals go_ret
  all_goals exact ⟨rfl, H0.out.2⟩

set_option maxRecDepth 100000 in
set_option maxHeartbeats 1600000 in
theorem implGap_sx (sa : ByteArray) (aa : Int) (kb : Int) (sb : ByteArray) (ab : Int) (w : World) (wa : sa.size ≤ 1048576) (wb : sb.size ≤ 1048576) (hR : Ready w) (TA : Hid (tokOk 5 sa = true)) (TB : Hid (tokOk kb sb = true)) (WA : Hid (wordB 5 sa = false)) (QA : Hid (quotB 5 sa = false)) (_k5 : (kb == 5) = false) (k5' : (kb != 5) = true) :
    Calls Tryz.prog 9 #[.agg #[.int .i64 5, .string sa, .int .i64 aa], .agg #[.int .i64 kb, .string sb, .int .i64 ab]] w fun e w' => e = .returned (.bool false) ∧ Below w.heap.size w w' := by
  have HR := hide hR
  clear hR
  go_enter Tryz.func9, Tryz.ntmps9
  go_wp2_with fail
  generalize hW : World.alloc _ _ = W1
  have hbx : Box2 W1 w.heap.size (w.heap.size + 1) 5 sa aa kb sb ab := by rw [← hW]; exact Box2.made w _ _ _ _ _ _ _ _
  have hb1 : Below w.heap.size w W1 := by rw [← hW]; go_grown
  clear hW
  obtain ⟨bb, hbb⟩ : ∃ bb, bb = w.heap.size + 1 := ⟨_, rfl⟩
  rw [← hbb] at hbx ⊢
  obtain ⟨ba, hba⟩ : ∃ ba, ba = w.heap.size := ⟨_, rfl⟩
  rw [← hba] at hbx ⊢
  have HBA := hide (And.intro hba hbb)
  clear hba hbb
  have H0 := hide (And.intro hbx hb1)
  clear hbx hb1
  obtain ⟨q0, q1, q2, r0, r1, r2, _, _⟩ := H0.out.1
  refine (implTokenOk 5 sa aa _ wa (HR.out.below H0.out.2)).mono ?_
  rintro e w1 ⟨rfl, hb⟩
  have H0 := hide (And.intro (H0.out.1.below hb) (below_via H0.out.2 hb))
  clear hb q0 q1 q2 r0 r1 r2
  obtain ⟨q0, q1, q2, r0, r1, r2, _, _⟩ := H0.out.1
  rw [TA.out]
  go_wp2_with fail
  refine (implTokenOk kb sb ab _ wb (HR.out.below H0.out.2)).mono ?_
  rintro e w1 ⟨rfl, hb⟩
  have H0 := hide (And.intro (H0.out.1.below hb) (below_via H0.out.2 hb))
  clear hb q0 q1 q2 r0 r1 r2
  obtain ⟨q0, q1, q2, r0, r1, r2, _, _⟩ := H0.out.1
  rw [TB.out]
  go_wp2_with fail
  refine (implWord 5 sa aa _ wa (HR.out.below H0.out.2)).mono ?_
  rintro e w1 ⟨rfl, hb⟩
  have H0 := hide (And.intro (H0.out.1.below hb) (below_via H0.out.2 hb))
  clear hb q0 q1 q2 r0 r1 r2
  obtain ⟨q0, q1, q2, r0, r1, r2, _, _⟩ := H0.out.1
  rw [WA.out]
  go_wp2_with fail
  refine (implQuot 5 sa aa _ wa (HR.out.below H0.out.2)).mono ?_
  rintro e w1 ⟨rfl, hb⟩
  have H0 := hide (And.intro (H0.out.1.below hb) (below_via H0.out.2 hb))
  clear hb q0 q1 q2 r0 r1 r2
  obtain ⟨q0, q1, q2, r0, r1, r2, _, _⟩ := H0.out.1
  rw [QA.out]
  go_wp2_with fail
  all_goals go_ret
  all_goals exact ⟨rfl, H0.out.2⟩

set_option maxRecDepth 100000 in
set_option maxHeartbeats 1600000 in
theorem implGap_ss (sa : ByteArray) (aa : Int) (sb : ByteArray) (ab : Int) (w : World) (wa : sa.size ≤ 1048576) (wb : sb.size ≤ 1048576) (hR : Ready w) (TA : Hid (tokOk 5 sa = true)) (TB : Hid (tokOk 5 sb = true)) (WA : Hid (wordB 5 sa = false)) (QA : Hid (quotB 5 sa = false)) (hsb : 0 < sb.size) :
    Calls Tryz.prog 9 #[.agg #[.int .i64 5, .string sa, .int .i64 aa], .agg #[.int .i64 5, .string sb, .int .i64 ab]] w fun e w' => e = .returned (.bool (signGap sa sb)) ∧ Below w.heap.size w w' := by
  have HR := hide hR
  clear hR
  go_enter Tryz.func9, Tryz.ntmps9
  go_wp2_with fail
  generalize hW : World.alloc _ _ = W1
  have hbx : Box2 W1 w.heap.size (w.heap.size + 1) 5 sa aa 5 sb ab := by rw [← hW]; exact Box2.made w _ _ _ _ _ _ _ _
  have hb1 : Below w.heap.size w W1 := by rw [← hW]; go_grown
  clear hW
  obtain ⟨bb, hbb⟩ : ∃ bb, bb = w.heap.size + 1 := ⟨_, rfl⟩
  rw [← hbb] at hbx ⊢
  obtain ⟨ba, hba⟩ : ∃ ba, ba = w.heap.size := ⟨_, rfl⟩
  rw [← hba] at hbx ⊢
  have HBA := hide (And.intro hba hbb)
  clear hba hbb
  have H0 := hide (And.intro hbx hb1)
  clear hbx hb1
  obtain ⟨q0, q1, q2, r0, r1, r2, _, _⟩ := H0.out.1
  refine (implTokenOk 5 sa aa _ wa (HR.out.below H0.out.2)).mono ?_
  rintro e w1 ⟨rfl, hb⟩
  have H0 := hide (And.intro (H0.out.1.below hb) (below_via H0.out.2 hb))
  clear hb q0 q1 q2 r0 r1 r2
  obtain ⟨q0, q1, q2, r0, r1, r2, _, _⟩ := H0.out.1
  rw [TA.out]
  go_wp2_with fail
  refine (implTokenOk 5 sb ab _ wb (HR.out.below H0.out.2)).mono ?_
  rintro e w1 ⟨rfl, hb⟩
  have H0 := hide (And.intro (H0.out.1.below hb) (below_via H0.out.2 hb))
  clear hb q0 q1 q2 r0 r1 r2
  obtain ⟨q0, q1, q2, r0, r1, r2, _, _⟩ := H0.out.1
  rw [TB.out]
  go_wp2_with fail
  refine (implWord 5 sa aa _ wa (HR.out.below H0.out.2)).mono ?_
  rintro e w1 ⟨rfl, hb⟩
  have H0 := hide (And.intro (H0.out.1.below hb) (below_via H0.out.2 hb))
  clear hb q0 q1 q2 r0 r1 r2
  obtain ⟨q0, q1, q2, r0, r1, r2, _, _⟩ := H0.out.1
  rw [WA.out]
  go_wp2_with fail
  refine (implQuot 5 sa aa _ wa (HR.out.below H0.out.2)).mono ?_
  rintro e w1 ⟨rfl, hb⟩
  have H0 := hide (And.intro (H0.out.1.below hb) (below_via H0.out.2 hb))
  clear hb q0 q1 q2 r0 r1 r2
  obtain ⟨q0, q1, q2, r0, r1, r2, _, _⟩ := H0.out.1
  rw [QA.out]
  go_wp2_with fail
  all_goals go_ret
  all_goals refine ⟨ret_bool ?_, H0.out.2⟩
  all_goals clear q0 q1 q2 r0 r1 r2
  all_goals rw [signGap_at sa sb hsb]
  all_goals go_light
  all_goals simp_all

theorem implGap (ka : Int) (sa : ByteArray) (aa : Int) (kb : Int) (sb : ByteArray) (ab : Int) (w : World) (wa : sa.size ≤ 1048576) (wb : sb.size ≤ 1048576) (hR : Ready w) :
    Calls Tryz.prog 9 #[.agg #[.int .i64 ka, .string sa, .int .i64 aa], .agg #[.int .i64 kb, .string sb, .int .i64 ab]] w fun e w' => e = .returned (.bool (gapB ka sa kb sb)) ∧ Below w.heap.size w w' := by
  cases ta : tokOk ka sa
  · rw [gap_na ta]
    exact implGap_na ka sa aa kb sb ab w wa wb hR ta
  cases tb : tokOk kb sb
  · rw [gap_nb tb]
    exact implGap_nb ka sa aa kb sb ab w wa wb hR ta tb
  rw [gap_both ta tb]
  rcases tok_cls ta with ⟨wa1, qa1, k4, k5⟩ | ⟨wa1, qa1, k4, k5⟩ | ⟨rfl, wa1, qa1⟩ | ⟨rfl, wa1, qa1⟩
  · rw [wa1, qa1, k4, k5]
    cases hw : wordB kb sb
    · exact implGap_wx ka sa aa kb sb ab w wa wb hR ta tb wa1 hw qa1 k4 k5 (by unfold bne; rw [k5]; rfl)
    · exact implGap_ww ka sa aa kb sb ab w wa wb hR ta tb wa1 hw
  · rw [wa1, qa1, k4, k5]
    cases hq : quotB kb sb
    · exact implGap_qx ka sa aa kb sb ab w wa wb hR ta tb wa1 qa1 hq k4 k5 (by unfold bne; rw [k5]; rfl)
    · exact implGap_qq ka sa aa kb sb ab w wa wb hR ta tb wa1 qa1 hq k4
  · rw [wa1, qa1]
    by_cases h4 : kb = 4
    · subst h4
      exact implGap_tt sa aa sb ab w wa wb hR ta tb wa1 qa1
    · have h4' : (kb == 4) = false := by simpa using h4
      rw [h4']
      exact implGap_tx sa aa kb sb ab w wa wb hR ta tb wa1 qa1 h4'
  · rw [wa1, qa1]
    by_cases h5 : kb = 5
    · subst h5
      exact implGap_ss sa aa sb ab w wa wb hR ta tb wa1 qa1 (sign_size tb)
    · have h5' : (kb == 5) = false := by simpa using h5
      rw [h5']
      exact implGap_sx sa aa kb sb ab w wa wb hR ta tb wa1 qa1 h5' (by unfold bne; rw [h5']; rfl)
end Go.Proofs.YtfnjcgakcpadiaaGreatDoor
