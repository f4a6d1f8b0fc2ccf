/-
  The walk of FnOrder.
-/
import Derived.Test.YtnamikhhbedpeaaDrOrd
import Derived.Test.YtnamikhhbedpeaaWOrd
import Derived.Test.YtnamikhhbedpeaaCarry
namespace Go.Proofs.Ytnamikhhbedpeaa
open Go.RowKit Go.Lib

theorem ordF_range (k n : Int) (s : List UInt8) (k' n' : Int) (s' : List UInt8) : -1 ≤ ordF k n s k' n' s' ∧ ordF k n s k' n' s' ≤ 1 := by
  unfold ordF
  rcases cmpI_cases k k' with ⟨_, h⟩ | ⟨_, h⟩ | ⟨_, h⟩ <;> rcases cmpI_cases n n' with ⟨_, h1⟩ | ⟨_, h1⟩ | ⟨_, h1⟩ <;> rcases cmpS_cases s s' with ⟨_, _, _, h2⟩ | ⟨_, _, _, h2⟩ | ⟨_, _, _, h2⟩ <;> simp [h, h1, h2]

theorem ordF_swap (k n : Int) (s : List UInt8) (k' n' : Int) (s' : List UInt8) : ordF k' n' s' k n s = -ordF k n s k' n' s' := by
  unfold ordF
  rcases cmpI_cases k k' with ⟨_, h⟩ | ⟨_, h⟩ | ⟨_, h⟩ <;> rcases cmpI_cases k' k with ⟨_, g⟩ | ⟨_, g⟩ | ⟨_, g⟩ <;> first | omega | skip
  all_goals rcases cmpI_cases n n' with ⟨_, h1⟩ | ⟨_, h1⟩ | ⟨_, h1⟩ <;> rcases cmpI_cases n' n with ⟨_, g1⟩ | ⟨_, g1⟩ | ⟨_, g1⟩ <;> first | omega | skip
  all_goals rcases cmpS_cases s s' with ⟨a1, b1, c1, h2⟩ | ⟨a1, b1, c1, h2⟩ | ⟨a1, b1, c1, h2⟩ <;> rcases cmpS_cases s' s with ⟨a2, b2, c2, g2⟩ | ⟨a2, b2, c2, g2⟩ | ⟨a2, b2, c2, g2⟩
  all_goals first | (simp [h, g, h1, g1, h2, g2]; done) | simp_all

theorem ordF_zero (k n : Int) (s : List UInt8) (k' n' : Int) (s' : List UInt8) : ordF k n s k' n' s' = 0 ↔ (k = k' ∧ n = n' ∧ s = s') := by
  unfold ordF
  rcases cmpI_cases k k' with ⟨a, h⟩ | ⟨a, h⟩ | ⟨a, h⟩ <;> rcases cmpI_cases n n' with ⟨b, h1⟩ | ⟨b, h1⟩ | ⟨b, h1⟩ <;> rcases cmpS_cases s s' with ⟨_, _, c, h2⟩ | ⟨c, _, _, h2⟩ | ⟨_, _, c, h2⟩ <;> simp [h, h1, h2] <;> first | omega | (intro _ _; exact c) | exact ⟨a, b, c⟩

theorem cmpS_trans {a b c : List UInt8} (h1 : cmpS a b ≤ 0) (h2 : cmpS b c ≤ 0) : cmpS a c ≤ 0 ∧ (cmpS a c = 0 → cmpS a b = 0 ∧ cmpS b c = 0) := by
  rcases cmpS_cases a b with ⟨x1, _, _, e1⟩ | ⟨rfl, _, _, e1⟩ | ⟨_, _, _, e1⟩
  · rcases cmpS_cases b c with ⟨x2, _, _, e2⟩ | ⟨rfl, _, _, e2⟩ | ⟨_, _, _, e2⟩
    · have := bytesLess_trans a b c x1 x2
      rcases cmpS_cases a c with ⟨_, _, _, e3⟩ | ⟨_, x3, _, e3⟩ | ⟨x3, _, _, e3⟩
      · rw [e3]; simp
      · rw [this] at x3; cases x3
      · rw [this] at x3; cases x3
    · rw [e1]; simp
    · omega
  · refine ⟨h2, fun h => ⟨e1, h⟩⟩
  · omega

theorem ordF_trans {k n : Int} {s : List UInt8} {k' n' : Int} {s' : List UInt8} {k2 n2 : Int} {s2 : List UInt8} (h1 : ordF k n s k' n' s' ≤ 0) (h2 : ordF k' n' s' k2 n2 s2 ≤ 0) : ordF k n s k2 n2 s2 ≤ 0 := by
  unfold ordF at h1 h2 ⊢
  rcases cmpI_cases k k' with ⟨a, e⟩ | ⟨a, e⟩ | ⟨a, e⟩ <;> rcases cmpI_cases k' k2 with ⟨b, f⟩ | ⟨b, f⟩ | ⟨b, f⟩ <;> rcases cmpI_cases k k2 with ⟨c, g⟩ | ⟨c, g⟩ | ⟨c, g⟩ <;> first | omega | (simp [e, f, g] at h1 h2 ⊢; done) | skip
  all_goals simp only [e, f, g, if_true] at h1 h2 ⊢
  all_goals rcases cmpI_cases n n' with ⟨a1, e1⟩ | ⟨a1, e1⟩ | ⟨a1, e1⟩ <;> rcases cmpI_cases n' n2 with ⟨b1, f1⟩ | ⟨b1, f1⟩ | ⟨b1, f1⟩ <;> rcases cmpI_cases n n2 with ⟨c1, g1⟩ | ⟨c1, g1⟩ | ⟨c1, g1⟩ <;> first | omega | (simp [e1, f1, g1] at h1 h2 ⊢; done) | skip
  all_goals simp only [e1, f1, g1, if_true] at h1 h2 ⊢
  all_goals exact (cmpS_trans h1 h2).1

theorem toList_inj {s t : ByteArray} (h : s.toList = t.toList) : s = t := by
  rw [ByteArray.toList_eq, ByteArray.toList_eq] at h
  cases s with
  | mk a => cases t with
    | mk b => congr; exact Array.toList_inj.mp h

set_option maxRecDepth 100000 in
set_option maxHeartbeats 4000000 in
theorem fnOrder.walk (a : Option Addr) (n c : Nat) (zs : List Int) (w : World) (w0 : IsRow .u8 w a n c zs) :
    Calls Try.prog 7 #[.slice a n c] w fun e w' => e = .returned (.bool true) ∧ Below w.heap.size w w' := by
  have hlen := w0.len_le
  by_cases hbig : 1048576 < n
  · go_enter Try.func7, Try.ntmps7
    go_wp2_with (go_at_call 13; refine (bigC _ _ _ hlen).mono ?_; rintro e w1 ⟨rfl, rfl⟩)
    all_goals go_ret
    all_goals exact ⟨rfl, by go_grown⟩
  · have HC := hide (Code.of_row w0 (by omega))
    have hcap := hide w0.len_cap
    go_enter Try.func7, Try.ntmps7
    go_wp2_with (go_at_call 13; refine (bigC _ _ _ hlen).mono ?_; rintro e w1 ⟨rfl, rfl⟩)
    refine (drawOrderC c HC.out (Nat.le_refl _)).mono ?_
    rintro e w1 ⟨k, m, s, k', m', s', rfl, hs, hs', hb1⟩
    have H1 := hide hb1
    clear hb1 hbig
    go_wp2_with fail
    have hA := ((C3.made w1 (.int .i64 k) (.int .i64 m) (.string s) 41).alloc (.cells #[.int .i64 k', .int .i64 m', .string s'] 41))
    have hB := (C3.made (w1.alloc (.cells #[.int .i64 k, .int .i64 m, .string s] 41)) (.int .i64 k') (.int .i64 m') (.string s') 41)
    rw [show (w1.alloc (.cells #[.int .i64 k, .int .i64 m, .string s] 41)).heap.size = w1.heap.size + 1 by simp] at hB
    have h2 : Below w.heap.size w ((w1.alloc (.cells #[.int .i64 k, .int .i64 m, .string s] 41)).alloc (.cells #[.int .i64 k', .int .i64 m', .string s'] 41)) := (H1.out.alloc H1.out.size _).alloc (by simp; have := H1.out.size; omega) _
    generalize hW : (w1.alloc (.cells #[.int .i64 k, .int .i64 m, .string s] 41)).alloc (.cells #[.int .i64 k', .int .i64 m', .string s'] 41) = W at hA hB h2 ⊢
    clear hW
    generalize w1.heap.size + 1 = bb at hB ⊢
    generalize w1.heap.size = ba at hA ⊢
    have HW := hide (And.intro h2 (And.intro hA hB))
    clear h2 hA hB
    refine (tailC c (HC.out.below HW.out.1) hcap.out).mono ?_
    rintro e w2 ⟨a2, n2, c2, z2, rfl, hc2, rfl⟩
    have HC2 := hide hc2
    clear hc2
    go_wp2_with fail
    refine (drawOrderC c2 HC2.out HW.out.1.size).mono ?_
    rintro e w3 ⟨k2, m2, s2, k3, m3, s3, rfl, hs2, hs3, hb3⟩
    have H3 := hide (And.intro (below_via HW.out.1 hb3) (And.intro (HW.out.2.1.below hb3) (HW.out.2.2.below hb3)))
    clear hb3 HW
    obtain ⟨sa, ⟨a0, a1, a2⟩, _⟩ := H3.out.2.1
    obtain ⟨sb, ⟨b0, b1, b2⟩, _⟩ := H3.out.2.2
    have hX1 := ordF_range k m s.toList k' m' s'.toList
    have hX0 := ordF_zero k m s.toList k' m' s'.toList
    have hXs := ordF_swap k m s.toList k' m' s'.toList
    have hT := hide (fun h1 h2 => ordF_trans (k := k) (n := m) (s := s.toList) (k' := k') (n' := m') (s' := s'.toList) (k2 := k2) (n2 := m2) (s2 := s2.toList) h1 h2)
    go_wp2_with fail
    refine (implOrder _ _ _ _ _ _ _).mono ?_
    rintro e w4 ⟨rfl, hb4⟩
    have hcc := ((C3.made w3 (.int .i64 k2) (.int .i64 m2) (.string s2) 41).alloc (.cells #[.int .i64 k3, .int .i64 m3, .string s3] 41)).below hb4
    have h30 := (Below.refl w3.heap.size w3).alloc (Nat.le_refl _) (.cells #[.int .i64 k2, .int .i64 m2, .string s2] 41)
    have h31 := h30.alloc (by simp) (.cells #[.int .i64 k3, .int .i64 m3, .string s3] 41)
    have h34 := below_via h31 hb4
    have H4 := hide (And.intro (below_via H3.out.1 h34) (And.intro (H3.out.2.1.below h34) (And.intro (H3.out.2.2.below h34) hcc)))
    clear hcc h30 h31 h34 hb4 H3
    generalize w3.heap.size + 1 = bd at *
    generalize w3.heap.size = bc at *
    obtain ⟨sa, ⟨a0, a1, a2⟩, _⟩ := H4.out.2.1
    obtain ⟨sb, ⟨b0, b1, b2⟩, _⟩ := H4.out.2.2.1
    obtain ⟨sc, ⟨c0, c1, c2⟩, _⟩ := H4.out.2.2.2
    go_wp2_with fail
    refine (implOrder _ _ _ _ _ _ _).mono ?_
    rintro e w5 ⟨rfl, hb5⟩
    have H5 := hide (And.intro (below_via H4.out.1 hb5) (And.intro (H4.out.2.1.below hb5) (And.intro (H4.out.2.2.1.below hb5) (H4.out.2.2.2.below hb5))))
    clear hb5 a0 a1 a2 b0 b1 b2 c0 c1 c2 sa sb sc
    obtain ⟨sa, ⟨a0, a1, a2⟩, _⟩ := H5.out.2.1
    obtain ⟨sb, ⟨b0, b1, b2⟩, _⟩ := H5.out.2.2.1
    obtain ⟨sc, ⟨c0, c1, c2⟩, _⟩ := H5.out.2.2.2
    rw [hXs]
    clear hXs
    generalize hX : ordF k m s.toList k' m' s'.toList = X at hX1 hX0 hT ⊢
    have hX3 : X = -1 ∨ X = 0 ∨ X = 1 := by omega
    have hYr := ordF_range k' m' s'.toList k2 m2 s2.toList
    have hZr := ordF_range k m s.toList k2 m2 s2.toList
    clear hX hX1
    have hsplit : ¬ X = 0 → ¬ k = k' ∨ (k = k' ∧ ¬ m = m') ∨ (k = k' ∧ m = m' ∧ ¬ s.toList = s'.toList) := by
      intro h
      by_cases h1 : k = k'
      · by_cases h2 : m = m'
        · exact .inr (.inr ⟨h1, h2, fun h3 => h (hX0.2 ⟨h1, h2, h3⟩)⟩)
        · exact .inr (.inl ⟨h1, h2⟩)
      · exact .inl h1
    have heq : X = 0 → k = k' ∧ m = m' ∧ s = s' := by
      intro h
      obtain ⟨h1, h2, h3⟩ := hX0.1 h
      exact ⟨h1, h2, toList_inj h3⟩
    clear hX0
    generalize hY : ordF k' m' s'.toList k2 m2 s2.toList = Y at *
    generalize hZ : ordF k m s.toList k2 m2 s2.toList = Z at *
    have HYZ := hide (And.intro hYr hZr)
    have HY := hide hY
    have HZ := hide hZ
    clear hYr hZr hY hZ
    rcases hX3 with rfl | rfl | rfl
    · have h3 := hsplit (by omega)
      clear hsplit heq
      rcases h3 with h1 | ⟨rfl, h1⟩ | ⟨rfl, rfl, h1⟩
      all_goals
        go_wp2_with fail
        refine (implOrder _ _ _ _ _ _ _).mono ?_
        rintro e w6 ⟨rfl, hb6⟩
        rw [HY.out]
        have H6 := hide (below_via H5.out.1 hb6)
        obtain ⟨sa, ⟨a0, a1, a2⟩, _⟩ := H5.out.2.1.below hb6
        obtain ⟨sc, ⟨c0, c1, c2⟩, _⟩ := H5.out.2.2.2.below hb6
        clear hb6
        by_cases hY0 : Y ≤ 0
        · have hZ0 := hT.out (by omega) hY0
          go_wp2_with fail
          refine (implOrder _ _ _ _ _ _ _).mono ?_
          rintro e w7 ⟨rfl, hb7⟩
          rw [HZ.out]
          have H7 := hide (below_via H6.out hb7)
          clear hb7
          go_wp2_with fail
          all_goals go_ret
          all_goals exact ⟨rfl, H7.out⟩
        · go_wp2_with fail
          all_goals go_ret
          all_goals exact ⟨rfl, H6.out⟩
    · obtain ⟨rfl, rfl, rfl⟩ := heq rfl
      clear hsplit heq
      go_wp2_with fail
      refine (implOrder _ _ _ _ _ _ _).mono ?_
      rintro e w6 ⟨rfl, hb6⟩
      rw [HY.out]
      have H6 := hide (below_via H5.out.1 hb6)
      obtain ⟨sa, ⟨a0, a1, a2⟩, _⟩ := H5.out.2.1.below hb6
      obtain ⟨sc, ⟨c0, c1, c2⟩, _⟩ := H5.out.2.2.2.below hb6
      clear hb6
      by_cases hY0 : Y ≤ 0
      · have hZ0 := hT.out (by omega) hY0
        go_wp2_with fail
        refine (implOrder _ _ _ _ _ _ _).mono ?_
        rintro e w7 ⟨rfl, hb7⟩
        rw [HZ.out]
        have H7 := hide (below_via H6.out hb7)
        clear hb7
        go_wp2_with fail
        all_goals go_ret
        all_goals exact ⟨rfl, H7.out⟩
      · go_wp2_with fail
        all_goals go_ret
        all_goals exact ⟨rfl, H6.out⟩
    · have h3 := hsplit (by omega)
      clear hsplit heq
      rcases h3 with h1 | ⟨rfl, h1⟩ | ⟨rfl, rfl, h1⟩
      all_goals
        go_wp2_with fail
        all_goals go_ret
        all_goals exact ⟨rfl, H5.out.1⟩
end Go.Proofs.Ytnamikhhbedpeaa
