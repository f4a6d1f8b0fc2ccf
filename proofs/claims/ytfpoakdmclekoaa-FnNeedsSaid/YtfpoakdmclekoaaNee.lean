/-
  Needs and Wrapped, in the reference and in the program.
-/
import Derived.Test.YtfpoakdmclekoaaLev
import Derived.Test.YtfpoakdmclekoaaQ
namespace Go.Proofs.Ytfpoakdmclekoaa
open Go.RowKit

/-- The level that kid i must have. -/
def neeL (k L : Int) (m : Nat) (i : Int) : Int :=
  if i < 0 ∨ (m : Int) ≤ i ∨ L = 0 ∨ L = 9 then 0 else if k = 4 then (if L = 4 then 5 else if i = 0 then L else L + 1) else if k = 3 then L else if k = 7 ∧ 0 < i then 1 else 5

set_option maxRecDepth 100000 in
set_option maxHeartbeats 1600000 in
theorem specNeeds (k op : Int) (v2 v3 v4 v5 v6 v7 : Value) (ka sa : Option Addr) (m kc ms sc : Nat) (i : Int) (hm : m ≤ 1048576) (w : World) :
    Calls Try.prog 22 #[.agg #[.int .i64 k, .int .i64 op, v2, v3, v4, v5, v6, v7, .slice ka m kc, .slice sa ms sc], .int .i64 i] w fun e w' => e = .returned (.int .i64 (neeL k (levL k op) m i)) ∧ Below w.heap.size w w' := by
  have hL := levL_le k op
  have hC := fun w => specLevel k op v2 v3 v4 v5 v6 v7 (.slice ka m kc) (.slice sa ms sc) w
  generalize levL k op = L at hL hC ⊢
  have hI := fun w => specIn i 0 ((m : Int) - 1) w
  obtain ⟨N, hN⟩ : ∃ N, Hid (neeL k L m i = N) := ⟨_, rfl⟩
  rw [hN.out]
  go_enter Try.func22, Try.ntmps22
  go_wp2_with fail
  refine (hC _).mono ?_
  rintro e w1 ⟨rfl, hb⟩
  have hcc := bcell hb
  obtain ⟨hc, hf⟩ := hcc
  have hz : w.heap.size < (w.alloc (.cells #[.int .i64 k, .int .i64 op, v2, v3, v4, v5, v6, v7, .slice ka m kc, .slice sa ms sc] 34)).heap.size := by simp
  have d0 := (hc _ 0 hz)
  have d8 := (hc _ 8 hz)
  simp [go_sem] at d0 d8
  have HB := hide (below_via ((Below.refl _ _).alloc (Nat.le_refl _) _) hb)
  clear hb hc hf hz hC
  by_cases hr : 0 ≤ i ∧ i ≤ (m : Int) - 1
  · rw [decide_eq_true hr] at hI
    go_wp2_with fail
    refine (hI _).mono ?_
    rintro e w2 ⟨rfl, rfl⟩
    by_cases h0 : L = 0
    · subst h0
      have HN := hide (hN.out.symm.trans (show neeL k 0 m i = 0 by unfold neeL; simp))
      go_wp2_with fail
      all_goals go_ret
      all_goals exact ⟨by rw [HN.out]; first | done | rfl, HB.out⟩
    · by_cases h9 : L = 9
      · subst h9
        have HN := hide (hN.out.symm.trans (show neeL k 9 m i = 0 by unfold neeL; simp))
        go_wp2_with fail
        all_goals go_ret
        all_goals exact ⟨by rw [HN.out]; first | done | rfl, HB.out⟩
      · have g0 := beq_no h0
        have g9 := beq_no h9
        have hnn : ¬ (i < 0 ∨ (m : Int) ≤ i ∨ L = 0 ∨ L = 9) := by omega
        have HNN := hide (hN.out.symm.trans (show neeL k L m i = _ by unfold neeL; rw [if_neg hnn]))
        obtain ⟨L0, L9⟩ := hL
        obtain ⟨i0, i9⟩ := hr
        clear hnn h0 h9 hN
        by_cases k3 : k = 3
        · subst k3
          have HN := hide (HNN.out.trans (show _ = L by simp))
          go_wp2_with fail
          all_goals go_ret
          all_goals exact ⟨by rw [HN.out]; first | done | rfl, HB.out⟩
        · by_cases k4 : k = 4
          · subst k4
            by_cases hL4 : L = 4
            · subst hL4
              have HN := hide (HNN.out.trans (show _ = (5 : Int) by simp))
              clear HNN
              go_wp2_with fail
              all_goals go_ret
              all_goals exact ⟨by rw [HN.out]; first | done | rfl, HB.out⟩
            · have gL4 := beq_no hL4
              by_cases hi0 : i = 0
              · subst hi0
                have HN := hide (HNN.out.trans (show _ = L by simp [hL4]))
                clear HNN hL4
                go_wp2_with fail
                all_goals go_ret
                all_goals exact ⟨by rw [HN.out]; first | done | rfl, HB.out⟩
              · have HN := hide (HNN.out.trans (show _ = L + 1 by simp [hL4, hi0]))
                have gi := beq_no hi0
                clear HNN hL4 hi0
                go_wp2_with fail
                all_goals go_ret
                all_goals exact ⟨by rw [HN.out]; first | done | rfl, HB.out⟩
          · by_cases k7 : k = 7
            · subst k7
              by_cases hi0 : 0 < i
              · have HN := hide (HNN.out.trans (show _ = (1 : Int) by simp [hi0]))
                clear HNN
                go_wp2_with fail
                all_goals go_ret
                all_goals exact ⟨by rw [HN.out]; first | done | rfl, HB.out⟩
              · have HN := hide (HNN.out.trans (show _ = (5 : Int) by simp [hi0]))
                clear HNN
                go_wp2_with fail
                all_goals go_ret
                all_goals exact ⟨by rw [HN.out]; first | done | rfl, HB.out⟩
            · have HN := hide (HNN.out.trans (show _ = (5 : Int) by simp [k3, k4, k7]))
              have g3 := beq_no k3
              have g4 := beq_no k4
              have g7 := beq_no k7
              clear HNN k3 k4 k7
              go_wp2_with fail
              all_goals go_ret
              all_goals exact ⟨by rw [HN.out]; first | done | rfl, HB.out⟩
  · rw [decide_eq_false hr] at hI
    have HN := hide (hN.out.symm.trans (show neeL k L m i = 0 by unfold neeL; rw [if_pos (by omega)]))
    clear hr hN hL
    go_wp2_with fail
    refine (hI _).mono ?_
    rintro e w2 ⟨rfl, rfl⟩
    go_wp2_with fail
    all_goals go_ret
    all_goals exact ⟨by rw [HN.out]; first | done | rfl, HB.out⟩

set_option maxRecDepth 100000 in
set_option maxHeartbeats 1600000 in
theorem implNeeds (k op : Int) (v2 v3 v4 v5 v6 v7 : Value) (ka sa : Option Addr) (m kc ms sc : Nat) (i : Int) (hm : m ≤ 1048576) (w : World) :
    Calls Try.prog 23 #[.agg #[.int .i64 k, .int .i64 op, v2, v3, v4, v5, v6, v7, .slice ka m kc, .slice sa ms sc], .int .i64 i] w fun e w' => e = .returned (.int .i64 (neeL k (levL k op) m i)) ∧ Below w.heap.size w w' := by
  have hL := levL_le k op
  have hC := fun w => implLevel k op v2 v3 v4 v5 v6 v7 (.slice ka m kc) (.slice sa ms sc) w
  generalize levL k op = L at hL hC ⊢
  obtain ⟨N, hN⟩ : ∃ N, Hid (neeL k L m i = N) := ⟨_, rfl⟩
  rw [hN.out]
  go_enter Try.func23, Try.ntmps23
  go_wp2_with fail
  refine (hC _).mono ?_
  rintro e w1 ⟨rfl, hb⟩
  have hcc := bcell hb
  obtain ⟨hc, hf⟩ := hcc
  have hz : w.heap.size < (w.alloc (.cells #[.int .i64 k, .int .i64 op, v2, v3, v4, v5, v6, v7, .slice ka m kc, .slice sa ms sc] 34)).heap.size := by simp
  have d0 := (hc _ 0 hz)
  have d8 := (hc _ 8 hz)
  simp [go_sem] at d0 d8
  have HB := hide (below_via ((Below.refl _ _).alloc (Nat.le_refl _) _) hb)
  clear hb hc hf hz hC
  by_cases hn0 : i < 0
  · have HN := hide (hN.out.symm.trans (show neeL k L m i = 0 by unfold neeL; rw [if_pos (by omega)]))
    clear hN hL
    go_wp2_with fail
    all_goals go_ret
    all_goals exact ⟨by rw [HN.out]; first | done | rfl, HB.out⟩
  · by_cases hnm : (m : Int) ≤ i
    · have HN := hide (hN.out.symm.trans (show neeL k L m i = 0 by unfold neeL; rw [if_pos (by omega)]))
      clear hN hL
      go_wp2_with fail
      all_goals go_ret
      all_goals exact ⟨by rw [HN.out]; first | done | rfl, HB.out⟩
    · by_cases h0 : L = 0
      · subst h0
        have HN := hide (hN.out.symm.trans (show neeL k 0 m i = 0 by unfold neeL; simp))
        go_wp2_with fail
        all_goals go_ret
        all_goals exact ⟨by rw [HN.out]; first | done | rfl, HB.out⟩
      · by_cases h9 : L = 9
        · subst h9
          have HN := hide (hN.out.symm.trans (show neeL k 9 m i = 0 by unfold neeL; simp))
          go_wp2_with fail
          all_goals go_ret
          all_goals exact ⟨by rw [HN.out]; first | done | rfl, HB.out⟩
        · have g0 := beq_no h0
          have g9 := beq_no h9
          have hnn : ¬ (i < 0 ∨ (m : Int) ≤ i ∨ L = 0 ∨ L = 9) := by omega
          have HNN := hide (hN.out.symm.trans (show neeL k L m i = _ by unfold neeL; rw [if_neg hnn]))
          obtain ⟨L0, L9⟩ := hL
          have i0 : 0 ≤ i := by omega
          clear hnn h0 h9 hN
          by_cases k3 : k = 3
          · subst k3
            have HN := hide (HNN.out.trans (show _ = L by simp))
            go_wp2_with fail
            all_goals go_ret
            all_goals exact ⟨by rw [HN.out]; first | done | rfl, HB.out⟩
          · by_cases k4 : k = 4
            · subst k4
              by_cases hL4 : L = 4
              · subst hL4
                have HN := hide (HNN.out.trans (show _ = (5 : Int) by simp))
                clear HNN
                go_wp2_with fail
                all_goals go_ret
                all_goals exact ⟨by rw [HN.out]; first | done | rfl, HB.out⟩
              · have gL4 := beq_no hL4
                by_cases hi0 : i = 0
                · subst hi0
                  have HN := hide (HNN.out.trans (show _ = L by simp [hL4]))
                  clear HNN hL4
                  go_wp2_with fail
                  all_goals go_ret
                  all_goals exact ⟨by rw [HN.out]; simp, HB.out⟩
                · have HN := hide (HNN.out.trans (show _ = L + 1 by simp [hL4, hi0]))
                  have gi : min i 1 = 1 := by omega
                  have gi1 : 1 ≤ i := by omega
                  clear HNN hL4 hi0 i0
                  go_wp2_with fail
                  all_goals go_ret
                  all_goals exact ⟨by rw [HN.out]; simp <;> (try intros) <;> omega, HB.out⟩
            · by_cases k7 : k = 7
              · subst k7
                by_cases hi0 : 0 < i
                · have HN := hide (HNN.out.trans (show _ = (1 : Int) by simp [hi0]))
                  clear HNN
                  go_wp2_with fail
                  all_goals go_ret
                  all_goals exact ⟨by rw [HN.out]; first | done | rfl, HB.out⟩
                · have HN := hide (HNN.out.trans (show _ = (5 : Int) by simp [hi0]))
                  clear HNN
                  go_wp2_with fail
                  all_goals go_ret
                  all_goals exact ⟨by rw [HN.out]; first | done | rfl, HB.out⟩
              · have HN := hide (HNN.out.trans (show _ = (5 : Int) by simp [k3, k4, k7]))
                have g3 := beq_no k3
                have g4 := beq_no k4
                have g7 := beq_no k7
                clear HNN k3 k4 k7
                go_wp2_with fail
                all_goals go_ret
                all_goals exact ⟨by rw [HN.out]; first | done | rfl, HB.out⟩
end Go.Proofs.Ytfpoakdmclekoaa
