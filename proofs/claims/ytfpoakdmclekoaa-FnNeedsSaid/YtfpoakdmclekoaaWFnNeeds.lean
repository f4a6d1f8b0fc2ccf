/-
  The walk of FnNeeds.
-/
import Derived.Test.YtfpoakdmclekoaaWraL
import Derived.Test.YtfpoakdmclekoaaCarry
namespace Go.Proofs.Ytfpoakdmclekoaa
open Go Go.RowKit Go.Lib

theorem neeL_le (k op : Int) (m : Nat) (i : Int) : 0 ≤ neeL k (levL k op) m i ∧ neeL k (levL k op) m i ≤ 8 := by
  have h1 := levL_le k op
  have h2 := binL_le op
  have h3 : k = 4 → levL k op ≤ 7 := fun e => by subst e; show levL 4 op ≤ 7; unfold levL; rw [if_pos rfl]; omega
  unfold neeL
  repeat' split
  all_goals omega
theorem neeL_out {k L : Int} {m : Nat} {i : Int} (h : i < 0 ∨ (m : Int) ≤ i) : neeL k L m i = 0 := by unfold neeL; rw [if_pos (by omega)]

set_option maxRecDepth 100000 in
set_option maxHeartbeats 8000000 in
theorem fnNeeds.walk (a : Option Addr) (n c : Nat) (zs : List Int) (w : World) (w0 : IsRow .u8 w a n c zs) :
    Calls Try.prog 9 #[.slice a n c] w fun e w' => e = .returned (.bool true) ∧ Below w.heap.size w w' := by
  have hlen := w0.len_le
  by_cases hbig : 1048576 < n
  · go_enter Try.func9, Try.ntmps9
    go_wp2_with (go_at_call 31; refine (bigC _ _ _ hlen).mono ?_; rintro e w1 ⟨rfl, rfl⟩)
    all_goals go_ret
    all_goals exact ⟨rfl, by go_grown⟩
  · have HC := hide (Code.of_row w0 (by omega))
    go_enter Try.func9, Try.ntmps9
    go_wp2_with (go_at_call 31; refine (bigC _ _ _ hlen).mono ?_; rintro e w1 ⟨rfl, rfl⟩)
    refine (drawNeedsC c HC.out (Nat.le_refl _)).mono ?_
    rintro e w1 ⟨x, y, rfl, hy, hx, hb1⟩
    obtain ⟨eb, heb⟩ : ∃ v, Hid (v = w1.heap.size) := ⟨_, hide rfl⟩
    have hm := Blk.made w1 x.L 34
    rw [← heb.out] at hm
    have hmx := hx.few
    have H1 := hide (And.intro (hx.below ((Below.refl _ _).alloc (Nat.le_refl _) (.cells x.L.toArray 34))) (And.intro hm (hb1.alloc hb1.size (.cells x.L.toArray 34))))
    have HY := hide hy
    clear hb1 hbig HC hlen w0 hx hm hy
    have hI := fun W => implNeeds x.k x.op (.bool x.ng) (.int .i64 x.vk) (.int .i64 x.vn) (.string x.vt) (.string x.qu) (.string x.nm) x.ka x.sa x.m x.kc x.ms x.sc y hmx W
    have hS := fun W => specNeeds x.k x.op (.bool x.ng) (.int .i64 x.vk) (.int .i64 x.vn) (.string x.vt) (.string x.qu) (.string x.nm) x.ka x.sa x.m x.kc x.ms x.sc y hmx W
    have hle := neeL_le x.k x.op x.m y
    obtain ⟨N, hN⟩ : ∃ v, Hid (neeL x.k (levL x.k x.op) x.m y = v) := ⟨_, hide rfl⟩
    rw [hN.out] at hI hS hle
    have hN0 : ¬ N < 0 := by omega
    have hN8 : ¬ 8 < N := by omega
    go_wp2_with fail
    refine (hI _).mono ?_
    rintro e w2 ⟨rfl, hb⟩
    (try rw [← heb.out])
    have H2 := hide (And.intro (H1.out.1.below hb) (And.intro (H1.out.2.1.below hb) (below_via H1.out.2.2 hb)))
    clear hb H1
    have oc := H2.out.2.1.cells
    have o0 := oc 0 (by simp [EK.L])
    have o1 := oc 1 (by simp [EK.L])
    have o2 := oc 2 (by simp [EK.L])
    have o3 := oc 3 (by simp [EK.L])
    have o4 := oc 4 (by simp [EK.L])
    have o5 := oc 5 (by simp [EK.L])
    have o6 := oc 6 (by simp [EK.L])
    have o7 := oc 7 (by simp [EK.L])
    have o8 := oc 8 (by simp [EK.L])
    have o9 := oc 9 (by simp [EK.L])
    simp only [EK.L, Nat.zero_add, List.getElem_cons_zero, List.getElem_cons_succ] at o0 o1 o2 o3 o4 o5 o6 o7 o8 o9
    clear oc
    have fo := H2.out.2.1.free
    go_wp2_with fail
    refine (hS _).mono ?_
    rintro e w3 ⟨rfl, hb⟩
    have H3 := hide (And.intro (H2.out.1.below hb) (And.intro (H2.out.2.1.below hb) (below_via H2.out.2.2 hb)))
    clear hb H2 o0 o1 o2 o3 o4 o5 o6 o7 o8 o9 fo hI hS
    have oc := H3.out.2.1.cells
    have o0 := oc 0 (by simp [EK.L])
    have o1 := oc 1 (by simp [EK.L])
    have o2 := oc 2 (by simp [EK.L])
    have o3 := oc 3 (by simp [EK.L])
    have o4 := oc 4 (by simp [EK.L])
    have o5 := oc 5 (by simp [EK.L])
    have o6 := oc 6 (by simp [EK.L])
    have o7 := oc 7 (by simp [EK.L])
    have o8 := oc 8 (by simp [EK.L])
    have o9 := oc 9 (by simp [EK.L])
    simp only [EK.L, Nat.zero_add, List.getElem_cons_zero, List.getElem_cons_succ] at o0 o1 o2 o3 o4 o5 o6 o7 o8 o9
    clear oc
    have fo := H3.out.2.1.free
    by_cases hy0 : y < 0
    · have HW := hide (fun W => wrapNeg (w := W) x y hy0)
      have hz : N = 0 := hN.out.symm.trans (neeL_out (.inl hy0))
      subst hz
      go_wp2_with fail
      refine (HW.out _).mono ?_
      rintro e w4 ⟨rfl, hb⟩
      have H4 := hide (below_via H3.out.2.2 hb)
      clear hb
      go_wp2_with fail
      all_goals go_ret
      all_goals exact ⟨rfl, H4.out⟩
    · by_cases hym : (x.m : Int) ≤ y
      · have HW := hide (fun W => wrapBig (w := W) x y hmx hym)
        have hz : N = 0 := hN.out.symm.trans (neeL_out (.inr hym))
        subst hz
        go_wp2_with fail
        refine (HW.out _).mono ?_
        rintro e w4 ⟨rfl, hb⟩
        have H4 := hide (below_via H3.out.2.2 hb)
        clear hb
        go_wp2_with fail
        all_goals go_ret
        all_goals exact ⟨rfl, H4.out⟩
      · obtain ⟨j, rfl⟩ : ∃ j : Nat, y = (j : Int) := ⟨y.toNat, by omega⟩
        have hj : j < x.m := by omega
        obtain ⟨g, hka, ⟨_, hg⟩, hel⟩ := H3.out.1.kids (by omega)
        obtain ⟨z, hzm, hz⟩ := hel j hj
        have hW := fun p : BelowOf w3 => Calls.below_of (p := p) (wrapAt (w := p.world) x z j g hmx hj hka (hz.same (p.h.block g hg)) (Nat.lt_of_lt_of_le hg p.h.size))
        have hL := fun W => implLevel z.k z.op (.bool z.ng) (.int .i64 z.vk) (.int .i64 z.vn) (.string z.vt) (.string z.qu) (.string z.nm) (.slice z.ka z.m z.kc) (.slice z.sa z.ms z.sc) W
        rw [hka] at hW o8
        rw [hN.out] at hW
        generalize levL z.k z.op = p at hW hL
        have hj2 : (j : Int) < (x.m : Int) := by omega
        obtain ⟨q, hq⟩ : ∃ q, decide (p < N) = q := ⟨_, rfl⟩
        rw [hq] at hW
        have hlb := H3.out.2.1.lt
        have e0 := BelowOf.cell o0 hlb
        have e1 := BelowOf.cell o1 hlb
        have e2 := BelowOf.cell o2 hlb
        have e3 := BelowOf.cell o3 hlb
        have e4 := BelowOf.cell o4 hlb
        have e5 := BelowOf.cell o5 hlb
        have e6 := BelowOf.cell o6 hlb
        have e7 := BelowOf.cell o7 hlb
        have e8 := BelowOf.cell o8 hlb
        have e9 := BelowOf.cell o9 hlb
        have s0 := BelowOf.cell (hz 0 (by simp [EK.L])) hg
        have s1 := BelowOf.cell (hz 1 (by simp [EK.L])) hg
        have s2 := BelowOf.cell (hz 2 (by simp [EK.L])) hg
        have s3 := BelowOf.cell (hz 3 (by simp [EK.L])) hg
        have s4 := BelowOf.cell (hz 4 (by simp [EK.L])) hg
        have s5 := BelowOf.cell (hz 5 (by simp [EK.L])) hg
        have s6 := BelowOf.cell (hz 6 (by simp [EK.L])) hg
        have s7 := BelowOf.cell (hz 7 (by simp [EK.L])) hg
        have s8 := BelowOf.cell (hz 8 (by simp [EK.L])) hg
        have s9 := BelowOf.cell (hz 9 (by simp [EK.L])) hg
        simp only [EK.L, Nat.add_zero, List.getElem_cons_zero, List.getElem_cons_succ] at s0 s1 s2 s3 s4 s5 s6 s7 s8 s9
        have HWW := hide hW
        clear hel hz hW
        by_cases h9 : p = 9
        · have hq2 : q = false := by rw [← hq]; exact decide_eq_false (by omega)
          subst hq2
          subst h9
          have hq3 : ¬ (9 : Int) < N := by omega
          go_wp2_with fail
          clear o0 o1 o2 o3 o4 o5 o6 o7 o8 o9 fo
          refine wp_region_wq (by kernel_rfl) (by kernel_rfl) ?_
          repeat (refine WQ.step (fun K hK => ?_); go_simp; first | (refine hK _ ?_; clear hK K) | (apply Exists.intro; refine ⟨fun _ => ?_, hK _ ?_⟩; (first | exact HWW.out _ | exact Calls.below_of (hL _)); clear hK K))
          refine WQ.nil ?_
          intro W2 hq2
          have HB2 := hide (below_via H3.out.2.2 (BelowOf.of hq2))
          clear hq2 e0 s0 e1 s1 e2 s2 e3 s3 e4 s4 e5 s5 e6 s6 e7 s7 e8 s8 e9 s9
          go_wp2_with fail
          all_goals go_ret
          all_goals exact ⟨by first | rfl | simp, HB2.out⟩
        · have h9b : (p == 9) = false := by simpa using h9
          go_wp2_with fail
          clear o0 o1 o2 o3 o4 o5 o6 o7 o8 o9 fo
          refine wp_region_wq (by kernel_rfl) (by kernel_rfl) ?_
          repeat (refine WQ.step (fun K hK => ?_); go_simp; first | (refine hK _ ?_; clear hK K) | (apply Exists.intro; refine ⟨fun _ => ?_, hK _ ?_⟩; (first | exact HWW.out _ | exact Calls.below_of (hL _)); clear hK K))
          refine WQ.nil ?_
          intro W2 hq2
          have HB2 := hide (below_via H3.out.2.2 (BelowOf.of hq2))
          clear hq2 e0 s0 e1 s1 e2 s2 e3 s3 e4 s4 e5 s5 e6 s6 e7 s7 e8 s8 e9 s9
          go_wp2_with fail
          all_goals go_ret
          all_goals exact ⟨by first | rfl | simp, HB2.out⟩
end Go.Proofs.Ytfpoakdmclekoaa
