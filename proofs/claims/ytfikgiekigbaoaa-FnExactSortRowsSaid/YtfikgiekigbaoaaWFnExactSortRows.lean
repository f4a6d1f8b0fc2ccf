/-
  The walk of FnExactSortRows.
-/
import Derived.Test.YtfikgiekigbaoaaSrtX
namespace Go.Proofs.Ytfikgiekigbaoaa
open Go Go.RowKit

set_option maxRecDepth 100000 in
set_option maxHeartbeats 6400000 in
theorem fnExactSortRows.walk (xss : List (List ValF)) (a : Option Addr) (c : Nat) (w : World) (h : RowP w 0 maxLen 1 (rvC w maxLen) xss a) :
    Calls Try.prog 5 #[.slice a xss.length c] w fun e w' => e = .returned (.bool true) ∧ Below w.heap.size w w' := by
  have hSZ := hide (szValueSSC (Below.refl _ _) c 1048576 h (by omega) (by omega))
  clear h
  obtain ⟨m, hm⟩ : ∃ m, Hid (xss.length = m) := ⟨_, hide rfl⟩
  rw [hm.out] at hSZ ⊢
  go_enter Try.func5, Try.ntmps5
  go_wp2_with fail
  refine hSZ.out.mono ?_
  rintro e w1 ⟨⟨r, rfl, hr⟩, hb1⟩
  have HB1 := hide hb1
  clear hb1 hSZ
  rcases hr with hr | ⟨hr0, hr1, hx⟩
  · go_wp2_with fail
    all_goals go_ret
    all_goals exact ⟨rfl, HB1.out⟩
  have hml : m ≤ 1048576 := by have := hx.1; have := hm.out; omega
  have HT := hide fun (W : World) (hB : Below w.heap.size w W) => toSS hB hm.out c hx
  clear hx
  have hr2 : ¬ r < 0 := by omega
  -- the reference model's answer
  go_wp2_with fail
  refine (HT.out _ HB1.out).mono ?_
  rintro e w2 ⟨gx, cx, px, rfl, hx1, hx2, hx3, hx4⟩
  have hS := hide (specSS hx1 hx2 cx hx3)
  have HB2 := hide (below_via HB1.out hx4)
  clear hx1 hx2 hx3 hx4 HB1
  go_wp2_with fail
  refine hS.out.mono ?_
  rintro e w3 ⟨gw, cw, wss, rfl, hw1, hw2, hw3, hw4, hw5⟩
  have HB3 := hide (below_via HB2.out hw5)
  have HW := hide (And.intro hw1 (And.intro hw2 (And.intro hw3 hw4)))
  clear hw1 hw2 hw3 hw4 hw5 HB2 hS
  -- the first answer
  go_wp2_with fail
  refine (HT.out _ HB3.out).mono ?_
  rintro e w4 ⟨g0, c0, p0, rfl, hx1, hx2, hx3, hx4⟩
  have hS := hide (implSS hx1 hx2 HW.out.2.1 HW.out.2.2.1 c0 hx3)
  have H4 := hide (And.intro hx1 (And.intro hx2 (And.intro hx3 hx4)))
  clear hx1 hx2 hx3 hx4
  go_wp2_with fail
  refine hS.out.mono ?_
  rintro e w5 ⟨g1, c1, p1, rfl, hy1, hy2, hy3, hy4⟩
  have H5 := hide (And.intro hy1 (And.intro hy2 (And.intro hy3 (And.intro hy4 (below_via H4.out.2.2.2 hy4)))))
  have hE := hide (eqSS HW.out.1 c1 cw (by have := hy3.rr; rw [hy2] at this; exact this) (HW.out.2.2.2.stays (below_via H4.out.2.2.2 hy4)))
  clear hy1 hy2 hy3 hy4 hS
  go_wp2_with fail
  refine hE.out.mono ?_
  rintro e w6 ⟨rfl, hb6⟩
  have H6 := hide (And.intro (H5.out.2.2.1.stays hb6) (And.intro (below_via H5.out.2.2.2.1 hb6) (below_via H5.out.2.2.2.2 hb6)))
  clear hb6 hE
  -- the argument is as it was
  go_wp2_with fail
  refine (HT.out _ (below_via HB3.out H6.out.2.2)).mono ?_
  rintro e w7 ⟨g7, c7, p7, rfl, hz1, hz2, hz3, hz4⟩
  have H7 := hide (And.intro (H6.out.1.stays hz4) (And.intro (below_via H6.out.2.1 hz4) (below_via H6.out.2.2 hz4)))
  have hE := hide (eqSS (m := m) hm.out c0 c7 (by have := (H4.out.2.2.1.stays H7.out.2.1).rr; rw [H4.out.2.1] at this; exact this) (by have := hz3.rr; rw [hz2] at this; exact this))
  clear hz1 hz2 hz3 hz4 H6
  go_wp2_with fail
  refine hE.out.mono ?_
  rintro e w8 ⟨rfl, hb8⟩
  have H8 := hide (And.intro (H7.out.1.stays hb8) (And.intro (below_via H7.out.2.1 hb8) (below_via H7.out.2.2 hb8)))
  clear hb8 hE H7
  -- the argument marked
  have hM := hide (markSS H4.out.1 c0 (H4.out.2.2.1.stays H8.out.2.1) H8.out.2.2.size)
  obtain ⟨k, hk⟩ : ∃ k : Int, Hid (1 + ((KK p0 m : Nat) : Int) = k) := ⟨_, hide rfl⟩
  have hk0 : ¬ k < 0 := by have := hk.out; omega
  rw [hk.out] at hM
  go_wp2_with fail
  refine hM.out.mono ?_
  rintro e w9 ⟨rfl, _, hf⟩
  have H9 := hide (show Own w9 w4.heap.size g1 p1 ∧ Below w3.heap.size w3 w9 ∧ w4.heap.size ≤ w9.heap.size from
    ⟨H8.out.1.keeps hf.below.size fun b hl hlt => hf.block b hlt fun i hi => H4.out.2.2.1.older (by rw [H4.out.1]; exact hi) hl, H8.out.2.2.trans hf.below, Nat.le_trans H8.out.2.1.size hf.below.size⟩)
  clear hf hM H8
  have hE := hide (eqSS HW.out.1 c1 cw (by have := H9.out.1.rr; rw [H5.out.2.1] at this; exact this) (HW.out.2.2.2.stays H9.out.2.1))
  go_wp2_with fail
  refine hE.out.mono ?_
  rintro e w10 ⟨rfl, hb10⟩
  have H10 := hide (And.intro (H9.out.1.stays hb10) (And.intro (below_via H9.out.2.1 hb10) (Nat.le_trans H9.out.2.2 hb10.size)))
  clear hb10 hE H9
  -- the first answer marked
  have hM := hide (markSS H5.out.1 c1 H10.out.1 H10.out.2.2)
  obtain ⟨n, hn⟩ : ∃ n : Int, Hid (1 + ((KK p1 m : Nat) : Int) = n) := ⟨_, hide rfl⟩
  have hn0 : ¬ n < 0 := by have := hn.out; omega
  rw [hn.out] at hM
  go_wp2_with fail
  refine hM.out.mono ?_
  rintro e w11 ⟨rfl, hmk, hf⟩
  have H11 := hide (And.intro hmk (H10.out.2.1.trans (hf.below.mono H4.out.2.2.2.size)))
  clear hmk hf hM H10
  have hH := hide (heldSS H5.out.1 hml c1 H11.out.1)
  rw [hn.out] at hH
  go_wp2_with fail
  refine hH.out.mono ?_
  rintro e w12 ⟨rfl, hb12⟩
  have H12 := hide (And.intro (H11.out.1.below hb12) (below_via H11.out.2 hb12))
  clear hb12 hH H11
  -- a second answer
  go_wp2_with fail
  refine (HT.out _ (below_via HB3.out H12.out.2)).mono ?_
  rintro e w13 ⟨g13, c13, p13, rfl, hx1, hx2, hx3, hx4⟩
  have hS := hide (implSS hx1 hx2 HW.out.2.1 HW.out.2.2.1 c13 hx3)
  have H13 := hide (And.intro (H12.out.1.below hx4) (below_via H12.out.2 hx4))
  clear hx1 hx2 hx3 hx4 H12
  go_wp2_with fail
  refine hS.out.mono ?_
  rintro e w14 ⟨g14, c14, p14, rfl, hy1, hy2, hy3, hy4⟩
  have H14 := hide (And.intro (H13.out.1.below hy4) (below_via H13.out.2 hy4))
  have hE := hide (eqSS HW.out.1 c14 cw (by have := hy3.rr; rw [hy2] at this; exact this) (HW.out.2.2.2.stays H14.out.2))
  clear hy1 hy2 hy3 hy4 hS H13
  go_wp2_with fail
  refine hE.out.mono ?_
  rintro e w15 ⟨rfl, hb15⟩
  have H15 := hide (And.intro (H14.out.1.below hb15) (below_via H14.out.2 hb15))
  clear hb15 hE H14
  have hH := hide (heldSS H5.out.1 hml c1 H15.out.1)
  rw [hn.out] at hH
  go_wp2_with fail
  refine hH.out.mono ?_
  rintro e w16 ⟨rfl, hb16⟩
  have H16 := hide (below_via HB3.out (below_via H15.out.2 hb16))
  clear hb16 hH H15
  go_wp2_with fail
  all_goals go_ret
  all_goals exact ⟨rfl, H16.out⟩
end Go.Proofs.Ytfikgiekigbaoaa
