/-
  DrawNeedsGap: two tokens drawn.
-/
import Derived.Test.YtfnjcgakcpadiaaGreatDoorDrTok
namespace Go.Proofs.YtfnjcgakcpadiaaGreatDoor
open Go.RowKit

theorem below_set3 {B g : Nat} {w a : World} (h : Below B w a) (hg : B ≤ g) (x y z : Value) : Below B w (((a.setCell ⟨g, 0, none⟩ x).setCell ⟨g, 1, none⟩ y).setCell ⟨g, 2, none⟩ z) :=
  ((h.setCell hg _).setCell hg _).setCell hg _

set_option maxRecDepth 100000 in
set_option maxHeartbeats 1600000 in
theorem dDrawNeedsGapC {B : Nat} {w : World} {a : Option Addr} {n : Nat} {z : Nat → Int} (c : Nat) (h : Code B w a n z) (hB : B ≤ w.heap.size) :
    Calls Tryz.prog 8 #[.slice a n c] w fun e w' => ∃ (ka : Int) (sa : ByteArray) (ta kb : Int) (sb : ByteArray) (tb : Int), e = .returned (.tuple #[.agg #[.int .i64 ka, .string sa, .int .i64 ta], .agg #[.int .i64 kb, .string sb, .int .i64 tb]]) ∧ sa.size ≤ 41 ∧ sb.size ≤ 41 ∧ Below w.heap.size w w' := by
  obtain ⟨ra, hra⟩ : ∃ ra, Hid (ra = w.heap.size) := ⟨_, rfl⟩
  obtain ⟨rb, hrb⟩ : ∃ rb, Hid (rb = w.heap.size + 1) := ⟨_, rfl⟩
  have h0 := (C3.made w (.int .i64 0) (.string ⟨#[]⟩) (.int .i64 0) 25).alloc (.cells #[.int .i64 0, .string ⟨#[]⟩, .int .i64 0] 25)
  have h1 := C3.made (w.alloc (.cells #[.int .i64 0, .string ⟨#[]⟩, .int .i64 0] 25)) (.int .i64 0) (.string ⟨#[]⟩) (.int .i64 0) 25
  rw [show (w.alloc (.cells #[.int .i64 0, .string ⟨#[]⟩, .int .i64 0] 25)).heap.size = w.heap.size + 1 by simp, ← hrb.out] at h1
  rw [← hra.out] at h0
  have hb0 := ((Below.refl w.heap.size w).alloc (Nat.le_refl _) (.cells #[.int .i64 0, .string ⟨#[]⟩, .int .i64 0] 25)).alloc (by simp) (.cells #[.int .i64 0, .string ⟨#[]⟩, .int .i64 0] 25)
  have H0 := hide (And.intro h0 (And.intro h1 hb0))
  have HC := hide (And.intro h hB)
  clear h h0 h1 hb0 hB
  go_enter Tryz.func8, Tryz.ntmps8
  go_wp2_with fail
  (try rw [← hrb.out, ← hra.out])
  refine (l1NewC (B := w.heap.size + 2) c ((HC.out.1.mono HC.out.2).below H0.out.2.2 |>.mono (by omega)) (by simp)).mono ?_
  rintro e w1 ⟨p, rfl, hc1, hb1⟩
  have hlow := hc1.low
  have n1 : ra ≠ p := by have := hra.out; omega
  have n2 : rb ≠ p := by have := hrb.out; omega
  have N := hide (And.intro n1 n2)
  have GA := hide (show w.heap.size ≤ ra ∧ w.heap.size ≤ rb by have := hra.out; have := hrb.out; omega)
  have HL := hide hlow
  have HB1 := hide (below_via H0.out.2.2 hb1)
  have H1 := hide (And.intro hc1 (And.intro (H0.out.1.below hb1) (H0.out.2.1.below hb1)))
  clear hc1 hb1 hlow n1 n2
  go_wp2_with fail
  refine (l1OnceC H1.out.1 _).mono ?_
  rintro e w2 ⟨b, rfl, hc2, hg2⟩
  have H2 := hide (And.intro ((Dr.refl H1.out.1).step hc2 hg2) (And.intro (H1.out.2.1.grown hg2 N.out.1) (H1.out.2.2.grown hg2 N.out.2)))
  clear hc2 hg2
  have hfin : ∀ wz : World, Dr (w.heap.size + 2) p w1 wz → Below w.heap.size w wz := fun wz hd => hd.toBelow HB1.out (by omega) (by have := HL.out; omega)
  have HF := hide hfin
  clear hfin
  cases b
  · go_wp2_with fail
    refine (l3BentC H2.out.1.cur).mono ?_
    rintro e w3 ⟨ka, sa, ta, rfl, hsa, hd3⟩
    have H3 := hide (And.intro (H2.out.1.trans hd3) (And.intro (H2.out.2.1.grown hd3.grown N.out.1) (H2.out.2.2.grown hd3.grown N.out.2)))
    clear hd3
    go_wp2_with fail
    refine (l3BentC H3.out.1.cur).mono ?_
    rintro e w4 ⟨kb, sb, tb, rfl, hsb, hd4⟩
    have H4 := hide (And.intro (H3.out.1.trans hd4) (And.intro (H3.out.2.1.grown hd4.grown N.out.1) (H3.out.2.2.grown hd4.grown N.out.2)))
    clear hd4
    obtain ⟨xs, ⟨x0, x1, x2⟩, ⟨xf0, xf1, xf2⟩⟩ := H4.out.2.1
    obtain ⟨ys, ⟨y0, y1, y2⟩, ⟨yf0, yf1, yf2⟩⟩ := H4.out.2.2
    have hab : ¬ ra = rb := by have := hra.out; have := hrb.out; omega
    have hba : ¬ rb = ra := fun e => hab e.symm
    go_wp2_with fail
    ((try simp only [Exit.inBlock, Exit.then]); refine bodyPost_ret (by simp [results, Tryz.results8, go_sem]; go_simp; rfl) rfl ?_)
    exact ⟨_, _, _, _, _, _, rfl, hsa, hsb, below_set3 (below_set3 (HF.out _ H4.out.1) GA.out.1 _ _ _) GA.out.2 _ _ _⟩
  · go_wp2_with fail
    refine (l3SignC H2.out.1.cur).mono ?_
    rintro e w3 ⟨sa, rfl, hsa, hd3⟩
    have H3 := hide (And.intro (H2.out.1.trans hd3) (And.intro (H2.out.2.1.grown hd3.grown N.out.1) (H2.out.2.2.grown hd3.grown N.out.2)))
    clear hd3
    go_wp2_with fail
    refine (l3SignC H3.out.1.cur).mono ?_
    rintro e w4 ⟨sb, rfl, hsb, hd4⟩
    have H4 := hide (And.intro (H3.out.1.trans hd4) (And.intro (H3.out.2.1.grown hd4.grown N.out.1) (H3.out.2.2.grown hd4.grown N.out.2)))
    clear hd4
    obtain ⟨xs, ⟨x0, x1, x2⟩, ⟨xf0, xf1, xf2⟩⟩ := H4.out.2.1
    obtain ⟨ys, ⟨y0, y1, y2⟩, ⟨yf0, yf1, yf2⟩⟩ := H4.out.2.2
    have hab : ¬ ra = rb := by have := hra.out; have := hrb.out; omega
    have hba : ¬ rb = ra := fun e => hab e.symm
    go_wp2_with fail
    ((try simp only [Exit.inBlock, Exit.then]); refine bodyPost_ret (by simp [results, Tryz.results8, go_sem]; go_simp; rfl) rfl ?_)
    exact ⟨_, _, _, _, _, _, rfl, by omega, by omega, below_set3 (below_set3 (HF.out _ H4.out.1) GA.out.1 _ _ _) GA.out.2 _ _ _⟩
end Go.Proofs.YtfnjcgakcpadiaaGreatDoor
