/-
  l1New, l1Whole.
-/
import Derived.Test.YtfpoakdmclekoaaCurB
namespace Go.Proofs.Ytfpoakdmclekoaa
open Go.RowKit Go.Lib

/-- The bytes of a draw, that came in below B. -/
structure Code (B : Nat) (w : World) (a : Option Addr) (n : Nat) (z : Nat → Int) : Prop where
  n1 : n ≤ 1048576
  ex : n ≠ 0 → ∃ b off, a = some ⟨b, off, none⟩ ∧ b < B ∧ ∀ j, j < n → w.cell? ⟨b, off + j, none⟩ = some (.int .u8 (z j)) ∧ 0 ≤ z j ∧ z j < 256

theorem Code.below {B : Nat} {w w' : World} {a : Option Addr} {n : Nat} {z : Nat → Int} (h : Code B w a n z) (hb : Below B w w') : Code B w' a n z := by
  refine ⟨h.n1, fun hn => ?_⟩
  obtain ⟨b, off, rfl, hbB, hcell⟩ := h.ex hn
  exact ⟨b, off, rfl, hbB, fun j hj => ⟨(hb.cell (p := ⟨b, off + j, none⟩) hbB).trans (hcell j hj).1, (hcell j hj).2⟩⟩

theorem Cur.made {B : Nat} {w : World} {a : Option Addr} {n c : Nat} {h : Int} {z : Nat → Int} (t : TypeId) (hc : Code B w a n z) (hB : B ≤ w.heap.size) : Cur B (w.alloc (.cells #[.slice a n c, .int .i64 0, .int .i64 h] t)) w.heap.size := by
  refine ⟨hB, by simp, a, n, c, 0, h, z, by simp [go_sem], by simp [go_sem], by simp [go_sem], by simp [go_sem], by simp [go_sem], by omega, by omega, hc.n1, fun hn => ?_⟩
  obtain ⟨b, off, rfl, hbB, hcell⟩ := hc.ex hn
  have hlt : b < w.heap.size := by omega
  refine ⟨b, off, rfl, hbB, fun j hj => ⟨?_, (hcell j hj).2⟩⟩
  have e := (hcell j hj).1
  go_simp

set_option maxRecDepth 100000 in
set_option maxHeartbeats 800000 in
theorem l1NewC {B : Nat} {w : World} {a : Option Addr} {n : Nat} {z : Nat → Int} (c : Nat) (h : Code B w a n z) (hB : B ≤ w.heap.size) :
    Calls Try.prog 83 #[.slice a n c] w fun e w' => ∃ p, e = .returned (.pointer (some ⟨p, 0, none⟩)) ∧ Cur B w' p ∧ Below w.heap.size w w' := by
  have hn1 := h.n1
  have HH := hide h
  clear h
  go_enter Try.func83, Try.ntmps83
  go_wp2_with fail
  go_loopw [3, 4] (fun x y wr => ∃ (hv : Int) (j : Nat), x = .int .i64 hv ∧ y = .int .i64 j ∧ j ≤ n ∧ Below w.heap.size w wr) (fun _ y _ => n - (intOf y).toNat)
  case atStart => exact ⟨_, 0, rfl, rfl, by omega, by go_grown⟩
  case round =>
    obtain ⟨hv, j, rfl, rfl, hj, hb⟩ := hrel
    have HB := hide hb
    have hw := hb.size
    clear hb
    by_cases hlt : j < n
    · by_cases h4 : j < 4000
      · obtain ⟨b, off, rfl, hbB, hcell⟩ := HH.out.ex (by omega)
        obtain ⟨e1, z0, z1⟩ := hcell j hlt
        rw [← HB.out.cell (p := ⟨b, off + j, none⟩) (by show b < _; omega)] at e1
        clear hcell
        go_wp2_with fail
        go_roundw
        case rel => exact ⟨_, j + 1, rfl, by go_num, by omega, HB.out⟩
        case measure => simp [intOf]; omega
      · go_wp2_with fail
        go_ret
        exact ⟨wr.heap.size, rfl, Cur.made _ (HH.out.below (HB.out.mono hB)) (by omega), by have := HB.out; go_grown⟩
    · go_wp2_with fail
      go_ret
      exact ⟨wr.heap.size, rfl, Cur.made _ (HH.out.below (HB.out.mono hB)) (by omega), by have := HB.out; go_grown⟩
def wholeL : List Int := [0, 1, -1, 63, 64, -64, -65, 127, 128, 16383, 16384, 9223372036854775807, -9223372036854775808, 4611686018427387904]
theorem wholeL_in : ∀ j, j < 14 → -9223372036854775808 ≤ wholeL.getD j 0 ∧ wholeL.getD j 0 ≤ 9223372036854775807 := by decide

set_option maxRecDepth 100000 in
set_option maxHeartbeats 800000 in
theorem l1WholeC {B p : Nat} {w : World} (h : Cur B w p) : Calls Try.prog 101 #[.pointer (some ⟨p, 0, none⟩)] w fun e w' => ∃ x : Int, e = .returned (.int .i64 x) ∧ -9223372036854775808 ≤ x ∧ x ≤ 9223372036854775807 ∧ Cur B w' p ∧ w.grownBy w' (some p) := by
  go_enter Try.func101, Try.ntmps101
  go_wp2_with fail
  refine (l1BelowC h 3).mono ?_
  rintro e w1 ⟨x, rfl, x0, x1, hc1, hg1⟩
  have x2 := x1 (by omega)
  clear x1
  have h3 : x = 0 ∨ x = 1 ∨ x = 2 := by omega
  have H1 := hide (And.intro hc1 hg1)
  clear hc1 hg1 x0 x2
  rcases h3 with rfl | rfl | rfl
  · go_wp2_with fail
    have hlt := H1.out.1.lt
    refine (l1PickIntC (n := 14) (f := fun j => wholeL.getD j 0) (b := w1.heap.size) (H1.out.1.below (by go_grown)) (by omega) (by omega) (by omega) (fun j hj => ?_)).mono ?_
    · have : j = 0 ∨ j = 1 ∨ j = 2 ∨ j = 3 ∨ j = 4 ∨ j = 5 ∨ j = 6 ∨ j = 7 ∨ j = 8 ∨ j = 9 ∨ j = 10 ∨ j = 11 ∨ j = 12 ∨ j = 13 := by omega
      rcases this with rfl | rfl | rfl | rfl | rfl | rfl | rfl | rfl | rfl | rfl | rfl | rfl | rfl | rfl
      all_goals simp [go_sem, wholeL]
    · rintro e w2 ⟨j, hj, rfl, hc2, hg2⟩
      have H2 := hide (And.intro hc2 (grownBy_trans (grownBy_allocR H1.out.2 _) hg2))
      clear hc2 hg2
      go_wp2_with fail
      go_ret
      exact ⟨_, rfl, (wholeL_in j hj).1, (wholeL_in j hj).2, H2.out.1, H2.out.2⟩
  · go_wp2_with fail
    refine (l1BelowC H1.out.1 1000000).mono ?_
    rintro e w2 ⟨y, rfl, y0, y1, hc2, hg2⟩
    have y2 := y1 (by omega)
    have H2 := hide (And.intro hc2 (grownBy_trans H1.out.2 hg2))
    clear y1 hc2 hg2
    go_wp2_with fail
    go_ret
    exact ⟨y - 500000, rfl, by omega, by omega, H2.out.1, H2.out.2⟩
  · go_wp2_with fail
    refine (l1BelowC H1.out.1 20).mono ?_
    rintro e w2 ⟨y, rfl, y0, y1, hc2, hg2⟩
    have y2 := y1 (by omega)
    have H2 := hide (And.intro hc2 (grownBy_trans H1.out.2 hg2))
    clear y1 hc2 hg2
    go_wp2_with fail
    go_ret
    exact ⟨y, rfl, by omega, by omega, H2.out.1, H2.out.2⟩
end Go.Proofs.Ytfpoakdmclekoaa
