/-
  l5Right, l5Bent: values drawn.
-/
import Derived.Test.YtfpoakdmclekoaaDrB
import Derived.Test.YtfpoakdmclekoaaDrawP
import Derived.Test.YtfpoakdmclekoaaWValOk
namespace Go.Proofs.Ytfpoakdmclekoaa
open Go.RowKit Go.Lib

theorem specText (s : ByteArray) (w : World) : Calls Try.prog 104 #[.string s] w fun e w' => e = .returned (.agg #[.int .i64 2, .int .i64 0, .string s]) ∧ Below w.heap.size w w' := by
  go_enter Try.func104, Try.ntmps104
  go_wp2
  go_returns
  exact ⟨rfl, by go_grown⟩
theorem specInt (x : Int) (w : World) : Calls Try.prog 106 #[.int .i64 x] w fun e w' => e = .returned (.agg #[.int .i64 1, .int .i64 x, .string ByteArray.empty]) ∧ Below w.heap.size w w' := by
  go_enter Try.func106, Try.ntmps106
  go_wp2
  go_returns
  exact ⟨rfl, by go_grown⟩
theorem specBool (b : Bool) (w : World) : Calls Try.prog 105 #[.bool b] w fun e w' => e = .returned (.agg #[.int .i64 3, .int .i64 (if b then 1 else 0), .string ByteArray.empty]) ∧ Below w.heap.size w w' := by
  cases b
  all_goals
    go_enter Try.func105, Try.ntmps105
    go_wp2
    go_returns
    exact ⟨rfl, by go_grown⟩

def rightT (j : Nat) : ByteArray := if j = 0 then ⟨#[]⟩ else if j = 1 then ⟨#[97]⟩ else if j = 2 then ⟨#[98]⟩ else if j = 3 then ⟨#[105, 116, 39, 115]⟩ else if j = 4 then ⟨#[97, 98]⟩ else ⟨#[255]⟩
theorem rightT_size (j : Nat) : (rightT j).size ≤ 4 := by unfold rightT; split; decide; split; decide; split; decide; split; decide; split <;> decide

set_option maxRecDepth 100000 in
set_option maxHeartbeats 800000 in
theorem l5RightC {B p : Nat} {w : World} (h : Cur B w p) : Calls Try.prog 100 #[.pointer (some ⟨p, 0, none⟩)] w fun e w' => ∃ (k n : Int) (s : ByteArray), e = .returned (.agg #[.int .i64 k, .int .i64 n, .string s]) ∧ valOk k n s = true ∧ 0 ≤ k ∧ k ≤ 3 ∧ In n ∧ s.size ≤ 4 ∧ Dr B p w w' := by
  go_enter Try.func100, Try.ntmps100
  go_wp2_with fail
  refine (l1BelowC (h.alloc' _) 6).mono ?_
  rintro e w1 ⟨x, rfl, x0, x1, hc1, hg1⟩
  have x2 := x1 (by omega)
  clear x1
  have h3 : x = 0 ∨ x = 1 ∨ x = 2 ∨ x = 3 ∨ 4 ≤ x := by omega
  have hp := h.lt
  have H1 := hide (((Dr.refl h).alloc _).step hc1 hg1)
  have hr0 := (C3.made _ _ _ _ _).grown hg1 (by omega)
  clear hc1 hg1
  obtain ⟨rb, hrb⟩ : ∃ rb, Hid (rb = w.heap.size) := ⟨_, rfl⟩
  rw [← hrb.out] at hr0 ⊢
  have HR := hide hr0
  obtain ⟨hs1, ⟨c0, c1, c2⟩, ⟨f0, f1, f2⟩⟩ := hr0
  have hbp : rb ≠ p := by have := hrb.out; omega
  rcases h3 with rfl | rfl | rfl | rfl | h4
  · go_wp2_with fail
    ((try simp only [Exit.inBlock, Exit.then]); refine bodyPost_ret (by simp [results, Try.results100, go_sem]; go_simp; rfl) rfl ?_)
    exact ⟨_, _, _, rfl, by simp [valOk], by omega, by omega, by unfold In; omega, by decide, ((H1.out.set hp (Nat.le_of_eq hrb.out.symm) _ _).set hp (Nat.le_of_eq hrb.out.symm) _ _).set hp (Nat.le_of_eq hrb.out.symm) _ _⟩
  · go_wp2_with fail
    refine (l1PickC (f := rightT) (n := 6) (H1.out.cur.alloc' _) (by omega) (by omega) (by have := H1.out.lt; omega) ?_).mono ?_
    · intro j hj
      match j, hj with
      | 0, _ => simp [go_sem]; rfl
      | 1, _ => simp [go_sem]; rfl
      | 2, _ => simp [go_sem]; rfl
      | 3, _ => simp [go_sem]; rfl
      | 4, _ => simp [go_sem]; rfl
      | 5, _ => simp [go_sem]; rfl
    rintro e w2 ⟨j, hj, rfl, hc2, hg2⟩
    have H2 := hide ((H1.out.alloc _).step hc2 hg2)
    replace HR := hide ((HR.out.alloc _).grown hg2 hbp)
    clear hc2 hg2
    go_wp2_with fail
    refine (specText _ _).mono ?_
    rintro e w3 ⟨rfl, hb⟩
    have H3 := hide (H2.out.below hb)
    replace HR := hide (HR.out.below hb)
    clear hb
    obtain ⟨hs1, ⟨c0, c1, c2⟩, ⟨f0, f1, f2⟩⟩ := HR.out
    have hj4 := rightT_size j
    go_wp2_with fail
    ((try simp only [Exit.inBlock, Exit.then]); refine bodyPost_ret (by simp [results, Try.results100, go_sem]; go_simp; rfl) rfl ?_)
    exact ⟨_, _, _, rfl, by simp [valOk]; omega, by omega, by omega, by unfold In; omega, hj4, ((H3.out.set hp (Nat.le_of_eq hrb.out.symm) _ _).set hp (Nat.le_of_eq hrb.out.symm) _ _).set hp (Nat.le_of_eq hrb.out.symm) _ _⟩
  · go_wp2_with fail
    refine (l1OnceC H1.out.cur _).mono ?_
    rintro e w2 ⟨b, rfl, hc2, hg2⟩
    have H2 := hide (H1.out.step hc2 hg2)
    replace HR := hide (HR.out.grown hg2 hbp)
    clear hc2 hg2
    go_wp2_with fail
    refine (specBool _ _).mono ?_
    rintro e w3 ⟨rfl, hb⟩
    have H3 := hide (H2.out.below hb)
    replace HR := hide (HR.out.below hb)
    clear hb
    obtain ⟨hs1, ⟨c0, c1, c2⟩, ⟨f0, f1, f2⟩⟩ := HR.out
    cases b
    all_goals
      go_wp2_with fail
      ((try simp only [Exit.inBlock, Exit.then]); refine bodyPost_ret (by simp [results, Try.results100, go_sem]; go_simp; rfl) rfl ?_)
      exact ⟨_, _, _, rfl, by simp [valOk], by omega, by omega, by unfold In; omega, by decide, ((H3.out.set hp (Nat.le_of_eq hrb.out.symm) _ _).set hp (Nat.le_of_eq hrb.out.symm) _ _).set hp (Nat.le_of_eq hrb.out.symm) _ _⟩
  · go_wp2_with fail
    refine (l1WholeC H1.out.cur).mono ?_
    rintro e w2 ⟨y, rfl, y0, y1, hc2, hg2⟩
    have H2 := hide (H1.out.step hc2 hg2)
    replace HR := hide (HR.out.grown hg2 hbp)
    clear hc2 hg2
    go_wp2_with fail
    refine (specInt _ _).mono ?_
    rintro e w3 ⟨rfl, hb⟩
    have H3 := hide (H2.out.below hb)
    replace HR := hide (HR.out.below hb)
    clear hb
    obtain ⟨hs1, ⟨c0, c1, c2⟩, ⟨f0, f1, f2⟩⟩ := HR.out
    go_wp2_with fail
    ((try simp only [Exit.inBlock, Exit.then]); refine bodyPost_ret (by simp [results, Try.results100, go_sem]; go_simp; rfl) rfl ?_)
    exact ⟨_, _, _, rfl, by simp [valOk], by omega, by omega, ⟨y0, y1⟩, by decide, ((H3.out.set hp (Nat.le_of_eq hrb.out.symm) _ _).set hp (Nat.le_of_eq hrb.out.symm) _ _).set hp (Nat.le_of_eq hrb.out.symm) _ _⟩
  · have h5 : ¬ x = 0 ∧ ¬ x = 1 ∧ ¬ x = 2 ∧ ¬ x = 3 := by omega
    obtain ⟨x5, x6, x7, x8⟩ := h5
    go_wp2_with fail
    refine (l1BelowC H1.out.cur 7).mono ?_
    rintro e w2 ⟨y, rfl, y0, y1, hc2, hg2⟩
    have y2 := y1 (by omega)
    have H2 := hide (H1.out.step hc2 hg2)
    replace HR := hide (HR.out.grown hg2 hbp)
    clear hc2 hg2 y1
    go_wp2_with fail
    refine (specInt _ _).mono ?_
    rintro e w3 ⟨rfl, hb⟩
    have H3 := hide (H2.out.below hb)
    replace HR := hide (HR.out.below hb)
    clear hb
    obtain ⟨hs1, ⟨c0, c1, c2⟩, ⟨f0, f1, f2⟩⟩ := HR.out
    go_wp2_with fail
    ((try simp only [Exit.inBlock, Exit.then]); refine bodyPost_ret (by simp [results, Try.results100, go_sem]; go_simp; rfl) rfl ?_)
    exact ⟨_, _, _, rfl, by simp [valOk], by omega, by omega, by unfold In; omega, by decide, ((H3.out.set hp (Nat.le_of_eq hrb.out.symm) _ _).set hp (Nat.le_of_eq hrb.out.symm) _ _).set hp (Nat.le_of_eq hrb.out.symm) _ _⟩
end Go.Proofs.Ytfpoakdmclekoaa
