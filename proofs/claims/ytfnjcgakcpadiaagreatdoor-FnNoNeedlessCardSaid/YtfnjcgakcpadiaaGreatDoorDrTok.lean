/-
  l3Token, l3Bent: tokens drawn.
-/
import Derived.Test.YtfnjcgakcpadiaaGreatDoorDrW
import Derived.Test.YtfnjcgakcpadiaaGreatDoorDigS
import Derived.Test.YtfnjcgakcpadiaaGreatDoorGNum
namespace Go.Proofs.YtfnjcgakcpadiaaGreatDoor
open Go.RowKit

theorem Dr.set3 {B p : Nat} {w a : World} (h : Dr B p w a) (hp : p < w.heap.size) {b : Nat} (hb : w.heap.size ≤ b) (x y z : Value) :
    Dr B p w (((a.setCell ⟨b, 0, none⟩ x).setCell ⟨b, 1, none⟩ y).setCell ⟨b, 2, none⟩ z) := ((h.set hp hb _ _).set hp hb _ _).set hp hb _ _
theorem C3.other {w : World} {b g : Nat} {x y z : Value} (h : C3 w b x y z) (hne : b ≠ g) (i : Nat) (v : Value) : C3 (w.setCell ⟨g, i, none⟩ v) b x y z := h.grown (Lib.grownBy_setCell w g i v) hne
theorem C3.set0 {w : World} {b : Nat} {x y z : Value} (h : C3 w b x y z) (v : Value) : C3 (w.setCell ⟨b, 0, none⟩ v) b v y z := by
  obtain ⟨hs, ⟨c0, c1, c2⟩, ⟨f0, f1, f2⟩⟩ := h
  refine ⟨by simpa [World.setCell] using hs, ⟨by go_simp, by go_simp, by go_simp⟩, ⟨by go_simp, by go_simp, by go_simp⟩⟩
theorem C3.set1 {w : World} {b : Nat} {x y z : Value} (h : C3 w b x y z) (v : Value) : C3 (w.setCell ⟨b, 1, none⟩ v) b x v z := by
  obtain ⟨hs, ⟨c0, c1, c2⟩, ⟨f0, f1, f2⟩⟩ := h
  refine ⟨by simpa [World.setCell] using hs, ⟨by go_simp, by go_simp, by go_simp⟩, ⟨by go_simp, by go_simp, by go_simp⟩⟩
theorem C3.set2 {w : World} {b : Nat} {x y z : Value} (h : C3 w b x y z) (v : Value) : C3 (w.setCell ⟨b, 2, none⟩ v) b x y v := by
  obtain ⟨hs, ⟨c0, c1, c2⟩, ⟨f0, f1, f2⟩⟩ := h
  refine ⟨by simpa [World.setCell] using hs, ⟨by go_simp, by go_simp, by go_simp⟩, ⟨by go_simp, by go_simp, by go_simp⟩⟩

theorem specMax0 (y : Int) (w : World) : Calls Tryz.prog 82 #[.int .i64 0, .int .i64 y] w fun e w' => e = .returned (.int .i64 (max 0 y)) ∧ w = w' := by
  by_cases h : y < 0
  · rw [show max 0 y = 0 by omega]
    go_enter Tryz.func82, Tryz.ntmps82
    go_wp2
    all_goals go_ret
    all_goals exact ⟨rfl, rfl⟩
  · have h2 : ¬ y < 0 := h
    rw [show max 0 y = y by omega]
    go_enter Tryz.func82, Tryz.ntmps82
    go_wp2
    all_goals go_ret
    all_goals exact ⟨rfl, rfl⟩

set_option maxRecDepth 100000 in
set_option maxHeartbeats 1600000 in
theorem l3TokenC {B p : Nat} {w : World} (h : Cur B w p) : Calls Tryz.prog 53 #[.pointer (some ⟨p, 0, none⟩)] w fun e w' => ∃ (k : Int) (s : ByteArray), e = .returned (.agg #[.int .i64 k, .string s, .int .i64 0]) ∧ s.size ≤ 19 ∧ Dr B p w w' := by
  have hp := h.lt
  go_enter Tryz.func53, Tryz.ntmps53
  go_wp2_with fail
  refine (l1BelowC (h.alloc' _) 6).mono ?_
  rintro e w1 ⟨x, rfl, x0, x1, hc1, hg1⟩
  clear x1
  have h1 := ((Dr.refl h).alloc _).step hc1 hg1
  have hr := (C3.made _ _ _ _ _).grown hg1 (by omega)
  obtain ⟨rb, hrb⟩ : ∃ rb, Hid (rb = w.heap.size) := ⟨_, rfl⟩
  have hrp : p < rb := by rw [hrb.out]; exact hp
  have hrw := hrb.out.symm
  rw [← hrb.out] at hr ⊢
  have H1 := hide (And.intro h1 hr)
  clear hc1 hg1 h1 hr
  have h3 : x = 0 ∨ x = 1 ∨ x = 2 ∨ x = 3 ∨ (¬ x = 0 ∧ ¬ x = 1 ∧ ¬ x = 2 ∧ ¬ x = 3) := by omega
  rcases h3 with rfl | rfl | rfl | rfl | ⟨n0, n1, n2, n3⟩
  · go_wp2_with fail
    refine (specWords w1).mono ?_
    rintro e w2 ⟨rfl, rfl⟩
    have hck := fun j hj => kw_cellS w1 9 j hj
    have H2 := hide (And.intro (H1.out.1.alloc (.cells (kwL.map Value.string).toArray 9)) (H1.out.2.alloc (.cells (kwL.map Value.string).toArray 9)))
    obtain ⟨kb, hkb⟩ : ∃ kb, Hid (kb = w1.heap.size) := ⟨_, rfl⟩
    have hkp : kb ≠ p := by have := H1.out.1.lt; rw [hkb.out]; omega
    rw [← hkb.out] at hck ⊢
    generalize w1.alloc (.cells (kwL.map Value.string).toArray 9) = W2 at hck H2 ⊢
    have HCK := hide hck
    clear hck
    go_wp2_with fail
    refine (l1BelowC H2.out.1.cur 28).mono ?_
    rintro e w3 ⟨y, rfl, y0, y1, hc3, hg3⟩
    have y2 := y1 (by omega)
    clear y1
    obtain ⟨j, rfl⟩ : ∃ j : Nat, y = (j : Int) := ⟨y.toNat, by omega⟩
    have hcj := hg3.cell (HCK.out (1 + j) (by omega)) (by intro e; injection e with e; exact hkp e)
    have hks := kw_size (1 + j) (by omega)
    have H3 := hide (And.intro (H2.out.1.step hc3 hg3) (H2.out.2.grown hg3 (by omega)))
    clear hc3 hg3
    generalize kw (1 + j) = s at hcj hks
    obtain ⟨rs, ⟨r0, r1, r2⟩, ⟨rf0, rf1, rf2⟩⟩ := H3.out.2
    go_wp2_with fail
    ((try simp only [Exit.inBlock, Exit.then]); refine bodyPost_ret (by simp [results, Tryz.results53, go_sem]; go_simp; rfl) rfl ?_)
    exact ⟨_, _, rfl, by omega, H3.out.1.set3 hp (Nat.le_of_eq hrw) _ _ _⟩
  · go_wp2_with fail
    refine (l2NameC H1.out.1.cur).mono ?_
    rintro e w2 ⟨s, rfl, hs, hd⟩
    have H2 := hide (And.intro (H1.out.1.trans hd) (H1.out.2.grown hd.grown (by omega)))
    clear hd
    obtain ⟨rs, ⟨r0, r1, r2⟩, ⟨rf0, rf1, rf2⟩⟩ := H2.out.2
    go_wp2_with fail
    ((try simp only [Exit.inBlock, Exit.then]); refine bodyPost_ret (by simp [results, Tryz.results53, go_sem]; go_simp; rfl) rfl ?_)
    exact ⟨_, _, rfl, by omega, H2.out.1.set3 hp (Nat.le_of_eq hrw) _ _ _⟩
  · go_wp2_with fail
    refine (l1WholeC H1.out.1.cur).mono ?_
    rintro e w2 ⟨y, rfl, y0, y1, hc2, hg2⟩
    have H2 := hide (And.intro (H1.out.1.step hc2 hg2) (H1.out.2.grown hg2 (by omega)))
    clear hc2 hg2
    go_wp2_with fail
    refine (specMax0 y _).mono ?_
    rintro e w3 ⟨rfl, rfl⟩
    obtain ⟨m, hm⟩ : ∃ m : Nat, max 0 y = (m : Int) := ⟨(max 0 y).toNat, by omega⟩
    have hm2 : m ≤ 9223372036854775807 := by omega
    rw [hm]
    clear hm
    have hns := (numS_size m hm2).2
    unfold numS at hns
    have hD := fun w => specDigits (m : Int) (by omega) (by omega) w
    generalize (⟨(Lib.itoa (m : Int)).toArray⟩ : ByteArray) = s at hns hD
    go_wp2_with fail
    refine (hD _).mono ?_
    rintro e w4 ⟨rfl, hb⟩
    have H3 := hide (And.intro (H2.out.1.below hb) (H2.out.2.below hb))
    clear hb hD
    obtain ⟨rs, ⟨r0, r1, r2⟩, ⟨rf0, rf1, rf2⟩⟩ := H3.out.2
    go_wp2_with fail
    ((try simp only [Exit.inBlock, Exit.then]); refine bodyPost_ret (by simp [results, Tryz.results53, go_sem]; go_simp; rfl) rfl ?_)
    exact ⟨_, _, rfl, by omega, H3.out.1.set3 hp (Nat.le_of_eq hrw) _ _ _⟩
  · go_wp2_with fail
    refine (l1PickC (f := fun j => txL.getD j ⟨#[]⟩) (n := 8) (H1.out.1.cur.alloc' _) (by omega) (by omega) (by have := H1.out.1.lt; omega) ?_).mono ?_
    · intro j hj
      match j, hj with
      | 0, _ => simp [go_sem]; rfl
      | 1, _ => simp [go_sem]; rfl
      | 2, _ => simp [go_sem]; rfl
      | 3, _ => simp [go_sem]; rfl
      | 4, _ => simp [go_sem]; rfl
      | 5, _ => simp [go_sem]; rfl
      | 6, _ => simp [go_sem]; rfl
      | 7, _ => simp [go_sem]; rfl
    rintro e w2 ⟨j, hj, rfl, hc2, hg2⟩
    have hsz := txL_size j hj
    generalize txL.getD j ⟨#[]⟩ = s at hsz ⊢
    have H2 := hide (And.intro ((H1.out.1.alloc _).step hc2 hg2) ((H1.out.2.alloc _).grown hg2 (by omega)))
    clear hc2 hg2
    obtain ⟨rs, ⟨r0, r1, r2⟩, ⟨rf0, rf1, rf2⟩⟩ := H2.out.2
    go_wp2_with fail
    ((try simp only [Exit.inBlock, Exit.then]); refine bodyPost_ret (by simp [results, Tryz.results53, go_sem]; go_simp; rfl) rfl ?_)
    exact ⟨_, _, rfl, by omega, H2.out.1.set3 hp (Nat.le_of_eq hrw) _ _ _⟩
  · have g0 : (x == 0) = false := by simpa using n0
    have g1 : (x == 1) = false := by simpa using n1
    have g2 : (x == 2) = false := by simpa using n2
    have g3 : (x == 3) = false := by simpa using n3
    clear n0 n1 n2 n3
    go_wp2_with fail
    refine (l3SignC H1.out.1.cur).mono ?_
    rintro e w2 ⟨s, rfl, hs, hd⟩
    have H2 := hide (And.intro (H1.out.1.trans hd) (H1.out.2.grown hd.grown (by omega)))
    clear hd
    obtain ⟨rs, ⟨r0, r1, r2⟩, ⟨rf0, rf1, rf2⟩⟩ := H2.out.2
    go_wp2_with fail
    ((try simp only [Exit.inBlock, Exit.then]); refine bodyPost_ret (by simp [results, Tryz.results53, go_sem]; go_simp; rfl) rfl ?_)
    exact ⟨_, _, rfl, by omega, H2.out.1.set3 hp (Nat.le_of_eq hrw) _ _ _⟩

set_option maxRecDepth 100000 in
set_option maxHeartbeats 1600000 in
theorem l3BentC {B p : Nat} {w : World} (h : Cur B w p) : Calls Tryz.prog 25 #[.pointer (some ⟨p, 0, none⟩)] w fun e w' => ∃ (k : Int) (s : ByteArray) (t : Int), e = .returned (.agg #[.int .i64 k, .string s, .int .i64 t]) ∧ s.size ≤ 41 ∧ Dr B p w w' := by
  have hp := h.lt
  go_enter Tryz.func25, Tryz.ntmps25
  go_wp2_with fail
  refine (l3TokenC (h.alloc' _)).mono ?_
  rintro e w1 ⟨k, s, rfl, hs, hd⟩
  have hr := (C3.made w _ _ _ _).grown hd.grown (by omega)
  have hv := C3.made w1 (.int .i64 k) (.string s) (.int .i64 0) 25
  have hd1 := (((Dr.refl h).alloc _).trans hd).alloc (.cells #[.int .i64 k, .string s, .int .i64 0] 25)
  have hr := hr.alloc (.cells #[.int .i64 k, .string s, .int .i64 0] 25)
  obtain ⟨rb, hrb⟩ : ∃ rb, Hid (rb = w.heap.size) := ⟨_, rfl⟩
  obtain ⟨vb, hvb⟩ : ∃ vb, Hid (vb = w1.heap.size) := ⟨_, rfl⟩
  have h01 := hd.grown.size
  have hrv : rb < vb := by rw [hrb.out, hvb.out]; simp at h01; omega
  have hrp : p < rb := by rw [hrb.out]; exact hp
  have hrw := hrb.out.symm
  have hvw : w.heap.size ≤ vb := by rw [← hrb.out]; omega
  rw [← hrb.out] at hr ⊢
  rw [← hvb.out] at hv
  have H1 := hide (And.intro hd1 (And.intro hr hv))
  clear hd hd1 hr hv h01
  go_wp2_with fail
  rw [← hvb.out]
  refine (l1BelowC H1.out.1.cur 10).mono ?_
  rintro e w2 ⟨x, rfl, x0, x1, hc2, hg2⟩
  have H2 := hide (And.intro (H1.out.1.step hc2 hg2) (And.intro (H1.out.2.1.grown hg2 (by omega)) (H1.out.2.2.grown hg2 (by omega))))
  clear x1 hc2 hg2
  have h3 : x = 0 ∨ x = 1 ∨ x = 2 ∨ (¬ x = 0 ∧ ¬ x = 1 ∧ ¬ x = 2) := by omega
  rcases h3 with rfl | rfl | rfl | ⟨n0, n1, n2⟩
  · go_wp2_with fail
    refine (l1BelowC H2.out.1.cur 7).mono ?_
    rintro e w3 ⟨y, rfl, y0, y1, hc3, hg3⟩
    have H3 := hide (And.intro (H2.out.1.step hc3 hg3) (And.intro (H2.out.2.1.grown hg3 (by omega)) (H2.out.2.2.grown hg3 (by omega))))
    clear y1 hc3 hg3
    obtain ⟨rs, ⟨r0, r1, r2⟩, ⟨rf0, rf1, rf2⟩⟩ := H3.out.2.1
    obtain ⟨vs, ⟨v0, v1, v2⟩, ⟨vf0, vf1, vf2⟩⟩ := H3.out.2.2
    go_wp2_with fail
    ((try simp only [Exit.inBlock, Exit.then]); refine bodyPost_ret (by simp [results, Tryz.results25, go_sem]; go_simp; rfl) rfl ?_)
    exact ⟨_, _, _, rfl, by omega, (H3.out.1.set hp hvw _ _).set3 hp (Nat.le_of_eq hrw) _ _ _⟩
  · go_wp2_with fail
    refine (l1PickC (f := fun j => btL.getD j ⟨#[]⟩) (n := 9) (H2.out.1.cur.alloc' _) (by omega) (by omega) (by have := H2.out.1.lt; omega) ?_).mono ?_
    · intro j hj
      match j, hj with
      | 0, _ => simp [go_sem]; rfl
      | 1, _ => simp [go_sem]; rfl
      | 2, _ => simp [go_sem]; rfl
      | 3, _ => simp [go_sem]; rfl
      | 4, _ => simp [go_sem]; rfl
      | 5, _ => simp [go_sem]; rfl
      | 6, _ => simp [go_sem]; rfl
      | 7, _ => simp [go_sem]; rfl
      | 8, _ => simp [go_sem]; rfl
    rintro e w3 ⟨j, hj, rfl, hc3, hg3⟩
    have hsz := btL_size j hj
    generalize btL.getD j ⟨#[]⟩ = s' at hsz ⊢
    have H3 := hide (And.intro ((H2.out.1.alloc _).step hc3 hg3) (And.intro ((H2.out.2.1.alloc _).grown hg3 (by omega)) ((H2.out.2.2.alloc _).grown hg3 (by omega))))
    clear hc3 hg3
    obtain ⟨rs, ⟨r0, r1, r2⟩, ⟨rf0, rf1, rf2⟩⟩ := H3.out.2.1
    obtain ⟨vs, ⟨v0, v1, v2⟩, ⟨vf0, vf1, vf2⟩⟩ := H3.out.2.2
    go_wp2_with fail
    ((try simp only [Exit.inBlock, Exit.then]); refine bodyPost_ret (by simp [results, Tryz.results25, go_sem]; go_simp; rfl) rfl ?_)
    exact ⟨_, _, _, rfl, by omega, (H3.out.1.set hp hvw _ _).set3 hp (Nat.le_of_eq hrw) _ _ _⟩
  · go_wp2_with fail
    refine (l1WholeC H2.out.1.cur).mono ?_
    rintro e w3 ⟨y, rfl, y0, y1, hc3, hg3⟩
    have H3 := hide (And.intro (H2.out.1.step hc3 hg3) (And.intro (H2.out.2.1.grown hg3 (by omega)) (H2.out.2.2.grown hg3 (by omega))))
    clear hc3 hg3
    obtain ⟨rs, ⟨r0, r1, r2⟩, ⟨rf0, rf1, rf2⟩⟩ := H3.out.2.1
    obtain ⟨vs, ⟨v0, v1, v2⟩, ⟨vf0, vf1, vf2⟩⟩ := H3.out.2.2
    go_wp2_with fail
    ((try simp only [Exit.inBlock, Exit.then]); refine bodyPost_ret (by simp [results, Tryz.results25, go_sem]; go_simp; rfl) rfl ?_)
    exact ⟨_, _, _, rfl, by omega, (H3.out.1.set hp hvw _ _).set3 hp (Nat.le_of_eq hrw) _ _ _⟩
  · have g0 : (x == 0) = false := by simpa using n0
    have g1 : (x == 1) = false := by simpa using n1
    have g2 : (x == 2) = false := by simpa using n2
    clear n0 n1 n2
    obtain ⟨rs, ⟨r0, r1, r2⟩, ⟨rf0, rf1, rf2⟩⟩ := H2.out.2.1
    obtain ⟨vs, ⟨v0, v1, v2⟩, ⟨vf0, vf1, vf2⟩⟩ := H2.out.2.2
    go_wp2_with fail
    ((try simp only [Exit.inBlock, Exit.then]); refine bodyPost_ret (by simp [results, Tryz.results25, go_sem]; go_simp; rfl) rfl ?_)
    exact ⟨_, _, _, rfl, by omega, H2.out.1.set3 hp (Nat.le_of_eq hrw) _ _ _⟩

set_option maxRecDepth 100000 in
theorem dDrawTokenTextC {B : Nat} {w : World} {a : Option Addr} {n : Nat} {z : Nat → Int} (c : Nat) (h : Code B w a n z) (hB : B ≤ w.heap.size) :
    Calls Tryz.prog 15 #[.slice a n c] w fun e w' => ∃ (k : Int) (s : ByteArray) (t : Int), e = .returned (.agg #[.int .i64 k, .string s, .int .i64 t]) ∧ s.size ≤ 41 ∧ Below w.heap.size w w' := by
  go_enter Tryz.func15, Tryz.ntmps15
  go_wp2_with fail
  refine (l1NewC c ((h.below ((Below.refl _ _).alloc hB _)).mono (show B ≤ w.heap.size + 1 by omega)) (by simp)).mono ?_
  rintro e w1 ⟨p, rfl, hc1, hb1⟩
  have hr := (C3.made w _ _ _ _).below hb1
  have H1 := hide (And.intro hc1 (And.intro hb1 hr))
  clear hc1 hb1 hr
  go_wp2_with fail
  refine (l3BentC H1.out.1).mono ?_
  rintro e w2 ⟨k, s, t, rfl, hs, hd⟩
  have hlow := H1.out.1.low
  have hb2 := Below.grown (below_via ((Below.refl w.heap.size w).alloc (Nat.le_refl _) _) H1.out.2.1) hd.grown (by have := H1.out.2.1.size; simp at this ⊢; omega) (fun k hk => by cases hk; omega)
  have hr2 := H1.out.2.2.grown hd.grown (by omega)
  obtain ⟨rs, ⟨r0, r1, r2⟩, ⟨rf0, rf1, rf2⟩⟩ := hr2
  have H2 := hide hb2
  clear hb2 hd
  go_wp2_with fail
  ((try simp only [Exit.inBlock, Exit.then]); refine bodyPost_ret (by simp [results, Tryz.results15, go_sem]; go_simp; rfl) rfl ?_)
  exact ⟨_, _, _, rfl, hs, ((H2.out.setCell (Nat.le_refl _) _).setCell (Nat.le_refl _) _).setCell (Nat.le_refl _) _⟩
end Go.Proofs.YtfnjcgakcpadiaaGreatDoor
