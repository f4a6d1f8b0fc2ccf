/-
  l5Bent: a value drawn, now and then bent.
-/
import Derived.Test.YtfpoakdmclekoaaDrV
namespace Go.Proofs.Ytfpoakdmclekoaa
open Go.RowKit Go.Lib

def bentT (j : Nat) : ByteArray := if j = 0 then ⟨#[120]⟩ else if j = 1 then ⟨#[]⟩ else ⟨#[108, 111, 110, 103]⟩
theorem bentT_size (j : Nat) : (bentT j).size ≤ 4 := by unfold bentT; split; decide; split <;> decide

/-- How far a text in a cell is from four hundred bytes. -/
def farOf (w : World) (b : Nat) : Nat := match w.cell? ⟨b, 2, none⟩ with | some (.string s) => 400 - s.size | _ => 0
theorem farOf_eq {w : World} {b : Nat} {x y : Value} {s : ByteArray} (h : C3 w b x y (.string s)) : farOf w b = 400 - s.size := by unfold farOf; rw [h.c.2.2]

theorem Dr.set3 {B p : Nat} {w a : World} (h : Dr B p w a) (hp : p < w.heap.size) {b : Nat} (hb : w.heap.size ≤ b) (x y z : Value) :
    Dr B p w (((a.setCell ⟨b, 0, none⟩ x).setCell ⟨b, 1, none⟩ y).setCell ⟨b, 2, none⟩ z) := ((h.set hp hb _ _).set hp hb _ _).set hp hb _ _

theorem C3.other {w : World} {b g : Nat} {x y z : Value} (h : C3 w b x y z) (hne : b ≠ g) (i : Nat) (v : Value) : C3 (w.setCell ⟨g, i, none⟩ v) b x y z := h.grown (grownBy_setCell w g i v) hne

theorem C3.set0 {w : World} {b : Nat} {x y z : Value} (h : C3 w b x y z) (v : Value) : C3 (w.setCell ⟨b, 0, none⟩ v) b v y z := by
  obtain ⟨hs, ⟨c0, c1, c2⟩, ⟨f0, f1, f2⟩⟩ := h
  refine ⟨by simpa [World.setCell] using hs, ⟨by go_simp, by go_simp, by go_simp⟩, ⟨by go_simp, by go_simp, by go_simp⟩⟩
theorem C3.set1 {w : World} {b : Nat} {x y z : Value} (h : C3 w b x y z) (v : Value) : C3 (w.setCell ⟨b, 1, none⟩ v) b x v z := by
  obtain ⟨hs, ⟨c0, c1, c2⟩, ⟨f0, f1, f2⟩⟩ := h
  refine ⟨by simpa [World.setCell] using hs, ⟨by go_simp, by go_simp, by go_simp⟩, ⟨by go_simp, by go_simp, by go_simp⟩⟩
theorem C3.set2 {w : World} {b : Nat} {x y z : Value} (h : C3 w b x y z) (v : Value) : C3 (w.setCell ⟨b, 2, none⟩ v) b x y v := by
  obtain ⟨hs, ⟨c0, c1, c2⟩, ⟨f0, f1, f2⟩⟩ := h
  refine ⟨by simpa [World.setCell] using hs, ⟨by go_simp, by go_simp, by go_simp⟩, ⟨by go_simp, by go_simp, by go_simp⟩⟩

set_option maxRecDepth 100000 in
set_option maxHeartbeats 1600000 in
theorem l5BentC {B p : Nat} {w : World} (h : Cur B w p) : Calls Try.prog 96 #[.pointer (some ⟨p, 0, none⟩)] w fun e w' => ∃ (k n : Int) (s : ByteArray), e = .returned (.agg #[.int .i64 k, .int .i64 n, .string s]) ∧ -1 ≤ k ∧ k ≤ 4 ∧ In n ∧ s.size ≤ 810 ∧ Dr B p w w' := by
  have hp := h.lt
  go_enter Try.func96, Try.ntmps96
  go_wp2_with fail
  refine (l5RightC (h.alloc' _)).mono ?_
  rintro e w1 ⟨k, n, s, rfl, _, k0, k3, hn, hs, hd⟩
  have HN := hide hn
  have hr := (C3.made w _ _ _ _).grown hd.grown (by omega)
  have hv := C3.made w1 (.int .i64 k) (.int .i64 n) (.string s) 30
  have hd1 := (((Dr.refl h).alloc _).trans hd).alloc (.cells #[.int .i64 k, .int .i64 n, .string s] 30)
  have hr := hr.alloc (.cells #[.int .i64 k, .int .i64 n, .string s] 30)
  obtain ⟨rb, hrb⟩ : ∃ rb, Hid (rb = w.heap.size) := ⟨_, rfl⟩
  obtain ⟨vb, hvb⟩ : ∃ vb, Hid (vb = w1.heap.size) := ⟨_, rfl⟩
  have h01 := hd.grown.size
  have hrv : rb < vb := by rw [hrb.out, hvb.out]; simp at h01; omega
  have hrp : p < rb := by rw [hrb.out]; exact hp
  have hrw := hrb.out.symm
  have hvw : w.heap.size ≤ vb := by rw [← hrb.out]; omega
  rw [← hrb.out] at hr ⊢
  rw [← hvb.out] at hv
  have H1 := hide (And.intro hd1 (And.intro hr hv))
  clear hd hd1 hr hv hn h01
  go_wp2_with fail
  rw [← hvb.out]
  refine (l1BelowC H1.out.1.cur 14).mono ?_
  rintro e w2 ⟨x, rfl, x0, x1, hc2, hg2⟩
  have x2 := x1 (by omega)
  have H2 := hide (And.intro (H1.out.1.step hc2 hg2) (And.intro (H1.out.2.1.grown hg2 (by omega)) (H1.out.2.2.grown hg2 (by omega))))
  clear x1 hc2 hg2
  have h3 : x = 0 ∨ x = 1 ∨ x = 2 ∨ 3 ≤ x := by omega
  rcases h3 with rfl | rfl | rfl | h4
  · go_wp2_with fail
    refine (l1BelowC H2.out.1.cur 6).mono ?_
    rintro e w3 ⟨y, rfl, y0, y1, hc3, hg3⟩
    have y2 := y1 (by omega)
    have hyw : IntKind.i64.wrap (y - 1) = y - 1 := by rw [IntKind.wrap_i64]; omega
    have H3 := hide (And.intro (H2.out.1.step hc3 hg3) (And.intro (H2.out.2.1.grown hg3 (by omega)) (H2.out.2.2.grown hg3 (by omega))))
    clear y1 hc3 hg3
    obtain ⟨rs, ⟨r0, r1, r2⟩, ⟨rf0, rf1, rf2⟩⟩ := H3.out.2.1
    obtain ⟨vs, ⟨v0, v1, v2⟩, ⟨vf0, vf1, vf2⟩⟩ := H3.out.2.2
    go_wp2_with fail
    ((try simp only [Exit.inBlock, Exit.then]); refine bodyPost_ret (by simp [results, Try.results96, go_sem]; go_simp; rfl) rfl ?_)
    exact ⟨_, _, _, rfl, by omega, by omega, HN.out, by omega, (H3.out.1.set hp hvw _ _).set3 hp (Nat.le_of_eq hrw) _ _ _⟩
  · go_wp2_with fail
    refine (l1WholeC H2.out.1.cur).mono ?_
    rintro e w3 ⟨y, rfl, y0, y1, hc3, hg3⟩
    have H3 := hide (And.intro (H2.out.1.step hc3 hg3) (And.intro (H2.out.2.1.grown hg3 (by omega)) (H2.out.2.2.grown hg3 (by omega))))
    clear hc3 hg3
    obtain ⟨rs, ⟨r0, r1, r2⟩, ⟨rf0, rf1, rf2⟩⟩ := H3.out.2.1
    obtain ⟨vs, ⟨v0, v1, v2⟩, ⟨vf0, vf1, vf2⟩⟩ := H3.out.2.2
    go_wp2_with fail
    ((try simp only [Exit.inBlock, Exit.then]); refine bodyPost_ret (by simp [results, Try.results96, go_sem]; go_simp; rfl) rfl ?_)
    exact ⟨_, _, _, rfl, by omega, by omega, ⟨y0, y1⟩, by omega, (H3.out.1.set hp hvw _ _).set3 hp (Nat.le_of_eq hrw) _ _ _⟩
  · go_wp2_with fail
    refine (l1PickC (f := bentT) (n := 3) (H2.out.1.cur.alloc' _) (by omega) (by omega) (by have := H2.out.1.lt; omega) ?_).mono ?_
    · intro j hj
      match j, hj with
      | 0, _ => simp [go_sem]; rfl
      | 1, _ => simp [go_sem]; rfl
      | 2, _ => simp [go_sem]; rfl
    rintro e w3 ⟨j, hj, rfl, hc3, hg3⟩
    have H3 := hide (And.intro ((H2.out.1.alloc _).step hc3 hg3) (And.intro ((H2.out.2.1.alloc _).grown hg3 (by omega)) ((H2.out.2.2.alloc _).grown hg3 (by omega))))
    clear hc3 hg3
    obtain ⟨vs, ⟨v0, v1, v2⟩, ⟨vf0, vf1, vf2⟩⟩ := H3.out.2.2
    have hj4 := bentT_size j
    go_wp2_with fail
    go_loopw [] (fun wr => ∃ t : ByteArray, t.size ≤ 810 ∧ C3 wr rb (.int .i64 0) (.int .i64 0) (.string ⟨#[]⟩) ∧ C3 wr vb (.int .i64 k) (.int .i64 n) (.string t) ∧ Dr B p w wr) (fun wr => farOf wr vb)
    case atStart => exact ⟨bentT j, by omega, H3.out.2.1.other (by omega) _ _, H3.out.2.2.set2 _, H3.out.1.set hp hvw _ _⟩
    case round =>
      obtain ⟨t, ht, hr, hv, hd⟩ := hrel
      have HW := hide (And.intro hd (And.intro hr hv))
      clear hr hv hd v0 v1 v2 vf0 vf1 vf2 vs
      go_wp2_with fail
      refine (l1OnceC HW.out.1.cur _).mono ?_
      rintro e w4 ⟨b, rfl, hc4, hg4⟩
      have H4 := hide (And.intro (HW.out.1.step hc4 hg4) (And.intro (HW.out.2.1.grown hg4 (by omega)) (HW.out.2.2.grown hg4 (by omega))))
      clear hc4 hg4
      obtain ⟨rs, ⟨r0, r1, r2⟩, ⟨rf0, rf1, rf2⟩⟩ := H4.out.2.1
      obtain ⟨vs, ⟨v0, v1, v2⟩, ⟨vf0, vf1, vf2⟩⟩ := H4.out.2.2
      cases b
      · go_wp2_with fail
        ((try simp only [Exit.inBlock, Exit.then]); refine bodyPost_ret (by simp [results, Try.results96, go_sem]; go_simp; rfl) rfl ?_)
        exact ⟨_, _, _, rfl, by omega, by omega, HN.out, by omega, H4.out.1.set3 hp (Nat.le_of_eq hrw) _ _ _⟩
      · by_cases h400 : t.size < 400
        · have h400' : (t.size : Int) < 400 := by omega
          go_wp2_with fail
          go_roundw
          case rel =>
            refine ⟨t ++ t ++ ⟨#[48, 49, 50, 51, 52, 53, 54, 55, 56, 57]⟩, ?_, H4.out.2.1.other (by omega) _ _, H4.out.2.2.set2 _, H4.out.1.set hp hvw _ _⟩
            rw [ByteArray.size_append, ByteArray.size_append, show (⟨#[48, 49, 50, 51, 52, 53, 54, 55, 56, 57]⟩ : ByteArray).size = 10 from rfl]
            omega
          case measure =>
            rw [farOf_eq (H4.out.2.2.set2 _), farOf_eq HW.out.2.2]
            rw [ByteArray.size_append, ByteArray.size_append, show (⟨#[48, 49, 50, 51, 52, 53, 54, 55, 56, 57]⟩ : ByteArray).size = 10 from rfl]
            omega
        · have h400' : ¬ (t.size : Int) < 400 := by omega
          go_wp2_with fail
          ((try simp only [Exit.inBlock, Exit.then]); refine bodyPost_ret (by simp [results, Try.results96, go_sem]; go_simp; rfl) rfl ?_)
          exact ⟨_, _, _, rfl, by omega, by omega, HN.out, by omega, H4.out.1.set3 hp (Nat.le_of_eq hrw) _ _ _⟩
  · have h5 : ¬ x = 0 ∧ ¬ x = 1 ∧ ¬ x = 2 := by omega
    obtain ⟨x5, x6, x7⟩ := h5
    obtain ⟨rs, ⟨r0, r1, r2⟩, ⟨rf0, rf1, rf2⟩⟩ := H2.out.2.1
    obtain ⟨vs, ⟨v0, v1, v2⟩, ⟨vf0, vf1, vf2⟩⟩ := H2.out.2.2
    go_wp2_with fail
    ((try simp only [Exit.inBlock, Exit.then]); refine bodyPost_ret (by simp [results, Try.results96, go_sem]; go_simp; rfl) rfl ?_)
    exact ⟨_, _, _, rfl, by omega, by omega, HN.out, by omega, H2.out.1.set3 hp (Nat.le_of_eq hrw) _ _ _⟩
end Go.Proofs.Ytfpoakdmclekoaa
