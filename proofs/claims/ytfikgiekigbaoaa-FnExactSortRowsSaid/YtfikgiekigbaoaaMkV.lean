/-
  markValueS, heldValueS: the marks that a law writes into a row of values.
-/
import Derived.Test.YtfikgiekigbaoaaBlk
import Derived.Test.YtfikgiekigbaoaaWMark
import Derived.Test.YtfikgiekigbaoaaQ
import Derived.Lib.BufferOwn
namespace Go.Proofs.Ytfikgiekigbaoaa
open Go Go.RowKit Go.Lib

/-- The first n elements of block b bear the marks from k on. -/
structure MrkV (w : World) (b n : Nat) (k : Int) : Prop where
  lt : b < w.heap.size
  num0 : ∀ t, t < n → w.cell? ⟨b, t * 3, none⟩ = some (.int .i64 (k + 3 * t))
  num1 : ∀ t, t < n → w.cell? ⟨b, t * 3 + 1, none⟩ = some (.int .i64 (k + 3 * t + 1))
  text : ∀ t, t < n → w.cell? ⟨b, t * 3 + 2, none⟩ = some (.string (markT (k + 3 * t + 2)))
theorem MrkV.stays {w w' : World} {b n : Nat} {k : Int} (h : MrkV w b n k) (hs : w.heap.size ≤ w'.heap.size) (hb : w'.heap[b]? = w.heap[b]?) : MrkV w' b n k :=
  ⟨Nat.lt_of_lt_of_le h.lt hs, fun t ht => (World.cell?_of_block (a := ⟨b, t * 3, none⟩) hb).trans (h.num0 t ht), fun t ht => (World.cell?_of_block (a := ⟨b, t * 3 + 1, none⟩) hb).trans (h.num1 t ht), fun t ht => (World.cell?_of_block (a := ⟨b, t * 3 + 2, none⟩) hb).trans (h.text t ht)⟩
theorem MrkV.below {w w' : World} {b n : Nat} {k : Int} (h : MrkV w b n k) (hb : Below w.heap.size w w') : MrkV w' b n k := h.stays hb.size (hb.block b h.lt)

theorem at_ne {b i j : Nat} (h : i ≠ j) : (⟨b, i, none⟩ : Addr) ≠ ⟨b, j, none⟩ := fun e => by injection e with _ e _; exact h e

/-- What one round leaves. -/
theorem MrkV.step {w0 w w3 : World} {b n j : Nat} {k : Int} (h : MrkV w b j k) (hr : Room w b (n * 3)) (hg : w0.grownBy w (some b)) (hj : j < n)
    (hb : Below ((w.setCell ⟨b, j * 3, none⟩ (.int .i64 (k + 3 * j))).setCell ⟨b, j * 3 + 1, none⟩ (.int .i64 (k + 3 * j + 1))).heap.size ((w.setCell ⟨b, j * 3, none⟩ (.int .i64 (k + 3 * j))).setCell ⟨b, j * 3 + 1, none⟩ (.int .i64 (k + 3 * j + 1))) w3) :
    Room w3 b (n * 3) ∧ ∀ W, W = w3.setCell ⟨b, j * 3 + 2, none⟩ (.string (markT (k + 3 * j + 2))) → MrkV W b (j + 1) k ∧ Room W b (n * 3) ∧ w0.grownBy W (some b) := by
  have r2 := ((hr.set (j * 3) (.int .i64 (k + 3 * j))).set (j * 3 + 1) (.int .i64 (k + 3 * j + 1)))
  have g2 := grownBy_setB (grownBy_setB hg (j * 3) (.int .i64 (k + 3 * j))) (j * 3 + 1) (.int .i64 (k + 3 * j + 1))
  obtain ⟨u0, hu0⟩ := hr.has (j * 3) (by omega)
  obtain ⟨u1, hu1⟩ := (hr.set (j * 3) (.int .i64 (k + 3 * j))).has (j * 3 + 1) (by omega)
  have hc : ∀ q, ((w.setCell ⟨b, j * 3, none⟩ (.int .i64 (k + 3 * j))).setCell ⟨b, j * 3 + 1, none⟩ (.int .i64 (k + 3 * j + 1))).cell? ⟨b, q, none⟩ = if q = j * 3 + 1 then some (.int .i64 (k + 3 * j + 1)) else if q = j * 3 then some (.int .i64 (k + 3 * j)) else w.cell? ⟨b, q, none⟩ := fun q => by
    by_cases e1 : q = j * 3 + 1
    · subst e1
      rw [World.cell?_setCell_same _ _ _ hu1, if_pos rfl]
    · rw [World.cell?_setCell_other _ _ _ _ (at_ne (Ne.symm e1)), if_neg e1]
      by_cases e2 : q = j * 3
      · subst e2
        rw [World.cell?_setCell_same _ _ _ hu0, if_pos rfl]
      · rw [World.cell?_setCell_other _ _ _ _ (at_ne (Ne.symm e2)), if_neg e2]
  have r3 := r2.below hb
  refine ⟨r3, ?_⟩
  rintro W rfl
  obtain ⟨u2, hu2⟩ := r3.has (j * 3 + 2) (by omega)
  have hw : ∀ q, (w3.setCell ⟨b, j * 3 + 2, none⟩ (.string (markT (k + 3 * j + 2)))).cell? ⟨b, q, none⟩ = if q = j * 3 + 2 then some (.string (markT (k + 3 * j + 2))) else if q = j * 3 + 1 then some (.int .i64 (k + 3 * j + 1)) else if q = j * 3 then some (.int .i64 (k + 3 * j)) else w.cell? ⟨b, q, none⟩ := fun q => by
    by_cases e : q = j * 3 + 2
    · subst e
      rw [World.cell?_setCell_same _ _ _ hu2, if_pos rfl]
    · rw [World.cell?_setCell_other _ _ _ _ (at_ne (Ne.symm e)), if_neg e, hb.cell (p := ⟨b, q, none⟩) r2.lt, hc]
  refine ⟨⟨(r3.set _ _).lt, fun t ht => ?_, fun t ht => ?_, fun t ht => ?_⟩, r3.set _ _, grownBy_setB (grownBy_below g2 hb) _ _⟩ <;> rw [hw] <;> by_cases e : t = j
  · subst e; rw [if_neg (by omega), if_neg (by omega), if_pos rfl]
  · rw [if_neg (by omega), if_neg (by omega), if_neg (by omega)]; exact h.num0 t (by omega)
  · subst e; rw [if_neg (by omega), if_pos rfl]
  · rw [if_neg (by omega), if_neg (by omega), if_neg (by omega)]; exact h.num1 t (by omega)
  · subst e; rw [if_pos rfl]
  · rw [if_neg (by omega), if_neg (by omega), if_neg (by omega)]; exact h.text t (by omega)

set_option maxRecDepth 100000 in
set_option maxHeartbeats 800000 in
theorem markValueSC {w : World} {b n c : Nat} (h : Room w b (n * 3)) (hn : n ≤ 1048576) (k : Int) (hk : 0 ≤ k) (hk' : k ≤ 2305843009213693952) :
    Calls Try.prog 40 #[.slice (some ⟨b, 0, none⟩) n c, .int .i64 k] w fun e w' => e = .returned (.int .i64 (k + 3 * n)) ∧ MrkV w' b n k ∧ w.grownBy w' (some b) := by
  have H := hide h
  clear h
  go_enter Try.func40, Try.ntmps40
  go_wp2_with fail
  go_loopw [1, 5] (fun y x wr => ∃ j : Nat, x = .int .i64 j ∧ y = .int .i64 (k + 3 * j) ∧ j ≤ n ∧ Hid (MrkV wr b j k ∧ Room wr b (n * 3) ∧ w.grownBy wr (some b))) (fun _ x _ => n - (intOf x).toNat)
  case atStart => exact ⟨0, rfl, by simp, by omega, ⟨H.out.lt, fun t ht => absurd ht (by omega), fun t ht => absurd ht (by omega), fun t ht => absurd ht (by omega)⟩, H.out, World.grownBy.refl _ _⟩
  case round =>
    obtain ⟨j, rfl, rfl, hj, HS⟩ := hrel
    by_cases hlt : j < n
    · have hlt2 : (j : Int) < n := by omega
      obtain ⟨u0, hu0⟩ := HS.out.2.1.has (j * 3) (by omega)
      obtain ⟨u1, hu1⟩ := (HS.out.2.1.set (j * 3) (.int .i64 (k + 3 * j))).has (j * 3 + 1) (by omega)
      have hfr := HS.out.2.1.free
      have x1 : IntKind.i64.wrap (k + 3 * (j : Int) + 1) = k + 3 * (j : Int) + 1 := IntWalk.i64_in _ (by omega)
      have x2 : IntKind.i64.wrap (k + 3 * (j : Int) + 1 + 1) = k + 3 * (j : Int) + 2 := by rw [IntWalk.i64_in _ (by omega)]; omega
      have x3 : IntKind.i64.wrap (k + 3 * (j : Int) + 2 + 1) = k + 3 * (j : Int) + 3 := by rw [IntWalk.i64_in _ (by omega)]; omega
      go_wp2_with fail
      refine (markTextC _ _ (by omega)).mono ?_
      rintro e w3 ⟨rfl, hb3⟩
      have hst := HS.out.1.step HS.out.2.1 HS.out.2.2 hlt hb3
      obtain ⟨u2, hu2⟩ := hst.1.has (j * 3 + 2) (by omega)
      have hfr3 := hst.1.free
      have HT := hide hst.2
      clear hb3 hst hu0 hu1 hfr
      go_wp2_with fail
      go_roundw
      case rel => exact ⟨j + 1, by go_num, by (congr 1 <;> omega), by omega, HT.out _ rfl⟩
      case measure => simp [intOf]; omega
    · have hlt2 : ¬ (j : Int) < n := by omega
      have : j = n := by omega
      subst this
      go_wp2_with fail
      go_ret
      exact ⟨rfl, HS.out.1, HS.out.2.2⟩

set_option maxRecDepth 100000 in
set_option maxHeartbeats 800000 in
theorem markValueS0 (w : World) (a : Option Addr) (c : Nat) (k : Int) :
    Calls Try.prog 40 #[.slice a 0 c, .int .i64 k] w fun e w' => e = .returned (.int .i64 k) ∧ Below w.heap.size w w' := by
  go_enter Try.func40, Try.ntmps40
  go_wp2_with fail
  refine wp_loop_rounds 1 ?_
  rw [rounds_succ]
  go_wp2
  go_ret
  exact ⟨rfl, by go_grown⟩

set_option maxRecDepth 100000 in
set_option maxHeartbeats 800000 in
theorem heldValueSC {w : World} {b n c : Nat} {k : Int} (h : MrkV w b n k) (hn : n ≤ 1048576) (hk : 0 ≤ k) (hk' : k ≤ 2305843009213693952) :
    Calls Try.prog 41 #[.slice (some ⟨b, 0, none⟩) n c, .int .i64 k] w fun e w' => e = .returned (.int .i64 (k + 3 * n)) ∧ Below w.heap.size w w' := by
  have H := hide h
  clear h
  go_enter Try.func41, Try.ntmps41
  go_wp2_with fail
  go_loopw [1, 5] (fun y x wr => ∃ j : Nat, x = .int .i64 j ∧ y = .int .i64 (k + 3 * j) ∧ j ≤ n ∧ Hid (Below w.heap.size w wr)) (fun _ x _ => n - (intOf x).toNat)
  case atStart => exact ⟨0, rfl, by simp, by omega, (show Below w.heap.size w _ by go_grown)⟩
  case round =>
    obtain ⟨j, rfl, rfl, hj, HB⟩ := hrel
    by_cases hlt : j < n
    · have hlt2 : (j : Int) < n := by omega
      have HM := hide (H.out.below HB.out)
      have c0 := HM.out.num0 j hlt
      have c1 := HM.out.num1 j hlt
      have e2 := BelowOf.cell (HM.out.text j hlt) HM.out.lt
      have x1 : IntKind.i64.wrap (k + 3 * (j : Int) + 1) = k + 3 * (j : Int) + 1 := IntWalk.i64_in _ (by omega)
      have x2 : IntKind.i64.wrap (k + 3 * (j : Int) + 1 + 1) = k + 3 * (j : Int) + 2 := by rw [IntWalk.i64_in _ (by omega)]; omega
      have x3 : IntKind.i64.wrap (k + 3 * (j : Int) + 2 + 1) = k + 3 * (j : Int) + 3 := by rw [IntWalk.i64_in _ (by omega)]; omega
      go_wp2_with fail
      refine wp_region_wq (by kernel_rfl) (by kernel_rfl) ?_
      repeat (refine WQ.step (fun K hK => ?_); go_simp; first | (refine hK _ ?_; clear hK K) | (apply Exists.intro; refine ⟨fun _ => ?_, hK _ ?_⟩; (exact Calls.below_of (markTextC _ _ (by omega))); clear hK K))
      refine WQ.nil ?_
      intro W2 hq2
      have HB2 := hide (below_via HB.out (BelowOf.of hq2))
      clear hq2 e2 c0 c1
      go_wp2_with fail
      go_roundw
      case rel => exact ⟨j + 1, by go_num, by (congr 1 <;> omega), by omega, HB2.out⟩
      case measure => simp [intOf]; omega
    · have hlt2 : ¬ (j : Int) < n := by omega
      have : j = n := by omega
      subst this
      go_wp2_with fail
      go_ret
      exact ⟨rfl, HB.out⟩

set_option maxRecDepth 100000 in
set_option maxHeartbeats 800000 in
theorem heldValueS0 (w : World) (a : Option Addr) (c : Nat) (k : Int) :
    Calls Try.prog 41 #[.slice a 0 c, .int .i64 k] w fun e w' => e = .returned (.int .i64 k) ∧ Below w.heap.size w w' := by
  go_enter Try.func41, Try.ntmps41
  go_wp2_with fail
  refine wp_loop_rounds 1 ?_
  rw [rounds_succ]
  go_wp2
  go_ret
  exact ⟨rfl, by go_grown⟩
end Go.Proofs.Ytfikgiekigbaoaa
