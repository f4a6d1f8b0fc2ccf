/-
  Rows of tokens that the call itself made: eqTokenS, markTokenS, heldTokenS over them.
-/
import Derived.Test.YtifkldghbdpdmaaDoorLexW
import Derived.Test.YtifkldghbdpdmaaDoorWMark
import Derived.Test.YtifkldghbdpdmaaDoorQ
import Derived.Lib.BufferOwn
namespace Go.Proofs.YtifkldghbdpdmaaDoor
open Go.RowKit

/-- Block g holds n tokens; none of these cells is frozen. -/
structure ToksF (w : World) (g n : Nat) (f : Nat → Int × ByteArray × Int) : Prop where
  lt : g < w.heap.size
  cell : ∀ i, i < n → w.cell? ⟨g, i * 3, none⟩ = some (.int .i64 (f i).1) ∧ w.cell? ⟨g, i * 3 + 1, none⟩ = some (.string (f i).2.1) ∧ w.cell? ⟨g, i * 3 + 2, none⟩ = some (.int .i64 (f i).2.2)
  free : ∀ i, i < n → w.frozen? ⟨g, i * 3, none⟩ = false ∧ w.frozen? ⟨g, i * 3 + 1, none⟩ = false ∧ w.frozen? ⟨g, i * 3 + 2, none⟩ = false

/-- A token of a list. -/
def tkF (l : List Tk) (i : Nat) : Int × ByteArray × Int := ((l.getD i (0, ⟨#[]⟩, 0)).1, (l.getD i (0, ⟨#[]⟩, 0)).2.1, ((l.getD i (0, ⟨#[]⟩, 0)).2.2 : Int))

theorem ToksF.of_owns {w : World} {base : Nat} {e : TypeId} {g n cap : Nat} {l : List Tk} (h : w.ownsRow base e 3 (.slice (some ⟨g, 0, none⟩) n cap) n (tkCells l)) : ToksF w g n (tkF l) := by
  have hl : l.length = n := by have := h.1; rw [tkCells_len] at this; omega
  refine ⟨(h.lt g rfl).2, fun i hi => ?_, fun i _ => ⟨h.frozenAt _, h.frozenAt _, h.frozenAt _⟩⟩
  obtain ⟨h1, h2, h3⟩ := tkCells_get l i (by omega)
  rw [h.cellAt (i * 3) (by omega), h.cellAt (i * 3 + 1) (by omega), h.cellAt (i * 3 + 2) (by omega), h1, h2, h3]
  simp [tkF, List.getD, List.getElem?_eq_getElem (show i < l.length by omega)]

theorem ToksF.stays {w w' : World} {g n : Nat} {f : Nat → Int × ByteArray × Int} (h : ToksF w g n f) (hs : w.heap.size ≤ w'.heap.size) (hb : w'.heap[g]? = w.heap[g]?) : ToksF w' g n f := by
  have hc : ∀ o, w'.cell? ⟨g, o, none⟩ = w.cell? ⟨g, o, none⟩ := fun o => World.cell?_of_block (a := ⟨g, o, none⟩) hb
  have hf : ∀ o, w'.frozen? ⟨g, o, none⟩ = w.frozen? ⟨g, o, none⟩ := fun o => World.frozen?_of_block (a := ⟨g, o, none⟩) hb
  refine ⟨Nat.lt_of_lt_of_le h.lt hs, fun i hi => ?_, fun i hi => ?_⟩
  · rw [hc, hc, hc]; exact h.cell i hi
  · rw [hf, hf, hf]; exact h.free i hi
theorem ToksF.below {w w' : World} {g n : Nat} {f : Nat → Int × ByteArray × Int} (h : ToksF w g n f) (hb : Below w.heap.size w w') : ToksF w' g n f :=
  h.stays hb.size (hb.block g h.lt)
theorem ToksF.other {w w' : World} {g g' n : Nat} {f : Nat → Int × ByteArray × Int} (h : ToksF w g n f) (hb : w.grownBy w' (some g')) (hne : g ≠ g') : ToksF w' g n f :=
  h.stays hb.size (hb.block g h.lt (fun e => hne (by injection e)))
theorem ToksF.same {w : World} {g n : Nat} {f f' : Nat → Int × ByteArray × Int} (h : ToksF w g n f) (he : ∀ i, i < n → f i = f' i) : ToksF w g n f' :=
  ⟨h.lt, fun i hi => by rw [← he i hi]; exact h.cell i hi, h.free⟩

theorem off_ne {g i j : Nat} (h : i ≠ j) : (⟨g, i, none⟩ : Addr) ≠ ⟨g, j, none⟩ := by intro e; injection e with _ e _; exact h e
theorem ToksF.setK {w : World} {g n : Nat} {f : Nat → Int × ByteArray × Int} (h : ToksF w g n f) (k : Nat) (hk : k < n) (x : Int) :
    ToksF (w.setCell ⟨g, k * 3, none⟩ (.int .i64 x)) g n (fun i => if i = k then (x, (f i).2.1, (f i).2.2) else f i) := by
  refine ⟨by simpa [World.setCell] using h.lt, fun i hi => ?_, fun i hi => ?_⟩
  · obtain ⟨h1, h2, h3⟩ := h.cell i hi
    by_cases hik : i = k
    · subst hik
      rw [World.cell?_setCell_same _ _ _ h1, World.cell?_setCell_other _ _ _ _ (off_ne (by omega)), World.cell?_setCell_other _ _ _ _ (off_ne (by omega)), h2, h3]
      simp
    · rw [World.cell?_setCell_other _ _ _ _ (off_ne (by omega)), World.cell?_setCell_other _ _ _ _ (off_ne (by omega)), World.cell?_setCell_other _ _ _ _ (off_ne (by omega)), h1, h2, h3]
      simp [hik]
  · rw [World.frozen?_setCell, World.frozen?_setCell, World.frozen?_setCell]
    exact h.free i hi
theorem ToksF.setX {w : World} {g n : Nat} {f : Nat → Int × ByteArray × Int} (h : ToksF w g n f) (k : Nat) (hk : k < n) (x : ByteArray) :
    ToksF (w.setCell ⟨g, k * 3 + 1, none⟩ (.string x)) g n (fun i => if i = k then ((f i).1, x, (f i).2.2) else f i) := by
  refine ⟨by simpa [World.setCell] using h.lt, fun i hi => ?_, fun i hi => ?_⟩
  · obtain ⟨h1, h2, h3⟩ := h.cell i hi
    by_cases hik : i = k
    · subst hik
      rw [World.cell?_setCell_same _ _ _ h2, World.cell?_setCell_other _ _ _ _ (off_ne (by omega)), World.cell?_setCell_other _ _ _ _ (off_ne (by omega)), h1, h3]
      simp
    · rw [World.cell?_setCell_other _ _ _ _ (off_ne (by omega)), World.cell?_setCell_other _ _ _ _ (off_ne (by omega)), World.cell?_setCell_other _ _ _ _ (off_ne (by omega)), h1, h2, h3]
      simp [hik]
  · rw [World.frozen?_setCell, World.frozen?_setCell, World.frozen?_setCell]
    exact h.free i hi
theorem ToksF.setA {w : World} {g n : Nat} {f : Nat → Int × ByteArray × Int} (h : ToksF w g n f) (k : Nat) (hk : k < n) (x : Int) :
    ToksF (w.setCell ⟨g, k * 3 + 2, none⟩ (.int .i64 x)) g n (fun i => if i = k then ((f i).1, (f i).2.1, x) else f i) := by
  refine ⟨by simpa [World.setCell] using h.lt, fun i hi => ?_, fun i hi => ?_⟩
  · obtain ⟨h1, h2, h3⟩ := h.cell i hi
    by_cases hik : i = k
    · subst hik
      rw [World.cell?_setCell_same _ _ _ h3, World.cell?_setCell_other _ _ _ _ (off_ne (by omega)), World.cell?_setCell_other _ _ _ _ (off_ne (by omega)), h1, h2]
      simp
    · rw [World.cell?_setCell_other _ _ _ _ (off_ne (by omega)), World.cell?_setCell_other _ _ _ _ (off_ne (by omega)), World.cell?_setCell_other _ _ _ _ (off_ne (by omega)), h1, h2, h3]
      simp [hik]
  · rw [World.frozen?_setCell, World.frozen?_setCell, World.frozen?_setCell]
    exact h.free i hi

theorem eqTokenC (k : Int) (s : ByteArray) (a : Int) (w : World) :
    Calls Tryd.prog 74 #[.agg #[.int .i64 k, .string s, .int .i64 a], .agg #[.int .i64 k, .string s, .int .i64 a]] w fun e w' => e = .returned (.bool true) ∧ Below w.heap.size w w' := by
  go_enter Tryd.func74, Tryd.ntmps74
  go_wp2
  all_goals go_ret
  all_goals exact ⟨rfl, by go_grown⟩

set_option maxRecDepth 100000 in
set_option maxHeartbeats 800000 in
theorem eqTokenSC {w : World} {g g' n c c' : Nat} {f : Nat → Int × ByteArray × Int} (h : ToksF w g n f) (h' : ToksF w g' n f) (hn : n ≤ 1048577) :
    Calls Tryd.prog 43 #[.slice (some ⟨g, 0, none⟩) n c, .slice (some ⟨g', 0, none⟩) n c'] w fun e w' => e = .returned (.bool true) ∧ Below w.heap.size w w' := by
  have H := hide (And.intro h h')
  clear h h'
  go_enter Tryd.func43, Tryd.ntmps43
  go_wp2
  go_loopw [5] (fun x wr => ∃ j : Nat, x = .int .i64 j ∧ j ≤ n ∧ Hid (Below w.heap.size w wr)) (fun x _ => n - (intOf x).toNat)
  case atStart => exact ⟨0, rfl, by omega, (show Below w.heap.size w _ by go_grown)⟩
  case round =>
    obtain ⟨j, rfl, hj, HB⟩ := hrel
    by_cases hlt : j < n
    · have hlt2 : (j : Int) < n := by omega
      have h1 := H.out.1.below HB.out
      have h2 := H.out.2.below HB.out
      obtain ⟨c0, c1, c2⟩ := h1.cell j hlt
      obtain ⟨d0, d1, d2⟩ := h2.cell j hlt
      have e0 := BelowOf.cell c0 h1.lt
      have e1 := BelowOf.cell c1 h1.lt
      have e2 := BelowOf.cell c2 h1.lt
      have f0 := BelowOf.cell d0 h2.lt
      have f1 := BelowOf.cell d1 h2.lt
      have f2 := BelowOf.cell d2 h2.lt
      clear h1 h2
      go_wp2_with fail
      refine wp_region_wq (by kernel_rfl) (by kernel_rfl) ?_
      repeat (refine WQ.step (fun K hK => ?_); go_simp; first | (refine hK _ ?_; clear hK K) | (apply Exists.intro; refine ⟨fun _ => ?_, hK _ ?_⟩; (exact Calls.below_of (eqTokenC _ _ _ _)); clear hK K))
      refine WQ.nil ?_
      intro W2 hq2
      have HB2 := hide (below_via HB.out (BelowOf.of hq2))
      clear hq2 e0 e1 e2 f0 f1 f2 c0 c1 c2 d0 d1 d2
      go_wp2_with fail
      go_roundw
      case rel => exact ⟨j + 1, by go_num, by omega, HB2.out⟩
      case measure => simp [intOf]; omega
    · have hlt2 : ¬ (j : Int) < n := by omega
      go_wp2_with fail
      go_ret
      exact ⟨rfl, HB.out⟩

/-- The marks of a row of tokens. -/
def markF (k : Int) (i : Nat) : Int × ByteArray × Int := (k + 3 * i, markT (k + 3 * i + 1), k + 3 * i + 2)

theorem grown_below {w a b : World} {row : Option Nat} (h : w.grownBy a row) (hb : Below a.heap.size a b) : w.grownBy b row :=
  ⟨hb.os.trans h.os, hb.tape.trans h.tape, hb.output.trans h.output, Nat.le_trans h.size hb.size, fun k hk hne => (hb.block k (Nat.lt_of_lt_of_le hk h.size)).trans (h.block k hk hne)⟩
theorem grown_set {w a : World} {g : Nat} (h : w.grownBy a (some g)) (i : Nat) (v : Value) : w.grownBy (a.setCell ⟨g, i, none⟩ v) (some g) :=
  ⟨h.os, h.tape, h.output, by simpa [World.setCell] using h.size, fun k hk hne => (Below.heap_setCell a ⟨g, i, none⟩ v k (by rintro rfl; exact hne rfl)).trans (h.block k hk hne)⟩

set_option maxRecDepth 100000 in
set_option maxHeartbeats 1600000 in
theorem markTokenSC {w : World} {g n c : Nat} {f : Nat → Int × ByteArray × Int} (h : ToksF w g n f) (hn : n ≤ 1048577) (k : Int) (hk : 0 ≤ k) (hk' : k ≤ 1048577) :
    Calls Tryd.prog 44 #[.slice (some ⟨g, 0, none⟩) n c, .int .i64 k] w fun e w' => e = .returned (.int .i64 (k + 3 * n)) ∧ ToksF w' g n (markF k) ∧ w.grownBy w' (some g) := by
  have H := hide h
  clear h
  go_enter Tryd.func44, Tryd.ntmps44
  go_wp2_with fail
  go_loopw [1, 5] (fun y x wr => ∃ j : Nat, x = .int .i64 j ∧ y = .int .i64 (k + 3 * j) ∧ j ≤ n ∧ Hid (ToksF wr g n (fun i => if i < j then markF k i else f i)) ∧ Hid (w.grownBy wr (some g))) (fun _ x _ => n - (intOf x).toNat)
  case atStart => exact ⟨0, rfl, by simp, by omega, H.out.same (fun i _ => by simp), World.grownBy.refl _ _⟩
  case round =>
    obtain ⟨j, rfl, rfl, hj, HS, HG⟩ := hrel
    by_cases hlt : j < n
    · have hlt2 : (j : Int) < n := by omega
      have hs0 := HS.out
      obtain ⟨c0, c1, c2⟩ := hs0.cell j hlt
      obtain ⟨f0, f1, f2⟩ := hs0.free j hlt
      have hlg := hs0.lt
      clear hs0
      go_wp2_with fail
      refine (markTextC _ _ (by omega)).mono ?_
      rintro e w1 ⟨rfl, hb1⟩
      have HS1 := hide ((HS.out.setK j hlt (k + 3 * j)).below hb1)
      have HG1 := hide (grown_below (grown_set HG.out _ _) hb1)
      clear hb1 c0 c1 c2 f0 f1 f2 hlg
      have hs0 := HS1.out
      obtain ⟨c0, c1, c2⟩ := hs0.cell j hlt
      obtain ⟨f0, f1, f2⟩ := hs0.free j hlt
      have hlg := hs0.lt
      clear hs0
      go_wp2_with fail
      go_roundw
      case rel =>
        refine ⟨j + 1, by go_num, by go_num, by omega, (((HS1.out.setX j hlt (markT (k + 3 * j + 1))).setA j hlt (k + 3 * j + 1 + 1)).same (fun i _ => ?_)), grown_set (grown_set HG1.out _ _) _ _⟩
        by_cases hij : i = j
        · subst hij; simp [markF]; omega
        · by_cases hi : i < j
          · simp [hij, hi, show i < j + 1 by omega]
          · simp [hij, hi, show ¬ i < j + 1 by omega]
      case measure => simp [intOf]; omega
    · have hlt2 : ¬ (j : Int) < n := by omega
      obtain rfl : j = n := by omega
      go_wp2_with fail
      go_ret
      exact ⟨rfl, HS.out.same (fun i hi => by simp [hi]), HG.out⟩

set_option maxRecDepth 100000 in
set_option maxHeartbeats 1600000 in
theorem heldTokenSC {w : World} {g n c : Nat} {k : Int} (h : ToksF w g n (markF k)) (hn : n ≤ 1048577) (hk : 0 ≤ k) (hk' : k ≤ 1048577) :
    Calls Tryd.prog 45 #[.slice (some ⟨g, 0, none⟩) n c, .int .i64 k] w fun e w' => e = .returned (.int .i64 (k + 3 * n)) ∧ Below w.heap.size w w' := by
  have H := hide h
  clear h
  go_enter Tryd.func45, Tryd.ntmps45
  go_wp2_with fail
  go_loopw [1, 5] (fun y x wr => ∃ j : Nat, x = .int .i64 j ∧ y = .int .i64 (k + 3 * j) ∧ j ≤ n ∧ Hid (Below w.heap.size w wr)) (fun _ x _ => n - (intOf x).toNat)
  case atStart => exact ⟨0, rfl, by simp, by omega, (show Below w.heap.size w _ by go_grown)⟩
  case round =>
    obtain ⟨j, rfl, rfl, hj, HB⟩ := hrel
    by_cases hlt : j < n
    · have hlt2 : (j : Int) < n := by omega
      have h1 := H.out.below HB.out
      obtain ⟨c0, c1, c2⟩ := h1.cell j hlt
      have hl1 := h1.lt
      have HH := hide h1
      unfold markF at c0 c1 c2
      have e1 := BelowOf.cell c1 hl1
      clear h1
      go_wp2_with fail
      refine wp_region_wq (by kernel_rfl) (by kernel_rfl) ?_
      repeat (refine WQ.step (fun K hK => ?_); go_simp; first | (refine hK _ ?_; clear hK K) | (apply Exists.intro; refine ⟨fun _ => ?_, hK _ ?_⟩; (exact Calls.below_of (markTextC _ _ (by omega))); clear hK K))
      refine WQ.nil ?_
      intro W2 hq2
      have hb2 := BelowOf.of hq2
      have HB2 := hide (below_via HB.out hb2)
      clear c0 c1 c2
      obtain ⟨c0, c1, c2⟩ := (HH.out.below hb2).cell j hlt
      unfold markF at c0 c1 c2
      clear hq2 e1 hb2
      go_wp2_with fail
      go_roundw
      case rel => exact ⟨j + 1, by go_num, by go_num, by omega, HB2.out⟩
      case measure => simp [intOf]; omega
    · have hlt2 : ¬ (j : Int) < n := by omega
      obtain rfl : j = n := by omega
      go_wp2_with fail
      go_ret
      exact ⟨rfl, HB.out⟩

/-- The same at no tokens. -/
theorem eqTokenSN (a a' : Option Addr) (c c' : Nat) (w : World) : Calls Tryd.prog 43 #[.slice a 0 c, .slice a' 0 c'] w fun e w' => e = .returned (.bool true) ∧ w = w' := by
  go_enter Tryd.func43, Tryd.ntmps43
  go_wp2
  refine wp_loop_rounds 1 ?_
  rw [rounds_succ]
  go_wp2
  go_ret
  exact ⟨rfl, rfl⟩
theorem markTokenSN (a : Option Addr) (c : Nat) (k : Int) (w : World) : Calls Tryd.prog 44 #[.slice a 0 c, .int .i64 k] w fun e w' => e = .returned (.int .i64 k) ∧ w = w' := by
  go_enter Tryd.func44, Tryd.ntmps44
  go_wp2
  refine wp_loop_rounds 1 ?_
  rw [rounds_succ]
  go_wp2
  go_ret
  exact ⟨rfl, rfl⟩
theorem heldTokenSN (a : Option Addr) (c : Nat) (k : Int) (w : World) : Calls Tryd.prog 45 #[.slice a 0 c, .int .i64 k] w fun e w' => e = .returned (.int .i64 k) ∧ w = w' := by
  go_enter Tryd.func45, Tryd.ntmps45
  go_wp2
  refine wp_loop_rounds 1 ?_
  rw [rounds_succ]
  go_wp2
  go_ret
  exact ⟨rfl, rfl⟩
end Go.Proofs.YtifkldghbdpdmaaDoor
