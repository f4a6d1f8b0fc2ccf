/-
  Rows of strings that the call itself made: eqStringS, markStringS, heldStringS over them.
-/
import Derived.Test.YtopmlhplkaoleaaRows
import Derived.WalkKit
import Derived.WalkLawsBesides
import Derived.WalkSpells
import Derived.Handy
import Derived.Deep.Light
import Derived.Lib.BufferOwn
import Derived.Test.YtopmlhplkaoleaaM1
import Derived.Test.YtopmlhplkaoleaaB
import Derived.Test.YtopmlhplkaoleaaQ
import Derived.Test.YtopmlhplkaoleaaWMark
namespace Go.Proofs.Ytopmlhplkaoleaa
open Go.RowKit Go.Lib

theorem below_drewN (w : World) (n : Nat) : Below w.heap.size w (w.drewN n) := by
  induction n with
  | zero => exact Below.refl _ _
  | succ n ih => exact ih.drew

/-- Block g holds the strings f 0, .., f (n - 1); none of these cells is frozen. -/
structure StrsF (w : World) (g n : Nat) (f : Nat → ByteArray) : Prop where
  lt : g < w.heap.size
  cell : ∀ i, i < n → w.cell? ⟨g, i, none⟩ = some (.string (f i))
  free : ∀ i, i < n → w.frozen? ⟨g, i, none⟩ = false

theorem StrsF.of_owns {w : World} {base : Nat} {e : TypeId} {g n cap : Nat} {l : List ByteArray} (h : w.ownsRow base e 1 (.slice (some ⟨g, 0, none⟩) n cap) n (l.map .string)) : StrsF w g n (fun i => l.getD i ByteArray.empty) := by
  have hl : l.length = n := by simpa using h.1
  refine ⟨(h.lt g rfl).2, fun i hi => ?_, fun i _ => h.frozenAt i⟩
  rw [h.cellAt i (by omega)]
  simp [List.getD, List.getElem?_eq_getElem (show i < l.length by omega)]

theorem StrsF.stays {w w' : World} {g n : Nat} {f : Nat → ByteArray} (h : StrsF w g n f) (hs : w.heap.size ≤ w'.heap.size) (hb : w'.heap[g]? = w.heap[g]?) : StrsF w' g n f :=
  ⟨Nat.lt_of_lt_of_le h.lt hs, fun i hi => (World.cell?_of_block (a := ⟨g, i, none⟩) hb).trans (h.cell i hi), fun i hi => (World.frozen?_of_block (a := ⟨g, i, none⟩) hb).trans (h.free i hi)⟩

theorem StrsF.below {w w' : World} {g n : Nat} {f : Nat → ByteArray} (h : StrsF w g n f) (hb : Below w.heap.size w w') : StrsF w' g n f :=
  h.stays hb.size (hb.block g h.lt)

theorem StrsF.other {w w' : World} {g g' n : Nat} {f : Nat → ByteArray} (h : StrsF w g n f) (hb : w.grownBy w' (some g')) (hne : g ≠ g') : StrsF w' g n f :=
  h.stays hb.size (hb.block g h.lt (fun e => hne (by injection e)))

theorem StrsF.set {w : World} {g n : Nat} {f : Nat → ByteArray} (h : StrsF w g n f) (k : Nat) (hk : k < n) (s : ByteArray) :
    StrsF (w.setCell ⟨g, k, none⟩ (.string s)) g n (fun i => if i = k then s else f i) := by
  refine ⟨by simpa [World.setCell] using h.lt, fun i hi => ?_, fun i hi => ?_⟩
  · by_cases hik : i = k
    · subst hik
      rw [World.cell?_setCell_same _ _ _ (h.cell i hi)]
      simp
    · rw [World.cell?_setCell_other _ _ _ _ (by intro e; injection e with _ e2 _; exact hik e2.symm), h.cell i hi]
      simp [hik]
  · rw [World.frozen?_setCell]
    exact h.free i hi

theorem StrsF.same {w : World} {g n : Nat} {f f' : Nat → ByteArray} (h : StrsF w g n f) (he : ∀ i, i < n → f i = f' i) : StrsF w g n f' :=
  ⟨h.lt, fun i hi => by rw [h.cell i hi, he i hi], h.free⟩

set_option maxHeartbeats 800000 in
theorem eqStringSC {w : World} {g g' n c c' : Nat} {f : Nat → ByteArray} (h : StrsF w g n f) (h' : StrsF w g' n f) (hn : n ≤ 1048577) :
    Calls Try.prog 30 #[.slice (some ⟨g, 0, none⟩) n c, .slice (some ⟨g', 0, none⟩) n c'] w fun e w' => e = .returned (.bool true) ∧ Below w.heap.size w w' := by
  have H := hide (And.intro h h')
  clear h h'
  go_enter Try.func30, Try.ntmps30
  go_wp2
  go_loopw [5] (fun x wr => ∃ j : Nat, x = .int .i64 j ∧ j ≤ n ∧ Below w.heap.size w wr) (fun x _ => n - (intOf x).toNat)
  case atStart => exact ⟨0, rfl, by omega, by go_grown⟩
  case round =>
    obtain ⟨j, rfl, hj, hb⟩ := hrel
    by_cases hlt : j < n
    · have c1 := (H.out.1.below hb).cell j hlt
      have c2 := (H.out.2.below hb).cell j hlt
      have HB := hide hb
      clear hb
      go_wp2_with fail
      go_quiet (fail)
      go_wp2_with fail
      go_roundw
      case rel => exact ⟨j + 1, by go_num, by omega, below_via HB.out (below_drewN _ _)⟩
      case measure => simp [intOf]; omega
    · have : j = n := by omega
      subst this
      go_wp2
      go_ret
      exact ⟨rfl, hb⟩

set_option maxHeartbeats 800000 in
theorem markStringSC {w : World} {g n c : Nat} {f : Nat → ByteArray} (h : StrsF w g n f) (hn : n ≤ 1048577) (k : Int) (hk : 0 ≤ k) (hk' : k ≤ 1048577) :
    Calls Try.prog 31 #[.slice (some ⟨g, 0, none⟩) n c, .int .i64 k] w fun e w' => e = .returned (.int .i64 (k + n)) ∧ StrsF w' g n (fun i => markT (k + i)) ∧ w.grownBy w' (some g) := by
  have H := hide h
  clear h
  go_enter Try.func31, Try.ntmps31
  go_wp2_with fail
  go_loopw [1, 5] (fun y x wr => ∃ j : Nat, x = .int .i64 j ∧ y = .int .i64 (k + j) ∧ j ≤ n ∧ StrsF wr g n (fun i => if i < j then markT (k + i) else f i) ∧ w.grownBy wr (some g)) (fun _ x _ => n - (intOf x).toNat)
  case atStart => exact ⟨0, rfl, by simp, by omega, H.out.same (fun i _ => by simp), World.grownBy.refl _ _⟩
  case round =>
    obtain ⟨j, rfl, rfl, hj, hs, hg⟩ := hrel
    by_cases hlt : j < n
    · have HS := hide (And.intro hs hg)
      clear hs hg
      go_wp2_with fail
      refine (markTextC _ _ (by omega)).mono ?_
      rintro e w1 ⟨rfl, hb1⟩
      have hs1 := HS.out.1.below hb1
      have hg1 := grownBy_below HS.out.2 hb1
      have c1 := hs1.cell j hlt
      have f1 := hs1.free j hlt
      have HS1 := hide (And.intro hs1 hg1)
      clear hb1 hs1 hg1 HS
      go_wp2_with fail
      go_roundw
      case rel =>
        refine ⟨j + 1, by go_num, by go_num, by omega, (HS1.out.1.set j hlt _).same (fun i _ => ?_), grownBy_setB HS1.out.2 _ _⟩
        by_cases hij : i = j
        · subst hij; simp
        · by_cases hi : i < j
          · simp [hij, hi, show i < j + 1 by omega]
          · simp [hij, hi, show ¬ i < j + 1 by omega]
      case measure => simp [intOf]; omega
    · have : j = n := by omega
      subst this
      go_wp2_with fail
      go_ret
      exact ⟨rfl, hs.same (fun i hi => by simp [hi]), hg⟩

set_option maxHeartbeats 800000 in
theorem heldStringSC {w : World} {g n c : Nat} {k : Int} (h : StrsF w g n (fun i => markT (k + i))) (hn : n ≤ 1048577) (hk : 0 ≤ k) (hk' : k ≤ 1048577) :
    Calls Try.prog 32 #[.slice (some ⟨g, 0, none⟩) n c, .int .i64 k] w fun e w' => e = .returned (.int .i64 (k + n)) ∧ Below w.heap.size w w' := by
  have H := hide h
  clear h
  go_enter Try.func32, Try.ntmps32
  go_wp2_with fail
  go_loopw [1, 5] (fun y x wr => ∃ j : Nat, x = .int .i64 j ∧ y = .int .i64 (k + j) ∧ j ≤ n ∧ Below w.heap.size w wr) (fun _ x _ => n - (intOf x).toNat)
  case atStart => exact ⟨0, rfl, by simp, by omega, by go_grown⟩
  case round =>
    obtain ⟨j, rfl, rfl, hj, hb⟩ := hrel
    by_cases hlt : j < n
    · have c1 := (H.out.below hb).cell j hlt
      have hl1 := (H.out.below hb).lt
      have e1 := BelowOf.cell c1 hl1
      have HB := hide hb
      clear hb
      go_wp2_with fail
      refine wp_region_quiet_below (by kernel_rfl) (by kernel_rfl) ?_
      repeat (quiet_step (first | exact Calls.below_of (markTextC _ _ (by omega))))
      refine wpQuiet_nil ?_
      intro W2 hq2
      have HB2 := hide (BelowOf.of hq2)
      clear hq2 e1 c1 hl1
      go_wp2_with fail
      go_roundw
      case rel => exact ⟨j + 1, by go_num, by go_num, by omega, below_via HB.out HB2.out⟩
      case measure => simp [intOf]; omega
    · have : j = n := by omega
      subst this
      go_wp2_with fail
      go_ret
      exact ⟨rfl, hb⟩
end Go.Proofs.Ytopmlhplkaoleaa
