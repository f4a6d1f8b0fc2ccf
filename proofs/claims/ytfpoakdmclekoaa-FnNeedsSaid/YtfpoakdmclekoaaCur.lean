/-
  The cursor of the draws: what a drawing function leaves of it, and in what bounds its answer lies.
-/
import Derived.Test.YtfpoakdmclekoaaRows
import Derived.WalkKit
import Derived.WalkLawsBesides
import Derived.WalkSpells
import Derived.Handy
import Derived.Deep.Light
import Derived.Deep.Quiet
import Derived.Deep.QuietTactic
import Derived.Lib.BufferOwn
import Derived.Test.YtfpoakdmclekoaaM1
import Derived.Test.YtfpoakdmclekoaaB
namespace Go.Proofs.Ytfpoakdmclekoaa
open Go.RowKit Go.Lib

/-- A cursor in block p, over a row of bytes that came in below B. -/
structure Cur (B : Nat) (w : World) (p : Nat) : Prop where
  low : B ≤ p
  lt : p < w.heap.size
  ex : ∃ (a : Option Addr) (n c : Nat) (i h : Int) (z : Nat → Int), w.cell? ⟨p, 0, none⟩ = some (.slice a n c) ∧ w.cell? ⟨p, 1, none⟩ = some (.int .i64 i) ∧ w.cell? ⟨p, 2, none⟩ = some (.int .i64 h) ∧
    w.frozen? ⟨p, 1, none⟩ = false ∧ w.frozen? ⟨p, 2, none⟩ = false ∧ 0 ≤ i ∧ i ≤ n ∧ n ≤ 1048576 ∧
    (n ≠ 0 → ∃ b off, a = some ⟨b, off, none⟩ ∧ b < B ∧ ∀ j, j < n → w.cell? ⟨b, off + j, none⟩ = some (.int .u8 (z j)) ∧ 0 ≤ z j ∧ z j < 256)

theorem Cur.other {B : Nat} {w w' : World} {p g : Nat} (h : Cur B w p) (hg : w.grownBy w' (some g)) (hB : B ≤ g) (hne : p ≠ g) : Cur B w' p := by
  obtain ⟨a, n, c, i, hh, z, c0, c1, c2, f1, f2, i0, i1, n1, hz⟩ := h.ex
  have hb : w'.heap[p]? = w.heap[p]? := hg.block p h.lt (fun e => hne (by injection e))
  refine ⟨h.low, Nat.lt_of_lt_of_le h.lt hg.size, a, n, c, i, hh, z, (World.cell?_of_block (a := ⟨p, 0, none⟩) hb).trans c0, (World.cell?_of_block (a := ⟨p, 1, none⟩) hb).trans c1, (World.cell?_of_block (a := ⟨p, 2, none⟩) hb).trans c2,
    (World.frozen?_of_block (a := ⟨p, 1, none⟩) hb).trans f1, (World.frozen?_of_block (a := ⟨p, 2, none⟩) hb).trans f2, i0, i1, n1, fun hn => ?_⟩
  obtain ⟨b, off, rfl, hbB, hcell⟩ := hz hn
  exact ⟨b, off, rfl, hbB, fun j hj => ⟨(World.cell?_of_block (a := ⟨b, off + j, none⟩) (hg.block b (World.block_lt_of_cell? w _ (hcell j hj).1) (fun e => by injection e; omega))).trans (hcell j hj).1, (hcell j hj).2⟩⟩

theorem Cur.below {B : Nat} {w w' : World} {p : Nat} (h : Cur B w p) (hb : Below w.heap.size w w') : Cur B w' p := by
  obtain ⟨a, n, c, i, hh, z, c0, c1, c2, f1, f2, i0, i1, n1, hz⟩ := h.ex
  have hk := hb.block p h.lt
  refine ⟨h.low, Nat.lt_of_lt_of_le h.lt hb.size, a, n, c, i, hh, z, (World.cell?_of_block (a := ⟨p, 0, none⟩) hk).trans c0, (World.cell?_of_block (a := ⟨p, 1, none⟩) hk).trans c1, (World.cell?_of_block (a := ⟨p, 2, none⟩) hk).trans c2,
    (World.frozen?_of_block (a := ⟨p, 1, none⟩) hk).trans f1, (World.frozen?_of_block (a := ⟨p, 2, none⟩) hk).trans f2, i0, i1, n1, fun hn => ?_⟩
  obtain ⟨b, off, rfl, hbB, hcell⟩ := hz hn
  exact ⟨b, off, rfl, hbB, fun j hj => ⟨(World.cell?_of_block (a := ⟨b, off + j, none⟩) (hb.block b (World.block_lt_of_cell? w _ (hcell j hj).1))).trans (hcell j hj).1, (hcell j hj).2⟩⟩

theorem bits_and_i64_255 (a : Int) : 0 ≤ bits .and .i64 a 255 ∧ bits .and .i64 a 255 < 256 := by
  have h : bits .and .i64 a 255 = IntKind.i64.wrap ((BitVec.ofInt 64 a &&& BitVec.ofInt 64 255).toNat : Int) := rfl
  have h2 : (BitVec.ofInt 64 a &&& BitVec.ofInt 64 255).toNat ≤ 255 := by
    rw [BitVec.toNat_and]
    exact Nat.le_trans Nat.and_le_right (by decide)
  rw [h, IntKind.wrap_i64]
  omega

theorem grown_drew {a w : World} {row : Option Nat} (h : a.grownBy w row) : a.grownBy w.drew row := ⟨h.os, h.tape, h.output, h.size, h.block⟩

theorem grown_drewN {a w : World} {row : Option Nat} (h : a.grownBy w row) (n : Nat) : a.grownBy (w.drewN n) row := ⟨h.os, h.tape, h.output, h.size, h.block⟩

set_option maxRecDepth 100000 in
set_option maxHeartbeats 800000 in
theorem l1ByteC {B p : Nat} {w : World} (h : Cur B w p) : Calls Try.prog 95 #[.pointer (some ⟨p, 0, none⟩)] w fun e w' => ∃ x : Int, e = .returned (.int .i64 x) ∧ 0 ≤ x ∧ x < 256 ∧ Cur B w' p ∧ w.grownBy w' (some p) := by
  obtain ⟨a, n, c, i, hh, z, c0, c1, c2, f1, f2, i0, i1, n1, hz⟩ := h.ex
  have hlt := h.lt
  by_cases hin : i < n
  · obtain ⟨b, off, rfl, hbB, hcell⟩ := hz (by omega)
    obtain ⟨k, rfl⟩ : ∃ k : Nat, i = k := ⟨i.toNat, by omega⟩
    obtain ⟨e1, z0, z1⟩ := hcell k (by omega)
    have hnp : b ≠ p := by have := h.low; omega
    have HC := hide hcell
    clear hz hcell
    go_enter Try.func95, Try.ntmps95
    go_wp2_with fail
    generalize wrap64 (wrap64 (hh * 6364136223846793005) + 1442695040888963407) = h2
    go_quiet (fail)
    go_wp2_with fail
    obtain ⟨x0, x1⟩ := bits_and_i64_255 (bits .xor .i64 (h2 / 8589934592) (h2 / 35184372088832))
    generalize bits .and .i64 (bits .xor .i64 (h2 / 8589934592) (h2 / 35184372088832)) 255 = x at x0 x1 ⊢
    go_quiet (fail)
    go_wp2_with fail
    go_quiet (fail)
    go_wp2_with fail
    go_ret
    refine ⟨_, rfl, (bits_and_i64_255 _).1, (bits_and_i64_255 _).2, ⟨h.low, by simpa [World.setCell] using hlt, some ⟨b, off, none⟩, n, c, (k : Int) + 1, h2, z, by go_simp, by go_simp, by go_simp, by go_simp, by go_simp, by omega, by omega, n1, fun hn => ⟨b, off, rfl, hbB, fun j hj => ⟨?_, (HC.out j hj).2⟩⟩⟩, by repeat (first | (with_reducible exact World.grownBy.refl _ _) | (with_reducible refine grown_drewN ?_ _) | (with_reducible refine grown_drew ?_) | (with_reducible refine grownBy_setB ?_ _ _))⟩
    have e2 := (HC.out j hj).1
    go_simp
  · have hi : i = n := by omega
    subst hi
    have HZ := hide hz
    clear hz
    go_enter Try.func95, Try.ntmps95
    go_wp2_with fail
    generalize wrap64 (wrap64 (hh * 6364136223846793005) + 1442695040888963407) = h2
    go_quiet (fail)
    go_wp2_with fail
    obtain ⟨x0, x1⟩ := bits_and_i64_255 (bits .xor .i64 (h2 / 8589934592) (h2 / 35184372088832))
    generalize bits .and .i64 (bits .xor .i64 (h2 / 8589934592) (h2 / 35184372088832)) 255 = x at x0 x1 ⊢
    go_quiet (fail)
    go_wp2_with fail
    go_ret
    refine ⟨_, rfl, x0, x1, ⟨h.low, by simpa [World.setCell] using hlt, a, n, c, (n : Int), h2, z, by go_simp, by go_simp, by go_simp, by go_simp, by go_simp, by omega, by omega, n1, fun hn => ?_⟩, by repeat (first | (with_reducible exact World.grownBy.refl _ _) | (with_reducible refine grown_drewN ?_ _) | (with_reducible refine grown_drew ?_) | (with_reducible refine grownBy_setB ?_ _ _))⟩
    obtain ⟨b, off, rfl, hbB, hcell⟩ := HZ.out hn
    have hnp : b ≠ p := by have := h.low; omega
    refine ⟨b, off, rfl, hbB, fun j hj => ⟨?_, (hcell j hj).2⟩⟩
    have e2 := (hcell j hj).1
    go_simp
end Go.Proofs.Ytfpoakdmclekoaa
