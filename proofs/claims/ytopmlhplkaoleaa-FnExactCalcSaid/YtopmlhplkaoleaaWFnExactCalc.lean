/-
  The walk of FnExactCalc.
-/
import Derived.Test.YtopmlhplkaoleaaRows
import Derived.WalkKit
import Derived.WalkLawsBesides
import Derived.WalkSpells
import Derived.Handy
import Derived.Deep.Light
import Derived.Deep.CutRange
import Derived.Deep.RegionWith
import Derived.Test.YtopmlhplkaoleaaM1
import Derived.Test.YtopmlhplkaoleaaB
import Derived.Test.YtopmlhplkaoleaaCarry
import Derived.Test.YtopmlhplkaoleaaWSz
import Derived.Test.YtopmlhplkaoleaaWToV
import Derived.Test.YtopmlhplkaoleaaWCalcST
import Derived.Test.YtopmlhplkaoleaaWCalcIT
namespace Go.Proofs.Ytopmlhplkaoleaa
open Go.RowKit

theorem toValueX (k n : Int) (s : ByteArray) (w : World) :
    Calls Try.prog 24 #[.agg #[.int .i64 k, .int .i64 n, .string s]] w fun e w' => e = .returned (.agg #[.int .i64 k, .int .i64 n, .string s]) ∧ ((w.alloc (.cells #[.int .i64 k, .int .i64 n, .string s] 31)).alloc (.cells #[.int .i64 k, .int .i64 n, .string s] 27)).alloc (.cells #[.int .i64 k, .int .i64 n, .string s] 27) = w' := by
  go_enter Try.func24, Try.ntmps24
  go_wp2
  go_returns
  exact ⟨rfl, rfl⟩

set_option maxHeartbeats 20000000 in
theorem fnExactCalc.walk (op k n : Int) (s : ByteArray) (k' n' : Int) (s' : ByteArray) (w : World) (_wop : (Lit.int .i64 op).wf = true) (_wk : (Lit.int .i64 k).wf = true) (wn : (Lit.int .i64 n).wf = true) (ws : s.size ≤ maxLen) (_wk' : (Lit.int .i64 k').wf = true) (wn' : (Lit.int .i64 n').wf = true) (ws' : s'.size ≤ maxLen) :
    Calls Try.prog 13 #[.int .i64 op, .agg #[.int .i64 k, .int .i64 n, .string s], .agg #[.int .i64 k', .int .i64 n', .string s']] w fun e w' => e = .returned (.bool true) ∧ Below w.heap.size w w' := by
  unfold maxLen at ws ws'

  go_enter Try.func13, Try.ntmps13
  go_wp2_with fail
  refine (szValueC _ _ _ _ _ (by omega) (by omega) ws).mono ?_
  rintro e w1 ⟨rfl, hb1⟩
  have hc : w1.cell? ⟨w.heap.size, 0, none⟩ = some (.int .i64 k) ∧ w1.cell? ⟨w.heap.size, 1, none⟩ = some (.int .i64 n) ∧ w1.cell? ⟨w.heap.size, 2, none⟩ = some (.string s) ∧ w1.cell? ⟨w.heap.size + 1, 0, none⟩ = some (.int .i64 k') ∧ w1.cell? ⟨w.heap.size + 1, 1, none⟩ = some (.int .i64 n') ∧ w1.cell? ⟨w.heap.size + 1, 2, none⟩ = some (.string s') ∧ w.heap.size + 1 < w1.heap.size := by
    obtain ⟨hc1, _⟩ := bcell hb1
    refine ⟨?_, ?_, ?_, ?_, ?_, ?_, ?_⟩
    iterate 6 (rw [hc1 _ _ (by simp <;> omega)]; simp [go_sem])
    have := hb1.size; simp at this; omega
  have hb1' : Below w.heap.size w w1 := below_via (by go_grown) hb1
  obtain ⟨c0, c1, c2, d0, d1, d2, hz1⟩ := hc
  have H1 := hide hb1'
  clear hb1 hb1'
  by_cases h3 : (1048576 : Int) - s.size < 0
  · simp only [h3, if_true]
    go_wp2_with fail
    all_goals go_ret
    all_goals exact ⟨rfl, below_via H1.out (by go_grown)⟩
  · simp only [h3, if_false]
    go_wp2_with fail
    refine (szValueC _ _ _ _ _ (by omega) (by omega) ws').mono ?_
    rintro e w2 ⟨rfl, hb2⟩
    obtain ⟨hc2, hz2⟩ := bcell hb2
    rw [← hc2 _ _ (by omega)] at c0 c1 c2 d0 d1 d2
    have hz2 : w.heap.size + 1 < w2.heap.size := by have := hb2.size; omega
    have H2 := hide hb2
    clear hb2 hc2 hz1
    by_cases h4 : (1048576 : Int) - s.size - s'.size < 0
    · simp only [h4, if_true]
      go_wp2_with fail
      all_goals go_ret
      all_goals exact ⟨rfl, below_via (below_via H1.out H2.out) (by go_grown)⟩
    · simp only [h4, if_false]
      go_wp2_with fail
      generalize hbb : w.heap.size + 1 = bb at d0 d1 d2 hz2 ⊢
      have hz3 : w.heap.size < w2.heap.size := by omega
      generalize hba : w.heap.size = ba at c0 c1 c2 hz3 ⊢
      have HB := hide (Below.refl w2.heap.size w2)
      go_cut [8, 9] from 22 to 48 (fun s8 s9 wx => ∃ b, w2.heap.size ≤ b ∧ b < wx.heap.size ∧ s8 = .pointer (some ⟨b, 0, none⟩) ∧ s9 = .int .i64 (clE op k n s k' n' s') ∧ wx.cell? ⟨b, 0, none⟩ = some (.int .i64 (clK op k n s k' n' s')) ∧ wx.cell? ⟨b, 1, none⟩ = some (.int .i64 (clN op k n s k' n' s')) ∧ wx.cell? ⟨b, 2, none⟩ = some (.string (clS op k n s k' n' s')) ∧ Below w2.heap.size w2 wx)
      case first =>
        go_region_with (first
          | (go_at_call 24; refine (toValueC _ _ _ _).mono ?_; rintro e wz ⟨rfl, hbz⟩; replace c0 := carry_cell hbz (b := ba) (o := 0) (r := some (.int .i64 k)) (by first | assumption | go_simp) (by first | assumption | (simp <;> omega)); replace c1 := carry_cell hbz (b := ba) (o := 1) (r := some (.int .i64 n)) (by first | assumption | go_simp) (by first | assumption | (simp <;> omega)); replace c2 := carry_cell hbz (b := ba) (o := 2) (r := some (.string s)) (by first | assumption | go_simp) (by first | assumption | (simp <;> omega)); replace d0 := carry_cell hbz (b := bb) (o := 0) (r := some (.int .i64 k')) (by first | assumption | go_simp) (by first | assumption | (simp <;> omega)); replace d1 := carry_cell hbz (b := bb) (o := 1) (r := some (.int .i64 n')) (by first | assumption | go_simp) (by first | assumption | (simp <;> omega)); replace d2 := carry_cell hbz (b := bb) (o := 2) (r := some (.string s')) (by first | assumption | go_simp) (by first | assumption | (simp <;> omega)); replace hz2 := carry_size hbz (b := bb) (by first | assumption | (simp <;> omega)); replace hz3 := carry_size hbz (b := ba) (by first | assumption | (simp <;> omega)); (try (replace z0 := carry_cell hbz z0 zs)); (try (replace z1 := carry_cell hbz z1 zs)); (try (replace z2 := carry_cell hbz z2 zs)); (try (replace f0 := carry_frozen hbz f0 zs)); (try (replace f1 := carry_frozen hbz f1 zs)); (try (replace f2 := carry_frozen hbz f2 zs)); (try (replace zs := carry_size hbz zs)); (first | (have hk := kept3 hbz; obtain ⟨z0, z1, z2, f0, f1, f2, zs⟩ := hk) | (have hk := kept3d hbz; obtain ⟨z0, z1, z2, f0, f1, f2, zs⟩ := hk) | skip); replace HB := hide (below_via (below_via HB.out (by go_grown)) hbz); have hsz := HB.out.size; clear hbz)
          | (go_at_call 47; refine (specCalc _ _ _ _ _ _ _ _ ws ws' wn wn').mono ?_; rintro e wz ⟨rfl, hbz⟩; replace c0 := carry_cell hbz (b := ba) (o := 0) (r := some (.int .i64 k)) (by first | assumption | go_simp) (by first | assumption | (simp <;> omega)); replace c1 := carry_cell hbz (b := ba) (o := 1) (r := some (.int .i64 n)) (by first | assumption | go_simp) (by first | assumption | (simp <;> omega)); replace c2 := carry_cell hbz (b := ba) (o := 2) (r := some (.string s)) (by first | assumption | go_simp) (by first | assumption | (simp <;> omega)); replace d0 := carry_cell hbz (b := bb) (o := 0) (r := some (.int .i64 k')) (by first | assumption | go_simp) (by first | assumption | (simp <;> omega)); replace d1 := carry_cell hbz (b := bb) (o := 1) (r := some (.int .i64 n')) (by first | assumption | go_simp) (by first | assumption | (simp <;> omega)); replace d2 := carry_cell hbz (b := bb) (o := 2) (r := some (.string s')) (by first | assumption | go_simp) (by first | assumption | (simp <;> omega)); replace hz2 := carry_size hbz (b := bb) (by first | assumption | (simp <;> omega)); replace hz3 := carry_size hbz (b := ba) (by first | assumption | (simp <;> omega)); (try (replace z0 := carry_cell hbz z0 zs)); (try (replace z1 := carry_cell hbz z1 zs)); (try (replace z2 := carry_cell hbz z2 zs)); (try (replace f0 := carry_frozen hbz f0 zs)); (try (replace f1 := carry_frozen hbz f1 zs)); (try (replace f2 := carry_frozen hbz f2 zs)); (try (replace zs := carry_size hbz zs)); (first | (have hk := kept3 hbz; obtain ⟨z0, z1, z2, f0, f1, f2, zs⟩ := hk) | (have hk := kept3d hbz; obtain ⟨z0, z1, z2, f0, f1, f2, zs⟩ := hk) | skip); replace HB := hide (below_via (below_via HB.out (by go_grown)) hbz); have hsz := HB.out.size; clear hbz))
        all_goals go_wp2_with fail
        all_goals go_meet
        all_goals refine ⟨_, ?_, ?_, rfl, rfl, ?_, ?_, ?_, ?_⟩
        all_goals first
          | (have hHB := HB.out; go_grown; done)
          | (go_simp; done)
          | omega
          | (simp <;> omega)
      case rest =>
        obtain ⟨bg, hb, hbl, rfl, rfl, g0, g1, g2, HX⟩ := hcut
        rename World => w3
        replace c0 := carry_cell HX c0 hz3
        replace c1 := carry_cell HX c1 hz3
        replace c2 := carry_cell HX c2 hz3
        replace d0 := carry_cell HX d0 hz2
        replace d1 := carry_cell HX d1 hz2
        replace d2 := carry_cell HX d2 hz2
        replace hz2 := carry_size HX hz2
        replace hz3 := carry_size HX hz3
        have H3 := hide HX
        clear HX HB hb
        have HB := hide (Below.refl w3.heap.size w3)
        go_wp2_with fail
        go_cut [10, 11] from 22 to 48 (fun s10 s11 wx => ∃ b, w3.heap.size ≤ b ∧ b < wx.heap.size ∧ s10 = .pointer (some ⟨b, 0, none⟩) ∧ s11 = .int .i64 (clE op k n s k' n' s') ∧ wx.cell? ⟨b, 0, none⟩ = some (.int .i64 (clK op k n s k' n' s')) ∧ wx.cell? ⟨b, 1, none⟩ = some (.int .i64 (clN op k n s k' n' s')) ∧ wx.cell? ⟨b, 2, none⟩ = some (.string (clS op k n s k' n' s')) ∧ Below w3.heap.size w3 wx)
        case first =>
          go_region_with (first
            | (go_at_call 24; refine (toValueC _ _ _ _).mono ?_; rintro e wz ⟨rfl, hbz⟩; replace c0 := carry_cell hbz (b := ba) (o := 0) (r := some (.int .i64 k)) (by first | assumption | go_simp) (by first | assumption | (simp <;> omega)); replace c1 := carry_cell hbz (b := ba) (o := 1) (r := some (.int .i64 n)) (by first | assumption | go_simp) (by first | assumption | (simp <;> omega)); replace c2 := carry_cell hbz (b := ba) (o := 2) (r := some (.string s)) (by first | assumption | go_simp) (by first | assumption | (simp <;> omega)); replace d0 := carry_cell hbz (b := bb) (o := 0) (r := some (.int .i64 k')) (by first | assumption | go_simp) (by first | assumption | (simp <;> omega)); replace d1 := carry_cell hbz (b := bb) (o := 1) (r := some (.int .i64 n')) (by first | assumption | go_simp) (by first | assumption | (simp <;> omega)); replace d2 := carry_cell hbz (b := bb) (o := 2) (r := some (.string s')) (by first | assumption | go_simp) (by first | assumption | (simp <;> omega)); replace hz2 := carry_size hbz (b := bb) (by first | assumption | (simp <;> omega)); replace hz3 := carry_size hbz (b := ba) (by first | assumption | (simp <;> omega)); (try (replace z0 := carry_cell hbz z0 zs)); (try (replace z1 := carry_cell hbz z1 zs)); (try (replace z2 := carry_cell hbz z2 zs)); (try (replace f0 := carry_frozen hbz f0 zs)); (try (replace f1 := carry_frozen hbz f1 zs)); (try (replace f2 := carry_frozen hbz f2 zs)); (try (replace zs := carry_size hbz zs)); (first | (have hk := kept3 hbz; obtain ⟨z0, z1, z2, f0, f1, f2, zs⟩ := hk) | (have hk := kept3d hbz; obtain ⟨z0, z1, z2, f0, f1, f2, zs⟩ := hk) | skip); replace HB := hide (below_via (below_via HB.out (by go_grown)) hbz); have hsz := HB.out.size; clear hbz)
            | (go_at_call 48; refine (implCalc _ _ _ _ _ _ _ _ ws ws' wn wn').mono ?_; rintro e wz ⟨rfl, hbz⟩; replace c0 := carry_cell hbz (b := ba) (o := 0) (r := some (.int .i64 k)) (by first | assumption | go_simp) (by first | assumption | (simp <;> omega)); replace c1 := carry_cell hbz (b := ba) (o := 1) (r := some (.int .i64 n)) (by first | assumption | go_simp) (by first | assumption | (simp <;> omega)); replace c2 := carry_cell hbz (b := ba) (o := 2) (r := some (.string s)) (by first | assumption | go_simp) (by first | assumption | (simp <;> omega)); replace d0 := carry_cell hbz (b := bb) (o := 0) (r := some (.int .i64 k')) (by first | assumption | go_simp) (by first | assumption | (simp <;> omega)); replace d1 := carry_cell hbz (b := bb) (o := 1) (r := some (.int .i64 n')) (by first | assumption | go_simp) (by first | assumption | (simp <;> omega)); replace d2 := carry_cell hbz (b := bb) (o := 2) (r := some (.string s')) (by first | assumption | go_simp) (by first | assumption | (simp <;> omega)); replace hz2 := carry_size hbz (b := bb) (by first | assumption | (simp <;> omega)); replace hz3 := carry_size hbz (b := ba) (by first | assumption | (simp <;> omega)); (try (replace z0 := carry_cell hbz z0 zs)); (try (replace z1 := carry_cell hbz z1 zs)); (try (replace z2 := carry_cell hbz z2 zs)); (try (replace f0 := carry_frozen hbz f0 zs)); (try (replace f1 := carry_frozen hbz f1 zs)); (try (replace f2 := carry_frozen hbz f2 zs)); (try (replace zs := carry_size hbz zs)); (first | (have hk := kept3 hbz; obtain ⟨z0, z1, z2, f0, f1, f2, zs⟩ := hk) | (have hk := kept3d hbz; obtain ⟨z0, z1, z2, f0, f1, f2, zs⟩ := hk) | skip); replace HB := hide (below_via (below_via HB.out (by go_grown)) hbz); have hsz := HB.out.size; clear hbz))
          all_goals go_wp2_with fail
          all_goals go_meet
          all_goals refine ⟨_, ?_, ?_, rfl, rfl, ?_, ?_, ?_, ?_⟩
          all_goals first
            | (have hHB := HB.out; go_grown; done)
            | (go_simp; done)
            | omega
            | (simp <;> omega)
        case rest =>
          obtain ⟨bh, hb', hbl', rfl, rfl, x0, x1, x2, HX⟩ := hcut
          rename World => w4
          replace g0 := carry_cell HX g0 hbl
          replace g1 := carry_cell HX g1 hbl
          replace g2 := carry_cell HX g2 hbl
          have H4 := hide HX
          clear HX
          go_wp2_with go_in
          all_goals go_ret
          all_goals have hA : Below w.heap.size w w4 := below_via (below_via (below_via H1.out H2.out) H3.out) H4.out
          all_goals exact ⟨rfl, below_via hA (by go_grown)⟩
end Go.Proofs.Ytopmlhplkaoleaa
