/-
  The walk of FnExactSameStmt.
-/
import Derived.Test.YtfpoakdmclekoaaStSz
import Derived.Test.YtfpoakdmclekoaaStTo
import Derived.Test.YtfpoakdmclekoaaStEq
import Derived.Test.YtfpoakdmclekoaaStSp
import Derived.Test.YtfpoakdmclekoaaStIm
import Derived.Deep.RegionWith
import Derived.Deep.CutBlock
import Derived.Deep.DeepCutAuto
namespace Go.Proofs.Ytfpoakdmclekoaa
open Go.RowKit

set_option maxRecDepth 100000 in
set_option maxHeartbeats 12800000 in
theorem fnExactSameStmt.walk (x : StF) (N : Nat) (ia : Option Addr) (ic : Nat) (fa : Option Addr) (fc : Nat) (na : Option Addr) (nc : Nat) (oa : Option Addr) (oc : Nat) (ra : Option Addr) (rc : Nat) (ca : Option Addr) (cc : Nat) (ta : Option Addr) (tc : Nat) (ha : Option Addr) (hc : Nat) (y : StF) (N' : Nat) (ia' : Option Addr) (ic' : Nat) (fa' : Option Addr) (fc' : Nat) (na' : Option Addr) (nc' : Nat) (oa' : Option Addr) (oc' : Nat) (ra' : Option Addr) (rc' : Nat) (ca' : Option Addr) (cc' : Nat) (ta' : Option Addr) (tc' : Nat) (ha' : Option Addr) (hc' : Nat) (w : World) (hx : StB w 0 maxLen (ExB w 0 maxLen N) x ia fa na oa ra ca ta ha) (hy : StB w 0 maxLen (ExB w 0 maxLen N') y ia' fa' na' oa' ra' ca' ta' ha') :
    Calls Try.prog 8 #[.agg #[.int .i64 x.kind, .bool x.q.distinct, .slice ia x.q.items.length ic, .slice fa x.q.src.length fc, .slice na x.q.whr.length nc, .slice oa x.q.ord.length oc, .int .i64 x.q.limit, .string x.table, .slice ra x.rows.length rc, .slice ca x.cols.length cc, .slice ta x.sets.length tc, .slice ha x.whr.length hc], .agg #[.int .i64 y.kind, .bool y.q.distinct, .slice ia' y.q.items.length ic', .slice fa' y.q.src.length fc', .slice na' y.q.whr.length nc', .slice oa' y.q.ord.length oc', .int .i64 y.q.limit, .string y.table, .slice ra' y.rows.length rc', .slice ca' y.cols.length cc', .slice ta' y.sets.length tc', .slice ha' y.whr.length hc']] w fun e w' => e = .returned (.bool true) ∧ Below w.heap.size w w' := by
  obtain ⟨va, hva⟩ : ∃ va, Hid (va = w.heap.size) := ⟨_, rfl⟩
  obtain ⟨vb, hvb⟩ : ∃ vb, Hid (vb = w.heap.size + 1) := ⟨_, rfl⟩
  have hv := boxAt2 w [.int .i64 x.kind, .bool x.q.distinct, .slice ia x.q.items.length ic, .slice fa x.q.src.length fc, .slice na x.q.whr.length nc, .slice oa x.q.ord.length oc, .int .i64 x.q.limit, .string x.table, .slice ra x.rows.length rc, .slice ca x.cols.length cc, .slice ta x.sets.length tc, .slice ha x.whr.length hc] [.int .i64 y.kind, .bool y.q.distinct, .slice ia' y.q.items.length ic', .slice fa' y.q.src.length fc', .slice na' y.q.whr.length nc', .slice oa' y.q.ord.length oc', .int .i64 y.q.limit, .string y.table, .slice ra' y.rows.length rc', .slice ca' y.cols.length cc', .slice ta' y.sets.length tc', .slice ha' y.whr.length hc'] 59 59
  rw [← hvb.out, ← hva.out] at hv
  have hva2 : va < vb := by have := hva.out; have := hvb.out; omega
  have HV := hide (And.intro hv.1 (And.intro hv.2.1 (And.intro (Nat.lt_trans hva2 hv.2.2) hv.2.2)))
  have HX := hide hx
  have HY := hide hy
  clear hv hx hy hva2
  go_enter Try.func8, Try.ntmps8
  go_wp2_with fail
  (try rw [← hvb.out, ← hva.out])
  refine ((szStmtC (szExprAll N)) w _ 0 x ia ic fa fc na nc oa oc ra rc ca cc ta tc ha hc 1048576 (by go_grown) HX.out (by omega) (by omega)).mono ?_
  rintro e w1 ⟨⟨r, rfl, hr⟩, hb1⟩
  have HB1 := hide (below_via (show Below w.heap.size w _ by go_grown) hb1)
  have HV1 := hide (And.intro (HV.out.1.same (hb1.block va HV.out.2.2.1)) (And.intro (HV.out.2.1.same (hb1.block vb HV.out.2.2.2)) (And.intro (Nat.lt_of_lt_of_le HV.out.2.2.1 hb1.size) (Nat.lt_of_lt_of_le HV.out.2.2.2 hb1.size))))
  clear hb1
  rcases hr with hr | ⟨hr0, hr1, hx2⟩
  · go_wp2_with fail
    all_goals go_ret
    all_goals exact ⟨rfl, HB1.out⟩
  · have HX2 := hide hx2
    clear hx2
    have cc := HV1.out.2.1
    have b0 := cc 0 (by simp)
    have b1 := cc 1 (by simp)
    have b2 := cc 2 (by simp)
    have b3 := cc 3 (by simp)
    have b4 := cc 4 (by simp)
    have b5 := cc 5 (by simp)
    have b6 := cc 6 (by simp)
    have b7 := cc 7 (by simp)
    have b8 := cc 8 (by simp)
    have b9 := cc 9 (by simp)
    have b10 := cc 10 (by simp)
    have b11 := cc 11 (by simp)
    simp only [Nat.zero_add, List.getElem_cons_zero, List.getElem_cons_succ] at b0 b1 b2 b3 b4 b5 b6 b7 b8 b9 b10 b11
    clear cc
    go_wp2_with fail
    refine ((szStmtC (szExprAll N')) w _ 0 y ia' ic' fa' fc' na' nc' oa' oc' ra' rc' ca' cc' ta' tc' ha' hc' r HB1.out HY.out (by omega) (by omega)).mono ?_
    rintro e w2 ⟨⟨r2, rfl, hr2⟩, hb2⟩
    have HB2 := hide (below_via HB1.out hb2)
    have HV2 := hide (And.intro (HV1.out.1.same (hb2.block va HV1.out.2.2.1)) (And.intro (HV1.out.2.1.same (hb2.block vb HV1.out.2.2.2)) (And.intro (Nat.lt_of_lt_of_le HV1.out.2.2.1 hb2.size) (Nat.lt_of_lt_of_le HV1.out.2.2.2 hb2.size))))
    clear hb2 b0 b1 b2 b3 b4 b5 b6 b7 b8 b9 b10 b11
    rcases hr2 with hr2 | ⟨hr20, hr21, hy2⟩
    · go_wp2_with fail
      all_goals go_ret
      all_goals exact ⟨rfl, HB2.out⟩
    · have HY2 := hide hy2
      clear hy2
      have cc := HV2.out.1
      have a0 := cc 0 (by simp)
      have a1 := cc 1 (by simp)
      have a2 := cc 2 (by simp)
      have a3 := cc 3 (by simp)
      have a4 := cc 4 (by simp)
      have a5 := cc 5 (by simp)
      have a6 := cc 6 (by simp)
      have a7 := cc 7 (by simp)
      have a8 := cc 8 (by simp)
      have a9 := cc 9 (by simp)
      have a10 := cc 10 (by simp)
      have a11 := cc 11 (by simp)
      simp only [Nat.zero_add, List.getElem_cons_zero, List.getElem_cons_succ] at a0 a1 a2 a3 a4 a5 a6 a7 a8 a9 a10 a11
      clear cc
      have cc := HV2.out.2.1
      have b0 := cc 0 (by simp)
      have b1 := cc 1 (by simp)
      have b2 := cc 2 (by simp)
      have b3 := cc 3 (by simp)
      have b4 := cc 4 (by simp)
      have b5 := cc 5 (by simp)
      have b6 := cc 6 (by simp)
      have b7 := cc 7 (by simp)
      have b8 := cc 8 (by simp)
      have b9 := cc 9 (by simp)
      have b10 := cc 10 (by simp)
      have b11 := cc 11 (by simp)
      simp only [Nat.zero_add, List.getElem_cons_zero, List.getElem_cons_succ] at b0 b1 b2 b3 b4 b5 b6 b7 b8 b9 b10 b11
      clear cc
      have K0 := And.intro HB2.out HV2.out
      have hTX := fun (W : World) (h : Below w.heap.size w W) => (toStmtC (toExprAll N)) w W 0 1048576 x ia ic fa fc na nc oa oc ra rc ca cc ta tc ha hc h HX2.out (by omega)
      have hTY := fun (W : World) (h : Below w.heap.size w W) => (toStmtC (toExprAll N')) w W 0 1048576 y ia' ic' fa' fc' na' nc' oa' oc' ra' rc' ca' cc' ta' tc' ha' hc' h HY2.out (by omega)
      go_wp2_with fail
      go_cut [6] (fun s6 wx => s6 = .bool (sameB x y) ∧ Below w.heap.size w wx ∧ (cellsAt wx va 0 [.int .i64 x.kind, .bool x.q.distinct, .slice ia x.q.items.length ic, .slice fa x.q.src.length fc, .slice na x.q.whr.length nc, .slice oa x.q.ord.length oc, .int .i64 x.q.limit, .string x.table, .slice ra x.rows.length rc, .slice ca x.cols.length cc, .slice ta x.sets.length tc, .slice ha x.whr.length hc] ∧ cellsAt wx vb 0 [.int .i64 y.kind, .bool y.q.distinct, .slice ia' y.q.items.length ic', .slice fa' y.q.src.length fc', .slice na' y.q.whr.length nc', .slice oa' y.q.ord.length oc', .int .i64 y.q.limit, .string y.table, .slice ra' y.rows.length rc', .slice ca' y.cols.length cc', .slice ta' y.sets.length tc', .slice ha' y.whr.length hc'] ∧ va < wx.heap.size ∧ vb < wx.heap.size))
      case first =>
        go_region_with (first
          | (go_at_call 28; first
              | ((with_reducible refine (hTX _ (by first | exact K0.1 | exact K0.1.drew)).mono ?_); rintro e wz ⟨ia1, ic1, fa1, fc1, na1, nc1, oa1, oc1, ra1, rc1, ca1, cc1, ta1, tc1, ha1, hc1, rfl, hxz, hbz⟩; have hbw : Below w2.heap.size w2 wz := (by first | exact hbz | exact (below_via ((Below.refl w2.heap.size w2).drew) hbz)); have kb := below_via K0.1 hbw; have k1 := K0.2.1.same (hbw.block va K0.2.2.2.1); have k2 := K0.2.2.1.same (hbw.block vb K0.2.2.2.2); have k3 := Nat.lt_of_lt_of_le K0.2.2.2.1 hbw.size; have k4 := Nat.lt_of_lt_of_le K0.2.2.2.2 hbw.size; replace K0 := And.intro kb (And.intro k1 (And.intro k2 (And.intro k3 k4))); clear kb k1 k2 k3 k4; have HXA := hide hxz; clear hbz hbw hxz a0 a1 a2 a3 a4 a5 a6 a7 a8 a9 a10 a11 b0 b1 b2 b3 b4 b5 b6 b7 b8 b9 b10 b11; have cc := K0.2.2.1; have b0 := cc 0 (by simp); have b1 := cc 1 (by simp); have b2 := cc 2 (by simp); have b3 := cc 3 (by simp); have b4 := cc 4 (by simp); have b5 := cc 5 (by simp); have b6 := cc 6 (by simp); have b7 := cc 7 (by simp); have b8 := cc 8 (by simp); have b9 := cc 9 (by simp); have b10 := cc 10 (by simp); have b11 := cc 11 (by simp); simp only [Nat.zero_add, List.getElem_cons_zero, List.getElem_cons_succ] at b0 b1 b2 b3 b4 b5 b6 b7 b8 b9 b10 b11; clear cc)
              | ((with_reducible refine (hTY _ K0.1).mono ?_); rintro e wy ⟨ia2, ic2, fa2, fc2, na2, nc2, oa2, oc2, ra2, rc2, ca2, cc2, ta2, tc2, ha2, hc2, rfl, hyz, hby⟩; have kb := below_via K0.1 hby; have k1 := K0.2.1.same (hby.block va K0.2.2.2.1); have k2 := K0.2.2.1.same (hby.block vb K0.2.2.2.2); have k3 := Nat.lt_of_lt_of_le K0.2.2.2.1 hby.size; have k4 := Nat.lt_of_lt_of_le K0.2.2.2.2 hby.size; replace K0 := And.intro kb (And.intro k1 (And.intro k2 (And.intro k3 k4))); clear kb k1 k2 k3 k4; have HXB := hide (And.intro (HXA.out.below hby) hyz); clear hby hyz))
          | (go_at_call 27; refine ((spStmtC (spExprAll N)) _ _ _ _ 1048576 1048576 N' x y ia1 ic1 fa1 fc1 na1 nc1 oa1 oc1 ra1 rc1 ca1 cc1 ta1 tc1 ha1 hc1 ia2 ic2 fa2 fc2 na2 nc2 oa2 oc2 ra2 rc2 ca2 cc2 ta2 tc2 ha2 hc2 (Below.refl _ _) HXB.out.1 HXB.out.2 (by omega) (by omega)).mono ?_; rintro e wk ⟨rfl, hbc⟩; have kb := below_via K0.1 hbc; have k1 := K0.2.1.same (hbc.block va K0.2.2.2.1); have k2 := K0.2.2.1.same (hbc.block vb K0.2.2.2.2); have k3 := Nat.lt_of_lt_of_le K0.2.2.2.1 hbc.size; have k4 := Nat.lt_of_lt_of_le K0.2.2.2.2 hbc.size; replace K0 := And.intro kb (And.intro k1 (And.intro k2 (And.intro k3 k4))); clear kb k1 k2 k3 k4; clear hbc))
        all_goals (try go_wp2_with fail)
        all_goals go_meet
        all_goals exact ⟨rfl, K0⟩
      case rest =>
        obtain ⟨rfl, HB3, HV3⟩ := hcut
        have HB3 := hide HB3
        have HV3 := hide HV3
        clear hTX hTY a0 a1 a2 a3 a4 a5 a6 a7 a8 a9 a10 a11 b0 b1 b2 b3 b4 b5 b6 b7 b8 b9 b10 b11
        (try clear K0)
        have cc := HV3.out.1
        have a0 := cc 0 (by simp)
        have a1 := cc 1 (by simp)
        have a2 := cc 2 (by simp)
        have a3 := cc 3 (by simp)
        have a4 := cc 4 (by simp)
        have a5 := cc 5 (by simp)
        have a6 := cc 6 (by simp)
        have a7 := cc 7 (by simp)
        have a8 := cc 8 (by simp)
        have a9 := cc 9 (by simp)
        have a10 := cc 10 (by simp)
        have a11 := cc 11 (by simp)
        simp only [Nat.zero_add, List.getElem_cons_zero, List.getElem_cons_succ] at a0 a1 a2 a3 a4 a5 a6 a7 a8 a9 a10 a11
        clear cc
        go_wp2_with fail
        refine ((toStmtC (toExprAll N)) w _ 0 1048576 x ia ic fa fc na nc oa oc ra rc ca cc ta tc ha hc HB3.out HX2.out (by omega)).mono ?_
        rintro e w4 ⟨ia3, ic3, fa3, fc3, na3, nc3, oa3, oc3, ra3, rc3, ca3, cc3, ta3, tc3, ha3, hc3, rfl, hx4, hb4⟩
        have HB4 := hide (below_via HB3.out hb4)
        have HV4 := hide (And.intro (HV3.out.1.same (hb4.block va HV3.out.2.2.1)) (And.intro (HV3.out.2.1.same (hb4.block vb HV3.out.2.2.2)) (And.intro (Nat.lt_of_lt_of_le HV3.out.2.2.1 hb4.size) (Nat.lt_of_lt_of_le HV3.out.2.2.2 hb4.size))))
        have hal := (Below.refl w4.heap.size w4).alloc (Nat.le_refl _) (.cells #[.int .i64 x.kind, .bool x.q.distinct, .slice ia3 x.q.items.length ic3, .slice fa3 x.q.src.length fc3, .slice na3 x.q.whr.length nc3, .slice oa3 x.q.ord.length oc3, .int .i64 x.q.limit, .string x.table, .slice ra3 x.rows.length rc3, .slice ca3 x.cols.length cc3, .slice ta3 x.sets.length tc3, .slice ha3 x.whr.length hc3] 64)
        obtain ⟨vx, hvx⟩ : ∃ vx, Hid (vx = w4.heap.size) := ⟨_, rfl⟩
        have hbx := Blk.made w4 [.int .i64 x.kind, .bool x.q.distinct, .slice ia3 x.q.items.length ic3, .slice fa3 x.q.src.length fc3, .slice na3 x.q.whr.length nc3, .slice oa3 x.q.ord.length oc3, .int .i64 x.q.limit, .string x.table, .slice ra3 x.rows.length rc3, .slice ca3 x.cols.length cc3, .slice ta3 x.sets.length tc3, .slice ha3 x.whr.length hc3] 64
        rw [← hvx.out] at hbx
        have HX5 := hide (And.intro hbx (And.intro (hx4.below hal) (below_via HB4.out hal)))
        have HV5 := hide (And.intro (HV4.out.1.same (hal.block va HV4.out.2.2.1)) (And.intro (HV4.out.2.1.same (hal.block vb HV4.out.2.2.2)) (And.intro (Nat.lt_of_lt_of_le HV4.out.2.2.1 hal.size) (Nat.lt_of_lt_of_le HV4.out.2.2.2 hal.size))))
        clear hb4 hx4 hal hbx a0 a1 a2 a3 a4 a5 a6 a7 a8 a9 a10 a11
        have cc := HV5.out.2.1
        have b0 := cc 0 (by simp)
        have b1 := cc 1 (by simp)
        have b2 := cc 2 (by simp)
        have b3 := cc 3 (by simp)
        have b4 := cc 4 (by simp)
        have b5 := cc 5 (by simp)
        have b6 := cc 6 (by simp)
        have b7 := cc 7 (by simp)
        have b8 := cc 8 (by simp)
        have b9 := cc 9 (by simp)
        have b10 := cc 10 (by simp)
        have b11 := cc 11 (by simp)
        simp only [Nat.zero_add, List.getElem_cons_zero, List.getElem_cons_succ] at b0 b1 b2 b3 b4 b5 b6 b7 b8 b9 b10 b11
        clear cc
        go_wp2_with fail
        (try rw [← hvx.out])
        refine ((toStmtC (toExprAll N')) w _ 0 1048576 y ia' ic' fa' fc' na' nc' oa' oc' ra' rc' ca' cc' ta' tc' ha' hc' HX5.out.2.2 HY2.out (by omega)).mono ?_
        rintro e w6 ⟨ia4, ic4, fa4, fc4, na4, nc4, oa4, oc4, ra4, rc4, ca4, cc4, ta4, tc4, ha4, hc4, rfl, hy6, hb6⟩
        have HX6 := hide (And.intro (HX5.out.1.below hb6) (And.intro (HX5.out.2.1.below hb6) (below_via HX5.out.2.2 hb6)))
        have HV6 := hide (And.intro (HV5.out.1.same (hb6.block va HV5.out.2.2.1)) (And.intro (HV5.out.2.1.same (hb6.block vb HV5.out.2.2.2)) (And.intro (Nat.lt_of_lt_of_le HV5.out.2.2.1 hb6.size) (Nat.lt_of_lt_of_le HV5.out.2.2.2 hb6.size))))
        have hal := (Below.refl w6.heap.size w6).alloc (Nat.le_refl _) (.cells #[.int .i64 y.kind, .bool y.q.distinct, .slice ia4 y.q.items.length ic4, .slice fa4 y.q.src.length fc4, .slice na4 y.q.whr.length nc4, .slice oa4 y.q.ord.length oc4, .int .i64 y.q.limit, .string y.table, .slice ra4 y.rows.length rc4, .slice ca4 y.cols.length cc4, .slice ta4 y.sets.length tc4, .slice ha4 y.whr.length hc4] 64)
        obtain ⟨vy, hvy⟩ : ∃ vy, Hid (vy = w6.heap.size) := ⟨_, rfl⟩
        have hby := Blk.made w6 [.int .i64 y.kind, .bool y.q.distinct, .slice ia4 y.q.items.length ic4, .slice fa4 y.q.src.length fc4, .slice na4 y.q.whr.length nc4, .slice oa4 y.q.ord.length oc4, .int .i64 y.q.limit, .string y.table, .slice ra4 y.rows.length rc4, .slice ca4 y.cols.length cc4, .slice ta4 y.sets.length tc4, .slice ha4 y.whr.length hc4] 64
        rw [← hvy.out] at hby
        have HX7 := hide (And.intro (HX6.out.1.below hal) (And.intro (HX6.out.2.1.below hal) (And.intro hby (And.intro (hy6.below hal) (below_via HX6.out.2.2 hal)))))
        have HV7 := hide (And.intro (HV6.out.1.same (hal.block va HV6.out.2.2.1)) (And.intro (HV6.out.2.1.same (hal.block vb HV6.out.2.2.2)) (And.intro (Nat.lt_of_lt_of_le HV6.out.2.2.1 hal.size) (Nat.lt_of_lt_of_le HV6.out.2.2.2 hal.size))))
        have hvx6 := HX6.out.1.lt
        clear hb6 hy6 hal hby b0 b1 b2 b3 b4 b5 b6 b7 b8 b9 b10 b11
        have cc := HX6.out.1.cells
        have a0 := cc 0 (by simp)
        have a1 := cc 1 (by simp)
        have a2 := cc 2 (by simp)
        have a3 := cc 3 (by simp)
        have a4 := cc 4 (by simp)
        have a5 := cc 5 (by simp)
        have a6 := cc 6 (by simp)
        have a7 := cc 7 (by simp)
        have a8 := cc 8 (by simp)
        have a9 := cc 9 (by simp)
        have a10 := cc 10 (by simp)
        have a11 := cc 11 (by simp)
        simp only [Nat.zero_add, List.getElem_cons_zero, List.getElem_cons_succ] at a0 a1 a2 a3 a4 a5 a6 a7 a8 a9 a10 a11
        clear cc
        go_wp2_with fail
        (try rw [← hvy.out])
        refine ((imStmtC (imExprAll N)) _ _ _ _ 1048576 1048576 N' x y ia3 ic3 fa3 fc3 na3 nc3 oa3 oc3 ra3 rc3 ca3 cc3 ta3 tc3 ha3 hc3 ia4 ic4 fa4 fc4 na4 nc4 oa4 oc4 ra4 rc4 ca4 cc4 ta4 tc4 ha4 hc4 (Below.refl _ _) HX7.out.2.1 HX7.out.2.2.2.1 (by omega) (by omega)).mono ?_
        rintro e w8 ⟨rfl, hb8⟩
        have HX8 := hide (And.intro (HX7.out.1.below hb8) (And.intro (HX7.out.2.1.below hb8) (And.intro (HX7.out.2.2.1.below hb8) (And.intro (HX7.out.2.2.2.1.below hb8) (below_via HX7.out.2.2.2.2 hb8)))))
        have HV8 := hide (And.intro (HV7.out.1.same (hb8.block va HV7.out.2.2.1)) (And.intro (HV7.out.2.1.same (hb8.block vb HV7.out.2.2.2)) (And.intro (Nat.lt_of_lt_of_le HV7.out.2.2.1 hb8.size) (Nat.lt_of_lt_of_le HV7.out.2.2.2 hb8.size))))
        clear hb8 hvx6 a0 a1 a2 a3 a4 a5 a6 a7 a8 a9 a10 a11
        have cc := HV8.out.1
        have a0 := cc 0 (by simp)
        have a1 := cc 1 (by simp)
        have a2 := cc 2 (by simp)
        have a3 := cc 3 (by simp)
        have a4 := cc 4 (by simp)
        have a5 := cc 5 (by simp)
        have a6 := cc 6 (by simp)
        have a7 := cc 7 (by simp)
        have a8 := cc 8 (by simp)
        have a9 := cc 9 (by simp)
        have a10 := cc 10 (by simp)
        have a11 := cc 11 (by simp)
        simp only [Nat.zero_add, List.getElem_cons_zero, List.getElem_cons_succ] at a0 a1 a2 a3 a4 a5 a6 a7 a8 a9 a10 a11
        clear cc
        have cc := HX8.out.1.cells
        have b0 := cc 0 (by simp)
        have b1 := cc 1 (by simp)
        have b2 := cc 2 (by simp)
        have b3 := cc 3 (by simp)
        have b4 := cc 4 (by simp)
        have b5 := cc 5 (by simp)
        have b6 := cc 6 (by simp)
        have b7 := cc 7 (by simp)
        have b8 := cc 8 (by simp)
        have b9 := cc 9 (by simp)
        have b10 := cc 10 (by simp)
        have b11 := cc 11 (by simp)
        simp only [Nat.zero_add, List.getElem_cons_zero, List.getElem_cons_succ] at b0 b1 b2 b3 b4 b5 b6 b7 b8 b9 b10 b11
        clear cc
        go_wp2_with fail
        go_cut [39] (fun sr wx => sr = .bool false ∧ Below w8.heap.size w8 wx)
        case first =>
          go_region_with (first
            | (go_at_call 28; refine ((toStmtC (toExprAll N)) w _ 0 1048576 x ia ic fa fc na nc oa oc ra rc ca cc ta tc ha hc (by first | exact HX8.out.2.2.2.2 | exact (HX8.out.2.2.2.2).drew) HX2.out (by omega)).mono ?_; rintro e wz1 ⟨iaz, icz, faz, fcz, naz, ncz, oaz, ocz, raz, rcz, caz, ccz, taz, tcz, haz, hcz, rfl, hxz, hbz⟩; have hbw : Below w8.heap.size w8 wz1 := (by first | exact hbz | exact (below_via ((Below.refl w8.heap.size w8).drew) hbz)); have HZ1 := hide (And.intro hbw hxz); clear hbz hbw hxz a0 a1 a2 a3 a4 a5 a6 a7 a8 a9 a10 a11 b0 b1 b2 b3 b4 b5 b6 b7 b8 b9 b10 b11; have cc := (HX8.out.1.below HZ1.out.1).cells; have b0 := cc 0 (by simp); have b1 := cc 1 (by simp); have b2 := cc 2 (by simp); have b3 := cc 3 (by simp); have b4 := cc 4 (by simp); have b5 := cc 5 (by simp); have b6 := cc 6 (by simp); have b7 := cc 7 (by simp); have b8 := cc 8 (by simp); have b9 := cc 9 (by simp); have b10 := cc 10 (by simp); have b11 := cc 11 (by simp); simp only [Nat.zero_add, List.getElem_cons_zero, List.getElem_cons_succ] at b0 b1 b2 b3 b4 b5 b6 b7 b8 b9 b10 b11; clear cc)
            | (go_at_call 30; refine ((eqStmtC (eqExprAll N)) _ _ _ _ 1048576 1048576 N x ia3 ic3 fa3 fc3 na3 nc3 oa3 oc3 ra3 rc3 ca3 cc3 ta3 tc3 ha3 hc3 _ _ _ _ _ _ _ _ _ _ _ _ _ _ _ _ (Below.refl _ _) (HX8.out.2.1.below HZ1.out.1) HZ1.out.2 (by omega)).mono ?_; rintro e wy1 ⟨rfl, hby⟩; have HY11 := hide (below_via HZ1.out.1 hby); clear hby))
          all_goals (try go_wp2_with fail)
          all_goals go_meet
          all_goals exact ⟨rfl, HY11.out⟩
        case rest =>
          obtain ⟨rfl, HY11⟩ := hcut
          rename World => wx9
          have HY11 := hide HY11
          have HX9 := hide (And.intro (HX8.out.2.2.1.below HY11.out) (And.intro (HX8.out.2.2.2.1.below HY11.out) (below_via HX8.out.2.2.2.2 HY11.out)))
          have HV9 := hide (And.intro (HV8.out.1.same (HY11.out.block va HV8.out.2.2.1)) (And.intro (HV8.out.2.1.same (HY11.out.block vb HV8.out.2.2.2)) (And.intro (Nat.lt_of_lt_of_le HV8.out.2.2.1 HY11.out.size) (Nat.lt_of_lt_of_le HV8.out.2.2.2 HY11.out.size))))
          clear b0 b1 b2 b3 b4 b5 b6 b7 b8 b9 b10 b11
          have cc := HV9.out.2.1
          have a0 := cc 0 (by simp)
          have a1 := cc 1 (by simp)
          have a2 := cc 2 (by simp)
          have a3 := cc 3 (by simp)
          have a4 := cc 4 (by simp)
          have a5 := cc 5 (by simp)
          have a6 := cc 6 (by simp)
          have a7 := cc 7 (by simp)
          have a8 := cc 8 (by simp)
          have a9 := cc 9 (by simp)
          have a10 := cc 10 (by simp)
          have a11 := cc 11 (by simp)
          simp only [Nat.zero_add, List.getElem_cons_zero, List.getElem_cons_succ] at a0 a1 a2 a3 a4 a5 a6 a7 a8 a9 a10 a11
          clear cc
          have cc := HX9.out.1.cells
          have b0 := cc 0 (by simp)
          have b1 := cc 1 (by simp)
          have b2 := cc 2 (by simp)
          have b3 := cc 3 (by simp)
          have b4 := cc 4 (by simp)
          have b5 := cc 5 (by simp)
          have b6 := cc 6 (by simp)
          have b7 := cc 7 (by simp)
          have b8 := cc 8 (by simp)
          have b9 := cc 9 (by simp)
          have b10 := cc 10 (by simp)
          have b11 := cc 11 (by simp)
          simp only [Nat.zero_add, List.getElem_cons_zero, List.getElem_cons_succ] at b0 b1 b2 b3 b4 b5 b6 b7 b8 b9 b10 b11
          clear cc
          go_wp2_with fail
          go_cut [44] (fun sr wx => sr = .bool false ∧ Below wx9.heap.size wx9 wx)
          case first =>
            go_region_with (first
              | (go_at_call 28; refine ((toStmtC (toExprAll N')) w _ 0 1048576 y ia' ic' fa' fc' na' nc' oa' oc' ra' rc' ca' cc' ta' tc' ha' hc' (by first | exact HX9.out.2.2 | exact (HX9.out.2.2).drew) HY2.out (by omega)).mono ?_; rintro e wz2 ⟨iaz, icz, faz, fcz, naz, ncz, oaz, ocz, raz, rcz, caz, ccz, taz, tcz, haz, hcz, rfl, hxz, hbz⟩; have hbw : Below wx9.heap.size wx9 wz2 := (by first | exact hbz | exact (below_via ((Below.refl wx9.heap.size wx9).drew) hbz)); have HZ2 := hide (And.intro hbw hxz); clear hbz hbw hxz a0 a1 a2 a3 a4 a5 a6 a7 a8 a9 a10 a11 b0 b1 b2 b3 b4 b5 b6 b7 b8 b9 b10 b11; have cc := (HX9.out.1.below HZ2.out.1).cells; have b0 := cc 0 (by simp); have b1 := cc 1 (by simp); have b2 := cc 2 (by simp); have b3 := cc 3 (by simp); have b4 := cc 4 (by simp); have b5 := cc 5 (by simp); have b6 := cc 6 (by simp); have b7 := cc 7 (by simp); have b8 := cc 8 (by simp); have b9 := cc 9 (by simp); have b10 := cc 10 (by simp); have b11 := cc 11 (by simp); simp only [Nat.zero_add, List.getElem_cons_zero, List.getElem_cons_succ] at b0 b1 b2 b3 b4 b5 b6 b7 b8 b9 b10 b11; clear cc)
              | (go_at_call 30; refine ((eqStmtC (eqExprAll N')) _ _ _ _ 1048576 1048576 N' y ia4 ic4 fa4 fc4 na4 nc4 oa4 oc4 ra4 rc4 ca4 cc4 ta4 tc4 ha4 hc4 _ _ _ _ _ _ _ _ _ _ _ _ _ _ _ _ (Below.refl _ _) (HX9.out.2.1.below HZ2.out.1) HZ2.out.2 (by omega)).mono ?_; rintro e wy2 ⟨rfl, hby⟩; have HY12 := hide (below_via HZ2.out.1 hby); clear hby))
            all_goals (try go_wp2_with fail)
            all_goals go_meet
            all_goals exact ⟨rfl, HY12.out⟩
          case rest =>
            obtain ⟨rfl, HY12⟩ := hcut
            rename World => wx10
            have HY12 := hide HY12
            (try clear a0 a1 a2 a3 a4 a5 a6 a7 a8 a9 a10 a11 b0 b1 b2 b3 b4 b5 b6 b7 b8 b9 b10 b11)
            go_wp2_with fail
            all_goals go_ret
            all_goals exact ⟨by simp, below_via HX9.out.2.2 HY12.out⟩
end Go.Proofs.Ytfpoakdmclekoaa
