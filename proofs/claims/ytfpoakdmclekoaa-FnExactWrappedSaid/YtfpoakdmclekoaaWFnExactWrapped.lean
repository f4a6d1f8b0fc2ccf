/-
  The walk of FnExactWrapped.
-/
import Derived.Test.YtfpoakdmclekoaaSz
import Derived.Test.YtfpoakdmclekoaaTos
import Derived.Test.YtfpoakdmclekoaaEqs
import Derived.Test.YtfpoakdmclekoaaWra
import Derived.Deep.RegionWith
namespace Go.Proofs.Ytfpoakdmclekoaa
open Go.RowKit

set_option maxRecDepth 100000 in
set_option maxHeartbeats 3200000 in
theorem fnExactWrapped.walk (x : Ex) (N : Nat) (ka : Option Addr) (kc : Nat) (sa : Option Addr) (sc : Nat) (i : Int) (w : World) (hx : ExB w 0 maxLen N x ka sa) (_wi : (Lit.int .i64 i).wf = true) :
    Calls Try.prog 7 #[.agg #[.int .i64 x.f.kind, .int .i64 x.f.op, .bool x.f.neg, .int .i64 x.f.vk, .int .i64 x.f.vn, .string x.f.vt, .string x.f.qual, .string x.f.name, .slice ka x.f.kids.length kc, .slice sa x.f.sub.length sc], .int .i64 i] w fun e w' => e = .returned (.bool true) ∧ Below w.heap.size w w' := by
  obtain ⟨va, hva⟩ : ∃ va, Hid (va = w.heap.size) := ⟨_, rfl⟩
  have hv := Blk.made w [.int .i64 x.f.kind, .int .i64 x.f.op, .bool x.f.neg, .int .i64 x.f.vk, .int .i64 x.f.vn, .string x.f.vt, .string x.f.qual, .string x.f.name, .slice ka x.f.kids.length kc, .slice sa x.f.sub.length sc] 27
  rw [← hva.out] at hv
  have HV := hide hv
  have HX := hide hx
  clear hv hx
  go_enter Try.func7, Try.ntmps7
  go_wp2_with fail
  (try rw [← hva.out])
  refine (szExprAll N w _ 0 x ka kc sa sc 1048576 (by go_grown) HX.out (by omega) (by omega)).mono ?_
  rintro e w1 ⟨⟨r, rfl, hr⟩, hb1⟩
  have HB1 := hide (below_via (show Below w.heap.size w _ by go_grown) hb1)
  have HV1 := hide (HV.out.below hb1)
  clear hb1
  rcases hr with hr | ⟨hr0, hr1, hx2⟩
  · go_wp2_with fail
    all_goals go_ret
    all_goals exact ⟨rfl, HB1.out⟩
  · have HX2 := hide hx2
    clear hx2
    have cc := HV1.out.cells
    have a0 := cc 0 (by simp)
    have a1 := cc 1 (by simp)
    have a2 := cc 2 (by simp)
    have a3 := cc 3 (by simp)
    have a4 := cc 4 (by simp)
    have a5 := cc 5 (by simp)
    have a6 := cc 6 (by simp)
    have a7 := cc 7 (by simp)
    have a8 := cc 8 (by simp)
    have a9 := cc 9 (by simp)
    simp only [Nat.zero_add, List.getElem_cons_zero, List.getElem_cons_succ] at a0 a1 a2 a3 a4 a5 a6 a7 a8 a9
    clear cc
    go_wp2_with fail
    refine (toExprAll N w _ 0 1048576 x ka kc sa sc HB1.out HX2.out (by omega)).mono ?_
    rintro e w2 ⟨ka1, kc1, sa1, sc1, rfl, hx3, hb2⟩
    have HX3 := hide (And.intro hx3 (Nat.le_refl 1048576))
    have HB2 := hide (below_via HB1.out hb2)
    have HV2 := hide (HV1.out.below hb2)
    clear hx3 hb2 a0 a1 a2 a3 a4 a5 a6 a7 a8 a9
    go_wp2_with fail
    refine (specWrapped kc1 sc1 i HX3.out.1 (by omega)).mono ?_
    rintro e w3 ⟨rfl, hb3⟩
    have HB3 := hide (below_via HB2.out hb3)
    have HV3 := hide (HV2.out.below hb3)
    clear hb3
    have cc := HV3.out.cells
    have a0 := cc 0 (by simp)
    have a1 := cc 1 (by simp)
    have a2 := cc 2 (by simp)
    have a3 := cc 3 (by simp)
    have a4 := cc 4 (by simp)
    have a5 := cc 5 (by simp)
    have a6 := cc 6 (by simp)
    have a7 := cc 7 (by simp)
    have a8 := cc 8 (by simp)
    have a9 := cc 9 (by simp)
    simp only [Nat.zero_add, List.getElem_cons_zero, List.getElem_cons_succ] at a0 a1 a2 a3 a4 a5 a6 a7 a8 a9
    clear cc
    go_wp2_with fail
    refine (toExprAll N w _ 0 1048576 x ka kc sa sc HB3.out HX2.out (by omega)).mono ?_
    rintro e w4 ⟨ka2, kc2, sa2, sc2, rfl, hx4, hb4⟩
    obtain ⟨vx, hvx⟩ : ∃ vx, Hid (vx = w4.heap.size) := ⟨_, rfl⟩
    have hv4 := Blk.made w4 [.int .i64 x.f.kind, .int .i64 x.f.op, .bool x.f.neg, .int .i64 x.f.vk, .int .i64 x.f.vn, .string x.f.vt, .string x.f.qual, .string x.f.name, .slice ka2 x.f.kids.length kc2, .slice sa2 x.f.sub.length sc2] 34
    rw [← hvx.out] at hv4
    have HV4 := hide (And.intro ((HV3.out.below hb4).alloc (.cells #[.int .i64 x.f.kind, .int .i64 x.f.op, .bool x.f.neg, .int .i64 x.f.vk, .int .i64 x.f.vn, .string x.f.vt, .string x.f.qual, .string x.f.name, .slice ka2 x.f.kids.length kc2, .slice sa2 x.f.sub.length sc2] 34)) (And.intro hv4 (And.intro (hx4.below ((Below.refl _ _).alloc (Nat.le_refl _) (.cells #[.int .i64 x.f.kind, .int .i64 x.f.op, .bool x.f.neg, .int .i64 x.f.vk, .int .i64 x.f.vn, .string x.f.vt, .string x.f.qual, .string x.f.name, .slice ka2 x.f.kids.length kc2, .slice sa2 x.f.sub.length sc2] 34))) ((below_via HB3.out hb4).alloc (below_via HB3.out hb4).size (.cells #[.int .i64 x.f.kind, .int .i64 x.f.op, .bool x.f.neg, .int .i64 x.f.vk, .int .i64 x.f.vn, .string x.f.vt, .string x.f.qual, .string x.f.name, .slice ka2 x.f.kids.length kc2, .slice sa2 x.f.sub.length sc2] 34)))))
    clear hb4 hx4 hv4 a0 a1 a2 a3 a4 a5 a6 a7 a8 a9
    go_wp2_with fail
    (try rw [← hvx.out])
    refine (implWrapped kc2 sc2 i HV4.out.2.2.1 (by omega)).mono ?_
    rintro e w5 ⟨rfl, hb5⟩
    have HV5 := hide (And.intro (HV4.out.1.below hb5) (And.intro (HV4.out.2.1.below hb5) (And.intro (HV4.out.2.2.1.below hb5) (below_via HV4.out.2.2.2 hb5))))
    clear hb5
    have cc := HV5.out.1.cells
    have a0 := cc 0 (by simp)
    have a1 := cc 1 (by simp)
    have a2 := cc 2 (by simp)
    have a3 := cc 3 (by simp)
    have a4 := cc 4 (by simp)
    have a5 := cc 5 (by simp)
    have a6 := cc 6 (by simp)
    have a7 := cc 7 (by simp)
    have a8 := cc 8 (by simp)
    have a9 := cc 9 (by simp)
    simp only [Nat.zero_add, List.getElem_cons_zero, List.getElem_cons_succ] at a0 a1 a2 a3 a4 a5 a6 a7 a8 a9
    clear cc
    have cc := HV5.out.2.1.cells
    have b0 := cc 0 (by simp)
    have b1 := cc 1 (by simp)
    have b2 := cc 2 (by simp)
    have b3 := cc 3 (by simp)
    have b4 := cc 4 (by simp)
    have b5 := cc 5 (by simp)
    have b6 := cc 6 (by simp)
    have b7 := cc 7 (by simp)
    have b8 := cc 8 (by simp)
    have b9 := cc 9 (by simp)
    simp only [Nat.zero_add, List.getElem_cons_zero, List.getElem_cons_succ] at b0 b1 b2 b3 b4 b5 b6 b7 b8 b9
    clear cc
    go_wp2_with fail
    go_region_with (first
      | (go_at_call 12; refine (toExprAll N w _ 0 1048576 x ka kc sa sc (by first | exact HV5.out.2.2.2 | exact HV5.out.2.2.2.drew) HX2.out (by omega)).mono ?_; rintro e wz ⟨kaz, kcz, saz, scz, rfl, hxz, hbz⟩; have hbw : Below w5.heap.size w5 wz := (by first | exact hbz | exact (below_via ((Below.refl w5.heap.size w5).drew) hbz)); have HZ := hide (And.intro hbw hxz); have hcz := (HV5.out.2.1.below hbw).cells; have d0 := hcz 0 (by simp); have d1 := hcz 1 (by simp); have d2 := hcz 2 (by simp); have d3 := hcz 3 (by simp); have d4 := hcz 4 (by simp); have d5 := hcz 5 (by simp); have d6 := hcz 6 (by simp); have d7 := hcz 7 (by simp); have d8 := hcz 8 (by simp); have d9 := hcz 9 (by simp); simp only [Nat.zero_add, List.getElem_cons_zero, List.getElem_cons_succ] at d0 d1 d2 d3 d4 d5 d6 d7 d8 d9; clear hbz hbw hxz hcz)
      | (go_at_call 14; refine (eqExprAll N _ _ _ _ 1048576 1048576 N x ka2 kc2 sa2 sc2 _ _ _ _ (Below.refl _ _) (HV5.out.2.2.1.below HZ.out.1) HZ.out.2 (by omega)).mono ?_; rintro e wy ⟨rfl, hby⟩; have HY := hide (below_via (below_via HV5.out.2.2.2 HZ.out.1) hby); clear hby))
    all_goals go_wp2_with fail
    all_goals go_ret
    all_goals exact ⟨rfl, HY.out⟩
end Go.Proofs.Ytfpoakdmclekoaa
