/-
  The walk of FnThird.
-/
import Derived.Test.YtnamikhhbedpeaaThirdA
import Derived.Test.YtnamikhhbedpeaaCarry
import Derived.Test.YtnamikhhbedpeaaQ
import Derived.Deep.CutRange
import Derived.Deep.RegionWith
namespace Go.Proofs.Ytnamikhhbedpeaa
open Go.RowKit Go.Lib

set_option maxRecDepth 100000 in
set_option maxHeartbeats 4000000 in
theorem fnThird.walk (a : Option Addr) (n c : Nat) (zs : List Int) (w : World) (w0 : IsRow .u8 w a n c zs) :
    Calls Try.prog 8 #[.slice a n c] w fun e w' => e = .returned (.bool true) ∧ Below w.heap.size w w' := by
  have hlen := w0.len_le
  by_cases hbig : 1048576 < n
  · go_enter Try.func8, Try.ntmps8
    go_wp2_with (go_at_call 13; refine (bigC _ _ _ hlen).mono ?_; rintro e w1 ⟨rfl, rfl⟩)
    all_goals go_ret
    all_goals exact ⟨rfl, by go_grown⟩
  · have HC := hide (Code.of_row w0 (by omega))
    go_enter Try.func8, Try.ntmps8
    go_wp2_with (go_at_call 13; refine (bigC _ _ _ hlen).mono ?_; rintro e w1 ⟨rfl, rfl⟩)
    refine (implBoolF _).mono ?_
    rintro e w1 ⟨rfl, hb1⟩
    have H1 := hide hb1
    clear hb1
    go_wp2_with fail
    refine (implBoolT _).mono ?_
    rintro e w2 ⟨rfl, hb⟩
    have H2 := hide (below_via H1.out hb)
    clear hb
    go_wp2_with fail
    refine (at0C c (HC.out.below (H2.out.alloc H2.out.size _)) 0 (by omega)).mono ?_
    rintro e w3 ⟨x, rfl, x0, x1, rfl⟩
    obtain ⟨i, hi⟩ : ∃ i : Nat, x % 3 = (i : Int) := ⟨(x % 3).toNat, by omega⟩
    have hi3 : i < 3 := by omega
    go_wp2_with fail
    refine (at0C c (HC.out.below (H2.out.alloc H2.out.size _)) 1 (by omega)).mono ?_
    rintro e w3 ⟨y, rfl, y0, y1, rfl⟩
    obtain ⟨k, hk⟩ : ∃ k : Nat, y % 3 = (k : Int) := ⟨(y % 3).toNat, by omega⟩
    have hk3 : k < 3 := by omega
    go_wp2_with fail
    generalize hW : w2.alloc _ = W
    have hcell : ∀ j : Nat, j < 3 → W.cell? ⟨w2.heap.size, j * 3, none⟩ = some (.int .i64 (tK j)) ∧ W.cell? ⟨w2.heap.size, j * 3 + 1, none⟩ = some (.int .i64 (tN j)) ∧ W.cell? ⟨w2.heap.size, j * 3 + 2, none⟩ = some (.string ByteArray.empty) := by
      intro j hj
      rw [← hW]
      match j, hj with
      | 0, _ => refine ⟨?_, ?_, ?_⟩ <;> (simp [go_sem]; try rfl)
      | 1, _ => refine ⟨?_, ?_, ?_⟩ <;> (simp [go_sem]; try rfl)
      | 2, _ => refine ⟨?_, ?_, ?_⟩ <;> (simp [go_sem]; try rfl)
    have hs0 : w2.heap.size < W.heap.size := by rw [← hW]; simp
    have HW := hide (show Below w.heap.size w W by rw [← hW]; exact H2.out.alloc H2.out.size _)
    have HT := hide hcell
    clear hW
    generalize w2.heap.size = tb at hcell HT hs0 ⊢
    obtain ⟨c0, c1, c2⟩ := hcell i hi3
    obtain ⟨d0, d1, d2⟩ := hcell k hk3
    clear hcell
    have hi4 : (i : Int) < 3 := by omega
    have hk4 : (k : Int) < 3 := by omega
    rw [hk]
    have HB := hide (Below.refl W.heap.size W)
    go_cut [6, 7] from 32 to 44 (fun s6 s7 wx => ∃ b, W.heap.size ≤ b ∧ b < wx.heap.size ∧ s6 = .pointer (some ⟨b, 0, none⟩) ∧ s7 = .int .i64 0 ∧ wx.cell? ⟨b, 0, none⟩ = some (.int .i64 (tK (min i k))) ∧ wx.cell? ⟨b, 1, none⟩ = some (.int .i64 (tN (min i k))) ∧ wx.cell? ⟨b, 2, none⟩ = some (.string ByteArray.empty) ∧ Below W.heap.size W wx)
    case first =>
      go_region_with (go_at_call 33; refine (thirdAnd i k _ hi3 hk3).mono ?_; rintro e wz ⟨rfl, hbz⟩; (first | (have hkk := kept3 hbz; obtain ⟨z0, z1, z2, f0, f1, f2, zs⟩ := hkk) | (have hkk := kept3d hbz; obtain ⟨z0, z1, z2, f0, f1, f2, zs⟩ := hkk) | skip); replace HB := hide (below_via (below_via HB.out (by go_grown)) hbz); have hsz := HB.out.size; clear hbz)
      all_goals go_wp2_with fail
      all_goals go_meet
      all_goals refine ⟨_, ?_, ?_, rfl, rfl, ?_, ?_, ?_, ?_⟩
      all_goals first
        | (have hHB := HB.out; go_grown; done)
        | (go_simp; done)
        | omega
        | (simp <;> omega)
    case rest =>
      obtain ⟨bg, hb, hbl, rfl, rfl, g0, g1, g2, HX⟩ := hcut
      rename World => w4
      have HT4 := hide (fun (j : Nat) (hj : j < 3) => (⟨carry_cell HX (HT.out j hj).1 hs0, carry_cell HX (HT.out j hj).2.1 hs0, carry_cell HX (HT.out j hj).2.2 hs0⟩ : _ ∧ _ ∧ _))
      clear c0 c1 c2 d0 d1 d2
      obtain ⟨c0, c1, c2⟩ := HT4.out i hi3
      obtain ⟨d0, d1, d2⟩ := HT4.out k hk3
      replace hs0 := carry_size HX hs0
      have H4 := hide (below_via HW.out HX)
      clear HX HB hb
      go_wp2_with fail
      have HB := hide (Below.refl w4.heap.size w4)
      go_cut [8, 9] from 44 to 56 (fun s8 s9 wx => ∃ b, w4.heap.size ≤ b ∧ b < wx.heap.size ∧ s8 = .pointer (some ⟨b, 0, none⟩) ∧ s9 = .int .i64 0 ∧ wx.cell? ⟨b, 0, none⟩ = some (.int .i64 (tK (max i k))) ∧ wx.cell? ⟨b, 1, none⟩ = some (.int .i64 (tN (max i k))) ∧ wx.cell? ⟨b, 2, none⟩ = some (.string ByteArray.empty) ∧ Below w4.heap.size w4 wx)
      case first =>
        go_region_with (go_at_call 33; refine (thirdOr i k _ hi3 hk3).mono ?_; rintro e wz ⟨rfl, hbz⟩; (first | (have hkk := kept3 hbz; obtain ⟨z0, z1, z2, f0, f1, f2, zs⟩ := hkk) | (have hkk := kept3d hbz; obtain ⟨z0, z1, z2, f0, f1, f2, zs⟩ := hkk) | skip); replace HB := hide (below_via (below_via HB.out (by go_grown)) hbz); have hsz := HB.out.size; clear hbz)
        all_goals go_wp2_with fail
        all_goals go_meet
        all_goals refine ⟨_, ?_, ?_, rfl, rfl, ?_, ?_, ?_, ?_⟩
        all_goals first
          | (have hHB := HB.out; go_grown; done)
          | (go_simp; done)
          | omega
          | (simp <;> omega)
      case rest =>
        obtain ⟨bh, hb', hbl', rfl, rfl, o0, o1, o2, HX⟩ := hcut
        rename World => w5
        have HT5 := hide (fun (j : Nat) (hj : j < 3) => (⟨carry_cell HX (HT4.out j hj).1 hs0, carry_cell HX (HT4.out j hj).2.1 hs0, carry_cell HX (HT4.out j hj).2.2 hs0⟩ : _ ∧ _ ∧ _))
        replace g0 := carry_cell HX g0 hbl
        replace g1 := carry_cell HX g1 hbl
        replace g2 := carry_cell HX g2 hbl
        replace hbl := carry_size HX hbl
        clear c0 c1 c2 d0 d1 d2
        obtain ⟨c0, c1, c2⟩ := HT5.out i hi3
        obtain ⟨d0, d1, d2⟩ := HT5.out k hk3
        replace hs0 := carry_size HX hs0
        have H5 := hide (below_via H4.out HX)
        clear HX HB hb'
        go_wp2_with fail
        refine (thirdNot i _ hi3).mono ?_
        rintro e w6 ⟨rfl, hb⟩
        clear c0 c1 c2 d0 d1 d2
        replace g0 := carry_cell hb g0 hbl
        replace g1 := carry_cell hb g1 hbl
        replace g2 := carry_cell hb g2 hbl
        replace hbl := carry_size hb hbl
        replace o0 := carry_cell hb o0 hbl'
        replace o1 := carry_cell hb o1 hbl'
        replace o2 := carry_cell hb o2 hbl'
        replace hbl' := carry_size hb hbl'
        have HT6 := hide (fun (j : Nat) (hj : j < 3) => (⟨carry_cell hb (HT5.out j hj).1 hs0, carry_cell hb (HT5.out j hj).2.1 hs0, carry_cell hb (HT5.out j hj).2.2 hs0⟩ : _ ∧ _ ∧ _))
        replace hs0 := carry_size hb hs0
        clear HT5
        have H6 := hide (below_via H5.out hb)
        clear hb
        obtain ⟨d0, d1, d2⟩ := HT6.out k hk3
        go_wp2_with fail
        refine (thirdNot k _ hk3).mono ?_
        rintro e w7 ⟨rfl, hb⟩
        clear d0 d1 d2
        obtain ⟨x0, x1, x2, f0, f1, f2, xs⟩ := kept3 hb
        clear f0 f1 f2
        replace g0 := carryA_cell hb g0 hbl
        replace g1 := carryA_cell hb g1 hbl
        replace g2 := carryA_cell hb g2 hbl
        replace hbl := carryA_size hb hbl
        replace o0 := carryA_cell hb o0 hbl'
        replace o1 := carryA_cell hb o1 hbl'
        replace o2 := carryA_cell hb o2 hbl'
        replace hbl' := carryA_size hb hbl'
        have HT7 := hide (fun (j : Nat) (hj : j < 3) => (⟨carryA_cell hb (HT6.out j hj).1 hs0, carryA_cell hb (HT6.out j hj).2.1 hs0, carryA_cell hb (HT6.out j hj).2.2 hs0⟩ : _ ∧ _ ∧ _))
        replace hs0 := carryA_size hb hs0
        clear HT6
        have H7 := hide (below_via (below_via H6.out (by go_grown)) hb)
        generalize w6.heap.size = bx at x0 x1 x2 xs ⊢
        clear hb
        go_wp2_with fail
        refine (thirdNot (min i k) _ (by omega)).mono ?_
        rintro e w8 ⟨rfl, hb⟩
        obtain ⟨v0, v1, v2, f0, f1, f2, vs⟩ := kept3 hb
        clear f0 f1 f2
        replace g0 := carryA_cell hb g0 hbl
        replace g1 := carryA_cell hb g1 hbl
        replace g2 := carryA_cell hb g2 hbl
        replace hbl := carryA_size hb hbl
        replace o0 := carryA_cell hb o0 hbl'
        replace o1 := carryA_cell hb o1 hbl'
        replace o2 := carryA_cell hb o2 hbl'
        replace hbl' := carryA_size hb hbl'
        replace x0 := carryA_cell hb x0 xs
        replace x1 := carryA_cell hb x1 xs
        replace x2 := carryA_cell hb x2 xs
        replace xs := carryA_size hb xs
        have HT8 := hide (fun (j : Nat) (hj : j < 3) => (⟨carryA_cell hb (HT7.out j hj).1 hs0, carryA_cell hb (HT7.out j hj).2.1 hs0, carryA_cell hb (HT7.out j hj).2.2 hs0⟩ : _ ∧ _ ∧ _))
        replace hs0 := carryA_size hb hs0
        clear HT7
        have H8 := hide (below_via (below_via H7.out (by go_grown)) hb)
        generalize w7.heap.size = bv at v0 v1 v2 vs ⊢
        clear hb
        go_wp2_with fail
        refine (thirdOr (2 - i) (2 - k) _ (by omega) (by omega)).mono ?_
        rintro e w9 ⟨rfl, hb⟩
        obtain ⟨n0, n1, n2, f0, f1, f2, ns⟩ := kept3 hb
        clear f0 f1 f2
        replace g0 := carryA_cell hb g0 hbl
        replace g1 := carryA_cell hb g1 hbl
        replace g2 := carryA_cell hb g2 hbl
        replace hbl := carryA_size hb hbl
        replace o0 := carryA_cell hb o0 hbl'
        replace o1 := carryA_cell hb o1 hbl'
        replace o2 := carryA_cell hb o2 hbl'
        replace hbl' := carryA_size hb hbl'
        replace x0 := carryA_cell hb x0 xs
        replace x1 := carryA_cell hb x1 xs
        replace x2 := carryA_cell hb x2 xs
        replace xs := carryA_size hb xs
        replace v0 := carryA_cell hb v0 vs
        replace v1 := carryA_cell hb v1 vs
        replace v2 := carryA_cell hb v2 vs
        replace vs := carryA_size hb vs
        have HT9 := hide (fun (j : Nat) (hj : j < 3) => (⟨carryA_cell hb (HT8.out j hj).1 hs0, carryA_cell hb (HT8.out j hj).2.1 hs0, carryA_cell hb (HT8.out j hj).2.2 hs0⟩ : _ ∧ _ ∧ _))
        replace hs0 := carryA_size hb hs0
        clear HT8
        have H9 := hide (below_via (below_via H8.out (by go_grown)) hb)
        generalize w8.heap.size = bn at n0 n1 n2 ns ⊢
        clear hb
        have hmm : max (2 - i) (2 - k) = 2 - min i k := by omega
        rw [hmm]
        clear hmm
        have h012 : i = 0 ∨ i = 1 ∨ i = 2 := by omega
        have z0w : wrap64 0 = 0 := by simp [wrap64]
        have z0i : IntKind.i64.wrap 0 = 0 := by rw [IntKind.wrap_i64]; decide
        have z1w : wrap64 1 = 1 := by simp [wrap64]
        have z1i : IntKind.i64.wrap 1 = 1 := by rw [IntKind.wrap_i64]; decide
        have z2w : wrap64 2 = 2 := by simp [wrap64]
        have z2i : IntKind.i64.wrap 2 = 2 := by rw [IntKind.wrap_i64]; decide
        have e0K : tK 0 = 3 := rfl
        have e1K : tK 1 = 0 := rfl
        have e2K : tK 2 = 3 := rfl
        have e0N : tN 0 = 0 := rfl
        have e1N : tN 1 = 0 := rfl
        have e2N : tN 2 = 1 := rfl
        by_cases hki : (k : Int) < i
        · have hmin : min i k = k := by omega
          have hmax : max i k = i := by omega
          rw [hmin] at g0 g1 n0 n1 ⊢
          rw [hmax] at o0 o1
          clear hmin hmax
          rcases h012 with rfl | rfl | rfl
          · omega
          · simp only [Nat.reduceSub, e1K, e1N] at x0 x1 o0 o1 ⊢
            go_wp2_with fail
            generalize hWW : World.alloc _ _ = W1
            have q0 : W1.cell? ⟨w9.heap.size, 0, none⟩ = some (.int .i64 (tK (2 - k))) := by rw [← hWW]; simp [go_sem]; try rfl
            have q1 : W1.cell? ⟨w9.heap.size, 1, none⟩ = some (.int .i64 (tN (2 - k))) := by rw [← hWW]; simp [go_sem]; try rfl
            have q2 : W1.cell? ⟨w9.heap.size, 2, none⟩ = some (.string ByteArray.empty) := by rw [← hWW]; simp [go_sem]
            have hbW : Below w9.heap.size w9 W1 := by rw [← hWW]; go_grown
            have qs : w9.heap.size < W1.heap.size := by rw [← hWW]; simp
            have HW9 := hide (below_via H9.out hbW)
            clear hWW
            replace g0 := BelowOf.cell (carry_cell hbW g0 hbl) (carry_size hbW hbl)
            replace g1 := BelowOf.cell (carry_cell hbW g1 hbl) (carry_size hbW hbl)
            replace g2 := BelowOf.cell (carry_cell hbW g2 hbl) (carry_size hbW hbl)
            replace o0 := BelowOf.cell (carry_cell hbW o0 hbl') (carry_size hbW hbl')
            replace o1 := BelowOf.cell (carry_cell hbW o1 hbl') (carry_size hbW hbl')
            replace o2 := BelowOf.cell (carry_cell hbW o2 hbl') (carry_size hbW hbl')
            replace x0 := BelowOf.cell (carry_cell hbW x0 xs) (carry_size hbW xs)
            replace x1 := BelowOf.cell (carry_cell hbW x1 xs) (carry_size hbW xs)
            replace x2 := BelowOf.cell (carry_cell hbW x2 xs) (carry_size hbW xs)
            replace n0 := BelowOf.cell (carry_cell hbW n0 ns) (carry_size hbW ns)
            replace n1 := BelowOf.cell (carry_cell hbW n1 ns) (carry_size hbW ns)
            replace n2 := BelowOf.cell (carry_cell hbW n2 ns) (carry_size hbW ns)
            obtain ⟨t0, t1, t2⟩ := HT9.out 1 (by omega)
            replace t0 := BelowOf.cell (carry_cell hbW t0 hs0) (carry_size hbW hs0)
            replace t1 := BelowOf.cell (carry_cell hbW t1 hs0) (carry_size hbW hs0)
            replace t2 := BelowOf.cell (carry_cell hbW t2 hs0) (carry_size hbW hs0)
            simp only [Nat.reduceMul, Nat.reduceAdd, e1K, e1N] at t0 t1 t2
            obtain ⟨s0, s1, s2⟩ := HT9.out k (by omega)
            replace s0 := BelowOf.cell (carry_cell hbW s0 hs0) (carry_size hbW hs0)
            replace s1 := BelowOf.cell (carry_cell hbW s1 hs0) (carry_size hbW hs0)
            replace s2 := BelowOf.cell (carry_cell hbW s2 hs0) (carry_size hbW hs0)
            obtain ⟨r0, r1, r2⟩ := HT9.out 1 (by omega)
            replace r0 := BelowOf.cell (carry_cell hbW r0 hs0) (carry_size hbW hs0)
            replace r1 := BelowOf.cell (carry_cell hbW r1 hs0) (carry_size hbW hs0)
            replace r2 := BelowOf.cell (carry_cell hbW r2 hs0) (carry_size hbW hs0)
            simp only [Nat.reduceMul, Nat.reduceAdd, e1K, e1N] at r0 r1 r2
            replace q0 := BelowOf.cell q0 qs
            replace q1 := BelowOf.cell q1 qs
            replace q2 := BelowOf.cell q2 qs
            generalize w9.heap.size = bq at q0 q1 q2 ⊢
            clear hbW qs HT9
            refine wp_region_wq (by kernel_rfl) (by kernel_rfl) ?_
            repeat (refine WQ.step (fun K hK => ?_); go_simp; first | (refine hK _ ?_; clear hK K) | (apply Exists.intro; refine ⟨fun _ => ?_, hK _ ?_⟩; (go_at_call 35; exact Calls.below_of (specBoolF _)); clear hK K))
            refine WQ.nil ?_
            intro W2 hq2
            have HB2 := hide (below_via HW9.out (BelowOf.of hq2))
            clear hq2
            go_wp2_with fail
            all_goals go_ret
            all_goals exact ⟨rfl, HB2.out⟩
          · simp only [Nat.reduceSub, e0K, e2K, e0N, e2N] at x0 x1 o0 o1 ⊢
            go_wp2_with fail
            generalize hWW : World.alloc _ _ = W1
            have q0 : W1.cell? ⟨w9.heap.size, 0, none⟩ = some (.int .i64 (tK (2 - k))) := by rw [← hWW]; simp [go_sem]; try rfl
            have q1 : W1.cell? ⟨w9.heap.size, 1, none⟩ = some (.int .i64 (tN (2 - k))) := by rw [← hWW]; simp [go_sem]; try rfl
            have q2 : W1.cell? ⟨w9.heap.size, 2, none⟩ = some (.string ByteArray.empty) := by rw [← hWW]; simp [go_sem]
            have hbW : Below w9.heap.size w9 W1 := by rw [← hWW]; go_grown
            have qs : w9.heap.size < W1.heap.size := by rw [← hWW]; simp
            have HW9 := hide (below_via H9.out hbW)
            clear hWW
            replace g0 := BelowOf.cell (carry_cell hbW g0 hbl) (carry_size hbW hbl)
            replace g1 := BelowOf.cell (carry_cell hbW g1 hbl) (carry_size hbW hbl)
            replace g2 := BelowOf.cell (carry_cell hbW g2 hbl) (carry_size hbW hbl)
            replace o0 := BelowOf.cell (carry_cell hbW o0 hbl') (carry_size hbW hbl')
            replace o1 := BelowOf.cell (carry_cell hbW o1 hbl') (carry_size hbW hbl')
            replace o2 := BelowOf.cell (carry_cell hbW o2 hbl') (carry_size hbW hbl')
            replace x0 := BelowOf.cell (carry_cell hbW x0 xs) (carry_size hbW xs)
            replace x1 := BelowOf.cell (carry_cell hbW x1 xs) (carry_size hbW xs)
            replace x2 := BelowOf.cell (carry_cell hbW x2 xs) (carry_size hbW xs)
            replace n0 := BelowOf.cell (carry_cell hbW n0 ns) (carry_size hbW ns)
            replace n1 := BelowOf.cell (carry_cell hbW n1 ns) (carry_size hbW ns)
            replace n2 := BelowOf.cell (carry_cell hbW n2 ns) (carry_size hbW ns)
            obtain ⟨t0, t1, t2⟩ := HT9.out 2 (by omega)
            replace t0 := BelowOf.cell (carry_cell hbW t0 hs0) (carry_size hbW hs0)
            replace t1 := BelowOf.cell (carry_cell hbW t1 hs0) (carry_size hbW hs0)
            replace t2 := BelowOf.cell (carry_cell hbW t2 hs0) (carry_size hbW hs0)
            simp only [Nat.reduceMul, Nat.reduceAdd, e2K, e2N] at t0 t1 t2
            obtain ⟨s0, s1, s2⟩ := HT9.out k (by omega)
            replace s0 := BelowOf.cell (carry_cell hbW s0 hs0) (carry_size hbW hs0)
            replace s1 := BelowOf.cell (carry_cell hbW s1 hs0) (carry_size hbW hs0)
            replace s2 := BelowOf.cell (carry_cell hbW s2 hs0) (carry_size hbW hs0)
            obtain ⟨r0, r1, r2⟩ := HT9.out 0 (by omega)
            replace r0 := BelowOf.cell (carry_cell hbW r0 hs0) (carry_size hbW hs0)
            replace r1 := BelowOf.cell (carry_cell hbW r1 hs0) (carry_size hbW hs0)
            replace r2 := BelowOf.cell (carry_cell hbW r2 hs0) (carry_size hbW hs0)
            simp only [Nat.zero_mul, Nat.reduceAdd, e0K, e0N] at r0 r1 r2
            replace q0 := BelowOf.cell q0 qs
            replace q1 := BelowOf.cell q1 qs
            replace q2 := BelowOf.cell q2 qs
            generalize w9.heap.size = bq at q0 q1 q2 ⊢
            clear hbW qs HT9
            refine wp_region_wq (by kernel_rfl) (by kernel_rfl) ?_
            repeat (refine WQ.step (fun K hK => ?_); go_simp; first | (refine hK _ ?_; clear hK K) | (apply Exists.intro; refine ⟨fun _ => ?_, hK _ ?_⟩; (go_at_call 35; exact Calls.below_of (specBoolF _)); clear hK K))
            refine WQ.nil ?_
            intro W2 hq2
            have HB2 := hide (below_via HW9.out (BelowOf.of hq2))
            clear hq2
            go_wp2_with fail
            all_goals go_ret
            all_goals exact ⟨rfl, HB2.out⟩
        · have hmin : min i k = i := by omega
          have hmax : max i k = k := by omega
          rw [hmin] at g0 g1 n0 n1 ⊢
          rw [hmax] at o0 o1
          clear hmin hmax
          rcases h012 with rfl | rfl | rfl
          · simp only [Nat.sub_zero, e0K, e2K, e0N, e2N] at n0 n1 x0 x1 g0 g1 ⊢
            go_wp2_with fail
            generalize hWW : World.alloc _ _ = W1
            have q0 : W1.cell? ⟨w9.heap.size, 0, none⟩ = some (.int .i64 (tK (2 - 0))) := by rw [← hWW]; simp [go_sem]; try rfl
            have q1 : W1.cell? ⟨w9.heap.size, 1, none⟩ = some (.int .i64 (tN (2 - 0))) := by rw [← hWW]; simp [go_sem]; try rfl
            have q2 : W1.cell? ⟨w9.heap.size, 2, none⟩ = some (.string ByteArray.empty) := by rw [← hWW]; simp [go_sem]
            have hbW : Below w9.heap.size w9 W1 := by rw [← hWW]; go_grown
            have qs : w9.heap.size < W1.heap.size := by rw [← hWW]; simp
            have HW9 := hide (below_via H9.out hbW)
            clear hWW
            replace g0 := BelowOf.cell (carry_cell hbW g0 hbl) (carry_size hbW hbl)
            replace g1 := BelowOf.cell (carry_cell hbW g1 hbl) (carry_size hbW hbl)
            replace g2 := BelowOf.cell (carry_cell hbW g2 hbl) (carry_size hbW hbl)
            replace o0 := BelowOf.cell (carry_cell hbW o0 hbl') (carry_size hbW hbl')
            replace o1 := BelowOf.cell (carry_cell hbW o1 hbl') (carry_size hbW hbl')
            replace o2 := BelowOf.cell (carry_cell hbW o2 hbl') (carry_size hbW hbl')
            replace x0 := BelowOf.cell (carry_cell hbW x0 xs) (carry_size hbW xs)
            replace x1 := BelowOf.cell (carry_cell hbW x1 xs) (carry_size hbW xs)
            replace x2 := BelowOf.cell (carry_cell hbW x2 xs) (carry_size hbW xs)
            replace n0 := BelowOf.cell (carry_cell hbW n0 ns) (carry_size hbW ns)
            replace n1 := BelowOf.cell (carry_cell hbW n1 ns) (carry_size hbW ns)
            replace n2 := BelowOf.cell (carry_cell hbW n2 ns) (carry_size hbW ns)
            obtain ⟨t0, t1, t2⟩ := HT9.out 0 (by omega)
            replace t0 := BelowOf.cell (carry_cell hbW t0 hs0) (carry_size hbW hs0)
            replace t1 := BelowOf.cell (carry_cell hbW t1 hs0) (carry_size hbW hs0)
            replace t2 := BelowOf.cell (carry_cell hbW t2 hs0) (carry_size hbW hs0)
            simp only [Nat.zero_mul, Nat.reduceAdd, e0K, e0N] at t0 t1 t2
            obtain ⟨s0, s1, s2⟩ := HT9.out k (by omega)
            replace s0 := BelowOf.cell (carry_cell hbW s0 hs0) (carry_size hbW hs0)
            replace s1 := BelowOf.cell (carry_cell hbW s1 hs0) (carry_size hbW hs0)
            replace s2 := BelowOf.cell (carry_cell hbW s2 hs0) (carry_size hbW hs0)
            obtain ⟨r0, r1, r2⟩ := HT9.out 2 (by omega)
            replace r0 := BelowOf.cell (carry_cell hbW r0 hs0) (carry_size hbW hs0)
            replace r1 := BelowOf.cell (carry_cell hbW r1 hs0) (carry_size hbW hs0)
            replace r2 := BelowOf.cell (carry_cell hbW r2 hs0) (carry_size hbW hs0)
            simp only [Nat.reduceMul, Nat.reduceAdd, e2K, e2N] at r0 r1 r2
            replace q0 := BelowOf.cell q0 qs
            replace q1 := BelowOf.cell q1 qs
            replace q2 := BelowOf.cell q2 qs
            simp only [Nat.sub_zero, e2K, e2N] at q0 q1
            generalize w9.heap.size = bq at q0 q1 q2 ⊢
            clear hbW qs HT9
            refine wp_region_wq (by kernel_rfl) (by kernel_rfl) ?_
            repeat (refine WQ.step (fun K hK => ?_); go_simp; first | (refine hK _ ?_; clear hK K) | (apply Exists.intro; refine ⟨fun _ => ?_, hK _ ?_⟩; (go_at_call 35; exact Calls.below_of (specBoolT _)); clear hK K))
            refine WQ.nil ?_
            intro W2 hq2
            have HB2 := hide (below_via HW9.out (BelowOf.of hq2))
            clear hq2
            go_wp2_with fail
            all_goals go_ret
            all_goals exact ⟨rfl, HB2.out⟩
          · simp only [Nat.reduceSub, e1K, e1N] at n0 n1 x0 x1 g0 g1 ⊢
            go_wp2_with fail
            generalize hWW : World.alloc _ _ = W1
            have q0 : W1.cell? ⟨w9.heap.size, 0, none⟩ = some (.int .i64 (tK (2 - 1))) := by rw [← hWW]; simp [go_sem]; try rfl
            have q1 : W1.cell? ⟨w9.heap.size, 1, none⟩ = some (.int .i64 (tN (2 - 1))) := by rw [← hWW]; simp [go_sem]; try rfl
            have q2 : W1.cell? ⟨w9.heap.size, 2, none⟩ = some (.string ByteArray.empty) := by rw [← hWW]; simp [go_sem]
            have hbW : Below w9.heap.size w9 W1 := by rw [← hWW]; go_grown
            have qs : w9.heap.size < W1.heap.size := by rw [← hWW]; simp
            have HW9 := hide (below_via H9.out hbW)
            clear hWW
            replace g0 := BelowOf.cell (carry_cell hbW g0 hbl) (carry_size hbW hbl)
            replace g1 := BelowOf.cell (carry_cell hbW g1 hbl) (carry_size hbW hbl)
            replace g2 := BelowOf.cell (carry_cell hbW g2 hbl) (carry_size hbW hbl)
            replace o0 := BelowOf.cell (carry_cell hbW o0 hbl') (carry_size hbW hbl')
            replace o1 := BelowOf.cell (carry_cell hbW o1 hbl') (carry_size hbW hbl')
            replace o2 := BelowOf.cell (carry_cell hbW o2 hbl') (carry_size hbW hbl')
            replace x0 := BelowOf.cell (carry_cell hbW x0 xs) (carry_size hbW xs)
            replace x1 := BelowOf.cell (carry_cell hbW x1 xs) (carry_size hbW xs)
            replace x2 := BelowOf.cell (carry_cell hbW x2 xs) (carry_size hbW xs)
            replace n0 := BelowOf.cell (carry_cell hbW n0 ns) (carry_size hbW ns)
            replace n1 := BelowOf.cell (carry_cell hbW n1 ns) (carry_size hbW ns)
            replace n2 := BelowOf.cell (carry_cell hbW n2 ns) (carry_size hbW ns)
            obtain ⟨t0, t1, t2⟩ := HT9.out 1 (by omega)
            replace t0 := BelowOf.cell (carry_cell hbW t0 hs0) (carry_size hbW hs0)
            replace t1 := BelowOf.cell (carry_cell hbW t1 hs0) (carry_size hbW hs0)
            replace t2 := BelowOf.cell (carry_cell hbW t2 hs0) (carry_size hbW hs0)
            simp only [Nat.reduceMul, Nat.reduceAdd, e1K, e1N] at t0 t1 t2
            obtain ⟨s0, s1, s2⟩ := HT9.out k (by omega)
            replace s0 := BelowOf.cell (carry_cell hbW s0 hs0) (carry_size hbW hs0)
            replace s1 := BelowOf.cell (carry_cell hbW s1 hs0) (carry_size hbW hs0)
            replace s2 := BelowOf.cell (carry_cell hbW s2 hs0) (carry_size hbW hs0)
            obtain ⟨r0, r1, r2⟩ := HT9.out 1 (by omega)
            replace r0 := BelowOf.cell (carry_cell hbW r0 hs0) (carry_size hbW hs0)
            replace r1 := BelowOf.cell (carry_cell hbW r1 hs0) (carry_size hbW hs0)
            replace r2 := BelowOf.cell (carry_cell hbW r2 hs0) (carry_size hbW hs0)
            simp only [Nat.reduceMul, Nat.reduceAdd, e1K, e1N] at r0 r1 r2
            replace q0 := BelowOf.cell q0 qs
            replace q1 := BelowOf.cell q1 qs
            replace q2 := BelowOf.cell q2 qs
            simp only [Nat.reduceSub, e1K, e1N] at q0 q1
            generalize w9.heap.size = bq at q0 q1 q2 ⊢
            clear hbW qs HT9
            refine wp_region_wq (by kernel_rfl) (by kernel_rfl) ?_
            repeat (refine WQ.step (fun K hK => ?_); go_simp; first | (refine hK _ ?_; clear hK K) | (apply Exists.intro; refine ⟨fun _ => ?_, hK _ ?_⟩; (go_at_call 35; exact Calls.below_of (specBoolF _)); clear hK K))
            refine WQ.nil ?_
            intro W2 hq2
            have HB2 := hide (below_via HW9.out (BelowOf.of hq2))
            clear hq2
            go_wp2_with fail
            all_goals go_ret
            all_goals exact ⟨rfl, HB2.out⟩
          · simp only [Nat.reduceSub, e0K, e2K, e0N, e2N] at n0 n1 x0 x1 g0 g1 ⊢
            go_wp2_with fail
            generalize hWW : World.alloc _ _ = W1
            have q0 : W1.cell? ⟨w9.heap.size, 0, none⟩ = some (.int .i64 (tK (2 - 2))) := by rw [← hWW]; simp [go_sem]; try rfl
            have q1 : W1.cell? ⟨w9.heap.size, 1, none⟩ = some (.int .i64 (tN (2 - 2))) := by rw [← hWW]; simp [go_sem]; try rfl
            have q2 : W1.cell? ⟨w9.heap.size, 2, none⟩ = some (.string ByteArray.empty) := by rw [← hWW]; simp [go_sem]
            have hbW : Below w9.heap.size w9 W1 := by rw [← hWW]; go_grown
            have qs : w9.heap.size < W1.heap.size := by rw [← hWW]; simp
            have HW9 := hide (below_via H9.out hbW)
            clear hWW
            replace g0 := BelowOf.cell (carry_cell hbW g0 hbl) (carry_size hbW hbl)
            replace g1 := BelowOf.cell (carry_cell hbW g1 hbl) (carry_size hbW hbl)
            replace g2 := BelowOf.cell (carry_cell hbW g2 hbl) (carry_size hbW hbl)
            replace o0 := BelowOf.cell (carry_cell hbW o0 hbl') (carry_size hbW hbl')
            replace o1 := BelowOf.cell (carry_cell hbW o1 hbl') (carry_size hbW hbl')
            replace o2 := BelowOf.cell (carry_cell hbW o2 hbl') (carry_size hbW hbl')
            replace x0 := BelowOf.cell (carry_cell hbW x0 xs) (carry_size hbW xs)
            replace x1 := BelowOf.cell (carry_cell hbW x1 xs) (carry_size hbW xs)
            replace x2 := BelowOf.cell (carry_cell hbW x2 xs) (carry_size hbW xs)
            replace n0 := BelowOf.cell (carry_cell hbW n0 ns) (carry_size hbW ns)
            replace n1 := BelowOf.cell (carry_cell hbW n1 ns) (carry_size hbW ns)
            replace n2 := BelowOf.cell (carry_cell hbW n2 ns) (carry_size hbW ns)
            obtain ⟨t0, t1, t2⟩ := HT9.out 2 (by omega)
            replace t0 := BelowOf.cell (carry_cell hbW t0 hs0) (carry_size hbW hs0)
            replace t1 := BelowOf.cell (carry_cell hbW t1 hs0) (carry_size hbW hs0)
            replace t2 := BelowOf.cell (carry_cell hbW t2 hs0) (carry_size hbW hs0)
            simp only [Nat.reduceMul, Nat.reduceAdd, e2K, e2N] at t0 t1 t2
            obtain ⟨s0, s1, s2⟩ := HT9.out k (by omega)
            replace s0 := BelowOf.cell (carry_cell hbW s0 hs0) (carry_size hbW hs0)
            replace s1 := BelowOf.cell (carry_cell hbW s1 hs0) (carry_size hbW hs0)
            replace s2 := BelowOf.cell (carry_cell hbW s2 hs0) (carry_size hbW hs0)
            obtain ⟨r0, r1, r2⟩ := HT9.out 0 (by omega)
            replace r0 := BelowOf.cell (carry_cell hbW r0 hs0) (carry_size hbW hs0)
            replace r1 := BelowOf.cell (carry_cell hbW r1 hs0) (carry_size hbW hs0)
            replace r2 := BelowOf.cell (carry_cell hbW r2 hs0) (carry_size hbW hs0)
            simp only [Nat.zero_mul, Nat.reduceAdd, e0K, e0N] at r0 r1 r2
            replace q0 := BelowOf.cell q0 qs
            replace q1 := BelowOf.cell q1 qs
            replace q2 := BelowOf.cell q2 qs
            simp only [Nat.reduceSub, e0K, e0N] at q0 q1
            generalize w9.heap.size = bq at q0 q1 q2 ⊢
            clear hbW qs HT9
            refine wp_region_wq (by kernel_rfl) (by kernel_rfl) ?_
            repeat (refine WQ.step (fun K hK => ?_); go_simp; first | (refine hK _ ?_; clear hK K) | (apply Exists.intro; refine ⟨fun _ => ?_, hK _ ?_⟩; (go_at_call 35; exact Calls.below_of (specBoolF _)); clear hK K))
            refine WQ.nil ?_
            intro W2 hq2
            have HB2 := hide (below_via HW9.out (BelowOf.of hq2))
            clear hq2
            go_wp2_with fail
            all_goals go_ret
            all_goals exact ⟨rfl, HB2.out⟩
end Go.Proofs.Ytnamikhhbedpeaa
