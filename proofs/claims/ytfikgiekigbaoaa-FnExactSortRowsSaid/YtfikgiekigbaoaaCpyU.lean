/-
  The walk of copyRows: the copies may be written.
-/
import Derived.Test.YtfikgiekigbaoaaClnU
import Derived.Test.YtfikgiekigbaoaaCpyW
namespace Go.Proofs.Ytfikgiekigbaoaa
open Go Go.RowKit

set_option maxHeartbeats 4000000 in
set_option maxRecDepth 100000 in
theorem copyRowsUC {w0 w : World} (h00 : Below w0.heap.size w0 w) {xss : List (List ValF)} {a : Option Addr} (c : Nat) (h : RowP w0 0 1048576 1 (rvC w0 1048576) xss a) :
    Calls Try.prog 38 #[.slice a xss.length c] w (fun e w' => ∃ g c' ps, e = .returned (.slice (some ⟨g, 0, none⟩) ps.size c') ∧ CpU w w' (.slice (some ⟨g, 0, none⟩) ps.size c') ps xss) := by
  have hl := h.1
  have H := hide h
  have H0 := hide h00
  clear h h00
  obtain ⟨m, hm⟩ : ∃ m, Hid (xss.length = m) := ⟨_, rfl⟩
  rw [hm.out] at hl ⊢
  obtain ⟨i0, hi, hz0, hz1, hz2⟩ := info_parts Try.infoRv
  go_enter Try.func38, Try.ntmps38
  go_wp2_with fail
  go_loopw [3, 9] (fun x y wr => ∃ (j : Nat), y = .int .i64 (j : Int) ∧ j ≤ m ∧ ∃ g cc, x = .slice (some ⟨g, 0, none⟩) j cc ∧ Hid (∃ ps : Array Rw, ps.size = j ∧ CpU w wr (.slice (some ⟨g, 0, none⟩) j cc) ps (xss.take j))) (fun _ y _ => m - (intOf y).toNat)
  case atStart =>
    exact ⟨0, rfl, by omega, w.heap.size, 0, rfl, #[], rfl, ⟨by simp, World.ownsRow_made w #[] 0 (Nat.le_refl _) (by decide) rfl, ⟨_, _, rfl, fun i hi => absurd hi (by simp)⟩, (fun i hi => absurd hi (by simp)), (Below.refl w.heap.size w).alloc (Nat.le_refl _) _⟩, (fun p hp => by cases hp), List.Pairwise.nil⟩
  case round =>
    obtain ⟨j, rfl, hj, g, cc, rfl, HP⟩ := hrel
    by_cases hlt : j < m
    · have hlt2 : (j : Int) < m := by omega
      have hjx : j < xss.length := by have := hm.out; omega
      obtain ⟨ps, hps, hcp⟩ := HP.out
      clear HP
      obtain ⟨b, o, rfl, _, hb, hel⟩ := H.out.2 (by omega)
      obtain ⟨cs, ⟨ar, cr, rfl, hrow⟩, hat⟩ := hel j hjx
      have H0B := below_via H0.out hcp.cp.below
      have k0 := (hat.same (H0B.block b hb)) 0 (by simp)
      simp only [List.getElem_cons_zero, Nat.add_zero, Nat.mul_one] at k0
      have hC := hide (cloneUC H0B cr hrow)
      have HXS := hide (show xss.take (j + 1) = xss.take j ++ [xss[j]] by rw [List.take_succ_eq_append_getElem hjx])
      have HCP := hide hcp
      obtain ⟨xs, hxs⟩ : ∃ xs, xss[j] = xs := ⟨_, rfl⟩
      rw [hxs] at hC k0 HXS
      obtain ⟨k, hk⟩ : ∃ k, Hid (xs.length = k) := ⟨_, rfl⟩
      rw [hk.out] at hC k0
      have HPS := hide hps
      clear hat hel hb hrow H0B hcp hxs hps
      go_wp2_with fail
      refine hC.out.mono ?_
      rintro e w2 ⟨a', c', rfl, hr, hb2⟩
      have HR := hide (And.intro hr hb2)
      have hown2 := (HCP.out.cp.own.kept (grow_of_below hb2 none) (by simp [Value.ownBlock]))
      have hwz := (HCP.out.cp.below.size)
      have hwz2 := hb2.size
      rw [HPS.out] at hown2
      clear hr hb2 hC k0
      go_wp2_with (first | (at_builtin; refine wpList_append_own _ rfl _ _ 37 rfl w.heap.size 31 i0 (.slice none 0 0) 1 24 Try.underlying37 hi hz0 hz1 hz2 rfl (by decide) _ _ _ rfl (hown2.alloc _) ⟨w2.heap.size, 0, none⟩ 1 1 [.slice a' k c'] rfl rfl ?c1 ?c2 ?c3 ?c4 ?c5 ?_))
      case c1 =>
        intro j u hj
        match j, hj with
        | 0, hj => simp at hj; subst hj; simp [Addr.add, go_sem]
      case c2 => intro u hu; simp at hu; subst hu; rfl
      case c3 => unfold maxLen; omega
      case c4 => omega
      case c5 => simp; omega
      · intro v3 w3 hown3 hgrow3 hnil3
        have hfin : ∃ g3 c3, v3 = .slice (some ⟨g3, 0, none⟩) (j + 1) c3 ∧ Hid (∃ qs : Array Rw, qs.size = j + 1 ∧ CpU w w3 (.slice (some ⟨g3, 0, none⟩) (j + 1) c3) qs (xss.take (j + 1))) := by
          rw [← HPS.out, ← hk.out] at hown3
          have hst := CpU.step HCP.out HR.out.2 HR.out.1 hown3 hgrow3
          obtain ⟨g3, c3, e3, _⟩ := hst.cp.addr
          have hz : (ps.push (.slice a' xs.length c', xs)).size = j + 1 := by rw [Array.size_push, HPS.out]
          rw [hz] at e3
          refine ⟨g3, c3, e3, _, hz, ?_⟩
          rw [← e3, HXS.out]
          exact hst
        obtain ⟨g3, c3, rfl, HF⟩ := hfin
        clear hown3 hgrow3 hnil3 hown2 HR HCP HXS
        go_wp2_with fail
        go_roundw
        case rel => exact ⟨j + 1, by go_num, by omega, g3, c3, rfl, HF.out⟩
        case measure => simp [intOf]; omega
    · have hlt2 : ¬ (j : Int) < m := by omega
      have hjm : j = m := by omega
      go_wp2_with fail
      go_ret
      obtain ⟨ps, hps, hcp⟩ := HP.out
      rw [List.take_of_length_le (by have := hm.out; omega)] at hcp
      refine ⟨g, cc, ps, ?_, by rw [hps]; exact hcp⟩
      rw [hps, hjm]
      rfl
end Go.Proofs.Ytfikgiekigbaoaa
