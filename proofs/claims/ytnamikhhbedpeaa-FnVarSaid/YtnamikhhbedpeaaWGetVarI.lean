/-
  GetVar of the implementation.
-/
import Derived.Test.YtnamikhhbedpeaaRows
import Derived.WalkKit
import Derived.WalkLawsBesides
import Derived.WalkSpells
import Derived.Handy
import Derived.Deep.Light
import Derived.Test.YtnamikhhbedpeaaM1
import Derived.Test.YtnamikhhbedpeaaB
import Derived.Test.YtnamikhhbedpeaaQ
import Derived.Test.YtnamikhhbedpeaaWPutVar
import Derived.Test.YtnamikhhbedpeaaWGetVar
namespace Go.Proofs.Ytnamikhhbedpeaa
open Go.RowKit

theorem and127 (x : Nat) (h : x < 256) : x &&& 127 = x % 128 := by
  have : ∀ x : Fin 256, (x.val &&& 127) = x.val % 128 := by decide +kernel
  exact this ⟨x, h⟩

theorem bits_and_u8_127 (d : Nat) (h : d < 256) : bits .and .u8 (d : Int) 127 = ((d % 128 : Nat) : Int) := by
  rw [show (127 : Int) = ((127 : Nat) : Int) from rfl, u8_and_nat d 127 (by omega) (by omega), and127 d h]

theorem or_add (P u c : Nat) (n : Nat) (hP : P = 2 ^ n) (hu : u < P) : u ||| P * c = P * c + u := by
  subst hP
  rw [Nat.or_comm, ← Nat.two_pow_add_eq_or_of_lt hu]

theorem nu_parts (u e k : Nat) (hu : u < 2 ^ (7 * k)) (he : e < 128) (hk : k ≤ 9) : ∃ c, (e * 2 ^ (7 * k)) % 18446744073709551616 = 2 ^ (7 * k) * c ∧ (u + e * 2 ^ (7 * k)) % 18446744073709551616 = 2 ^ (7 * k) * c + u := by
  have h : k = 0 ∨ k = 1 ∨ k = 2 ∨ k = 3 ∨ k = 4 ∨ k = 5 ∨ k = 6 ∨ k = 7 ∨ k = 8 ∨ k = 9 := by omega
  rcases h with rfl | rfl | rfl | rfl | rfl | rfl | rfl | rfl | rfl | rfl
  iterate 9 (refine ⟨e, ?_, ?_⟩ <;> omega)
  refine ⟨e % 2, ?_, ?_⟩ <;> omega

theorem nu_impl (u d k : Nat) (hu : u < 2 ^ (7 * k)) (hk : k ≤ 9) : bits .or .u64 (u : Int) (IntKind.u64.wrap ((d : Int) % 128 * 2 ^ (7 * k))) = (nu u d k : Int) := by
  obtain ⟨c, h1, h2⟩ := nu_parts u (d % 128) k hu (by omega) hk
  have e : ((d : Int) % 128 * 2 ^ (7 * k)) = ((d % 128 * 2 ^ (7 * k) : Nat) : Int) := by push_cast; rfl
  have hP : (2 : Nat) ^ (7 * k) ≤ 9223372036854775808 := by
    have := Nat.pow_le_pow_right (show 0 < 2 by omega) (show 7 * k ≤ 63 by omega)
    simpa using this
  rw [e, IntKind.wrap_u64, nu]
  rw [show ((d % 128 * 2 ^ (7 * k) : Nat) : Int) % 18446744073709551616 = (((d % 128 * 2 ^ (7 * k)) % 18446744073709551616 : Nat) : Int) by omega]
  rw [u64_or_nat u _ (by omega) (Nat.mod_lt _ (by decide)), h1, h2, or_add _ u c (7 * k) rfl hu]

theorem nu_grow (u d k : Nat) (hu : u < 2 ^ (7 * k)) : nu u d k < 2 ^ (7 * (k + 1)) := by
  have e : (2 : Nat) ^ (7 * (k + 1)) = 2 ^ (7 * k) * 128 := by rw [show 7 * (k + 1) = 7 * k + 7 by omega, Nat.pow_add]
  have h1 : d % 128 * 2 ^ (7 * k) ≤ 127 * 2 ^ (7 * k) := Nat.mul_le_mul_right _ (by omega)
  have h2 : nu u d k ≤ u + d % 128 * 2 ^ (7 * k) := Nat.mod_le _ _
  omega

theorem wrap_succ1 (a k m z : Nat) (hm : m = a + k + 1) (h1 : m ≤ z) (h2 : z ≤ 1048576) : IntKind.i64.wrap ((a : Int) + (k : Int) + 1) = (m : Int) := by
  rw [IntKind.wrap_i64]
  omega

set_option maxRecDepth 100000 in
set_option maxHeartbeats 800000 in
theorem implGetVar (s : ByteArray) (at_ : Int) (w : World) (hs : s.size ≤ 1048576) (wa : at_ ≤ 9223372036854775807) :
    Calls Try.prog 27 #[.string s, .int .i64 at_] w fun e w' => e = .returned (.tuple #[.int .u64 ((gvI s at_).1 : Int), .int .i64 ((gvI s at_).2.1 : Int), .bool (gvI s at_).2.2]) ∧ Below w.heap.size w w' := by
  by_cases h0 : at_ < 0
  · go_enter Try.func27, Try.ntmps27
    go_wp2_with fail
    go_returns
    refine ⟨?_, by go_grown⟩
    rw [gvI, if_neg (by omega)]
    rfl
  by_cases h1 : (s.size : Int) ≤ at_
  · have h2 : 0 ≤ at_ := by omega
    have h3 : (s.size : Int) ≤ at_ := h1
    clear h0 h1
    go_enter Try.func27, Try.ntmps27
    go_wp2_with fail
    go_loopw [7, 8] (fun x y wr => x = .int .u64 0 ∧ y = .int .i64 at_ ∧ Below w.heap.size w wr) (fun _ _ _ => 0)
    case atStart => exact ⟨rfl, rfl, by go_grown⟩
    case round =>
      obtain ⟨rfl, rfl, hb⟩ := hrel
      have HB := hide hb
      clear hb
      go_wp2_with fail
      all_goals go_returns
      all_goals refine ⟨?_, HB.out⟩
      all_goals rw [gvI, if_pos h2, gvF, dif_neg (by omega)]
      all_goals rfl
  obtain ⟨a, rfl⟩ : ∃ a : Nat, at_ = a := ⟨at_.toNat, by omega⟩
  have ha : a < s.size := by omega
  clear h0 h1
  rw [show gvI s (a : Int) = gvF s a 0 0 by rw [gvI, if_pos (by omega)]; rfl]
  generalize hr : gvF s a 0 0 = r
  have HR := hide hr
  clear hr
  go_enter Try.func27, Try.ntmps27
  go_wp2_with fail
  go_loopw [7, 8] (fun x y wr => ∃ (u k : Nat), x = .int .u64 (u : Int) ∧ y = .int .i64 ((a : Int) + (k : Int)) ∧ k ≤ 10 ∧ Hid (k ≤ 9 → u < 2 ^ (7 * k)) ∧ Hid (gvF s a k u = r) ∧ Below w.heap.size w wr) (fun _ y _ => s.size + 1 - (intOf y).toNat)
  case atStart => exact ⟨0, 0, rfl, by simp, by omega, fun _ => by simp, HR.out, by go_grown⟩
  case round =>
    obtain ⟨u, k, rfl, rfl, hk, hu, hg, hb⟩ := hrel
    have HB := hide hb
    clear hb
    by_cases hl2 : a + k < s.size
    · by_cases hlt : k < 10
      · have hg' := hg.out
        rw [gvF, dif_pos ⟨hlt, hl2⟩] at hg'
        obtain ⟨d, hd⟩ : ∃ d, (s[a + k]'hl2).toNat = d := ⟨_, rfl⟩
        have hd2 : d < 256 := by rw [← hd]; exact UInt8.toNat_lt _
        rw [hd] at hg'
        have hak : (a : Int) + (k : Int) - (a : Int) = (k : Int) := by omega
        have hand : bits .and .u8 (d : Int) 127 = ((d % 128 : Nat) : Int) := bits_and_u8_127 d hd2
        have hw1 := wrap_u64_nat (d % 128) (by omega)
        have hw2 := nu_impl u d k (hu.out (by omega)) (by omega)
        by_cases hdl : d < 128
        · rw [if_pos hdl] at hg'
          obtain ⟨m, hm⟩ : ∃ m, Hid (m = a + k + 1) := ⟨_, rfl⟩
          have hm1 : m ≤ s.size := by rw [hm.out]; omega
          have hm2 : a ≤ m := by rw [hm.out]; omega
          have hq := wrap_succ1 a k m s.size hm.out hm1 (by omega)
          rw [← hm.out] at hg'
          cases hcmp : (pvf (nu u d k) == (s.extract a m).toList)
          · rw [hcmp, if_neg (by simp)] at hg'
            have HG := hide hg'
            clear hg' hg
            go_wp2_with fail
            refine wp_region_quiet_below (by kernel_rfl) (by kernel_rfl) ?_
            repeat (quiet_step (first | (go_at_call 26; exact Calls.below_of (implPutVar _ (nu_lt _ _ _) _))))
            refine wpQuiet_nil ?_
            intro W2 hq2
            have HB2 := hide (below_via HB.out (BelowOf.of hq2))
            clear hq2
            go_wp2_with fail
            all_goals go_returns
            all_goals refine ⟨?_, HB2.out⟩
            all_goals rw [← HG.out]
            all_goals rfl
          · rw [hcmp, if_pos rfl] at hg'
            have HG := hide hg'
            clear hg' hg
            go_wp2_with fail
            refine wp_region_quiet_below (by kernel_rfl) (by kernel_rfl) ?_
            repeat (quiet_step (first | (go_at_call 26; exact Calls.below_of (implPutVar _ (nu_lt _ _ _) _))))
            refine wpQuiet_nil ?_
            intro W2 hq2
            have HB2 := hide (below_via HB.out (BelowOf.of hq2))
            clear hq2
            go_wp2_with fail
            all_goals go_returns
            all_goals refine ⟨?_, HB2.out⟩
            all_goals rw [← HG.out]
            all_goals rfl
        · rw [if_neg hdl] at hg'
          have HG := hide hg'
          have hgrow := hide (nu_grow u d k (hu.out (by omega)))
          clear hg' hg
          go_wp2_with fail
          go_roundw
          case rel => exact ⟨nu u d k, k + 1, rfl, by go_num, by omega, fun _ => hgrow.out, HG.out, HB.out⟩
          case measure => simp [intOf]; omega
      · have hg' := hg.out
        rw [gvF, dif_neg (by omega)] at hg'
        have HG := hide hg'
        clear hg' hg
        go_wp2_with fail
        all_goals go_returns
        all_goals refine ⟨?_, HB.out⟩
        all_goals rw [← HG.out]
        all_goals rfl
    · have hg' := hg.out
      rw [gvF, dif_neg (by omega)] at hg'
      have HG := hide hg'
      clear hg' hg
      go_wp2_with fail
      all_goals go_returns
      all_goals refine ⟨?_, HB.out⟩
      all_goals rw [← HG.out]
      all_goals rfl
end Go.Proofs.Ytnamikhhbedpeaa
