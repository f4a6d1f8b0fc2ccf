/-
  GetVar: what it reads.
-/
import Derived.Test.YtopmlhplkaoleaaRows
import Derived.WalkKit
import Derived.WalkLawsBesides
import Derived.WalkSpells
import Derived.Handy
import Derived.Deep.Light
import Derived.Test.YtopmlhplkaoleaaM1
import Derived.Test.YtopmlhplkaoleaaB
import Derived.Test.YtopmlhplkaoleaaQ
import Derived.Test.YtopmlhplkaoleaaWPutVar
namespace Go.Proofs.Ytopmlhplkaoleaa
open Go.RowKit

/-- One more group of seven bits. -/
def nu (u d k : Nat) : Nat := (u + d % 128 * 2 ^ (7 * k)) % 18446744073709551616
theorem nu_lt (u d k : Nat) : nu u d k < 18446744073709551616 := Nat.mod_lt _ (by decide)

def gvF (s : ByteArray) (a k u : Nat) : Nat × Nat × Bool :=
  if h : k < 10 ∧ a + k < s.size then
    (if (s[a + k]'h.2).toNat < 128 then
      (if (pvf (nu u (s[a + k]'h.2).toNat k) == (s.extract a (a + k + 1)).toList) = true then (nu u (s[a + k]'h.2).toNat k, a + k + 1, true) else (0, 0, false))
    else gvF s a (k + 1) (nu u (s[a + k]'h.2).toNat k))
  else (0, 0, false)
  termination_by 10 - k

def gvI (s : ByteArray) (x : Int) : Nat × Nat × Bool := if 0 ≤ x then gvF s x.toNat 0 0 else (0, 0, false)

theorem wrap_u64_nat (d : Nat) (h : d < 18446744073709551616) : IntKind.u64.wrap (d : Int) = (d : Int) := by rw [IntKind.wrap_u64]; omega

theorem nu_spec (u d k : Nat) : IntKind.u64.wrap ((u : Int) + IntKind.u64.wrap ((d : Int) % 128 * 2 ^ (7 * k))) = (nu u d k : Int) := by
  have e : ((d : Int) % 128 * 2 ^ (7 * k)) = ((d % 128 * 2 ^ (7 * k) : Nat) : Int) := by push_cast; rfl
  rw [e, IntKind.wrap_u64, IntKind.wrap_u64, nu]
  generalize d % 128 * 2 ^ (7 * k) = m
  omega

theorem l1InT (x lo hi : Int) (w : World) (h0 : lo ≤ x) (h1 : x ≤ hi) : Calls Try.prog 58 #[.int .i64 x, .int .i64 lo, .int .i64 hi] w fun e w' => e = .returned (.bool true) ∧ w = w' := by
  go_enter Try.func58, Try.ntmps58
  go_wp2
  all_goals go_ret
  all_goals refine ⟨ret_bool ?_, rfl⟩
  all_goals simp_all

theorem l1InF (x lo hi : Int) (w : World) (h : ¬ (lo ≤ x ∧ x ≤ hi)) : Calls Try.prog 58 #[.int .i64 x, .int .i64 lo, .int .i64 hi] w fun e w' => e = .returned (.bool false) ∧ w = w' := by
  by_cases h0 : lo ≤ x
  · have h1 : hi < x := by omega
    clear h
    go_enter Try.func58, Try.ntmps58
    go_wp2
    all_goals go_ret
    all_goals refine ⟨ret_bool ?_, rfl⟩
    all_goals first | rfl | (simp; omega)
  · have h0' : x < lo := by omega
    clear h h0
    go_enter Try.func58, Try.ntmps58
    go_wp2
    all_goals go_ret
    all_goals refine ⟨ret_bool ?_, rfl⟩
    all_goals first | rfl | (simp; omega)

theorem wrap_succ2 (a k m z : Nat) (hm : m = a + k + 1) (h1 : m ≤ z) (h2 : z ≤ 1048576) : IntKind.i64.wrap (IntKind.i64.wrap ((a : Int) + (k : Int)) + 1) = (m : Int) := by
  rw [IntKind.wrap_i64, IntKind.wrap_i64]
  omega

set_option maxRecDepth 100000 in
set_option maxHeartbeats 800000 in
theorem specGetVar (s : ByteArray) (at_ : Int) (w : World) (hs : s.size ≤ 1048576) :
    Calls Try.prog 26 #[.string s, .int .i64 at_] w fun e w' => e = .returned (.tuple #[.int .u64 ((gvI s at_).1 : Int), .int .i64 ((gvI s at_).2.1 : Int), .bool (gvI s at_).2.2]) ∧ Below w.heap.size w w' := by
  by_cases h0 : at_ < 0
  · go_enter Try.func26, Try.ntmps26
    go_wp2_with (go_at_call 58; refine (l1InF _ _ _ _ (by omega)).mono ?_; rintro e w1 ⟨rfl, rfl⟩)
    go_returns
    refine ⟨?_, by go_grown⟩
    rw [gvI, if_neg (by omega)]
    rfl
  by_cases h1 : (s.size : Int) < at_
  · go_enter Try.func26, Try.ntmps26
    go_wp2_with (go_at_call 58; refine (l1InF _ _ _ _ (by omega)).mono ?_; rintro e w1 ⟨rfl, rfl⟩)
    go_returns
    refine ⟨?_, by go_grown⟩
    rw [gvI, if_pos (by omega), gvF, dif_neg (by omega)]
    rfl
  obtain ⟨a, rfl⟩ : ∃ a : Nat, at_ = a := ⟨at_.toNat, by omega⟩
  have ha : a ≤ s.size := by omega
  clear h0 h1
  rw [show gvI s (a : Int) = gvF s a 0 0 by rw [gvI, if_pos (by omega)]; rfl]
  generalize hr : gvF s a 0 0 = r
  have HR := hide hr
  clear hr
  go_enter Try.func26, Try.ntmps26
  go_wp2_with (go_at_call 58; refine (l1InT _ _ _ _ (by omega) (by omega)).mono ?_; rintro e w1 ⟨rfl, rfl⟩)
  go_loopw [7, 8] (fun x y wr => ∃ (u k : Nat), x = .int .u64 (u : Int) ∧ y = .int .i64 k ∧ k ≤ 10 ∧ Hid (gvF s a k u = r) ∧ Below w.heap.size w wr) (fun _ y _ => 10 - (intOf y).toNat)
  case atStart => exact ⟨0, 0, rfl, rfl, by omega, HR.out, by go_grown⟩
  case round =>
    obtain ⟨u, k, rfl, rfl, hk, hg, hb⟩ := hrel
    have HB := hide hb
    clear hb
    by_cases hlt : k < 10
    · by_cases hl2 : a + k < s.size
      · have hg' := hg.out
        rw [gvF, dif_pos ⟨hlt, hl2⟩] at hg'
        obtain ⟨d, hd⟩ : ∃ d, (s[a + k]'hl2).toNat = d := ⟨_, rfl⟩
        have hd2 : d < 256 := by rw [← hd]; exact UInt8.toNat_lt _
        rw [hd] at hg'
        have hw1 := wrap_u64_nat d (by omega)
        have hw2 := nu_spec u d k
        by_cases hdl : d < 128
        · rw [if_pos hdl] at hg'
          obtain ⟨m, hm⟩ : ∃ m, Hid (m = a + k + 1) := ⟨_, rfl⟩
          have hm1 : m ≤ s.size := by rw [hm.out]; omega
          have hm2 : a ≤ m := by rw [hm.out]; omega
          have hq := wrap_succ2 a k m s.size hm.out hm1 (by omega)
          rw [← hm.out] at hg'
          cases hcmp : (pvf (nu u d k) == (s.extract a m).toList)
          · rw [hcmp, if_neg (by simp)] at hg'
            have HG := hide hg'
            clear hg' hg
            go_wp2_with fail
            refine wp_region_quiet_below (by kernel_rfl) (by kernel_rfl) ?_
            repeat (quiet_step (first | (go_at_call 59; exact Calls.below_of (specPutVar _ (nu_lt _ _ _) _))))
            refine wpQuiet_nil ?_
            intro W2 hq2
            have HB2 := hide (below_via HB.out (BelowOf.of hq2))
            clear hq2
            go_wp2_with fail
            all_goals go_returns
            all_goals refine ⟨?_, HB2.out⟩
            all_goals rw [← HG.out]
            all_goals rfl
          · rw [hcmp, if_pos rfl] at hg'
            have HG := hide hg'
            clear hg' hg
            go_wp2_with fail
            refine wp_region_quiet_below (by kernel_rfl) (by kernel_rfl) ?_
            repeat (quiet_step (first | (go_at_call 59; exact Calls.below_of (specPutVar _ (nu_lt _ _ _) _))))
            refine wpQuiet_nil ?_
            intro W2 hq2
            have HB2 := hide (below_via HB.out (BelowOf.of hq2))
            clear hq2
            go_wp2_with fail
            all_goals go_returns
            all_goals refine ⟨?_, HB2.out⟩
            all_goals rw [← HG.out]
            all_goals show Ending.returned (.tuple #[.int .u64 _, .int .i64 ((a : Int) + (k : Int) + 1), .bool true]) = _
            all_goals rw [show (a : Int) + (k : Int) + 1 = (m : Int) by have := hm.out; omega]
        · rw [if_neg hdl] at hg'
          have HG := hide hg'
          clear hg' hg
          go_wp2_with fail
          go_roundw
          case rel => exact ⟨nu u d k, k + 1, rfl, by go_num, by omega, HG.out, HB.out⟩
          case measure => simp [intOf]; omega
      · have hg' := hg.out
        rw [gvF, dif_neg (by omega)] at hg'
        have HG := hide hg'
        clear hg' hg
        go_wp2_with fail
        all_goals go_returns
        all_goals refine ⟨?_, HB.out⟩
        all_goals rw [← HG.out]
        all_goals rfl
    · have hg' := hg.out
      rw [gvF, dif_neg (by omega)] at hg'
      have HG := hide hg'
      clear hg' hg
      go_wp2_with fail
      all_goals go_returns
      all_goals refine ⟨?_, HB.out⟩
      all_goals rw [← HG.out]
      all_goals rfl
end Go.Proofs.Ytopmlhplkaoleaa
