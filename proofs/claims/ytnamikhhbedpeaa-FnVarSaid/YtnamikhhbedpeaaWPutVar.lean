/-
  PutVar's contracts (for the seats that do not hold its law).
-/
import Derived.Test.YtnamikhhbedpeaaRows
import Derived.WalkKit
import Derived.WalkLawsBesides
import Derived.WalkSpells
import Derived.Handy
import Derived.Test.YtnamikhhbedpeaaM1
import Derived.Test.YtnamikhhbedpeaaB
namespace Go.Proofs.Ytnamikhhbedpeaa
open Go.RowKit

def pvf (u : Nat) : List UInt8 := if u < 128 then [UInt8.ofNat u] else UInt8.ofNat (u % 128 + 128) :: pvf (u / 128)
  termination_by u
  decreasing_by omega

theorem pvf_len (k : Nat) : ∀ u, u < 128 ^ (k + 1) → (pvf u).length ≤ k + 1 ∧ 0 < (pvf u).length := by
  induction k with
  | zero => intro u h; rw [pvf, if_pos (by simpa using h)]; simp
  | succ k ih =>
    intro u h
    rw [pvf]
    split
    · simp
    · have := ih (u / 128) (by rw [Nat.pow_succ] at h; omega)
      simp; omega

theorem pvf_len64 (u : Nat) (h : u < 18446744073709551616) : (pvf u).length ≤ 10 :=
  (pvf_len 9 u (by omega)).1

theorem or128 (x : Nat) (h : x < 256) : x ||| 128 = x % 128 + 128 := by
  have : ∀ x : Fin 256, (x.val ||| 128) = x.val % 128 + 128 := by decide +kernel
  exact this ⟨x, h⟩

theorem bits_or_u8_128 (a : Int) (h0 : 0 ≤ a) (h1 : a < 256) : bits .or .u8 a 128 = a % 128 + 128 := by
  obtain ⟨n, rfl⟩ : ∃ n : Nat, a = n := ⟨a.toNat, by omega⟩
  rw [show (128 : Int) = ((128 : Nat) : Int) from rfl, u8_or_nat n 128 (by omega) (by omega), or128 n (by omega)]
  omega

theorem Try.info5 : (Try.prog.info? 5).map (fun i => (i.zero, i.size, i.bytes)) = some (some (.int .u8 0), 1, 1) := by kernel_rfl

set_option maxRecDepth 100000 in
set_option maxHeartbeats 400000 in
theorem implPutVar (u : Nat) (h : u < 18446744073709551616) (w : World) :
    Calls Try.prog 26 #[.int .u64 (u : Int)] w fun e w' => e = .returned (.string ⟨(pvf u).toArray⟩) ∧ Below w.heap.size w w' := by
  obtain ⟨i0, hi, hz0, hz1, hz2⟩ := info_parts Try.info5
  have hL := pvf_len64 u h
  have H0 := hide h
  clear h
  go_enter Try.func26, Try.ntmps26
  go_wp2
  go_loopw [0, 3] (fun x v wr => ∃ (a : Int) (pre : List UInt8), x = .int .u64 a ∧ 0 ≤ a ∧ Hid (a < 18446744073709551616) ∧ Hid (pre ++ pvf a.toNat = pvf u) ∧ pre.length ≤ 9 ∧ Hid (pre.length + (pvf a.toNat).length ≤ 10) ∧ wr.ownsRow w.heap.size 5 1 v pre.length (pre.map fun c => .int .u8 (c.toNat : Int)) ∧ v ≠ .slice none 0 0 ∧ Below w.heap.size w wr)
    (fun x _ _ => (intOf x).toNat)
  case atStart => exact ⟨u, [], rfl, by omega, by have := H0.out; show (u : Int) < _; omega, rfl, by simp, by show _ + _ ≤ 10; simpa using hL, World.ownsRow_made _ _ _ (by simp) (by decide) (by simp), by simp, by go_grown⟩
  case round =>
    obtain ⟨a, pre, rfl, ha0, HY, hpre, hl9, hlen, hown, hnn, hb⟩ := hrel
    by_cases hlt : a < 128
    · obtain ⟨c, hc⟩ : ∃ c : UInt8, Hid (c = UInt8.ofNat a.toNat ∧ (c.toNat : Int) = a) := ⟨_, rfl, by rw [toNat_ofNat_lt _ (by omega)]; omega⟩
      go_wp2_with (first | (at_builtin; refine wpList_append_own _ rfl _ _ 22 rfl w.heap.size 5 i0 (.int .u8 0) 1 1 Try.underlying22 hi hz0 hz1 hz2 rfl (by decide) _ _ _ rfl (hown.alloc _) ⟨wr.heap.size, 0, none⟩ 1 1 [.int .u8 (c.toNat : Int)] rfl rfl ?c1 ?c2 ?c3 ?c4 ?c5 ?_))
      case c1 =>
        intro j u hj
        match j, hj with
        | 0, hj => simp at hj; subst hj; simp [Addr.add]; exact hc.out.2.symm
      case c2 => intro u hu; simp at hu; subst hu; rfl
      case c3 => unfold maxLen; omega
      case c4 => omega
      case c5 => have := hb.size; simp; omega
      · intro v' w1 hown' hgrow hnil
        obtain ⟨g, cap, hv, hg1, hg2, hg3⟩ := owns_form hown' (by simpa using hnil)
        rw [hv] at hown' ⊢
        have hat : BytesAt w1 g (pre ++ [c]) := BytesAt.of_owns (e := 5) (n := pre.length + 1) (cap := cap) (by simpa using hown')
        have hcs := hat.string (P := Try.prog) 22 5 9 Try.underlying22 Try.underlying5 Try.underlying9 (pre.length + 1) cap (by simp)
        have hbel := Below.grown (hb.alloc (B := w.heap.size) hb.size _) hgrow (by have := hb.size; simp; omega) (fun k hk => (hown.lt k hk).1)
        have HB := hide hbel
        clear hown' hgrow hown hat hbel hb hv
        go_wp2
        go_ret
        refine ⟨?_, HB.out⟩
        have e1 : pre ++ [c] = pvf u := by
          rw [← hpre.out, pvf, if_pos (by omega), hc.out.1]
        rw [← e1]
        rfl
    · have hge : 128 ≤ a := by omega
      clear hlt
      obtain ⟨c, hc⟩ : ∃ c : UInt8, Hid (c = UInt8.ofNat (a.toNat % 128 + 128) ∧ (c.toNat : Int) = bits .or .u8 (IntKind.u8.wrap a) 128) := ⟨_, rfl, by rw [toNat_ofNat_lt _ (by omega), IntKind.wrap_u8, bits_or_u8_128 _ (by omega) (by omega)]; omega⟩
      go_wp2_with (first | (at_builtin; refine wpList_append_own _ rfl _ _ 22 rfl w.heap.size 5 i0 (.int .u8 0) 1 1 Try.underlying22 hi hz0 hz1 hz2 rfl (by decide) _ _ _ rfl (hown.alloc _) ⟨wr.heap.size, 0, none⟩ 1 1 [.int .u8 (c.toNat : Int)] rfl rfl ?d1 ?d2 ?d3 ?d4 ?d5 ?_))
      case d1 =>
        intro j u hj
        match j, hj with
        | 0, hj => simp at hj; subst hj; simp [Addr.add]; exact hc.out.2.symm
      case d2 => intro u hu; simp at hu; subst hu; rfl
      case d3 => unfold maxLen; omega
      case d4 => omega
      case d5 => have := hb.size; simp; omega
      · intro v' w1 hown' hgrow hnil
        have hbel := Below.grown (hb.alloc (B := w.heap.size) hb.size _) hgrow (by have := hb.size; simp; omega) (fun k hk => (hown.lt k hk).1)
        have HB := hide (And.intro hbel (And.intro hown' hnil))
        clear hown' hgrow hown hbel hb hnil
        go_wp2
        go_roundw
        case rel =>
          have e1 := hpre.out
          rw [pvf, if_neg (by omega)] at e1
          have e2 : (a / 128).toNat = a.toNat / 128 := by omega
          have e3 := hlen.out
          have e4 := (pvf_len 9 (a.toNat / 128) (by have := HY.out; omega)).2
          rw [pvf, if_neg (by omega)] at e3
          simp only [List.length_cons] at e3
          refine ⟨a / 128, pre ++ [c], by go_num, by omega, ?_, ?_, ?_, ?_, ?_, ?_, HB.out.1⟩
          · show a / 128 < _
            have := HY.out; omega
          · show (pre ++ [c]) ++ pvf (a / 128).toNat = pvf u
            rw [← e1, hc.out.1, e2]; simp
          · simp; omega
          · show (pre ++ [c]).length + (pvf (a / 128).toNat).length ≤ 10
            rw [e2]; simp; omega
          · simpa using HB.out.2.1
          · simpa using HB.out.2.2
        case measure => simp [intOf]; omega

end Go.Proofs.Ytnamikhhbedpeaa
