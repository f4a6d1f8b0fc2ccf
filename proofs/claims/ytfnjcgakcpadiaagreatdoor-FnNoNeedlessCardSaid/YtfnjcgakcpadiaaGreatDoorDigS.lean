/-
  The reference's Digits: the decimal numeral.
-/
import Derived.Test.YtfnjcgakcpadiaaGreatDoorRows
import Derived.WalkKit
import Derived.WalkLawsBesides
import Derived.WalkSpells
import Derived.Handy
import Derived.Lib.ItoaNum
import Derived.Test.YtfnjcgakcpadiaaGreatDoorGBase
namespace Go.Proofs.YtfnjcgakcpadiaaGreatDoor
open Go.RowKit

/-- The digits that are still to come. -/
def toCome (u : Nat) : List UInt8 := if u = 0 then [] else Lib.decDigits u
theorem toCome_step (u : Nat) (h : u ≠ 0) : toCome u = toCome (u / 10) ++ [UInt8.ofNat (48 + u % 10)] := by
  unfold toCome
  rw [if_neg h, Lib.decDigits]
  by_cases h10 : u < 10
  · rw [dif_pos h10, if_pos (by omega), Nat.mod_eq_of_lt h10]; rfl
  · rw [dif_neg h10, if_neg (by omega)]

theorem self_list (o : ByteArray) : o = ⟨(toCome (0 : Int).toNat ++ o.toList).toArray⟩ := by
  cases o with
  | mk d => rw [ByteArray.toList_eq]; simp [toCome]
theorem cons_list (c : UInt8) (o : ByteArray) : ((⟨#[c]⟩ : ByteArray) ++ o).toList = c :: o.toList := by
  rw [ByteArray.toList_eq, ByteArray.data_append, Array.toList_append, ← ByteArray.toList_eq (bs := o)]; rfl
theorem minus_list (l : List UInt8) : Ending.returned (.string ((⟨#[45]⟩ : ByteArray) ++ ⟨l.toArray⟩)) = Ending.returned (.string ⟨(45 :: l).toArray⟩) := by
  congr 2

set_option maxRecDepth 100000 in
set_option maxHeartbeats 1600000 in
theorem specDigitsPos (n : Nat) (hn : n ≤ 9223372036854775807) (h0 : n ≠ 0) (w : World) :
    Calls Tryz.prog 59 #[.int .i64 (n : Int)] w fun e w' => e = .returned (.string ⟨(Lib.itoa (n : Int)).toArray⟩) ∧ Below w.heap.size w w' := by
  have hit : Lib.itoa (n : Int) = toCome n := by
    unfold Lib.itoa toCome
    rw [if_neg (by omega), if_neg h0, Int.toNat_natCast]
  rw [hit]
  have h0i : ((n : Int) == 0) = false := by simp; omega
  have h1i : decide ((n : Int) < 0) = false := by simp
  have h2i : ¬ (n : Int) < 0 := by omega
  have HN := hide (And.intro hn h0)
  clear hn h0 hit
  go_enter Tryz.func59, Tryz.ntmps59
  go_wp2
  go_loopw [0, 4] (fun x v wr => ∃ (a : Int) (o : ByteArray) (j : Nat), x = .int .i64 a ∧ v = .string o ∧ 0 ≤ a ∧ Hid (a.toNat < 10 ^ j) ∧ Hid (toCome a.toNat ++ o.toList = toCome n) ∧ o.size + j ≤ 19 ∧ Hid (a ≤ 9223372036854775807) ∧ Below w.heap.size w wr)
    (fun x _ _ => (intOf x).natAbs)
  case atStart =>
    refine ⟨n, ByteArray.empty, 19, rfl, rfl, by omega, ?_, ?_, by decide, ?_, by go_grown⟩
    · show (n : Int).toNat < 10 ^ 19
      have := HN.out
      omega
    · show toCome (n : Int).toNat ++ _ = _
      rw [Int.toNat_natCast, ByteArray.toList_eq (bs := ByteArray.empty)]
      simp
    · show (n : Int) ≤ _
      have := HN.out
      omega
  case round =>
    obtain ⟨a, o, j, rfl, rfl, ha0, hj, hm, hs, ha, hb⟩ := hrel
    by_cases hlt : a = 0
    · subst hlt
      have HB := hide hb
      clear hb
      have e2 : Hid (o = ⟨(toCome n).toArray⟩) := by
        show o = _
        rw [← hm.out]
        exact self_list o
      have hs2 : o.size ≤ 19 := by omega
      have hs3 : (⟨#[45]⟩ : ByteArray).size = 1 := rfl
      go_wp2
      go_ret
      refine ⟨?_, HB.out⟩
      rw [e2.out]
      rfl
    · obtain ⟨c, hc⟩ : ∃ c : UInt8, Hid (c = UInt8.ofNat (48 + a.toNat % 10) ∧ (c.toNat : Int) = 48 + a % 10) := ⟨_, rfl, by rw [toNat_ofNat_lt _ (by omega)]; omega⟩
      have ha10 : 0 ≤ a % 10 ∧ a % 10 < 10 := by omega
      have hpos : 0 < a := by omega
      have hat : BytesAt (wr.alloc (.cells #[.int .u8 (48 + a % 10)] 5)) wr.heap.size [c] := by
        rw [← hc.out.2]
        refine ⟨by simp, fun i hi => ?_, fun i hi => ?_⟩
        · have : i = 0 := by simp at hi; omega
          subst this
          simp [go_sem]
        · have : i = 0 := by simp at hi; omega
          subst this
          simp [go_sem]
      have hcs := hat.string (P := Tryz.prog) 22 5 9 Tryz.underlying22 Tryz.underlying5 Tryz.underlying9 1 1 (by simp)
      have HB := hide hb
      have hq : wrap64 (a.tdiv 10) = a / 10 := by
        have := ha.out
        rw [Int.tdiv_eq_ediv_of_nonneg (by omega)]
        unfold wrap64
        omega
      have hd0 : ¬ a % 10 < 0 := by omega
      have hstep := hide (toCome_step a.toNat (by omega))
      clear hat hb
      go_wp2
      go_roundw
      case rel =>
        have hj' := hj.out
        obtain ⟨j', rfl⟩ : ∃ j', j = j' + 1 := by
          cases j with
          | zero => omega
          | succ j => exact ⟨j, rfl⟩
        rw [Nat.pow_succ] at hj'
        refine ⟨a / 10, ⟨#[c]⟩ ++ o, j', by go_num, rfl, by omega, ?_, ?_, ?_, ?_, ?_⟩
        · show (a / 10).toNat < 10 ^ j'
          omega
        · show toCome (a / 10).toNat ++ _ = _
          rw [cons_list, ← hm.out, hstep.out, hc.out.1, show (a / 10).toNat = a.toNat / 10 by omega]
          simp
        · rw [ByteArray.size_append, show (ByteArray.mk #[c]).size = 1 from rfl]; omega
        · show a / 10 ≤ _
          have := ha.out; omega
        · exact (HB.out).alloc HB.out.size _
      case measure => simp [intOf]; omega

set_option maxRecDepth 100000 in
set_option maxHeartbeats 1600000 in
theorem specDigitsNeg (n : Nat) (hn : n ≤ 9223372036854775808) (h0 : n ≠ 0) (w : World) :
    Calls Tryz.prog 59 #[.int .i64 (-(n : Int))] w fun e w' => e = .returned (.string ⟨(Lib.itoa (-(n : Int))).toArray⟩) ∧ Below w.heap.size w w' := by
  have hit : Lib.itoa (-(n : Int)) = 45 :: toCome n := by
    unfold Lib.itoa toCome
    rw [if_pos (by omega), if_neg h0]
    simp
  rw [hit]
  have h0i : ((-(n : Int)) == 0) = false := by simp; omega
  have h1i : decide ((-(n : Int)) < 0) = true := by simp; omega
  have h2i : (-(n : Int)) < 0 := by omega
  have h3i : 0 < n := by omega
  have h4i : decide (0 < n) = true := by simpa using h3i
  have HN := hide (And.intro hn h0)
  clear hn h0 hit
  go_enter Tryz.func59, Tryz.ntmps59
  go_wp2
  go_loopw [0, 4] (fun x v wr => ∃ (a : Int) (o : ByteArray) (j : Nat), x = .int .i64 (-a) ∧ v = .string o ∧ 0 ≤ a ∧ Hid (a.toNat < 10 ^ j) ∧ Hid (toCome a.toNat ++ o.toList = toCome n) ∧ o.size + j ≤ 19 ∧ Hid (a ≤ 9223372036854775808) ∧ Below w.heap.size w wr)
    (fun x _ _ => (intOf x).natAbs)
  case atStart =>
    refine ⟨n, ByteArray.empty, 19, rfl, rfl, by omega, ?_, ?_, by decide, ?_, by go_grown⟩
    · show (n : Int).toNat < 10 ^ 19
      have := HN.out
      omega
    · show toCome (n : Int).toNat ++ _ = _
      rw [Int.toNat_natCast, ByteArray.toList_eq (bs := ByteArray.empty)]
      simp
    · show (n : Int) ≤ _
      have := HN.out
      omega
  case round =>
    obtain ⟨a, o, j, rfl, rfl, ha0, hj, hm, hs, ha, hb⟩ := hrel
    by_cases hlt : a = 0
    · subst hlt
      have HB := hide hb
      clear hb
      have e2 : Hid (o = ⟨(toCome n).toArray⟩) := by
        show o = _
        rw [← hm.out]
        exact self_list o
      have hs2 : o.size ≤ 19 := by omega
      have hs3 : (⟨#[45]⟩ : ByteArray).size = 1 := rfl
      go_wp2
      go_ret
      refine ⟨?_, HB.out⟩
      rw [e2.out]
      exact minus_list _
    · obtain ⟨c, hc⟩ : ∃ c : UInt8, Hid (c = UInt8.ofNat (48 + a.toNat % 10) ∧ (c.toNat : Int) = 48 + a % 10) := ⟨_, rfl, by rw [toNat_ofNat_lt _ (by omega)]; omega⟩
      have ha10 : 0 ≤ a % 10 ∧ a % 10 < 10 := by omega
      have hpos : 0 < a := by omega
      have hat : BytesAt (wr.alloc (.cells #[.int .u8 (48 + a % 10)] 5)) wr.heap.size [c] := by
        rw [← hc.out.2]
        refine ⟨by simp, fun i hi => ?_, fun i hi => ?_⟩
        · have : i = 0 := by simp at hi; omega
          subst this
          simp [go_sem]
        · have : i = 0 := by simp at hi; omega
          subst this
          simp [go_sem]
      have hcs := hat.string (P := Tryz.prog) 22 5 9 Tryz.underlying22 Tryz.underlying5 Tryz.underlying9 1 1 (by simp)
      have HB := hide hb
      have hmod : (-a).tmod 10 = -(a % 10) := by rw [Int.neg_tmod, Int.tmod_eq_emod_of_nonneg ha0]
      have hq : wrap64 ((-a).tdiv 10) = -(a / 10) := by
        have := ha.out
        rw [Int.neg_tdiv, Int.tdiv_eq_ediv_of_nonneg ha0]
        unfold wrap64
        omega
      have hq0 : wrap64 (a % 10) = a % 10 := by unfold wrap64; omega
      have hna : ¬ -a = 0 := by omega
      have hstep := hide (toCome_step a.toNat (by omega))
      clear hb
      have hq2 : wrap64 (-a.tdiv 10) = -(a / 10) := by rw [← Int.neg_tdiv]; exact hq
      by_cases hz : a % 10 = 0
      · rw [hz, Int.add_zero] at hat
        have hcs := hat.string (P := Tryz.prog) 22 5 9 Tryz.underlying22 Tryz.underlying5 Tryz.underlying9 1 1 (by simp)
        clear hat
        go_wp2
        go_roundw
        case rel =>
          have hj' := hj.out
          obtain ⟨j', rfl⟩ : ∃ j', j = j' + 1 := by
            cases j with
            | zero => omega
            | succ j => exact ⟨j, rfl⟩
          rw [Nat.pow_succ] at hj'
          refine ⟨a / 10, ⟨#[c]⟩ ++ o, j', by first | rfl | (rw [hq2]), rfl, by omega, ?_, ?_, ?_, ?_, ?_⟩
          · show (a / 10).toNat < 10 ^ j'
            omega
          · show toCome (a / 10).toNat ++ _ = _
            rw [cons_list, ← hm.out, hstep.out, hc.out.1, show (a / 10).toNat = a.toNat / 10 by omega]
            simp
          · rw [ByteArray.size_append, show (ByteArray.mk #[c]).size = 1 from rfl]; omega
          · show a / 10 ≤ _
            have := ha.out; omega
          · exact (HB.out).alloc HB.out.size _
        case measure => simp [intOf]; omega
      · have hz2 : 0 < a % 10 := by omega
        clear hat
        go_wp2
        go_roundw
        case rel =>
          have hj' := hj.out
          obtain ⟨j', rfl⟩ : ∃ j', j = j' + 1 := by
            cases j with
            | zero => omega
            | succ j => exact ⟨j, rfl⟩
          rw [Nat.pow_succ] at hj'
          refine ⟨a / 10, ⟨#[c]⟩ ++ o, j', by first | rfl | (rw [hq2]), rfl, by omega, ?_, ?_, ?_, ?_, ?_⟩
          · show (a / 10).toNat < 10 ^ j'
            omega
          · show toCome (a / 10).toNat ++ _ = _
            rw [cons_list, ← hm.out, hstep.out, hc.out.1, show (a / 10).toNat = a.toNat / 10 by omega]
            simp
          · rw [ByteArray.size_append, show (ByteArray.mk #[c]).size = 1 from rfl]; omega
          · show a / 10 ≤ _
            have := ha.out; omega
          · exact (HB.out).alloc HB.out.size _
        case measure => simp [intOf]; omega

theorem specDigits (n : Int) (h0 : -9223372036854775808 ≤ n) (h1 : n ≤ 9223372036854775807) (w : World) :
    Calls Tryz.prog 59 #[.int .i64 n] w fun e w' => e = .returned (.string ⟨(Lib.itoa n).toArray⟩) ∧ Below w.heap.size w w' := by
  by_cases hz : n = 0
  · subst hz
    go_enter Tryz.func59, Tryz.ntmps59
    go_wp2
    go_ret
    refine ⟨?_, by go_grown⟩
    have e : Lib.itoa 0 = [48] := by
      unfold Lib.itoa
      rw [if_neg (by omega), Lib.decDigits, dif_pos (by decide)]
      rfl
    rw [e]
    rfl
  · by_cases hp : 0 < n
    · obtain ⟨m, rfl⟩ : ∃ m : Nat, n = (m : Int) := ⟨n.toNat, by omega⟩
      exact specDigitsPos m (by omega) (by omega) w
    · obtain ⟨m, rfl⟩ : ∃ m : Nat, n = -(m : Int) := ⟨n.natAbs, by omega⟩
      exact specDigitsNeg m (by omega) (by omega) w
end Go.Proofs.YtfnjcgakcpadiaaGreatDoor
