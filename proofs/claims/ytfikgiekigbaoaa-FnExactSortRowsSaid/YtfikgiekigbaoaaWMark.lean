/-
  markText: the mark that a law writes into a row of strings.
-/
import Derived.Test.YtfikgiekigbaoaaRows
import Derived.WalkKit
import Derived.WalkLawsBesides
import Derived.WalkSpells
import Derived.Handy
import Derived.Deep.Light
import Derived.Test.YtfikgiekigbaoaaM1
import Derived.Test.YtfikgiekigbaoaaB
namespace Go.Proofs.Ytfikgiekigbaoaa
open Go.RowKit

def mkD (k : Nat) (out : ByteArray) : ByteArray := if k = 0 then out else mkD (k / 10) (⟨#[UInt8.ofNat (48 + k % 10)]⟩ ++ out)
  termination_by k
  decreasing_by omega
def markT (k : Int) : ByteArray := if k ≤ 0 then ⟨#[109, 48]⟩ else ⟨#[109]⟩ ++ mkD k.toNat ByteArray.empty

set_option maxRecDepth 100000 in
set_option maxHeartbeats 800000 in
theorem markTextC (k : Int) (w : World) (hk : k ≤ 9223372036854775807) : Calls Try.prog 50 #[.int .i64 k] w fun e w' => e = .returned (.string (markT k)) ∧ Below w.heap.size w w' := by
  by_cases h : k ≤ 0
  · go_enter Try.func50, Try.ntmps50
    go_wp2
    go_ret
    refine ⟨?_, by go_grown⟩
    rw [markT, if_pos h]
    rfl
  · have HK := hide hk
    clear hk
    go_enter Try.func50, Try.ntmps50
    go_wp2
    go_loopw [0, 3] (fun x v wr => ∃ (a : Int) (o : ByteArray) (j : Nat), x = .int .i64 a ∧ v = .string o ∧ 0 ≤ a ∧ Hid (a.toNat < 10 ^ j) ∧ Hid (mkD a.toNat o = mkD k.toNat ByteArray.empty) ∧ o.size + j ≤ 19 ∧ Hid (a ≤ 9223372036854775807) ∧ Below w.heap.size w wr)
      (fun x _ _ => (intOf x).toNat)
    case atStart =>
      refine ⟨k, ByteArray.empty, 19, rfl, rfl, by omega, ?_, rfl, by decide, HK.out, by go_grown⟩
      show k.toNat < 10 ^ 19
      have := HK.out
      omega
    case round =>
      obtain ⟨a, o, j, rfl, rfl, ha0, hj, hm, hs, ha, hb⟩ := hrel
      by_cases hlt : a ≤ 0
      · have HB := hide hb
        clear hb
        go_wp2
        go_ret
        refine ⟨?_, HB.out⟩
        have e1 : a.toNat = 0 := by omega
        have e2 := hm.out
        rw [e1, mkD, if_pos rfl] at e2
        rw [markT, if_neg (by omega), ← e2]
        rfl
      · obtain ⟨c, hc⟩ : ∃ c : UInt8, Hid (c = UInt8.ofNat (48 + a.toNat % 10) ∧ (c.toNat : Int) = 48 + a % 10) := ⟨_, rfl, by rw [toNat_ofNat_lt _ (by omega)]; omega⟩
        have ha10 : 0 ≤ a % 10 ∧ a % 10 < 10 := by omega
        have hpos : 0 < a := by omega
        have hat : BytesAt (wr.alloc (.cells #[.int .u8 (48 + a % 10)] 5)) wr.heap.size [c] := by
          rw [← hc.out.2]
          refine ⟨by simp, fun i hi => ?_, fun i hi => ?_⟩
          · have : i = 0 := by simp at hi; omega
            subst this
            simp [go_sem]
          · have : i = 0 := by simp at hi; omega
            subst this
            simp [go_sem]
        have hcs := hat.string (P := Try.prog) 43 5 9 Try.underlying43 Try.underlying5 Try.underlying9 1 1 (by simp)
        have HB := hide hb
        have hq : wrap64 (a.tdiv 10) = a / 10 := by
          have := ha.out
          rw [Int.tdiv_eq_ediv_of_nonneg (by omega)]
          unfold wrap64
          omega
        clear hlt ha0 hat hb
        go_wp2
        go_roundw
        case rel =>
          have hj' := hj.out
          obtain ⟨j', rfl⟩ : ∃ j', j = j' + 1 := by
            cases j with
            | zero => omega
            | succ j => exact ⟨j, rfl⟩
          rw [Nat.pow_succ] at hj'
          refine ⟨a / 10, ⟨#[c]⟩ ++ o, j', by go_num, rfl, by omega, ?_, ?_, ?_, ?_, ?_⟩
          · show (a / 10).toNat < 10 ^ j'
            omega
          · show mkD (a / 10).toNat _ = _
            have e2 := hm.out
            rw [mkD, if_neg (by omega), ← hc.out.1] at e2
            rw [← e2]
            congr 1
            omega
          · rw [ByteArray.size_append, show (ByteArray.mk #[c]).size = 1 from rfl]; omega
          · show a / 10 ≤ _
            have := ha.out; omega
          · exact (HB.out).alloc HB.out.size _
        case measure => simp [intOf]; omega
end Go.Proofs.Ytfikgiekigbaoaa
