/-
  Fold: what it computes.
-/
import Derived.Test.YtfnjcgakcpadiaaGreatDoorRows
import Derived.WalkKit
import Derived.WalkLawsBesides
import Derived.WalkSpells
import Derived.Handy
import Derived.Test.YtfnjcgakcpadiaaGreatDoorGBase
namespace Go.Proofs.YtfnjcgakcpadiaaGreatDoor
open Go.RowKit

/-- One letter in upper case. -/
def upB (c : UInt8) : UInt8 := if 97 ≤ c.toNat ∧ c.toNat ≤ 122 then UInt8.ofNat (c.toNat - 32) else c
/-- The first k letters in upper case. -/
def upTo (l : List UInt8) (k : Nat) : List UInt8 := (l.take k).map upB ++ l.drop k
def upAll (s : ByteArray) : ByteArray := ⟨(s.data.toList.map upB).toArray⟩

theorem upTo_len (l : List UInt8) (k : Nat) : (upTo l k).length = l.length := by
  simp [upTo]; omega
theorem upTo_zero (l : List UInt8) : upTo l 0 = l := by simp [upTo]
theorem upTo_all (l : List UInt8) (k : Nat) (h : l.length ≤ k) : upTo l k = l.map upB := by
  simp [upTo, List.take_of_length_le h, List.drop_eq_nil_of_le h]
theorem upTo_get (l : List UInt8) (k : Nat) (h : k < l.length) (h' : k < (upTo l k).length) : (upTo l k)[k] = l[k] := by
  simp only [upTo]
  rw [List.getElem_append_right (by simp; omega)]
  simp [Nat.min_eq_left (Nat.le_of_lt h)]
theorem upTo_succ (l : List UInt8) (k : Nat) (h : k < l.length) : upTo l (k + 1) = (upTo l k).set k (upB l[k]) := by
  simp only [upTo]
  rw [List.set_append_right _ _ (by simp; omega)]
  have e : k - (List.map upB (List.take k l)).length = 0 := by simp; omega
  rw [e, List.drop_eq_getElem_cons h, List.set_cons_zero, List.take_succ_eq_append_getElem h, List.map_append, List.append_assoc]
  rfl
theorem set_same (l : List UInt8) (k : Nat) (h : k < l.length) : l.set k l[k] = l := by simp

theorem upB_get (l : List UInt8) (k : Nat) (h : k < l.length) (hlo : 97 ≤ l[k].toNat) (hhi : l[k].toNat ≤ 122) : ((upB l[k]).toNat : Int) = (l[k].toNat : Int) - 32 := by
  rw [upB, if_pos ⟨hlo, hhi⟩, toNat_ofNat_lt _ (by omega)]
  omega
theorem upB_same (c : UInt8) (h : ¬ (97 ≤ c.toNat ∧ c.toNat ≤ 122)) : upB c = c := by rw [upB, if_neg h]

/-- What a round does to the row. -/
theorem upTo_step {w : World} {g k : Nat} {l : List UInt8} (h : BytesAt w g (upTo l k)) (hk : k < l.length) (x : Int) (hlo : 97 ≤ l[k].toNat) (hhi : l[k].toNat ≤ 122) (hx : x = (l[k].toNat : Int) - 32) :
    BytesAt (w.setCell ⟨g, k, none⟩ (.int .u8 x)) g (upTo l (k + 1)) := by
  rw [upTo_succ l k hk, hx, ← upB_get l k hk hlo hhi]
  exact h.set k (by rw [upTo_len]; exact hk) _
theorem upTo_stay {w : World} {g k : Nat} {l : List UInt8} (h : BytesAt w g (upTo l k)) (hk : k < l.length) (hn : ¬ (97 ≤ l[k].toNat ∧ l[k].toNat ≤ 122)) : BytesAt w g (upTo l (k + 1)) := by
  rw [upTo_succ l k hk, upB_same _ hn, ← upTo_get l k hk (by rw [upTo_len]; exact hk), List.set_getElem_self]
  exact h
theorem upTo_cell {w : World} {g k : Nat} {l : List UInt8} (h : BytesAt w g (upTo l k)) (hk : k < l.length) : w.cell? ⟨g, k, none⟩ = some (.int .u8 (l[k].toNat : Int)) := by
  have := h.cell k (by rw [upTo_len]; exact hk)
  rwa [upTo_get l k hk] at this

set_option maxRecDepth 100000 in
set_option maxHeartbeats 400000 in
theorem specFold (s : ByteArray) (hs : s.size ≤ 1048576) (w : World) :
    Calls Tryz.prog 31 #[.string s] w fun e w' => e = .returned (.string (upAll s)) ∧ Below w.heap.size w w' := by
  have hcv := fun w s => run_bytes_of_string (P := Tryz.prog) w 9 22 5 s Tryz.underlying9 Tryz.underlying22 Tryz.underlying5
  have hM := fun c => BytesAt.made w 5 s c
  obtain ⟨l, hl⟩ : ∃ l : List UInt8, l = s.data.toList := ⟨_, rfl⟩
  have hlen : l.length = s.size := by rw [hl]; exact Array.length_toList
  have HL := hide hl
  rw [← hl] at hM
  have HM := hide hM
  clear hl hM
  go_enter Tryz.func31, Tryz.ntmps31
  go_wp2
  generalize hcap : grownCap w s.size 0 5 = cap
  have HM1 := hide (HM.out cap)
  clear hcap HM
  go_loopw [4] (fun i wr => ∃ k : Nat, k ≤ l.length ∧ i = .int .i64 (k : Int) ∧ BytesAt wr w.heap.size (upTo l k) ∧ Below w.heap.size w wr)
    (fun i _ => l.length - (intOf i).toNat)
  case atStart => exact ⟨0, Nat.zero_le _, rfl, by rw [upTo_zero]; exact HM1.out, by go_grown⟩
  case round =>
    obtain ⟨k, hk, rfl, hat, hb⟩ := hrel
    by_cases hlt : k < l.length
    · have hc := upTo_cell hat hlt
      have hf := hat.free k (by rw [upTo_len]; exact hlt)
      have hlt2 : k < s.size := by omega
      obtain ⟨c, hcc⟩ : ∃ c : Int, c = (l[k].toNat : Int) := ⟨_, rfl⟩
      rw [← hcc] at hc
      have hc1 : 0 ≤ c := by omega
      have hc2 : c ≤ 255 := by have := l[k].toNat_lt; omega
      have HC := hide hcc
      have HA := hide hat
      have HB := hide hb
      clear hcc hat hb
      by_cases h1 : 97 ≤ c
      · by_cases h2 : c ≤ 122
        · go_wp2
          go_roundw
          case rel =>
            have := HC.out
            exact ⟨k + 1, by omega, by go_num, upTo_step HA.out hlt _ (by omega) (by omega) (by omega), HB.out.setCell (by exact Nat.le_refl _) _⟩
          case measure => simp [intOf]; omega
        · have hd : decide (c ≤ 122) = false := by simpa using h2
          go_wp2
          go_roundw
          case rel =>
            have := HC.out
            exact ⟨k + 1, by omega, by go_num, upTo_stay HA.out hlt (by omega), HB.out⟩
          case measure => simp [intOf]; omega
      · have hd : decide (97 ≤ c) = false := by simpa using h1
        go_wp2
        go_roundw
        case rel =>
          have := HC.out
          exact ⟨k + 1, by omega, by go_num, upTo_stay HA.out hlt (by omega), HB.out⟩
        case measure => simp [intOf]; omega
    · have hkl : l.length ≤ k := by omega
      have hks : s.size ≤ k := by omega
      rw [upTo_all l k hkl] at hat
      have hcs := hat.string (P := Tryz.prog) 22 5 9 Tryz.underlying22 Tryz.underlying5 Tryz.underlying9 s.size cap (by simp [hlen])
      have HB := hide hb
      clear hb hat
      go_wp2
      go_ret
      refine ⟨?_, HB.out⟩
      rw [upAll, ← HL.out]
      rfl

set_option maxRecDepth 100000 in
set_option maxHeartbeats 400000 in
theorem implFold (s : ByteArray) (hs : s.size ≤ 1048576) (w : World) :
    Calls Tryz.prog 42 #[.string s] w fun e w' => e = .returned (.string (upAll s)) ∧ Below w.heap.size w w' := by
  have hcv := fun w s => run_bytes_of_string (P := Tryz.prog) w 9 22 5 s Tryz.underlying9 Tryz.underlying22 Tryz.underlying5
  have hM := fun c => BytesAt.made w 5 s c
  obtain ⟨l, hl⟩ : ∃ l : List UInt8, l = s.data.toList := ⟨_, rfl⟩
  have hlen : l.length = s.size := by rw [hl]; exact Array.length_toList
  have HL := hide hl
  rw [← hl] at hM
  have HM := hide hM
  clear hl hM
  go_enter Tryz.func42, Tryz.ntmps42
  go_wp2
  generalize hcap : grownCap w s.size 0 5 = cap
  have HM1 := hide (HM.out cap)
  clear hcap HM
  go_loopw [10] (fun i wr => ∃ k : Nat, k ≤ l.length ∧ i = .int .i64 (k : Int) ∧ BytesAt wr w.heap.size (upTo l k) ∧ Below w.heap.size w wr)
    (fun i _ => l.length - (intOf i).toNat)
  case atStart => exact ⟨0, Nat.zero_le _, rfl, by rw [upTo_zero]; exact HM1.out, by go_grown⟩
  case round =>
    obtain ⟨k, hk, rfl, hat, hb⟩ := hrel
    by_cases hlt : k < l.length
    · have hc := upTo_cell hat hlt
      have hf := hat.free k (by rw [upTo_len]; exact hlt)
      have hlt2 : k < s.size := by omega
      obtain ⟨c, hcc⟩ : ∃ c : Int, c = (l[k].toNat : Int) := ⟨_, rfl⟩
      rw [← hcc] at hc
      have hc1 : 0 ≤ c := by omega
      have hc2 : c ≤ 255 := by have := l[k].toNat_lt; omega
      have HC := hide hcc
      have HA := hide hat
      have HB := hide hb
      clear hcc hat hb
      by_cases h1 : 97 ≤ c
      · by_cases h2 : c ≤ 122
        · go_wp2
          go_roundw
          case rel =>
            have := HC.out
            exact ⟨k + 1, by omega, by go_num, upTo_step HA.out hlt _ (by omega) (by omega) (by omega), HB.out.setCell (by exact Nat.le_refl _) _⟩
          case measure => simp [intOf]; omega
        · have hd : decide (c ≤ 122) = false := by simpa using h2
          go_wp2
          go_roundw
          case rel =>
            have := HC.out
            exact ⟨k + 1, by omega, by go_num, upTo_stay HA.out hlt (by omega), HB.out⟩
          case measure => simp [intOf]; omega
      · have hd : decide (97 ≤ c) = false := by simpa using h1
        go_wp2
        go_roundw
        case rel =>
          have := HC.out
          exact ⟨k + 1, by omega, by go_num, upTo_stay HA.out hlt (by omega), HB.out⟩
        case measure => simp [intOf]; omega
    · have hkl : l.length ≤ k := by omega
      have hks : s.size ≤ k := by omega
      rw [upTo_all l k hkl] at hat
      have hcs := hat.string (P := Tryz.prog) 22 5 9 Tryz.underlying22 Tryz.underlying5 Tryz.underlying9 s.size cap (by simp [hlen])
      have HB := hide hb
      clear hb hat
      go_wp2
      go_ret
      refine ⟨?_, HB.out⟩
      rw [upAll, ← HL.out]
      rfl
end Go.Proofs.YtfnjcgakcpadiaaGreatDoor
