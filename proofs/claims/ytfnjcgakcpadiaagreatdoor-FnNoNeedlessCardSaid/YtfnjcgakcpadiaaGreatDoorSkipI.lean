/-
  skip: what the program passes over.
-/
import Derived.Test.YtfnjcgakcpadiaaGreatDoorGLexP
import Derived.Test.YtfnjcgakcpadiaaGreatDoorTokC
namespace Go.Proofs.YtfnjcgakcpadiaaGreatDoor
open Go.RowKit

theorem ixC (s : ByteArray) (c : UInt8) (w : World) : Calls Tryz.prog 60 #[.string s, .int .u8 (c.toNat : Int)] w fun e w' => e = .returned (.int .i64 (Lib.indexByte s.data.toList c)) ∧ w = w' :=
  (Tryz.strings_IndexByte s _ w).mono fun e w' ⟨he, hw⟩ => ⟨by rw [he]; congr 2; simp, hw.symm⟩
theorem hpC (s p : ByteArray) (w : World) : Calls Tryz.prog 61 #[.string s, .string p] w fun e w' => e = .returned (.bool (Lib.hasPrefix s.data.toList p.data.toList)) ∧ w = w' :=
  (Tryz.strings_HasPrefix s p w).mono fun _e _w' ⟨he, hw⟩ => ⟨he, hw.symm⟩
theorem idC (s p : ByteArray) (m : Int) (w : World) (hs : s.size < 4294967281) (hm : w.cell? ⟨0, 0, none⟩ = some (.int .i64 m)) :
    Calls Tryz.prog 62 #[.string s, .string p] w fun e w' => e = .returned (.int .i64 (Lib.index s.data.toList p.data.toList)) ∧ w = w' :=
  (Tryz.strings_Index s p m w hs hm).mono fun _e _w' ⟨he, hw⟩ => ⟨he, hw.symm⟩

theorem ext2 (s : ByteArray) (b : Nat) (_h : b + 2 ≤ s.size) : ((s.extract b s.size).extract 2 (s.size - b)).data.toList = s.data.toList.drop (b + 2) := by
  have h1 : (s.extract b s.size).size = s.size - b := by simp [ByteArray.size_extract]
  rw [← h1, Lib.extract_to_end, Lib.extract_to_end, List.drop_drop]

set_option maxRecDepth 100000 in
set_option maxHeartbeats 1600000 in
theorem implSkip (s : ByteArray) (a : Nat) (ha : a ≤ s.size) (hs : s.size ≤ 1048576) (m : Int) (w : World) (hm : w.cell? ⟨0, 0, none⟩ = some (.int .i64 m)) :
    Calls Tryz.prog 35 #[.string s, .int .i64 (a : Int)] w fun e w' => e = .returned (.tuple #[.int .i64 ((skipTo s.data.toList a).1 : Int), .bool (skipTo s.data.toList a).2]) ∧ w = w' := by
  obtain ⟨r, hr⟩ : ∃ r, Hid (skipTo s.data.toList a = r) := ⟨_, rfl⟩
  rw [hr.out]
  have HM := hide hm
  clear hm
  go_enter Tryz.func35, Tryz.ntmps35
  go_wp2_with fail
  go_loop [1] (fun x => ∃ b : Nat, x = .int .i64 (b : Int) ∧ b ≤ s.size ∧ Hid (skipTo s.data.toList b = r)) (fun x => s.size - (intOf x).toNat)
  case atStart => exact ⟨a, rfl, ha, hr⟩
  case round =>
    obtain ⟨b, rfl, hb, HS⟩ := hrel
    by_cases hlt : b < s.size
    · have hlt2 : (b : Int) < s.size := by omega
      have hc := skip_cases s b hlt
      have HWS : Hid ((wsB s[b] = true → 0 ≤ Lib.indexByte [32, 9, 10, 13] s[b]) ∧ (wsB s[b] = false → Lib.indexByte [32, 9, 10, 13] s[b] < 0)) := ws_idx _
      have hx1 := fun w => ixC ⟨#[32, 9, 10, 13]⟩ s[b] w
      have hx2 := fun w => ixC (s.extract b s.size) 10 w
      have hp1 := fun w => hpC (s.extract b s.size) ⟨#[45, 45]⟩ w
      have hp2 := fun w => hpC (s.extract b s.size) ⟨#[47, 42]⟩ w
      rw [Lib.extract_to_end] at hx2 hp1 hp2
      rcases hc with ⟨hw, hk⟩ | ⟨hw, h1, ⟨hx, hk⟩ | ⟨n, hx, hn, hk⟩⟩ | ⟨hw, h1, h2, hb2, ⟨hx, hk⟩ | ⟨n, hx, hn, hk⟩⟩ | ⟨hw, h1, h2, hk⟩
      · have HK := hide hk
        have hi := HWS.out.1 hw
        clear hk hw
        have e0 : (⟨#[32, 9, 10, 13]⟩ : ByteArray).data.toList = [32, 9, 10, 13] := rfl
        rw [e0] at hx1
        generalize Lib.indexByte [32, 9, 10, 13] s[b] = x at hx1 hi
        clear e0 hx2 hp1 hp2
        go_wp2_with fail
        refine (hx1 w).mono ?_
        rintro e w1 ⟨rfl, rfl⟩
        go_wp2_with fail
        go_round
        case rel => exact ⟨b + 1, by go_num, by omega, by show _ = _; rw [← HK.out]; exact HS.out⟩
        case measure => simp [intOf]; omega
      · have HK := hide hk
        have hi := HWS.out.2 hw
        clear hk hw
        have e0 : (⟨#[32, 9, 10, 13]⟩ : ByteArray).data.toList = [32, 9, 10, 13] := rfl
        rw [e0] at hx1
        have e1 : (⟨#[45, 45]⟩ : ByteArray).data.toList = [45, 45] := rfl
        rw [e1, h1] at hp1
        rw [hx] at hx2
        generalize Lib.indexByte [32, 9, 10, 13] s[b] = x at hx1 hi
        clear e0 e1 h1 hx hp2
        go_wp2_with fail
        refine (hx1 w).mono ?_
        rintro e w1 ⟨rfl, rfl⟩
        go_wp2_with fail
        refine (hp1 w).mono ?_
        rintro e w1 ⟨rfl, rfl⟩
        go_wp2_with fail
        refine (hx2 w).mono ?_
        rintro e w1 ⟨rfl, rfl⟩
        go_wp2_with fail
        go_ret2
        refine ⟨?_, rfl⟩
        rw [← HS.out, HK.out]
        rfl
      · have HK := hide hk
        have hi := HWS.out.2 hw
        clear hk hw
        have e0 : (⟨#[32, 9, 10, 13]⟩ : ByteArray).data.toList = [32, 9, 10, 13] := rfl
        rw [e0] at hx1
        have e1 : (⟨#[45, 45]⟩ : ByteArray).data.toList = [45, 45] := rfl
        rw [e1, h1] at hp1
        rw [hx] at hx2
        generalize Lib.indexByte [32, 9, 10, 13] s[b] = x at hx1 hi
        clear e0 e1 h1 hx hp2
        go_wp2_with fail
        refine (hx1 w).mono ?_
        rintro e w1 ⟨rfl, rfl⟩
        go_wp2_with fail
        refine (hp1 w).mono ?_
        rintro e w1 ⟨rfl, rfl⟩
        go_wp2_with fail
        refine (hx2 w).mono ?_
        rintro e w1 ⟨rfl, rfl⟩
        go_wp2_with fail
        go_round
        case rel => exact ⟨b + n + 1, by go_num, by omega, by show _ = _; rw [← HK.out]; exact HS.out⟩
        case measure => simp [intOf]; omega
      · have HK := hide hk
        have hi := HWS.out.2 hw
        clear hk hw
        have e0 : (⟨#[32, 9, 10, 13]⟩ : ByteArray).data.toList = [32, 9, 10, 13] := rfl
        rw [e0] at hx1
        have e1 : (⟨#[45, 45]⟩ : ByteArray).data.toList = [45, 45] := rfl
        rw [e1, h1] at hp1
        have e2 : (⟨#[47, 42]⟩ : ByteArray).data.toList = [47, 42] := rfl
        rw [e2, h2] at hp2
        have hd := idC ((s.extract b s.size).extract 2 (s.size - b)) ⟨#[42, 47]⟩ m w (by simp [ByteArray.size_extract]; omega) HM.out
        have e3 : (⟨#[42, 47]⟩ : ByteArray).data.toList = [42, 47] := rfl
        rw [ext2 s b hb2, e3, hx] at hd
        generalize Lib.indexByte [32, 9, 10, 13] s[b] = x at hx1 hi
        clear e0 e1 e2 e3 h1 h2 hx hx2
        have hb3 : (2 : Int) ≤ (s.size : Int) - b := by omega
        go_wp2_with fail
        refine (hx1 w).mono ?_
        rintro e w1 ⟨rfl, rfl⟩
        go_wp2_with fail
        refine (hp1 w).mono ?_
        rintro e w1 ⟨rfl, rfl⟩
        go_wp2_with fail
        refine (hp2 w).mono ?_
        rintro e w1 ⟨rfl, rfl⟩
        go_wp2_with fail
        refine hd.mono ?_
        rintro e w1 ⟨rfl, rfl⟩
        go_wp2_with fail
        go_ret2
        refine ⟨?_, rfl⟩
        rw [← HS.out, HK.out]
        rfl
      · have HK := hide hk
        have hi := HWS.out.2 hw
        clear hk hw
        have e0 : (⟨#[32, 9, 10, 13]⟩ : ByteArray).data.toList = [32, 9, 10, 13] := rfl
        rw [e0] at hx1
        have e1 : (⟨#[45, 45]⟩ : ByteArray).data.toList = [45, 45] := rfl
        rw [e1, h1] at hp1
        have e2 : (⟨#[47, 42]⟩ : ByteArray).data.toList = [47, 42] := rfl
        rw [e2, h2] at hp2
        have hd := idC ((s.extract b s.size).extract 2 (s.size - b)) ⟨#[42, 47]⟩ m w (by simp [ByteArray.size_extract]; omega) HM.out
        have e3 : (⟨#[42, 47]⟩ : ByteArray).data.toList = [42, 47] := rfl
        rw [ext2 s b hb2, e3, hx] at hd
        generalize Lib.indexByte [32, 9, 10, 13] s[b] = x at hx1 hi
        clear e0 e1 e2 e3 h1 h2 hx hx2
        have hb3 : (2 : Int) ≤ (s.size : Int) - b := by omega
        go_wp2_with fail
        refine (hx1 w).mono ?_
        rintro e w1 ⟨rfl, rfl⟩
        go_wp2_with fail
        refine (hp1 w).mono ?_
        rintro e w1 ⟨rfl, rfl⟩
        go_wp2_with fail
        refine (hp2 w).mono ?_
        rintro e w1 ⟨rfl, rfl⟩
        go_wp2_with fail
        refine hd.mono ?_
        rintro e w1 ⟨rfl, rfl⟩
        go_wp2_with fail
        go_round
        case rel => exact ⟨b + (n + 4), by go_num, by omega, by show _ = _; rw [← HK.out]; exact HS.out⟩
        case measure => simp [intOf]; omega
      · have HK := hide hk
        have hi := HWS.out.2 hw
        clear hk hw
        have e0 : (⟨#[32, 9, 10, 13]⟩ : ByteArray).data.toList = [32, 9, 10, 13] := rfl
        rw [e0] at hx1
        have e1 : (⟨#[45, 45]⟩ : ByteArray).data.toList = [45, 45] := rfl
        rw [e1, h1] at hp1
        have e2 : (⟨#[47, 42]⟩ : ByteArray).data.toList = [47, 42] := rfl
        rw [e2, h2] at hp2
        generalize Lib.indexByte [32, 9, 10, 13] s[b] = x at hx1 hi
        clear e0 e1 e2 h1 h2 hx2
        go_wp2_with fail
        refine (hx1 w).mono ?_
        rintro e w1 ⟨rfl, rfl⟩
        go_wp2_with fail
        refine (hp1 w).mono ?_
        rintro e w1 ⟨rfl, rfl⟩
        go_wp2_with fail
        refine (hp2 w).mono ?_
        rintro e w1 ⟨rfl, rfl⟩
        go_wp2_with fail
        go_ret2
        refine ⟨?_, rfl⟩
        rw [← HS.out, HK.out]
        rfl
    · obtain rfl : b = s.size := by omega
      have hk := skip_end s.data.toList s.size (by rw [list_size]; omega)
      have HK := hide hk
      clear hk
      go_wp2_with fail
      go_ret2
      refine ⟨?_, rfl⟩
      rw [← HS.out, HK.out]
      rfl
end Go.Proofs.YtfnjcgakcpadiaaGreatDoor
