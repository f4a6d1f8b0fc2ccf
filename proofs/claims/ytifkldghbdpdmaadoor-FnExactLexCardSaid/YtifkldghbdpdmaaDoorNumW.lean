/-
  Number, in the reference and in the program.
-/
import Derived.Test.YtifkldghbdpdmaaDoorNumL
import Derived.Test.YtifkldghbdpdmaaDoorWFnExactDigits
namespace Go.Proofs.YtifkldghbdpdmaaDoor
open Go.RowKit

open Classical in
/-- The number that a string is the text of; 0 where it is none. -/
noncomputable def numN (s : ByteArray) : Int := if h : isNum s then (h.choose : Int) else 0
open Classical in
noncomputable def numB (s : ByteArray) : Bool := if isNum s then true else false
theorem numN_yes {s : ByteArray} {n : Nat} (hn : n ≤ 9223372036854775807) (h : s = numS n) : numN s = (n : Int) ∧ numB s = true := by
  have hi : isNum s := ⟨n, hn, h⟩
  unfold numN numB
  rw [dif_pos hi, if_pos hi]
  have e : hi.choose = n := numS_inj (hi.choose_spec.2.symm.trans h)
  rw [e]
  exact ⟨rfl, rfl⟩
theorem numN_no {s : ByteArray} (h : ¬ isNum s) : numN s = 0 ∧ numB s = false := by
  unfold numN numB
  rw [dif_neg h, if_neg h]
  exact ⟨rfl, rfl⟩
theorem numN_range (s : ByteArray) : 0 ≤ numN s ∧ numN s ≤ 9223372036854775807 := by
  by_cases h : isNum s
  · obtain ⟨n, hn, hs⟩ := h
    rw [(numN_yes hn hs).1]
    omega
  · rw [(numN_no h).1]; omega

set_option maxRecDepth 100000 in
set_option maxHeartbeats 1600000 in
theorem specNumber (s : ByteArray) (ws : s.size ≤ 9223372036854775807) (w : World) :
    Calls Tryd.prog 27 #[.string s] w fun e w' => e = .returned (.tuple #[.int .i64 (numN s), .bool (numB s)]) ∧ Below w.heap.size w w' := by
  have hlen : s.data.toList.length = s.size := Array.length_toList
  obtain ⟨r, hr⟩ : ∃ r, Hid (numN s = r) := ⟨_, rfl⟩
  obtain ⟨b, hb⟩ : ∃ b, Hid (numB s = b) := ⟨_, rfl⟩
  rw [hr.out, hb.out]
  have HNO : Hid (¬ isNum s → r = 0 ∧ b = false) := by
    show ¬ isNum s → _
    rw [← hr.out, ← hb.out]
    exact numN_no
  have HYES : Hid (∀ n : Nat, n ≤ 9223372036854775807 → s = numS n → r = (n : Int) ∧ b = true) := by
    show ∀ n : Nat, _
    rw [← hr.out, ← hb.out]
    exact fun n => numN_yes
  clear hr hb
  by_cases hs1 : s.size < 1
  · obtain ⟨rfl, rfl⟩ := HNO.out (by rintro ⟨n, hn, rfl⟩; have := numS_size n hn; omega)
    go_enter Tryd.func27, Tryd.ntmps27
    go_wp2
    all_goals go_ret2
    all_goals exact ⟨rfl, by go_grown⟩
  · by_cases hs2 : 19 < s.size
    · obtain ⟨rfl, rfl⟩ := HNO.out (by rintro ⟨n, hn, rfl⟩; have := numS_size n hn; omega)
      go_enter Tryd.func27, Tryd.ntmps27
      go_wp2
      all_goals go_ret2
      all_goals exact ⟨rfl, by go_grown⟩
    · have HLEN := hide hlen
      clear hlen
      go_enter Tryd.func27, Tryd.ntmps27
      go_wp2
      go_loopw [4, 5] (fun v x wr => ∃ (k : Nat) (n : Int), x = .int .i64 (k : Int) ∧ v = .int .i64 n ∧ k ≤ s.size ∧ 0 ≤ n ∧ n ≤ 9223372036854775807 ∧ Hid (n = (valL (s.data.toList.take k) : Int)) ∧ w = wr) (fun _ x _ => s.size + 1 - (intOf x).toNat)
      case atStart => exact ⟨0, 0, rfl, rfl, by omega, by omega, by omega, by show (0 : Int) = _; simp [valL], rfl⟩
      case round =>
        obtain ⟨k, n, rfl, rfl, hk, hn0, hn1, HV, rfl⟩ := hrel
        by_cases hk2 : k < s.size
        · have hk3 : (k : Int) < s.size := by omega
          have HC : Hid (isNum s → figB s[k] = true) := by
            show isNum s → _
            intro h
            refine num_figs h _ ?_
            rw [ByteArray.getElem_eq_getElem_data, ← Array.getElem_toList]
            exact List.getElem_mem _
          have HT : Hid (valL (s.data.toList.take (k + 1)) = 10 * valL (s.data.toList.take k) + (s[k].toNat - 48)) := by
            show valL _ = _
            rw [valL_take _ k (by have := HLEN.out; omega)]
            simp [ByteArray.getElem_eq_getElem_data]
          have HM : Hid (∀ m, s = numS m → valL (s.data.toList.take (k + 1)) ≤ m) := by
            show ∀ m, _
            intro m hm
            have h1 := valL_take_le s.data.toList (k + 1)
            have h2 : valL s.data.toList = m := by rw [hm]; exact num_val
            omega
          have hc0 := UInt8.toNat_lt s[k]
          by_cases hd1 : s[k].toNat < 48
          · obtain ⟨rfl, rfl⟩ := HNO.out (fun h => by have := HC.out h; simp [figB] at this; omega)
            have hd1' : (s[k].toNat : Int) < 48 := by omega
            go_wp2
            all_goals go_ret2
            all_goals exact ⟨rfl, by go_grown⟩
          · by_cases hd2 : 57 < s[k].toNat
            · obtain ⟨rfl, rfl⟩ := HNO.out (fun h => by have := HC.out h; simp [figB] at this; omega)
              have hd2' : (57 : Int) < (s[k].toNat : Int) := by omega
              have hd1' : ¬ (s[k].toNat : Int) < 48 := by omega
              go_wp2
              all_goals go_ret2
              all_goals exact ⟨rfl, by go_grown⟩
            · have hd2' : ¬ (57 : Int) < (s[k].toNat : Int) := by omega
              have hd1' : ¬ (s[k].toNat : Int) < 48 := by omega
              by_cases hov : (9223372036854775807 - ((s[k].toNat : Int) - 48)) / 10 < n
              · obtain ⟨rfl, rfl⟩ := HNO.out (by
                  rintro ⟨m, hm, e⟩
                  have h1 := HM.out m e
                  have h2 := HT.out
                  have h3 := HV.out
                  omega)
                have hq : (9223372036854775807 - ((s[k].toNat : Int) - 48)).tdiv 10 = (9223372036854775807 - ((s[k].toNat : Int) - 48)) / 10 := Int.tdiv_eq_ediv_of_nonneg (by omega)
                go_wp2
                all_goals go_ret2
                all_goals exact ⟨rfl, by go_grown⟩
              · have hn2 : 10 * n + ((s[k].toNat : Int) - 48) ≤ 9223372036854775807 := by omega
                go_wp2
                go_roundw
                case rel =>
                  refine ⟨k + 1, 10 * n + ((s[k].toNat : Int) - 48), by go_num, by go_num, by omega, by omega, by omega, ?_, by first | rfl | trivial⟩
                  show _ = (valL (s.data.toList.take (k + 1)) : Int)
                  have h2 := HT.out
                  have h3 := HV.out
                  omega
                case measure => simp [intOf]; omega
        · have hk3 : ¬ (k : Int) < s.size := by omega
          have hnv : Hid (n = (valL s.data.toList : Int)) := by
            show n = _
            rw [HV.out, List.take_of_length_le (by have := HLEN.out; omega)]
          obtain ⟨m, rfl⟩ : ∃ m : Nat, n = (m : Int) := ⟨n.toNat, by omega⟩
          have hm : m = valL s.data.toList := by have := hnv.out; omega
          have HMV := hide hm
          clear hm
          go_wp2_with fail
          refine (specDigits (m : Int) (by omega) (by omega) _).mono ?_
          rintro e w1 ⟨rfl, hb1⟩
          have H1 := hide hb1
          clear hb1
          have e1 : (⟨(Lib.itoa (m : Int)).toArray⟩ : ByteArray) = numS m := rfl
          rw [e1]
          by_cases heq : numS m = s
          · obtain ⟨rfl, rfl⟩ := HYES.out m (by omega) heq.symm
            have hq0 : ((numS m).toList == s.toList) = true := (Lib.bytes_beq_iff _ _).2 heq
            clear heq e1
            generalize numS m = q at hq0 ⊢
            go_wp2_with fail
            all_goals go_ret2
            all_goals exact ⟨rfl, H1.out⟩
          · obtain ⟨rfl, rfl⟩ := HNO.out (by
              rintro ⟨m2, hm2, e⟩
              have h2 : valL s.data.toList = m2 := by rw [e]; exact num_val
              have h3 := HMV.out
              exact heq (by rw [h3, h2]; exact e.symm))
            have hq0 : ((numS m).toList == s.toList) = false := (Lib.bytes_beq_false_iff _ _).2 heq
            clear heq e1
            generalize numS m = q at hq0 ⊢
            go_wp2_with fail
            all_goals go_ret2
            all_goals exact ⟨rfl, H1.out⟩
end Go.Proofs.YtifkldghbdpdmaaDoor
