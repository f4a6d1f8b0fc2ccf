import Derived.Lib.ItoaNum
import Derived.Lib.AtoiAllCases
import Derived.Test.YtfnjcgakcpadiaaGreatDoorWFnExactDigits
/-
  Numerals: what a row of digits is worth, and that strconv.Atoi reads back what Itoa writes. No program in sight.
-/
namespace Go.Proofs.YtfnjcgakcpadiaaGreatDoor
open Go.Lib

/-- What a row of bytes is worth, as digits. -/
def valL (l : List UInt8) : Nat := l.foldl (fun a c => 10 * a + (c.toNat - 48)) 0
/-- A digit. -/
def figB (c : UInt8) : Bool := decide (48 ≤ c.toNat) && decide (c.toNat ≤ 57)

theorem valL_nil : valL [] = 0 := rfl
theorem valL_snoc (l : List UInt8) (c : UInt8) : valL (l ++ [c]) = 10 * valL l + (c.toNat - 48) := by
  unfold valL; rw [List.foldl_append]; rfl
theorem valL_take (l : List UInt8) (k : Nat) (h : k < l.length) : valL (l.take (k + 1)) = 10 * valL (l.take k) + (l[k].toNat - 48) := by
  rw [List.take_succ_eq_append_getElem h, valL_snoc]
theorem valL_app (a b : List UInt8) : valL a ≤ valL (a ++ b) := by
  induction b generalizing a with
  | nil => simp
  | cons c b ih =>
    have h1 := ih (a ++ [c])
    rw [List.append_assoc, valL_snoc] at h1
    simp only [List.singleton_append] at h1
    omega
theorem valL_take_le (l : List UInt8) (k : Nat) : valL (l.take k) ≤ valL l := by
  have h := valL_app (l.take k) (l.drop k)
  rwa [List.take_append_drop] at h

theorem fig_of (n : Nat) (h : n < 10) : (UInt8.ofNat (48 + n)).toNat = 48 + n := by
  rw [UInt8.toNat_ofNat']
  omega

theorem dec_val (u : Nat) : valL (decDigits u) = u := by
  induction u using Nat.strongRecOn with
  | _ u ih =>
    rw [decDigits]
    by_cases h : u < 10
    · rw [dif_pos h]
      show 10 * 0 + _ = _
      rw [fig_of u h]
      omega
    · rw [dif_neg h, valL_snoc, ih (u / 10) (by omega), fig_of _ (by omega)]
      omega

theorem dec_figs (u : Nat) : ∀ c ∈ decDigits u, figB c = true := by
  induction u using Nat.strongRecOn with
  | _ u ih =>
    rw [decDigits]
    by_cases h : u < 10
    · rw [dif_pos h]
      intro c hc
      simp only [List.mem_singleton] at hc
      subst hc
      have := fig_of u h
      simp [figB]
      omega
    · rw [dif_neg h]
      intro c hc
      rcases List.mem_append.mp hc with hc | hc
      · exact ih (u / 10) (by omega) c hc
      · simp only [List.mem_singleton] at hc
        subst hc
        have := fig_of (u % 10) (by omega)
        simp [figB]
        omega

theorem nDig_le (k : Nat) (u : Nat) (h : u < 10 ^ (k + 1)) : nDigits u ≤ k + 1 := by
  induction k generalizing u with
  | zero => rw [nDigits_small (by simpa using h)]; omega
  | succ k ih =>
    by_cases h10 : u < 10
    · rw [nDigits_small h10]; omega
    · rw [nDigits_big h10]
      have := ih (u / 10) (by rw [Nat.pow_succ] at h; omega)
      omega

theorem dec_len (u : Nat) (h : u ≤ 9223372036854775807) : 1 ≤ (decDigits u).length ∧ (decDigits u).length ≤ 19 := by
  rw [decDigits_length]
  exact ⟨nDigits_pos u, nDig_le 18 u (by omega)⟩

theorem itoa_nat (u : Nat) : itoa (u : Int) = decDigits u := by
  unfold itoa; rw [if_neg (by omega)]; simp

theorem itoa_inj {a b : Nat} (h : itoa (a : Int) = itoa (b : Int)) : a = b := by
  rw [itoa_nat, itoa_nat] at h
  rw [← dec_val a, ← dec_val b, h]

theorem parse_val : ∀ (l : List UInt8) (pre : List UInt8), (∀ c ∈ l, figB c = true) → valL (pre ++ l) ≤ 9223372036854775807 → parseUint10 (valL pre) l = .ok (valL (pre ++ l))
  | [], pre, _, _ => by simp [parseUint10]
  | c :: r, pre, h, hv => by
    have hc : 48 ≤ c.toNat ∧ c.toNat ≤ 57 := by
      have := h c (List.mem_cons_self)
      simpa [figB] using this
    have hle : valL (pre ++ [c]) ≤ valL (pre ++ c :: r) := by
      have := valL_app (pre ++ [c]) r
      simpa using this
    rw [valL_snoc] at hle
    rw [parseUint10, if_pos hc, if_neg (by omega), if_neg (by omega)]
    have e : valL pre * 10 + (c.toNat - 48) = valL (pre ++ [c]) := by rw [valL_snoc]; omega
    rw [e, parse_val r (pre ++ [c]) (fun x hx => h x (List.mem_cons_of_mem _ hx)) (by simpa using hv)]
    simp

theorem atoi_itoa (u : Nat) (h : u ≤ 9223372036854775807) : atoiAll (itoa (u : Int)) = .ok (u : Int) := by
  rw [itoa_nat]
  have hl := dec_len u h
  have hf := dec_figs u
  have hv := dec_val u
  generalize decDigits u = l at hl hf hv
  match l, hl with
  | c :: r, _ =>
    have hc : 48 ≤ c.toNat ∧ c.toNat ≤ 57 := by
      have := hf c (List.mem_cons_self)
      simpa [figB] using this
    rw [atoiAll_plain c r (by omega) (by omega)]
    have e := parse_val (c :: r) [] hf (by rw [List.nil_append, hv]; exact h)
    rw [List.nil_append, hv, valL_nil] at e
    unfold parseMag
    rw [if_neg (by simp), e]
    show (if 9223372036854775808 ≤ u then NumEnd.range else .ok (u : Int)) = _
    rw [if_neg (by omega)]

/-- The text of n, as a string. -/
def numS (n : Nat) : ByteArray := ⟨(itoa (n : Int)).toArray⟩
theorem numS_list (n : Nat) : (numS n).data.toList = itoa (n : Int) := by simp [numS]
theorem numS_inj {a b : Nat} (h : numS a = numS b) : a = b := by
  have := congrArg (fun x : ByteArray => x.data.toList) h
  simp only [numS_list] at this
  exact itoa_inj this
theorem numS_size (n : Nat) (h : n ≤ 9223372036854775807) : 1 ≤ (numS n).size ∧ (numS n).size ≤ 19 := by
  have e : (numS n).size = (itoa (n : Int)).length := by simp [numS, ByteArray.size]
  rw [e, itoa_nat]
  exact dec_len n h

/-- A string is the text of a whole number that is not negative. -/
def isNum (s : ByteArray) : Prop := ∃ n : Nat, n ≤ 9223372036854775807 ∧ s = numS n
theorem num_figs {s : ByteArray} (h : isNum s) : ∀ c ∈ s.data.toList, figB c = true := by
  obtain ⟨n, _, rfl⟩ := h
  rw [numS_list, itoa_nat]
  exact dec_figs n
theorem num_val {n : Nat} : valL (numS n).data.toList = n := by
  rw [numS_list, itoa_nat, dec_val]
theorem num_atoi {s : ByteArray} {n : Nat} (hn : n ≤ 9223372036854775807) (h : s = numS n) : atoiAll s.data.toList = .ok (n : Int) := by
  rw [h, numS_list, atoi_itoa n hn]
end Go.Proofs.YtfnjcgakcpadiaaGreatDoor

/-
  Number, in the reference and in the program.
-/
namespace Go.Proofs.YtfnjcgakcpadiaaGreatDoor
open Go.RowKit

open Classical in
/-- The number that a string is the text of; 0 where it is none. -/
noncomputable def numN (s : ByteArray) : Int := if h : isNum s then (h.choose : Int) else 0
open Classical in
noncomputable def numB (s : ByteArray) : Bool := if isNum s then true else false
theorem numN_yes {s : ByteArray} {n : Nat} (hn : n ≤ 9223372036854775807) (h : s = numS n) : numN s = (n : Int) ∧ numB s = true := by
  have hi : isNum s := ⟨n, hn, h⟩
  unfold numN numB
  rw [dif_pos hi, if_pos hi]
  have e : hi.choose = n := numS_inj (hi.choose_spec.2.symm.trans h)
  rw [e]
  exact ⟨rfl, rfl⟩
theorem numN_no {s : ByteArray} (h : ¬ isNum s) : numN s = 0 ∧ numB s = false := by
  unfold numN numB
  rw [dif_neg h, if_neg h]
  exact ⟨rfl, rfl⟩
theorem numN_range (s : ByteArray) : 0 ≤ numN s ∧ numN s ≤ 9223372036854775807 := by
  by_cases h : isNum s
  · obtain ⟨n, hn, hs⟩ := h
    rw [(numN_yes hn hs).1]
    omega
  · rw [(numN_no h).1]; omega

set_option maxRecDepth 100000 in
set_option maxHeartbeats 1600000 in
theorem specNumber (s : ByteArray) (ws : s.size ≤ 9223372036854775807) (w : World) :
    Calls Tryz.prog 33 #[.string s] w fun e w' => e = .returned (.tuple #[.int .i64 (numN s), .bool (numB s)]) ∧ Below w.heap.size w w' := by
  have hlen : s.data.toList.length = s.size := Array.length_toList
  obtain ⟨r, hr⟩ : ∃ r, Hid (numN s = r) := ⟨_, rfl⟩
  obtain ⟨b, hb⟩ : ∃ b, Hid (numB s = b) := ⟨_, rfl⟩
  rw [hr.out, hb.out]
  have HNO : Hid (¬ isNum s → r = 0 ∧ b = false) := by
    show ¬ isNum s → _
    rw [← hr.out, ← hb.out]
    exact numN_no
  have HYES : Hid (∀ n : Nat, n ≤ 9223372036854775807 → s = numS n → r = (n : Int) ∧ b = true) := by
    show ∀ n : Nat, _
    rw [← hr.out, ← hb.out]
    exact fun n => numN_yes
  clear hr hb
  by_cases hs1 : s.size < 1
  · obtain ⟨rfl, rfl⟩ := HNO.out (by rintro ⟨n, hn, rfl⟩; have := numS_size n hn; omega)
    go_enter Tryz.func33, Tryz.ntmps33
    go_wp2
    all_goals go_ret2
    all_goals exact ⟨rfl, by go_grown⟩
  · by_cases hs2 : 19 < s.size
    · obtain ⟨rfl, rfl⟩ := HNO.out (by rintro ⟨n, hn, rfl⟩; have := numS_size n hn; omega)
      go_enter Tryz.func33, Tryz.ntmps33
      go_wp2
      all_goals go_ret2
      all_goals exact ⟨rfl, by go_grown⟩
    · have HLEN := hide hlen
      clear hlen
      go_enter Tryz.func33, Tryz.ntmps33
      go_wp2
      go_loopw [4, 5] (fun v x wr => ∃ (k : Nat) (n : Int), x = .int .i64 (k : Int) ∧ v = .int .i64 n ∧ k ≤ s.size ∧ 0 ≤ n ∧ n ≤ 9223372036854775807 ∧ Hid (n = (valL (s.data.toList.take k) : Int)) ∧ w = wr) (fun _ x _ => s.size + 1 - (intOf x).toNat)
      case atStart => exact ⟨0, 0, rfl, rfl, by omega, by omega, by omega, by show (0 : Int) = _; simp [valL], rfl⟩
      case round =>
        obtain ⟨k, n, rfl, rfl, hk, hn0, hn1, HV, rfl⟩ := hrel
        by_cases hk2 : k < s.size
        · have hk3 : (k : Int) < s.size := by omega
          have HC : Hid (isNum s → figB s[k] = true) := by
            show isNum s → _
            intro h
            refine num_figs h _ ?_
            rw [ByteArray.getElem_eq_getElem_data, ← Array.getElem_toList]
            exact List.getElem_mem _
          have HT : Hid (valL (s.data.toList.take (k + 1)) = 10 * valL (s.data.toList.take k) + (s[k].toNat - 48)) := by
            show valL _ = _
            rw [valL_take _ k (by have := HLEN.out; omega)]
            simp [ByteArray.getElem_eq_getElem_data]
          have HM : Hid (∀ m, s = numS m → valL (s.data.toList.take (k + 1)) ≤ m) := by
            show ∀ m, _
            intro m hm
            have h1 := valL_take_le s.data.toList (k + 1)
            have h2 : valL s.data.toList = m := by rw [hm]; exact num_val
            omega
          have hc0 := UInt8.toNat_lt s[k]
          by_cases hd1 : s[k].toNat < 48
          · obtain ⟨rfl, rfl⟩ := HNO.out (fun h => by have := HC.out h; simp [figB] at this; omega)
            have hd1' : (s[k].toNat : Int) < 48 := by omega
            go_wp2
            all_goals go_ret2
            all_goals exact ⟨rfl, by go_grown⟩
          · by_cases hd2 : 57 < s[k].toNat
            · obtain ⟨rfl, rfl⟩ := HNO.out (fun h => by have := HC.out h; simp [figB] at this; omega)
              have hd2' : (57 : Int) < (s[k].toNat : Int) := by omega
              have hd1' : ¬ (s[k].toNat : Int) < 48 := by omega
              go_wp2
              all_goals go_ret2
              all_goals exact ⟨rfl, by go_grown⟩
            · have hd2' : ¬ (57 : Int) < (s[k].toNat : Int) := by omega
              have hd1' : ¬ (s[k].toNat : Int) < 48 := by omega
              by_cases hov : (9223372036854775807 - ((s[k].toNat : Int) - 48)) / 10 < n
              · obtain ⟨rfl, rfl⟩ := HNO.out (by
                  rintro ⟨m, hm, e⟩
                  have h1 := HM.out m e
                  have h2 := HT.out
                  have h3 := HV.out
                  omega)
                have hq : (9223372036854775807 - ((s[k].toNat : Int) - 48)).tdiv 10 = (9223372036854775807 - ((s[k].toNat : Int) - 48)) / 10 := Int.tdiv_eq_ediv_of_nonneg (by omega)
                go_wp2
                all_goals go_ret2
                all_goals exact ⟨rfl, by go_grown⟩
              · have hn2 : 10 * n + ((s[k].toNat : Int) - 48) ≤ 9223372036854775807 := by omega
                go_wp2
                go_roundw
                case rel =>
                  refine ⟨k + 1, 10 * n + ((s[k].toNat : Int) - 48), by go_num, by go_num, by omega, by omega, by omega, ?_, by first | rfl | trivial⟩
                  show _ = (valL (s.data.toList.take (k + 1)) : Int)
                  have h2 := HT.out
                  have h3 := HV.out
                  omega
                case measure => simp [intOf]; omega
        · have hk3 : ¬ (k : Int) < s.size := by omega
          have hnv : Hid (n = (valL s.data.toList : Int)) := by
            show n = _
            rw [HV.out, List.take_of_length_le (by have := HLEN.out; omega)]
          obtain ⟨m, rfl⟩ : ∃ m : Nat, n = (m : Int) := ⟨n.toNat, by omega⟩
          have hm : m = valL s.data.toList := by have := hnv.out; omega
          have HMV := hide hm
          clear hm
          go_wp2_with fail
          refine (specDigits (m : Int) (by omega) (by omega) _).mono ?_
          rintro e w1 ⟨rfl, hb1⟩
          have H1 := hide hb1
          clear hb1
          have e1 : (⟨(Lib.itoa (m : Int)).toArray⟩ : ByteArray) = numS m := rfl
          rw [e1]
          by_cases heq : numS m = s
          · obtain ⟨rfl, rfl⟩ := HYES.out m (by omega) heq.symm
            have hq0 : ((numS m).toList == s.toList) = true := (Lib.bytes_beq_iff _ _).2 heq
            clear heq e1
            generalize numS m = q at hq0 ⊢
            go_wp2_with fail
            all_goals go_ret2
            all_goals exact ⟨rfl, H1.out⟩
          · obtain ⟨rfl, rfl⟩ := HNO.out (by
              rintro ⟨m2, hm2, e⟩
              have h2 : valL s.data.toList = m2 := by rw [e]; exact num_val
              have h3 := HMV.out
              exact heq (by rw [h3, h2]; exact e.symm))
            have hq0 : ((numS m).toList == s.toList) = false := (Lib.bytes_beq_false_iff _ _).2 heq
            clear heq e1
            generalize numS m = q at hq0 ⊢
            go_wp2_with fail
            all_goals go_ret2
            all_goals exact ⟨rfl, H1.out⟩
end Go.Proofs.YtfnjcgakcpadiaaGreatDoor
