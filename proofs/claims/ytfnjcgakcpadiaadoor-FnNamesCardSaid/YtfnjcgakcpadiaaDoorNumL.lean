/-
  Numerals: what a row of digits is worth, and that strconv.Atoi reads back what Itoa writes. No program in sight.
-/
import Derived.Lib.ItoaNum
import Derived.Lib.AtoiAllCases
namespace Go.Proofs.YtfnjcgakcpadiaaDoor
open Go.Lib

/-- What a row of bytes is worth, as digits. -/
def valL (l : List UInt8) : Nat := l.foldl (fun a c => 10 * a + (c.toNat - 48)) 0
/-- A digit. -/
def figB (c : UInt8) : Bool := decide (48 ≤ c.toNat) && decide (c.toNat ≤ 57)

theorem valL_nil : valL [] = 0 := rfl
theorem valL_snoc (l : List UInt8) (c : UInt8) : valL (l ++ [c]) = 10 * valL l + (c.toNat - 48) := by
  unfold valL; rw [List.foldl_append]; rfl
theorem valL_take (l : List UInt8) (k : Nat) (h : k < l.length) : valL (l.take (k + 1)) = 10 * valL (l.take k) + (l[k].toNat - 48) := by
  rw [List.take_succ_eq_append_getElem h, valL_snoc]
theorem valL_app (a b : List UInt8) : valL a ≤ valL (a ++ b) := by
  induction b generalizing a with
  | nil => simp
  | cons c b ih =>
    have h1 := ih (a ++ [c])
    rw [List.append_assoc, valL_snoc] at h1
    simp only [List.singleton_append] at h1
    omega
theorem valL_take_le (l : List UInt8) (k : Nat) : valL (l.take k) ≤ valL l := by
  have h := valL_app (l.take k) (l.drop k)
  rwa [List.take_append_drop] at h

theorem fig_of (n : Nat) (h : n < 10) : (UInt8.ofNat (48 + n)).toNat = 48 + n := by
  rw [UInt8.toNat_ofNat']
  omega

theorem dec_val (u : Nat) : valL (decDigits u) = u := by
  induction u using Nat.strongRecOn with
  | _ u ih =>
    rw [decDigits]
    by_cases h : u < 10
    · rw [dif_pos h]
      show 10 * 0 + _ = _
      rw [fig_of u h]
      omega
    · rw [dif_neg h, valL_snoc, ih (u / 10) (by omega), fig_of _ (by omega)]
      omega

theorem dec_figs (u : Nat) : ∀ c ∈ decDigits u, figB c = true := by
  induction u using Nat.strongRecOn with
  | _ u ih =>
    rw [decDigits]
    by_cases h : u < 10
    · rw [dif_pos h]
      intro c hc
      simp only [List.mem_singleton] at hc
      subst hc
      have := fig_of u h
      simp [figB]
      omega
    · rw [dif_neg h]
      intro c hc
      rcases List.mem_append.mp hc with hc | hc
      · exact ih (u / 10) (by omega) c hc
      · simp only [List.mem_singleton] at hc
        subst hc
        have := fig_of (u % 10) (by omega)
        simp [figB]
        omega

theorem nDig_le (k : Nat) (u : Nat) (h : u < 10 ^ (k + 1)) : nDigits u ≤ k + 1 := by
  induction k generalizing u with
  | zero => rw [nDigits_small (by simpa using h)]; omega
  | succ k ih =>
    by_cases h10 : u < 10
    · rw [nDigits_small h10]; omega
    · rw [nDigits_big h10]
      have := ih (u / 10) (by rw [Nat.pow_succ] at h; omega)
      omega

theorem dec_len (u : Nat) (h : u ≤ 9223372036854775807) : 1 ≤ (decDigits u).length ∧ (decDigits u).length ≤ 19 := by
  rw [decDigits_length]
  exact ⟨nDigits_pos u, nDig_le 18 u (by omega)⟩

theorem itoa_nat (u : Nat) : itoa (u : Int) = decDigits u := by
  unfold itoa; rw [if_neg (by omega)]; simp

theorem itoa_inj {a b : Nat} (h : itoa (a : Int) = itoa (b : Int)) : a = b := by
  rw [itoa_nat, itoa_nat] at h
  rw [← dec_val a, ← dec_val b, h]

theorem parse_val : ∀ (l : List UInt8) (pre : List UInt8), (∀ c ∈ l, figB c = true) → valL (pre ++ l) ≤ 9223372036854775807 → parseUint10 (valL pre) l = .ok (valL (pre ++ l))
  | [], pre, _, _ => by simp [parseUint10]
  | c :: r, pre, h, hv => by
    have hc : 48 ≤ c.toNat ∧ c.toNat ≤ 57 := by
      have := h c (List.mem_cons_self)
      simpa [figB] using this
    have hle : valL (pre ++ [c]) ≤ valL (pre ++ c :: r) := by
      have := valL_app (pre ++ [c]) r
      simpa using this
    rw [valL_snoc] at hle
    rw [parseUint10, if_pos hc, if_neg (by omega), if_neg (by omega)]
    have e : valL pre * 10 + (c.toNat - 48) = valL (pre ++ [c]) := by rw [valL_snoc]; omega
    rw [e, parse_val r (pre ++ [c]) (fun x hx => h x (List.mem_cons_of_mem _ hx)) (by simpa using hv)]
    simp

theorem atoi_itoa (u : Nat) (h : u ≤ 9223372036854775807) : atoiAll (itoa (u : Int)) = .ok (u : Int) := by
  rw [itoa_nat]
  have hl := dec_len u h
  have hf := dec_figs u
  have hv := dec_val u
  generalize decDigits u = l at hl hf hv
  match l, hl with
  | c :: r, _ =>
    have hc : 48 ≤ c.toNat ∧ c.toNat ≤ 57 := by
      have := hf c (List.mem_cons_self)
      simpa [figB] using this
    rw [atoiAll_plain c r (by omega) (by omega)]
    have e := parse_val (c :: r) [] hf (by rw [List.nil_append, hv]; exact h)
    rw [List.nil_append, hv, valL_nil] at e
    unfold parseMag
    rw [if_neg (by simp), e]
    show (if 9223372036854775808 ≤ u then NumEnd.range else .ok (u : Int)) = _
    rw [if_neg (by omega)]

/-- The text of n, as a string. -/
def numS (n : Nat) : ByteArray := ⟨(itoa (n : Int)).toArray⟩
theorem numS_list (n : Nat) : (numS n).data.toList = itoa (n : Int) := by simp [numS]
theorem numS_inj {a b : Nat} (h : numS a = numS b) : a = b := by
  have := congrArg (fun x : ByteArray => x.data.toList) h
  simp only [numS_list] at this
  exact itoa_inj this
theorem numS_size (n : Nat) (h : n ≤ 9223372036854775807) : 1 ≤ (numS n).size ∧ (numS n).size ≤ 19 := by
  have e : (numS n).size = (itoa (n : Int)).length := by simp [numS, ByteArray.size]
  rw [e, itoa_nat]
  exact dec_len n h

/-- A string is the text of a whole number that is not negative. -/
def isNum (s : ByteArray) : Prop := ∃ n : Nat, n ≤ 9223372036854775807 ∧ s = numS n
theorem num_figs {s : ByteArray} (h : isNum s) : ∀ c ∈ s.data.toList, figB c = true := by
  obtain ⟨n, _, rfl⟩ := h
  rw [numS_list, itoa_nat]
  exact dec_figs n
theorem num_val {n : Nat} : valL (numS n).data.toList = n := by
  rw [numS_list, itoa_nat, dec_val]
theorem num_atoi {s : ByteArray} {n : Nat} (hn : n ≤ 9223372036854775807) (h : s = numS n) : atoiAll s.data.toList = .ok (n : Int) := by
  rw [h, numS_list, atoi_itoa n hn]
end Go.Proofs.YtfnjcgakcpadiaaDoor
