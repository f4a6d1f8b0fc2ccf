/-
  The varints' plain law: what is put is got, what is longer than it has to be is not, nor what is cut.
-/
import Derived.Test.YtnamikhhbedpeaaWGetVar
namespace Go.Proofs.Ytnamikhhbedpeaa
open Go.RowKit

theorem u8n (n : Nat) (h : n < 256) : (UInt8.ofNat n).toNat = n := by simp; omega

/-- An encoding: bytes from 128 on, and a last one below, that is 0 only where it stands alone. -/
theorem pvf_shape : ∀ v, ∃ l c, pvf v = l ++ [c] ∧ c.toNat < 128 ∧ (∀ x ∈ l, 128 ≤ x.toNat) ∧ (l ≠ [] → c.toNat ≠ 0) := by
  intro v
  induction v using Nat.strongRecOn with
  | _ v ih =>
    by_cases h : v < 128
    · refine ⟨[], UInt8.ofNat v, ?_, ?_, by simp, by simp⟩
      · rw [pvf, if_pos h]; rfl
      · rw [u8n v (by omega)]; exact h
    · obtain ⟨l, c, e, hc, hl, h0⟩ := ih (v / 128) (by omega)
      refine ⟨UInt8.ofNat (v % 128 + 128) :: l, c, ?_, hc, ?_, ?_⟩
      · rw [pvf, if_neg h, e]; rfl
      · intro x hx
        rcases List.mem_cons.mp hx with rfl | hx
        · rw [u8n _ (by omega)]; omega
        · exact hl x hx
      · intro _
        by_cases hle : l = []
        · subst hle
          have h2 : v / 128 < 128 := by
            apply Classical.byContradiction
            intro h3
            have h4 := congrArg List.length e
            rw [pvf, if_neg h3] at h4
            have := (pvf_len (v / 128) (v / 128 / 128) (Nat.lt_of_lt_of_le (Nat.lt_pow_self (by omega : 1 < 128)) (Nat.pow_le_pow_right (by omega) (by omega)))).2
            simp only [List.length_cons, List.length_nil, List.nil_append] at h4
            omega
          rw [pvf, if_pos h2] at e
          have e2 : UInt8.ofNat (v / 128) = c := by simpa using e
          rw [← e2, u8n _ (by omega)]
          omega
        · exact h0 hle

theorem gvF_sound (s : ByteArray) (a k u : Nat) (h : (gvF s a k u).2.2 = true) : pvf (gvF s a k u).1 = (s.extract a (gvF s a k u).2.1).toList := by
  induction k, u using gvF.induct s a with
  | case1 k u hc hd hp =>
    rw [gvF, dif_pos hc, if_pos hd, if_pos hp]
    simpa using hp
  | case2 k u hc hd hp =>
    rw [gvF, dif_pos hc, if_pos hd, if_neg hp] at h
    simp at h
  | case3 k u hc hd ih =>
    rw [gvF, dif_pos hc, if_neg hd] at h ⊢
    exact ih h
  | case4 k u hc =>
    rw [gvF, dif_neg hc] at h
    simp at h

theorem ext_toList (s : ByteArray) (a b : Nat) : (s.extract a b).toList = (s.toList.take b).drop a := by
  rw [ByteArray.toList_eq, ByteArray.toList_eq, ByteArray.data_extract, Array.toList_extract, List.extract_eq_take_drop]
  rw [List.drop_take]

theorem gv_no {s : ByteArray} {l : List UInt8} {c : UInt8} {v n : Nat} (h : pvf v = (s.toList.take n).drop 0) (hl : ∀ x ∈ l, 128 ≤ x.toNat) (e : s.toList = l ∨ (s.toList = l ++ [c] ∧ c.toNat = 0 ∧ l ≠ [])) : False := by
  obtain ⟨m, d, hm, hd, _, h0⟩ := pvf_shape v
  rw [hm, List.drop_zero] at h
  rcases e with e | ⟨e, hc, hne⟩
  · rw [e] at h
    have hmem : d ∈ l := List.mem_of_mem_take (h ▸ (by simp : d ∈ m ++ [d]))
    have := hl d hmem
    omega
  · rw [e] at h
    by_cases hn : n ≤ l.length
    · rw [List.take_append_of_le_length hn] at h
      have hmem : d ∈ l := List.mem_of_mem_take (h ▸ (by simp : d ∈ m ++ [d]))
      have := hl d hmem
      omega
    · rw [List.take_of_length_le (by simp; omega)] at h
      have h1 := List.append_inj' h (by simp)
      have h2 : d = c := by simpa using h1.2
      exact h0 (by rw [h1.1]; exact hne) (by rw [h2]; exact hc)

theorem gvI_cut {s : ByteArray} {l : List UInt8} (hl : ∀ x ∈ l, 128 ≤ x.toNat) (e : s.toList = l) : (gvI s 0).2.2 = false := by
  cases h : (gvI s 0).2.2
  · rfl
  · rw [gvI, if_pos (by omega)] at h
    have h2 := gvF_sound s 0 0 0 h
    rw [ext_toList] at h2
    exact (gv_no (c := 0) h2 hl (.inl e)).elim

theorem gvI_long {s : ByteArray} {l : List UInt8} {c : UInt8} (hl : ∀ x ∈ l, 128 ≤ x.toNat) (e : s.toList = l ++ [c]) (hc : c.toNat = 0) (hn : l ≠ []) : (gvI s 0).2.2 = false := by
  cases h : (gvI s 0).2.2
  · rfl
  · rw [gvI, if_pos (by omega)] at h
    have h2 := gvF_sound s 0 0 0 h
    rw [ext_toList] at h2
    exact (gv_no h2 hl (.inr ⟨e, hc, hn⟩)).elim

theorem gv_back (s : ByteArray) (a : Nat) : ∀ (y k U : Nat), (∀ i (h : i < (pvf y).length), ∃ h2 : a + k + i < s.size, s[a + k + i]'h2 = (pvf y)[i]) → k + (pvf y).length ≤ 10 → U < 2 ^ (7 * k) → U + 2 ^ (7 * k) * y < 18446744073709551616 →
    pvf (U + 2 ^ (7 * k) * y) = (s.extract a (a + k + (pvf y).length)).toList → gvF s a k U = (U + 2 ^ (7 * k) * y, a + k + (pvf y).length, true) := by
  intro y
  induction y using Nat.strongRecOn with
  | _ y ih =>
    intro k U hb hlen hU htot hp
    by_cases hy : y < 128
    · have e : pvf y = [UInt8.ofNat y] := by rw [pvf, if_pos hy]
      rw [e] at hb hlen hp ⊢
      obtain ⟨h2, hbyte⟩ := hb 0 (by simp)
      simp only [Nat.add_zero] at h2 hbyte
      have hb2 : (s[a + k]'h2).toNat = y := by rw [hbyte]; simp; omega
      have hk : k < 10 := by simp at hlen; omega
      rw [gvF, dif_pos ⟨hk, h2⟩, hb2, if_pos hy]
      have hn : nu U y k = U + 2 ^ (7 * k) * y := by
        rw [nu, Nat.mod_eq_of_lt hy, Nat.mul_comm y, Nat.mod_eq_of_lt htot]
      rw [hn, if_pos (by rw [hp]; simp)]
      rfl
    · have e : pvf y = UInt8.ofNat (y % 128 + 128) :: pvf (y / 128) := by rw [pvf, if_neg hy]
      rw [e] at hb hlen hp ⊢
      obtain ⟨h2, hbyte⟩ := hb 0 (by simp)
      simp only [Nat.add_zero] at h2 hbyte
      have hb2 : (s[a + k]'h2).toNat = y % 128 + 128 := by rw [hbyte]; simp; omega
      simp only [List.length_cons] at hlen hp ⊢
      have hk : k < 10 := by omega
      rw [gvF, dif_pos ⟨hk, h2⟩, hb2, if_neg (by omega)]
      have hpow : 2 ^ (7 * (k + 1)) = 2 ^ (7 * k) * 128 := by rw [Nat.mul_add, Nat.pow_add]
      generalize hP : 2 ^ (7 * k) = P at *
      have hsplit : P * y = P * (y % 128) + P * 128 * (y / 128) := by
        rw [Nat.mul_assoc, ← Nat.mul_add]; congr 1; omega
      have hn : nu U (y % 128 + 128) k = U + P * (y % 128) := by
        rw [nu, hP, show (y % 128 + 128) % 128 = y % 128 by omega, Nat.mul_comm (y % 128), Nat.mod_eq_of_lt (by omega)]
      have hlt : P * (y % 128) ≤ P * 127 := Nat.mul_le_mul_left _ (by omega)
      have htot2 : U + P * (y % 128) + P * 128 * (y / 128) = U + P * y := by omega
      rw [hn]
      have := ih (y / 128) (by omega) (k + 1) (U + P * (y % 128)) (fun i h => by
        obtain ⟨h3, h4⟩ := hb (i + 1) (by simp; omega)
        refine ⟨by omega, ?_⟩
        have h5 : s[a + (k + 1) + i]'(by omega) = s[a + k + (i + 1)]'h3 := by congr 1; omega
        rw [h5, h4]; simp) (by omega) (by rw [hpow]; omega) (by rw [hpow]; omega)
        (by rw [hpow, htot2, show a + (k + 1) + (pvf (y / 128)).length = a + k + ((pvf (y / 128)).length + 1) by omega]; exact hp)
      rw [this, hpow, htot2]
      congr 2
      omega
end Go.Proofs.Ytnamikhhbedpeaa
