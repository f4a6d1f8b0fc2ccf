/-
  What a text comes apart into: joined it is the text again, and no part holds the separator.
-/
import Derived.Test.YtnamikhhbedpeaaWParts
namespace Go.Proofs.Ytnamikhhbedpeaa
open Go.RowKit

theorem ba_inj {s t : ByteArray} (h : s.toList = t.toList) : s = t := by
  rw [ByteArray.toList_eq, ByteArray.toList_eq] at h
  cases s with
  | mk a => cases t with
    | mk b => congr; exact Array.toList_inj.mp h
theorem ba_extract (s : ByteArray) (a b : Nat) : (s.extract a b).toList = (s.toList.take b).drop a := by
  rw [ByteArray.toList_eq, ByteArray.toList_eq, ByteArray.data_extract, Array.toList_extract, List.extract_eq_take_drop]
  rw [List.drop_take]
theorem ba_append (s t : ByteArray) : (s ++ t).toList = s.toList ++ t.toList := by
  rw [ByteArray.toList_eq, ByteArray.toList_eq, ByteArray.toList_eq, ByteArray.data_append, Array.toList_append]
theorem ba_len (s : ByteArray) : s.toList.length = s.size := by rw [ByteArray.toList_eq]; simp only [ByteArray.size, Array.length_toList]
theorem ba_get (s : ByteArray) (i : Nat) (h : i < s.size) : s[i] = s.toList[i]'(by rw [ba_len]; exact h) := by
  simp [ByteArray.toList_eq, ByteArray.getElem_eq_getElem_data]

/-- One part more, the separator ahead of it. -/
def glue (c : UInt8) (acc y : ByteArray) : ByteArray := acc ++ ⟨#[c]⟩ ++ y

theorem split_at (s : ByteArray) (fr i : Nat) (h1 : fr ≤ i) (h2 : i < s.size) (acc : ByteArray) : acc ++ s.extract fr i ++ ⟨#[s[i]]⟩ ++ s.extract (i + 1) s.size = acc ++ s.extract fr s.size := by
  apply ba_inj
  simp only [ba_append, ba_extract]
  have hl := ba_len s
  have e1 : (⟨#[s[i]]⟩ : ByteArray).toList = [s[i]] := by rw [ByteArray.toList_eq]
  have e3 : s.toList.take s.size = s.toList := List.take_of_length_le (by omega)
  rw [e1, ba_get s i h2, e3]
  have e2 : (s.toList.drop fr) = (s.toList.take i).drop fr ++ s.toList.drop i := by
    have : s.toList.drop fr = (s.toList.take i ++ s.toList.drop i).drop fr := by rw [List.take_append_drop]
    rw [this, List.drop_append_of_le_length (by simp; omega)]
  rw [e2, List.drop_eq_getElem_cons (show i < s.toList.length by omega)]
  simp

theorem glue_pfx (s : ByteArray) (c : UInt8) : ∀ d fr i, s.size - i = d → fr ≤ i → i ≤ s.size → ∀ acc : ByteArray, ∃ x r, pfx (c.toNat : Int) s fr i = x :: r ∧ r.foldl (glue c) (acc ++ x) = acc ++ s.extract fr s.size := by
  intro d
  induction d with
  | zero =>
    intro fr i h h1 h2 acc
    exact ⟨_, [], by rw [pfx, dif_neg (by omega)], rfl⟩
  | succ d ih =>
    intro fr i h h1 h2 acc
    have hi : i < s.size := by omega
    by_cases hc : ((s[i]'hi).toNat : Int) = c.toNat
    · obtain ⟨x', r', e, hr⟩ := ih (i + 1) (i + 1) (by omega) (Nat.le_refl _) (by omega) (acc ++ s.extract fr i ++ ⟨#[c]⟩)
      refine ⟨s.extract fr i, x' :: r', by rw [pfx, dif_pos hi, if_pos hc, e], ?_⟩
      rw [List.foldl_cons]
      show r'.foldl (glue c) (acc ++ s.extract fr i ++ ⟨#[c]⟩ ++ x') = _
      rw [hr]
      have hcc : c = s[i] := by
        have : (s[i]'hi).toNat = c.toNat := by omega
        exact (UInt8.toNat_inj.mp this).symm
      rw [hcc]
      exact split_at s fr i h1 hi acc
    · obtain ⟨x, r, e, hr⟩ := ih fr (i + 1) (by omega) (by omega) (by omega) acc
      exact ⟨x, r, by rw [pfx, dif_pos hi, if_neg hc, e], hr⟩

theorem none_pfx (s : ByteArray) (c : Int) : ∀ d fr i, s.size - i = d → fr ≤ i → i ≤ s.size → (∀ k (h : k < s.size), fr ≤ k → k < i → (s[k].toNat : Int) ≠ c) → ∀ x ∈ pfx c s fr i, ∀ k (h : k < x.size), (x[k].toNat : Int) ≠ c := by
  have key : ∀ fr i (_ : fr ≤ i) (_ : i ≤ s.size), (∀ k (h : k < s.size), fr ≤ k → k < i → (s[k].toNat : Int) ≠ c) → ∀ k (h : k < (s.extract fr i).size), (((s.extract fr i)[k]).toNat : Int) ≠ c := by
    intro fr i h1 h2 hno k hk
    have hk2 : k < i - fr := by rw [ByteArray.size_extract] at hk; omega
    have e : (s.extract fr i)[k] = s[fr + k]'(by omega) := by
      rw [ba_get, ba_get]
      have e2 := ba_extract s fr i
      simp [e2]
    rw [e]
    exact hno (fr + k) (by omega) (by omega) (by omega)
  intro d
  induction d with
  | zero =>
    intro fr i h h1 h2 hno x hx
    rw [pfx, dif_neg (by omega)] at hx
    have : x = s.extract fr s.size := by simpa using hx
    subst this
    have : i = s.size := by omega
    subst this
    exact key fr s.size h1 (Nat.le_refl _) hno
  | succ d ih =>
    intro fr i h h1 h2 hno x hx
    have hi : i < s.size := by omega
    rw [pfx, dif_pos hi] at hx
    by_cases hc : ((s[i]'hi).toNat : Int) = c
    · rw [if_pos hc] at hx
      rcases List.mem_cons.mp hx with rfl | hx
      · exact key fr i h1 h2 hno
      · exact ih (i + 1) (i + 1) (by omega) (Nat.le_refl _) (by omega) (fun k _ a b => by omega) x hx
    · rw [if_neg hc] at hx
      exact ih fr (i + 1) (by omega) (by omega) (by omega) (fun k hk a b => by
        by_cases hki : k = i
        · subst hki; exact hc
        · exact hno k hk a (by omega)) x hx

/-- The parts joined, up to the i-th. -/
def backOf (c : UInt8) (l : List ByteArray) (i : Nat) : ByteArray := (l.tail.take (i - 1)).foldl (glue c) (l.getD 0 ByteArray.empty)
theorem backOf_one (c : UInt8) (l : List ByteArray) : backOf c l 1 = l.getD 0 ByteArray.empty := rfl
theorem backOf_succ (c : UInt8) (l : List ByteArray) (i : Nat) (h0 : 1 ≤ i) (h : i < l.length) : backOf c l (i + 1) = backOf c l i ++ ⟨#[c]⟩ ++ l.getD i ByteArray.empty := by
  unfold backOf
  cases l with
  | nil => simp at h
  | cons x r =>
    obtain ⟨i, rfl⟩ : ∃ j, i = j + 1 := ⟨i - 1, by omega⟩
    simp only [List.tail_cons, Nat.add_sub_cancel, List.length_cons] at h ⊢
    have hr : i < r.length := by omega
    rw [List.take_succ_eq_append_getElem hr, List.foldl_append]
    simp [glue, List.getD, List.getElem?_eq_getElem hr]
theorem backOf_all (c : UInt8) (s : ByteArray) : backOf c (pfx (c.toNat : Int) s 0 0) (pfx (c.toNat : Int) s 0 0).length = s ∧ 0 < (pfx (c.toNat : Int) s 0 0).length := by
  obtain ⟨x, r, e, hr⟩ := glue_pfx s c s.size 0 0 (by omega) (Nat.le_refl _) (Nat.zero_le _) ByteArray.empty
  rw [e]
  refine ⟨?_, by simp⟩
  unfold backOf
  simp only [List.tail_cons, List.length_cons, Nat.add_sub_cancel, List.take_length]
  have e1 : ByteArray.empty ++ x = x := by apply ba_inj; rw [ba_append]; rw [ByteArray.toList_eq (bs := ByteArray.empty)]; rfl
  have e2 : ByteArray.empty ++ s.extract 0 s.size = s := by
    apply ba_inj
    rw [ba_append, ba_extract, List.take_of_length_le (by rw [ba_len]; omega), ByteArray.toList_eq (bs := ByteArray.empty)]
    rfl
  rw [e1, e2] at hr
  exact hr
end Go.Proofs.Ytnamikhhbedpeaa
