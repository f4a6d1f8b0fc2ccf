/-
  A token's text, and how long it is.
-/
import Derived.Test.YtfnjcgakcpadiaaGreatDoorLexE
import Derived.Test.YtfnjcgakcpadiaaGreatDoorTokT
namespace Go.Proofs.YtfnjcgakcpadiaaGreatDoor
open Go.RowKit

theorem tokT_txt {k : Int} {x : ByteArray} (h : tokOk k x = true) : tokT k x = ⟨(txtL k x).toArray⟩ := by
  unfold tokT
  rw [if_neg (by rw [h]; simp)]
  by_cases h2 : k = 2
  · subst h2
    rw [if_pos rfl]
    have hs : 1 ≤ x.size ∧ x.size ≤ 20 := by
      unfold tokOk at h
      rw [if_neg (by decide), if_pos rfl] at h
      simpa using h
    unfold nameT txtL
    rw [if_pos hs]
    cases hp : plainB x
    · have hq : quotB 2 x = true := by simp [quotB, hp]
      rw [if_neg (by simp), if_pos hq]
    · have hq : quotB 2 x = false := by simp [quotB, hp]
      rw [if_pos rfl, if_neg (by rw [hq]; simp), if_neg (by decide), arr_list]
  · rw [if_neg h2]
    have hq : quotB k x = false := by simp [quotB, h2]
    have e : txtL k x = if k = 4 then quoteL 39 x else x.data.toList := by
      unfold txtL
      rw [if_neg (by rw [hq]; simp)]
    rw [e]
    by_cases h4 : k = 4
    · rw [if_pos h4, if_pos h4]
    · rw [if_neg h4, if_neg h4, arr_list]

theorem quoteL_len (q : UInt8) (x : ByteArray) : (quoteL q x).length ≤ 2 * x.size + 2 := by
  unfold quoteL
  have h1 := dbl_len q x.data.toList
  have h2 := list_size x
  simp
  simp at h1
  omega
theorem txt_len (k : Int) (x : ByteArray) : (txtL k x).length ≤ 2 * x.size + 2 := by
  unfold txtL
  have h2 := list_size x
  split
  · exact quoteL_len _ _
  · split
    · exact quoteL_len _ _
    · omega

theorem lexS_of (s : ByteArray) (h : s.size ≤ 2000) : lexS s = lexAt s.data.toList 0 := by unfold lexS; rw [if_neg (by omega)]
theorem lexS_list (l : List UInt8) (h : l.length ≤ 2000) : lexS ⟨l.toArray⟩ = lexAt l 0 := by
  rw [lexS_of _ (by simpa [ByteArray.size] using h)]
end Go.Proofs.YtfnjcgakcpadiaaGreatDoor
