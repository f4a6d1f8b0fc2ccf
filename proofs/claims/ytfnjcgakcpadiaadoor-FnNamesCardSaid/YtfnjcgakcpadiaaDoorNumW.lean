/-
  Number, in the reference and in the program.
-/
import Derived.Test.YtfnjcgakcpadiaaDoorNumL
import Derived.Test.YtfnjcgakcpadiaaDoorWFnExactDigits
namespace Go.Proofs.YtfnjcgakcpadiaaDoor
open Go.RowKit

open Classical in
/-- The number that a string is the text of; 0 where it is none. -/
noncomputable def numN (s : ByteArray) : Int := if h : isNum s then (h.choose : Int) else 0
open Classical in
noncomputable def numB (s : ByteArray) : Bool := if isNum s then true else false
theorem numN_yes {s : ByteArray} {n : Nat} (hn : n ≤ 9223372036854775807) (h : s = numS n) : numN s = (n : Int) ∧ numB s = true := by
  have hi : isNum s := ⟨n, hn, h⟩
  unfold numN numB
  rw [dif_pos hi, if_pos hi]
  have e : hi.choose = n := numS_inj (hi.choose_spec.2.symm.trans h)
  rw [e]
  exact ⟨rfl, rfl⟩
theorem numN_no {s : ByteArray} (h : ¬ isNum s) : numN s = 0 ∧ numB s = false := by
  unfold numN numB
  rw [dif_neg h, if_neg h]
  exact ⟨rfl, rfl⟩
theorem numN_range (s : ByteArray) : 0 ≤ numN s ∧ numN s ≤ 9223372036854775807 := by
  by_cases h : isNum s
  · obtain ⟨n, hn, hs⟩ := h
    rw [(numN_yes hn hs).1]
    omega
  · rw [(numN_no h).1]; omega

end Go.Proofs.YtfnjcgakcpadiaaDoor