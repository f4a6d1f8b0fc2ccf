/-
  The walk of FnExactDigits, in a world in which the table of the powers of ten lies.
-/
import Derived.Test.YtfnjcgakcpadiaaGreatDoorDigS
import Derived.Test.YtfnjcgakcpadiaaGreatDoorShelf
import Derived.Lib.AppendIntMem
namespace Go.Proofs.YtfnjcgakcpadiaaGreatDoor
open Go.RowKit

theorem below_of_grow {w w' : World} (h : ∃ k os, w' = Sort.grow (w.drewN k) os) : Below w.heap.size w w' := by
  obtain ⟨k, os, rfl⟩ := h
  refine ⟨rfl, rfl, rfl, ?_, fun i hi => ?_⟩
  · show w.heap.size ≤ ((w.drewN k).heap ++ os).size
    rw [Array.size_append]
    show w.heap.size ≤ w.heap.size + os.size
    omega
  · show ((w.drewN k).heap ++ os)[i]? = _
    rw [Array.getElem?_append_left (by show i < w.heap.size; omega)]
    rfl

theorem implDigits (n : Int) (h0 : -9223372036854775808 ≤ n) (h1 : n ≤ 9223372036854775807) (w : World) (htab : Lib.TabIs Tryz.prog w "internal/strconv.uint64pow10" .u64 Lib.pow10Tab) :
    Calls Tryz.prog 72 #[.int .i64 n] w fun e w' => e = .returned (.string ⟨(Lib.itoa n).toArray⟩) ∧ Below w.heap.size w w' := by
  go_enter Tryz.func72, Tryz.ntmps72
  go_wp2_with (go_at_call 92; refine (Tryz.strconv_Itoa n h0 h1 w htab).mono ?_; rintro e w1 ⟨rfl, hg⟩; have hb := below_of_grow hg; clear hg)
  go_ret
  exact ⟨rfl, hb⟩
end Go.Proofs.YtfnjcgakcpadiaaGreatDoor
