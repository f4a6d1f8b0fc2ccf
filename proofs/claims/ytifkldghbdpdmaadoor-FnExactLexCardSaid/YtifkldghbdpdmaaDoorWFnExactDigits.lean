/-
  The walk of FnExactDigits, in a world in which the table of the powers of ten lies.
-/
import Derived.Test.YtifkldghbdpdmaaDoorDigS
import Derived.Test.YtifkldghbdpdmaaDoorShelf
import Derived.Lib.AppendIntMem
namespace Go.Proofs.YtifkldghbdpdmaaDoor
open Go.RowKit

theorem below_of_grow {w w' : World} (h : ∃ k os, w' = Sort.grow (w.drewN k) os) : Below w.heap.size w w' := by
  obtain ⟨k, os, rfl⟩ := h
  refine ⟨rfl, rfl, rfl, ?_, fun i hi => ?_⟩
  · show w.heap.size ≤ ((w.drewN k).heap ++ os).size
    rw [Array.size_append]
    show w.heap.size ≤ w.heap.size + os.size
    omega
  · show ((w.drewN k).heap ++ os)[i]? = _
    rw [Array.getElem?_append_left (by show i < w.heap.size; omega)]
    rfl

theorem implDigits (n : Int) (h0 : -9223372036854775808 ≤ n) (h1 : n ≤ 9223372036854775807) (w : World) (htab : Lib.TabIs Tryd.prog w "internal/strconv.uint64pow10" .u64 Lib.pow10Tab) :
    Calls Tryd.prog 16 #[.int .i64 n] w fun e w' => e = .returned (.string ⟨(Lib.itoa n).toArray⟩) ∧ Below w.heap.size w w' := by
  go_enter Tryd.func16, Tryd.ntmps16
  go_wp2_with (go_at_call 46; refine (Tryd.strconv_Itoa n h0 h1 w htab).mono ?_; rintro e w1 ⟨rfl, hg⟩; have hb := below_of_grow hg; clear hg)
  go_ret
  exact ⟨rfl, hb⟩

set_option maxRecDepth 100000 in
theorem fnExactDigits.walk (n : Int) (w : World) (wn : (Lit.int .i64 n).wf = true) (htab : Lib.TabIs Tryd.prog w "internal/strconv.uint64pow10" .u64 Lib.pow10Tab) :
    Calls Tryd.prog 3 #[.int .i64 n] w fun e w' => e = .returned (.bool true) ∧ Below w.heap.size w w' := by
  obtain ⟨h0, h1⟩ := bounds_i64 wn
  have HT := hide (Lib.tabBelow_of_tabIs htab)
  clear htab
  go_enter Tryd.func3, Tryd.ntmps3
  go_wp2_with fail
  refine (specDigits n h0 h1 w).mono ?_
  rintro e w1 ⟨rfl, hb1⟩
  have H1 := hide hb1
  clear hb1
  go_wp2_with fail
  refine (implDigits n h0 h1 w1 (HT.out w1 H1.out)).mono ?_
  rintro e w2 ⟨rfl, hb2⟩
  have H2 := hide (below_via H1.out hb2)
  clear hb2
  go_wp2_with fail
  all_goals go_ret
  all_goals exact ⟨rfl, H2.out⟩
end Go.Proofs.YtifkldghbdpdmaaDoor
