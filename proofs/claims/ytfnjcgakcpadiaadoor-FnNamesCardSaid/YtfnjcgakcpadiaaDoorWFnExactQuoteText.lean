/-
  The walk of FnExactQuoteText.
-/
import Derived.Test.YtfnjcgakcpadiaaDoorQuoteI
namespace Go.Proofs.YtfnjcgakcpadiaaDoor
open Go.RowKit

set_option maxRecDepth 100000 in
theorem implQuoteText (s : ByteArray) (m : Int) (w : World) (hs : s.size ≤ 1048576) (hm : w.cell? ⟨2, 0, none⟩ = some (.int .i64 m)) :
    Calls Tryd.prog 21 #[.string s] w fun e w' => e = .returned (.string ⟨(quoteL 39 s).toArray⟩) ∧ Below w.heap.size w w' := by
  go_enter Tryd.func21, Tryd.ntmps21
  go_wp2_with fail
  refine (implQuoted s 39 m w hs hm).mono ?_
  rintro e w1 ⟨rfl, hb⟩
  have H1 := hide hb
  clear hb
  go_wp2_with fail
  go_ret
  exact ⟨rfl, H1.out⟩

set_option maxRecDepth 100000 in
theorem specQuoteText (s : ByteArray) (w : World) (hs : s.size ≤ 1048576) :
    Calls Tryd.prog 23 #[.string s] w fun e w' => e = .returned (.string ⟨(quoteL 39 s).toArray⟩) ∧ Below w.heap.size w w' := by
  go_enter Tryd.func23, Tryd.ntmps23
  go_wp2_with fail
  refine (l2QuoteC s 39 w hs).mono ?_
  rintro e w1 ⟨rfl, hb⟩
  have H1 := hide hb
  clear hb
  go_wp2_with fail
  go_ret
  exact ⟨rfl, H1.out⟩
end Go.Proofs.YtfnjcgakcpadiaaDoor
