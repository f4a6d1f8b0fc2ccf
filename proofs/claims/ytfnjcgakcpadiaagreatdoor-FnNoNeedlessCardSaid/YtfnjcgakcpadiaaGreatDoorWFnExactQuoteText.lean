/-
  The walk of FnExactQuoteText.
-/
import Derived.Test.YtfnjcgakcpadiaaGreatDoorQuoteI
namespace Go.Proofs.YtfnjcgakcpadiaaGreatDoor
open Go.RowKit

set_option maxRecDepth 100000 in
theorem implQuoteText (s : ByteArray) (m : Int) (w : World) (hs : s.size ≤ 1048576) (hm : w.cell? ⟨0, 0, none⟩ = some (.int .i64 m)) :
    Calls Tryz.prog 40 #[.string s] w fun e w' => e = .returned (.string ⟨(quoteL 39 s).toArray⟩) ∧ Below w.heap.size w w' := by
  go_enter Tryz.func40, Tryz.ntmps40
  go_wp2_with fail
  refine (implQuoted s 39 m w hs hm).mono ?_
  rintro e w1 ⟨rfl, hb⟩
  have H1 := hide hb
  clear hb
  go_wp2_with fail
  go_ret
  exact ⟨rfl, H1.out⟩

set_option maxRecDepth 100000 in
theorem specQuoteText (s : ByteArray) (w : World) (hs : s.size ≤ 1048576) :
    Calls Tryz.prog 38 #[.string s] w fun e w' => e = .returned (.string ⟨(quoteL 39 s).toArray⟩) ∧ Below w.heap.size w w' := by
  go_enter Tryz.func38, Tryz.ntmps38
  go_wp2_with fail
  refine (l2QuoteC s 39 w hs).mono ?_
  rintro e w1 ⟨rfl, hb⟩
  have H1 := hide hb
  clear hb
  go_wp2_with fail
  go_ret
  exact ⟨rfl, H1.out⟩
end Go.Proofs.YtfnjcgakcpadiaaGreatDoor
