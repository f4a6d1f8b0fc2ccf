/-
  The walk of FnExactQuoteText.
-/
import Derived.Test.YtifkldghbdpdmaaDoorQuoteI
namespace Go.Proofs.YtifkldghbdpdmaaDoor
open Go.RowKit

set_option maxRecDepth 100000 in
theorem implQuoteText (s : ByteArray) (m : Int) (w : World) (hs : s.size ≤ 1048576) (hm : w.cell? ⟨2, 0, none⟩ = some (.int .i64 m)) :
    Calls Tryd.prog 22 #[.string s] w fun e w' => e = .returned (.string ⟨(quoteL 39 s).toArray⟩) ∧ Below w.heap.size w w' := by
  go_enter Tryd.func22, Tryd.ntmps22
  go_wp2_with fail
  refine (implQuoted s 39 m w hs hm).mono ?_
  rintro e w1 ⟨rfl, hb⟩
  have H1 := hide hb
  clear hb
  go_wp2_with fail
  go_ret
  exact ⟨rfl, H1.out⟩

set_option maxRecDepth 100000 in
theorem specQuoteText (s : ByteArray) (w : World) (hs : s.size ≤ 1048576) :
    Calls Tryd.prog 21 #[.string s] w fun e w' => e = .returned (.string ⟨(quoteL 39 s).toArray⟩) ∧ Below w.heap.size w w' := by
  go_enter Tryd.func21, Tryd.ntmps21
  go_wp2_with fail
  refine (l2QuoteC s 39 w hs).mono ?_
  rintro e w1 ⟨rfl, hb⟩
  have H1 := hide hb
  clear hb
  go_wp2_with fail
  go_ret
  exact ⟨rfl, H1.out⟩

set_option maxRecDepth 100000 in
theorem fnExactQuoteText.walk (s : ByteArray) (w : World) (ws : s.size ≤ maxLen) (hm : ∃ m, w.cell? ⟨2, 0, none⟩ = some (.int .i64 m)) :
    Calls Tryd.prog 6 #[.string s] w fun e w' => e = .returned (.bool true) ∧ Below w.heap.size w w' := by
  unfold maxLen at ws
  have HM := hide hm
  clear hm
  by_cases h3 : s.size ≤ 1048576
  · have h4 : ¬ (1048576 : Int) < s.size := by omega
    go_enter Tryd.func6, Tryd.ntmps6
    go_wp2_with fail
    refine (specQuoteText s w h3).mono ?_
    rintro e w1 ⟨rfl, hb1⟩
    have H1 := hide hb1
    clear hb1
    have hI := fun w m h => implQuoteText s m w h3 h
    generalize (⟨(quoteL 39 s).toArray⟩ : ByteArray) = r at hI ⊢
    go_wp2_with fail
    obtain ⟨m, hm⟩ := some_below HM.out H1.out
    refine (hI w1 m hm).mono ?_
    rintro e w2 ⟨rfl, hb2⟩
    have H2 := hide (below_via H1.out hb2)
    clear hb2
    go_wp2_with fail
    all_goals go_ret
    all_goals exact ⟨rfl, H2.out⟩
  · have h4 : (1048576 : Int) < s.size := by omega
    go_enter Tryd.func6, Tryd.ntmps6
    go_wp2_with fail
    all_goals go_ret
    all_goals exact ⟨rfl, by go_grown⟩
end Go.Proofs.YtifkldghbdpdmaaDoor
