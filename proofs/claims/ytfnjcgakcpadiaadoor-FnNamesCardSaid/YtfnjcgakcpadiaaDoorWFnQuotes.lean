/-
  The walk of FnQuotes.
-/
import Derived.Test.YtfnjcgakcpadiaaDoorDrW
import Derived.Test.YtfnjcgakcpadiaaDoorLexR
import Derived.Test.YtfnjcgakcpadiaaDoorLexIm
import Derived.Test.YtfnjcgakcpadiaaDoorLexE
import Derived.Test.YtfnjcgakcpadiaaDoorWFnExactQuoteText
import Derived.Laws.StructEq
namespace Go.Proofs.YtfnjcgakcpadiaaDoor
open Go.RowKit

theorem arr_size (l : List UInt8) : (⟨l.toArray⟩ : ByteArray).size = l.length := by simp [ByteArray.size]
theorem dbl_le (q : UInt8) (x : List UInt8) : (x.flatMap (dbl q)).length ≤ 2 * x.length := by
  induction x with
  | nil => simp
  | cons c t ih =>
    rw [List.flatMap_cons, List.length_append]
    have : (dbl q c).length ≤ 2 := by unfold dbl; split <;> simp
    rw [List.length_cons]
    omega
theorem quoteL_le (q : UInt8) (x : ByteArray) : (quoteL q x).length ≤ 2 * x.size + 2 := by
  unfold quoteL
  have h1 := dbl_le q x.data.toList
  have h2 := list_size x
  simp
  simp at h1
  omega
theorem lex_arr (l : List UInt8) (h : l.length ≤ 2000) : lexS ⟨l.toArray⟩ = lexAt l 0 := by
  unfold lexS
  rw [if_neg (by rw [arr_size]; omega)]
theorem quote_lex (s : ByteArray) (hs : s.size ≤ 40) : lexS ⟨(quoteL 39 s).toArray⟩ = ([(4, s, 0)], -1) := by
  have h : tokOk 4 s = true := by
    unfold tokOk
    rw [if_neg (by decide), if_neg (by decide), if_neg (by decide), if_pos rfl]
    simpa using hs
  have e : txtL 4 s = quoteL 39 s := by
    unfold txtL
    rw [if_neg (by simp [quotB]), if_pos rfl]
  have h1 := lex_single h
  rw [e] at h1
  rw [lex_arr _ (by have := quoteL_le 39 s; omega), h1]
/-- One token in a row. -/
theorem one_row {w w' : World} {k : Int} {s : ByteArray} {e : Ending} (h : LexPost w ([(k, s, 0)], -1) e w') : Below w.heap.size w w' ∧ ∃ g c, e = .returned (.tuple #[.slice (some ⟨g, 0, none⟩) 1 c, .int .i64 (-1)]) ∧ g < w'.heap.size ∧
    w'.cell? ⟨g, 0, none⟩ = some (.int .i64 k) ∧ w'.cell? ⟨g, 1, none⟩ = some (.string s) ∧ w'.cell? ⟨g, 2, none⟩ = some (.int .i64 0) := by
  obtain ⟨hb, v, he, hc⟩ := row_form h
  refine ⟨hb, ?_⟩
  rcases hc with ⟨h0, _⟩ | ⟨_, g, c, rfl, _, hg, hT⟩
  · simp at h0
  · obtain ⟨c0, c1, c2⟩ := hT.cell 0 (by simp)
    exact ⟨g, c, he, hg, by simpa [tkF] using c0, by simpa [tkF] using c1, by simpa [tkF] using c2⟩

set_option maxRecDepth 100000 in
set_option maxHeartbeats 800000 in
theorem fnQuotes.walk (a : Option Addr) (n c : Nat) (zs : List Int) (w : World) (w0 : IsRow .u8 w a n c zs) (hR : Ready w) :
    Calls Tryd.prog 5 #[.slice a n c] w fun e w' => e = .returned (.bool true) ∧ Below w.heap.size w w' := by
  have hlen := w0.len_le
  have HR := hide hR
  clear hR
  by_cases hbig : 1048576 < n
  · go_enter Tryd.func5, Tryd.ntmps5
    go_wp2_with (go_at_call 7; refine (bigC _ _ _ hlen).mono ?_; rintro e w1 ⟨rfl, rfl⟩)
    all_goals go_ret
    all_goals exact ⟨rfl, by go_grown⟩
  · have HC := hide (Code.of_row w0 (by omega))
    go_enter Tryd.func5, Tryd.ntmps5
    go_wp2_with (go_at_call 7; refine (bigC _ _ _ hlen).mono ?_; rintro e w1 ⟨rfl, rfl⟩)
    refine (dDrawQuoteTextC c HC.out (Nat.le_refl _)).mono ?_
    rintro e w1 ⟨s, rfl, hs, hb1⟩
    have H1 := hide hb1
    clear hb1
    have hQ := fun m w => implQuoteText s m w (by omega)
    have hsz : (⟨(quoteL 39 s).toArray⟩ : ByteArray).size ≤ 1048576 := by
      rw [arr_size]
      have := quoteL_le 39 s
      omega
    have hL := fun w h => implLex ⟨(quoteL 39 s).toArray⟩ hsz w h
    rw [quote_lex s (by omega)] at hL
    generalize (⟨(quoteL 39 s).toArray⟩ : ByteArray) = t at hQ hL
    have hs2 : ¬ (40 : Int) < s.size := by omega
    clear hsz
    go_wp2_with fail
    obtain ⟨m, hm⟩ := (HR.out.below H1.out).max
    refine (hQ m _ hm).mono ?_
    rintro e w2 ⟨rfl, hb2⟩
    have H2 := hide (below_via H1.out hb2)
    clear hb2 hm hQ
    go_wp2_with fail
    refine (hL _ (HR.out.below H2.out)).mono ?_
    rintro e w3 hp
    obtain ⟨hb3, g, c3, rfl, hg, c0, c1, c2⟩ := one_row hp
    have H3 := hide (below_via H2.out hb3)
    clear hb3 hp hL
    go_wp2_with fail
    all_goals go_ret
    all_goals exact ⟨by simp, H3.out⟩
end Go.Proofs.YtfnjcgakcpadiaaDoor
