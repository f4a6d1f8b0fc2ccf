/-
  What Lex hands back, opened.
-/
import Derived.Test.YtfnjcgakcpadiaaDoorToksF
namespace Go.Proofs.YtfnjcgakcpadiaaDoor
open Go.RowKit

/-- A row of tokens: none, or in a block. -/
theorem row_form {w w' : World} {R : List Tk × Int} {e : Ending} (h : LexPost w R e w') : Below w.heap.size w w' ∧ ∃ v, e = .returned (.tuple #[v, .int .i64 R.2]) ∧
    ((R.1.length = 0 ∧ ∃ a c, v = .slice a 0 c) ∨ (0 < R.1.length ∧ ∃ g c, v = .slice (some ⟨g, 0, none⟩) R.1.length c ∧ w.heap.size ≤ g ∧ g < w'.heap.size ∧ ToksF w' g R.1.length (tkF R.1))) := by
  obtain ⟨v, rfl, ho, hb⟩ := h
  refine ⟨hb, v, rfl, ?_⟩
  by_cases hn : R.1.length = 0
  · refine .inl ⟨hn, ?_⟩
    rcases ho.2 with ⟨rfl, _⟩ | ⟨g, cap, cur, hv, _⟩
    · exact ⟨_, _, rfl⟩
    · rw [hn] at hv
      exact ⟨_, _, hv⟩
  · have hp : 0 < R.1.length := by omega
    rcases ho.2 with ⟨_, h⟩ | ⟨g, cap, cur, rfl, hg, hh, _⟩
    · omega
    · exact .inr ⟨hp, g, cap, rfl, hg, (Array.getElem?_eq_some_iff.1 hh).1, ToksF.of_owns ho⟩
theorem lex_count (l : List UInt8) : ∀ (d a : Nat), l.length - a = d → (lexAt l a).1.length ≤ d := by
  intro d
  induction d using Nat.strongRecOn with
  | _ d ih =>
    intro a hd
    obtain ⟨p, ok, hpo⟩ : ∃ p ok, skipTo l a = (p, ok) := ⟨_, _, rfl⟩
    have hge := skipTo_ge l a
    rw [hpo] at hge
    simp only at hge
    cases ok
    · rw [lex_bad hpo]; simp
    · by_cases hp : p < l.length
      · cases ht : tokR (l.drop p) with
        | none => rw [lex_no hpo hp ht]; simp
        | some t =>
          have hm := tok_pos ht
          rw [lex_tok hpo hp ht hm.1]
          have := ih (l.length - (p + t.2.2)) (by omega) (p + t.2.2) rfl
          unfold lexPre
          split
          · simp; omega
          · simp
      · rw [lex_end hpo (by omega)]; simp
theorem lexS_count (s : ByteArray) : (lexS s).1.length ≤ s.size := by
  unfold lexS
  split
  · simp
  · have := lex_count s.data.toList _ 0 rfl
    rw [list_size] at this
    omega

end Go.Proofs.YtfnjcgakcpadiaaDoor
