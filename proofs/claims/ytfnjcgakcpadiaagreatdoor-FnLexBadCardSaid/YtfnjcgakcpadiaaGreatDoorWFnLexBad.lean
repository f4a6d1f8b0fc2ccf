/-
  The walk of FnLexBad.
-/
import Derived.Test.YtfnjcgakcpadiaaGreatDoorDrLx
import Derived.Test.YtfnjcgakcpadiaaGreatDoorGLexR
import Derived.Test.YtfnjcgakcpadiaaGreatDoorLexIm
import Derived.Test.YtfnjcgakcpadiaaGreatDoorLexSp
import Derived.Test.YtfnjcgakcpadiaaGreatDoorLexH
namespace Go.Proofs.YtfnjcgakcpadiaaGreatDoor
open Go.RowKit

theorem lex_ends {w w' : World} {toks : List Tk} {bad : Int} {e : Ending} (h : LexPost w (toks, bad) e w') : Below w.heap.size w w' ∧ ∃ v, e = .returned (.tuple #[v, .int .i64 bad]) := by
  obtain ⟨hb, v, he, _⟩ := row_form h
  exact ⟨hb, v, he⟩

set_option maxRecDepth 100000 in
set_option maxHeartbeats 1600000 in
theorem fnLexBad.walk (a : Option Addr) (n c : Nat) (zs : List Int) (w : World) (w0 : IsRow .u8 w a n c zs) (hR : Ready w) :
    Calls Tryz.prog 5 #[.slice a n c] w fun e w' => e = .returned (.bool true) ∧ Below w.heap.size w w' := by
  have hlen := w0.len_le
  have HR := hide hR
  clear hR
  by_cases hbig : 1048576 < n
  · go_enter Tryz.func5, Tryz.ntmps5
    go_wp2_with (go_at_call 7; refine (bigC _ _ _ hlen).mono ?_; rintro e w1 ⟨rfl, rfl⟩)
    all_goals go_ret
    all_goals exact ⟨rfl, by go_grown⟩
  · have HC := hide (Code.of_row w0 (by omega))
    go_enter Tryz.func5, Tryz.ntmps5
    go_wp2_with (go_at_call 7; refine (bigC _ _ _ hlen).mono ?_; rintro e w1 ⟨rfl, rfl⟩)
    refine (dDrawLexC c HC.out (Nat.le_refl _)).mono ?_
    rintro e w1 ⟨s, rfl, hs, hb1⟩
    have H1 := hide hb1
    clear hb1
    obtain ⟨toks, bad, hlex⟩ : ∃ toks bad, lexS s = (toks, bad) := ⟨_, _, rfl⟩
    have hI := fun w h => implLex s (by omega) w h
    have hS := fun w => specLex s (by omega) w
    rw [hlex] at hI hS
    by_cases hbad : bad = -1
    · subst hbad
      clear hlex
      go_wp2_with fail
      refine (hI _ (HR.out.below H1.out)).mono ?_
      rintro e w2 hp
      obtain ⟨hb2, v, rfl⟩ := lex_ends hp
      have H2 := hide (below_via H1.out hb2)
      clear hb2 hp hI
      go_wp2_with fail
      refine (hS _).mono ?_
      rintro e w3 hp
      obtain ⟨hb3, v', rfl⟩ := lex_ends hp
      have H3 := hide (below_via H2.out hb3)
      clear hb3 hp hS
      go_wp2_with fail
      all_goals go_ret
      all_goals exact ⟨rfl, H3.out⟩
    · by_cases hl : 2000 < s.size
      · have hb2 : bad = 2000 := by
          unfold lexS at hlex
          rw [if_pos hl] at hlex
          injection hlex with _ h
          exact h.symm
        subst hb2
        have hl2 : (2000 : Int) < s.size := by omega
        clear hlex hbad
        go_wp2_with fail
        refine (hI _ (HR.out.below H1.out)).mono ?_
        rintro e w2 hp
        obtain ⟨hb2, v, rfl⟩ := lex_ends hp
        have H2 := hide (below_via H1.out hb2)
        clear hb2 hp hI
        go_wp2_with fail
        refine (hS _).mono ?_
        rintro e w3 hp
        obtain ⟨hb3, v', rfl⟩ := lex_ends hp
        have H3 := hide (below_via H2.out hb3)
        clear hb3 hp hS
        go_wp2_with fail
        all_goals go_ret
        all_goals exact ⟨rfl, H3.out⟩
      · obtain ⟨p, rfl, hp, _, ts, hts⟩ := lexS_bad s (by omega) toks bad hlex hbad
        have hA := fun w h => implLex (s.extract 0 p) (by simp only [ByteArray.size_extract]; omega) w h
        rw [hts] at hA
        have hl2 : ¬ (2000 : Int) < s.size := by omega
        clear hlex hbad hts
        go_wp2_with fail
        refine (hI _ (HR.out.below H1.out)).mono ?_
        rintro e w2 hp
        obtain ⟨hb2, v, rfl⟩ := lex_ends hp
        have H2 := hide (below_via H1.out hb2)
        clear hb2 hp hI
        go_wp2_with fail
        refine (hS _).mono ?_
        rintro e w3 hp
        obtain ⟨hb3, v', rfl⟩ := lex_ends hp
        have H3 := hide (below_via H2.out hb3)
        clear hb3 hp hS
        go_wp2_with fail
        refine (hA _ (HR.out.below H3.out)).mono ?_
        rintro e w4 hp
        obtain ⟨hb4, v2, rfl⟩ := lex_ends hp
        have H4 := hide (below_via H3.out hb4)
        clear hb4 hp hA
        go_wp2_with fail
        all_goals go_ret
        all_goals exact ⟨by simp, H4.out⟩
end Go.Proofs.YtfnjcgakcpadiaaGreatDoor
