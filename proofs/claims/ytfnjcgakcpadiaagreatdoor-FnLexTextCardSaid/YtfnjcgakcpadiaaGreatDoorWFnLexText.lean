/-
  The walk of FnLexText.
-/
import Derived.Test.YtfnjcgakcpadiaaGreatDoorDrTok
import Derived.Test.YtfnjcgakcpadiaaGreatDoorGLexR
import Derived.Test.YtfnjcgakcpadiaaGreatDoorLexIm
import Derived.Test.YtfnjcgakcpadiaaGreatDoorTxt
import Derived.Test.YtfnjcgakcpadiaaGreatDoorQuoteI
import Derived.Test.YtfnjcgakcpadiaaGreatDoorGBase
namespace Go.Proofs.YtfnjcgakcpadiaaGreatDoor
open Go.RowKit

theorem row_one {w w' : World} {k : Int} {s : ByteArray} {a : Nat} {e : Ending} (h : LexPost w ([(k, s, a)], -1) e w') : Below w.heap.size w w' ∧ ∃ g c, e = .returned (.tuple #[.slice (some ⟨g, 0, none⟩) 1 c, .int .i64 (-1)]) ∧ g < w'.heap.size ∧
    w'.cell? ⟨g, 0, none⟩ = some (.int .i64 k) ∧ w'.cell? ⟨g, 1, none⟩ = some (.string s) ∧ w'.cell? ⟨g, 2, none⟩ = some (.int .i64 (a : Int)) := by
  obtain ⟨hb, v, he, hc⟩ := row_form h
  refine ⟨hb, ?_⟩
  rcases hc with ⟨h0, _⟩ | ⟨_, g, c, rfl, _, hg, hT⟩
  · simp at h0
  · obtain ⟨c0, c1, c2⟩ := hT.cell 0 (by simp)
    exact ⟨g, c, he, hg, by simpa [tkF] using c0, by simpa [tkF] using c1, by simpa [tkF] using c2⟩
theorem spaced_lex {k : Int} {s : ByteArray} (h : tokOk k s = true) (hs : s.size ≤ 41) : lexS ⟨(32 :: (txtL k s ++ [32])).toArray⟩ = ([(k, s, 1)], -1) := by
  rw [lexS_list _ (by have := txt_len k s; simp; omega), lex_spaced h]

set_option maxRecDepth 100000 in
set_option maxHeartbeats 1600000 in
theorem fnLexText.walk (a : Option Addr) (n c : Nat) (zs : List Int) (w : World) (w0 : IsRow .u8 w a n c zs) (hR : Ready w) :
    Calls Tryz.prog 4 #[.slice a n c] w fun e w' => e = .returned (.bool true) ∧ Below w.heap.size w w' := by
  have hlen := w0.len_le
  have HR := hide hR
  clear hR
  by_cases hbig : 1048576 < n
  · go_enter Tryz.func4, Tryz.ntmps4
    go_wp2_with (go_at_call 7; refine (bigC _ _ _ hlen).mono ?_; rintro e w1 ⟨rfl, rfl⟩)
    all_goals go_ret
    all_goals exact ⟨rfl, by go_grown⟩
  · have HC := hide (Code.of_row w0 (by omega))
    go_enter Tryz.func4, Tryz.ntmps4
    go_wp2_with (go_at_call 7; refine (bigC _ _ _ hlen).mono ?_; rintro e w1 ⟨rfl, rfl⟩)
    refine (dDrawTokenTextC c HC.out (Nat.le_refl _)).mono ?_
    rintro e w1 ⟨k, s, t, rfl, hs, hb1⟩
    have hv := C3.made w1 (.int .i64 k) (.string s) (.int .i64 t) 25
    obtain ⟨vb, hvb⟩ : ∃ vb, Hid (vb = w1.heap.size) := ⟨_, rfl⟩
    rw [← hvb.out] at hv
    have H1 := hide (And.intro (hb1.alloc hb1.size (.cells #[.int .i64 k, .string s, .int .i64 t] 25)) hv)
    clear hb1 hv
    have hT := fun w h => implTokenText k s t w (by omega) h
    have hI := fun w h => implTokenOk k s t w (by omega) h
    have hS := fun w => specTokenOk k s t w (by omega)
    cases hok : tokOk k s
    · have ht : tokT k s = ⟨#[]⟩ := by unfold tokT; rw [if_pos hok]
      rw [ht] at hT
      rw [hok] at hI hS
      clear ht hok
      go_wp2_with fail
      rw [← hvb.out]
      refine (hT _ (HR.out.below H1.out.1)).mono ?_
      rintro e w2 ⟨rfl, hb2⟩
      have H2 := hide (And.intro (below_via H1.out.1 hb2) (H1.out.2.below hb2))
      clear hb2 hT
      obtain ⟨vs, ⟨v0, v1, v2⟩, ⟨vf0, vf1, vf2⟩⟩ := H2.out.2
      go_wp2_with fail
      refine (hS _).mono ?_
      rintro e w3 ⟨rfl, hb3⟩
      have H3 := hide (And.intro (below_via H2.out.1 hb3) (H2.out.2.below hb3))
      clear hb3 hS v0 v1 v2 vf0 vf1 vf2 vs
      obtain ⟨vs, ⟨v0, v1, v2⟩, ⟨vf0, vf1, vf2⟩⟩ := H3.out.2
      go_wp2_with fail
      refine (hI _ (HR.out.below H3.out.1)).mono ?_
      rintro e w4 ⟨rfl, hb4⟩
      have H4 := hide (below_via H3.out.1 hb4)
      clear hb4 hI v0 v1 v2 vf0 vf1 vf2 vs
      go_wp2_with fail
      all_goals go_ret
      all_goals exact ⟨by simp, H4.out⟩
    · rw [tokT_txt hok] at hT
      have hlx := spaced_lex hok hs
      have hln := txt_len k s
      rw [hok] at hI hS
      have hgl := quote_glue 32 (txtL k s)
      clear hok
      generalize txtL k s = l at hT hlx hln hgl
      have hsz : (⟨(32 :: (l ++ [32])).toArray⟩ : ByteArray).size ≤ 1048576 := by simp [ByteArray.size]; omega
      have hL := fun w h => implLex ⟨(32 :: (l ++ [32])).toArray⟩ hsz w h
      rw [hlx, ← hgl] at hL
      have hx1 : (⟨l.toArray⟩ : ByteArray).size ≤ 84 := by simp [ByteArray.size]; omega
      clear hlx hgl hsz hln
      generalize (⟨l.toArray⟩ : ByteArray) = x at hT hL hx1
      have hx2 : ((⟨#[32]⟩ : ByteArray) ++ x).size = 1 + x.size := by rw [ByteArray.size_append]; rfl
      go_wp2_with fail
      rw [← hvb.out]
      refine (hT _ (HR.out.below H1.out.1)).mono ?_
      rintro e w2 ⟨rfl, hb2⟩
      have H2 := hide (And.intro (below_via H1.out.1 hb2) (H1.out.2.below hb2))
      clear hb2 hT
      obtain ⟨vs, ⟨v0, v1, v2⟩, ⟨vf0, vf1, vf2⟩⟩ := H2.out.2
      go_wp2_with fail
      refine (hS _).mono ?_
      rintro e w3 ⟨rfl, hb3⟩
      have H3 := hide (And.intro (below_via H2.out.1 hb3) (H2.out.2.below hb3))
      clear hb3 hS v0 v1 v2 vf0 vf1 vf2 vs
      go_wp2_with fail
      refine (hL _ (HR.out.below H3.out.1)).mono ?_
      rintro e w4 hp
      obtain ⟨hb4, g, c4, rfl, hg, c0, c1, c2⟩ := row_one hp
      have H4 := hide (And.intro (below_via H3.out.1 hb4) (H3.out.2.below hb4))
      clear hb4 hp hL
      obtain ⟨vs, ⟨v0, v1, v2⟩, ⟨vf0, vf1, vf2⟩⟩ := H4.out.2
      have e0 := BelowOf.cell c0 hg
      have e1 := BelowOf.cell c1 hg
      have e2 := BelowOf.cell c2 hg
      have f0 := BelowOf.cell v0 vs
      have f1 := BelowOf.cell v1 vs
      have f2 := BelowOf.cell v2 vs
      have hRR := fun p : BelowOf w4 => (HR.out.below H4.out.1).below p.h
      clear c0 c1 c2 v0 v1 v2 vf0 vf1 vf2
      go_wp2_with fail
      refine wp_region_wq (by kernel_rfl) (by kernel_rfl) ?_
      repeat (refine WQ.step (fun K hK => ?_); go_simp; first | (refine hK _ ?_; clear hK K) | (apply Exists.intro; refine ⟨fun _ => ?_, hK _ ?_⟩; ((exact Calls.below_of (hI _ (hRR _)))); clear hK K))
      refine WQ.nil ?_
      intro W2 hq2
      have H5 := hide (below_via H4.out.1 (BelowOf.of hq2))
      clear hq2 e0 e1 e2 f0 f1 f2 hRR hI
      go_wp2_with fail
      all_goals go_ret
      all_goals exact ⟨by simp, H5.out⟩
end Go.Proofs.YtfnjcgakcpadiaaGreatDoor
