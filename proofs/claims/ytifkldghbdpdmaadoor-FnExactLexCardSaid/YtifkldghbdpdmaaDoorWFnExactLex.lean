/-
  The walk of FnExactLex.
-/
import Derived.Test.YtifkldghbdpdmaaDoorLexIm
import Derived.Test.YtifkldghbdpdmaaDoorLexSp
import Derived.Test.YtifkldghbdpdmaaDoorToks
namespace Go.Proofs.YtifkldghbdpdmaaDoor
open Go.RowKit

/-- A row of tokens: none, or in a block. -/
theorem row_form {w w' : World} {R : List Tk × Int} {e : Ending} (h : LexPost w R e w') : Below w.heap.size w w' ∧ ∃ v, e = .returned (.tuple #[v, .int .i64 R.2]) ∧
    ((R.1.length = 0 ∧ ∃ a c, v = .slice a 0 c) ∨ (0 < R.1.length ∧ ∃ g c, v = .slice (some ⟨g, 0, none⟩) R.1.length c ∧ w.heap.size ≤ g ∧ g < w'.heap.size ∧ ToksF w' g R.1.length (tkF R.1))) := by
  obtain ⟨v, rfl, ho, hb⟩ := h
  refine ⟨hb, v, rfl, ?_⟩
  by_cases hn : R.1.length = 0
  · refine .inl ⟨hn, ?_⟩
    rcases ho.2 with ⟨rfl, _⟩ | ⟨g, cap, cur, hv, _⟩
    · exact ⟨_, _, rfl⟩
    · rw [hn] at hv
      exact ⟨_, _, hv⟩
  · have hp : 0 < R.1.length := by omega
    rcases ho.2 with ⟨_, h⟩ | ⟨g, cap, cur, rfl, hg, hh, _⟩
    · omega
    · exact .inr ⟨hp, g, cap, rfl, hg, (Array.getElem?_eq_some_iff.1 hh).1, ToksF.of_owns ho⟩
theorem lex_count (l : List UInt8) : ∀ (d a : Nat), l.length - a = d → (lexAt l a).1.length ≤ d := by
  intro d
  induction d using Nat.strongRecOn with
  | _ d ih =>
    intro a hd
    obtain ⟨p, ok, hpo⟩ : ∃ p ok, skipTo l a = (p, ok) := ⟨_, _, rfl⟩
    have hge := skipTo_ge l a
    rw [hpo] at hge
    simp only at hge
    cases ok
    · rw [lex_bad hpo]; simp
    · by_cases hp : p < l.length
      · cases ht : tokR (l.drop p) with
        | none => rw [lex_no hpo hp ht]; simp
        | some t =>
          have hm := tok_pos ht
          rw [lex_tok hpo hp ht hm.1]
          have := ih (l.length - (p + t.2.2)) (by omega) (p + t.2.2) rfl
          unfold lexPre
          split
          · simp; omega
          · simp
      · rw [lex_end hpo (by omega)]; simp
theorem lexS_count (s : ByteArray) : (lexS s).1.length ≤ s.size := by
  unfold lexS
  split
  · simp
  · have := lex_count s.data.toList _ 0 rfl
    rw [list_size] at this
    omega

set_option maxRecDepth 100000 in
set_option maxHeartbeats 1600000 in
theorem fnExactLex.walk (s : ByteArray) (w : World) (ws : s.size ≤ maxLen) (hR : Ready w) :
    Calls Tryd.prog 14 #[.string s] w fun e w' => e = .returned (.bool true) ∧ Below w.heap.size w w' := by
  unfold maxLen at ws
  have HR := hide hR
  clear hR
  by_cases h3 : s.size ≤ 1048576
  · have h4 : ¬ (1048576 : Int) < s.size := by omega
    have hcnt := lexS_count s
    have hS := fun w => specLex s h3 w
    have hI := fun w h => implLex s h3 w h
    generalize lexS s = R at hS hI hcnt
    obtain ⟨toks, bad⟩ := R
    simp only at hcnt
    have hct : toks.length ≤ 1048577 := by omega
    have HS := hide hS
    have HI := hide hI
    clear hS hI hcnt
    go_enter Tryd.func14, Tryd.ntmps14
    go_wp2_with fail
    refine (HS.out _).mono ?_
    rintro e w1 h
    obtain ⟨hb1, v1, rfl, hv1⟩ := row_form h
    have H1 := hide hb1
    have HV1 := hide hv1
    clear h hb1 hv1
    go_wp2_with fail
    refine (HI.out _ (HR.out.below H1.out)).mono ?_
    rintro e w2 h
    obtain ⟨hb2, v2, rfl, hv2⟩ := row_form h
    have H2 := hide (And.intro hb2 (below_via H1.out hb2))
    have HV2 := hide hv2
    clear h hb2 hv2
    by_cases hn : toks.length = 0
    · obtain ⟨a1, c1, rfl⟩ : ∃ a c, v1 = .slice a 0 c := by
        rcases HV1.out with ⟨_, h⟩ | ⟨h, _⟩
        · exact h
        · (try simp only at h); omega
      obtain ⟨a2, c2, rfl⟩ : ∃ a c, v2 = .slice a 0 c := by
        rcases HV2.out with ⟨_, h⟩ | ⟨h, _⟩
        · exact h
        · (try simp only at h); omega
      clear HV1 HV2
      have HN := hide hn
      clear hn
      go_wp2_with fail
      refine (eqTokenSN _ _ _ _ _).mono ?_
      rintro e w3 ⟨rfl, rfl⟩
      go_wp2_with fail
      refine (markTokenSN _ _ _ _).mono ?_
      rintro e w3 ⟨rfl, rfl⟩
      go_wp2_with fail
      refine (heldTokenSN _ _ _ _).mono ?_
      rintro e w3 ⟨rfl, rfl⟩
      go_wp2_with fail
      refine (HI.out _ (HR.out.below H2.out.2)).mono ?_
      rintro e w4 h
      obtain ⟨hb4, v4, rfl, hv4⟩ := row_form h
      obtain ⟨a4, c4, rfl⟩ : ∃ a c, v4 = .slice a 0 c := by
        rcases hv4 with ⟨_, h⟩ | ⟨h, _⟩
        · exact h
        · have := HN.out; (try simp only at h); omega
      have H4 := hide (below_via H2.out.2 hb4)
      clear h hb4 hv4
      go_wp2_with fail
      refine (eqTokenSN _ _ _ _ _).mono ?_
      rintro e w3 ⟨rfl, rfl⟩
      go_wp2_with fail
      refine (heldTokenSN _ _ _ _).mono ?_
      rintro e w3 ⟨rfl, rfl⟩
      go_wp2_with fail
      all_goals go_ret
      all_goals exact ⟨rfl, H4.out⟩
    · have hn2 : 0 < toks.length := by omega
      obtain ⟨g1, c1, rfl, hg1, hl1, ht1⟩ : ∃ g c, v1 = .slice (some ⟨g, 0, none⟩) toks.length c ∧ w.heap.size ≤ g ∧ g < w1.heap.size ∧ ToksF w1 g toks.length (tkF toks) := by
        rcases HV1.out with ⟨h, _⟩ | ⟨_, h⟩
        · exact absurd h hn
        · exact h
      obtain ⟨g2, c2, rfl, hg2, hl2, ht2⟩ : ∃ g c, v2 = .slice (some ⟨g, 0, none⟩) toks.length c ∧ w1.heap.size ≤ g ∧ g < w2.heap.size ∧ ToksF w2 g toks.length (tkF toks) := by
        rcases HV2.out with ⟨h, _⟩ | ⟨_, h⟩
        · exact absurd h hn
        · exact h
      have HT := hide (And.intro (ht1.below H2.out.1) ht2)
      clear HV1 HV2 ht1 ht2
      have HN := hide hn2
      clear hn
      generalize hnn : toks.length = n at HT hn2 hct
      rw [hnn] at HN
      generalize hff : tkF toks = f at HT
      have HNF := hide (And.intro hnn hff)
      clear hnn hff
      go_wp2_with fail
      refine (eqTokenSC HT.out.2 HT.out.1 (by omega)).mono ?_
      rintro e w3 ⟨rfl, hb3⟩
      have H3 := hide (And.intro (HT.out.1.below hb3) (And.intro (HT.out.2.below hb3) (below_via H2.out.2 hb3)))
      clear hb3 HT H2
      go_wp2_with fail
      refine (markTokenSC H3.out.2.1 (by omega) _ (by omega) (by omega)).mono ?_
      rintro e w4 ⟨rfl, ht4, hg4⟩
      have hbB := Below.grown H3.out.2.2 hg4 H3.out.2.2.size (fun k hk => by cases hk; have := H1.out.size; omega)
      have H4 := hide (And.intro (H3.out.1.other hg4 (by omega)) (And.intro ht4 hbB))
      clear ht4 hg4 hbB H3
      go_wp2_with fail
      refine (heldTokenSC H4.out.2.1 (by omega) (by omega) (by omega)).mono ?_
      rintro e w5 ⟨rfl, hb5⟩
      have H5 := hide (And.intro (H4.out.1.below hb5) (And.intro (H4.out.2.1.below hb5) (below_via H4.out.2.2 hb5)))
      clear hb5 H4
      go_wp2_with fail
      refine (HI.out _ (HR.out.below H5.out.2.2)).mono ?_
      rintro e w6 h
      obtain ⟨hb6, v6, rfl, hv6⟩ := row_form h
      obtain ⟨g6, c6, rfl, hg6, hl6, ht6⟩ : ∃ g c, v6 = .slice (some ⟨g, 0, none⟩) toks.length c ∧ w5.heap.size ≤ g ∧ g < w6.heap.size ∧ ToksF w6 g toks.length (tkF toks) := by
        rcases hv6 with ⟨h, _⟩ | ⟨_, h⟩
        · have h7 := HNF.out.1; have h8 := HN.out; (try simp only at h); omega
        · exact h
      rw [HNF.out.1, HNF.out.2] at ht6
      rw [HNF.out.1]
      have H6 := hide (And.intro (H5.out.1.below hb6) (And.intro (H5.out.2.1.below hb6) (And.intro ht6 (below_via H5.out.2.2 hb6))))
      clear h hb6 hv6 ht6 H5
      go_wp2_with fail
      refine (eqTokenSC H6.out.2.2.1 H6.out.1 (by omega)).mono ?_
      rintro e w7 ⟨rfl, hb7⟩
      have H7 := hide (And.intro (H6.out.2.1.below hb7) (below_via H6.out.2.2.2 hb7))
      clear hb7 H6
      go_wp2_with fail
      refine (heldTokenSC H7.out.1 (by omega) (by omega) (by omega)).mono ?_
      rintro e w8 ⟨rfl, hb8⟩
      have H8 := hide (below_via H7.out.2 hb8)
      clear hb8 H7
      go_wp2_with fail
      all_goals go_ret
      all_goals exact ⟨rfl, H8.out⟩
  · have h4 : (1048576 : Int) < s.size := by omega
    go_enter Tryd.func14, Tryd.ntmps14
    go_wp2_with fail
    all_goals go_ret
    all_goals exact ⟨rfl, by go_grown⟩
end Go.Proofs.YtifkldghbdpdmaaDoor
