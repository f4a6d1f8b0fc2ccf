/-
  The walk of FnNoNeedless.
-/
import Derived.Test.YtfnjcgakcpadiaaGreatDoorDrGap
import Derived.Test.YtfnjcgakcpadiaaGreatDoorGLexR
import Derived.Test.YtfnjcgakcpadiaaGreatDoorLexIm
import Derived.Test.YtfnjcgakcpadiaaGreatDoorLexG
import Derived.Test.YtfnjcgakcpadiaaGreatDoorTxt
import Derived.Test.YtfnjcgakcpadiaaGreatDoorGSame
import Derived.Test.YtfnjcgakcpadiaaGreatDoorGapI
import Derived.Test.YtfnjcgakcpadiaaGreatDoorGapS
import Derived.Deep.RegionWith
namespace Go.Proofs.YtfnjcgakcpadiaaGreatDoor
open Go.RowKit

/-- Two tokens, as a row. -/
def twoF (ka : Int) (sa : ByteArray) (ta kb : Int) (sb : ByteArray) (tb : Int) (i : Nat) : Int × ByteArray × Int := if i = 0 then (ka, sa, ta) else (kb, sb, tb)
theorem twoF_made (w : World) (ka : Int) (sa : ByteArray) (ta kb : Int) (sb : ByteArray) (tb : Int) (t : TypeId) :
    ToksF (w.alloc (.cells #[.int .i64 ka, .string sa, .int .i64 ta, .int .i64 kb, .string sb, .int .i64 tb] t)) w.heap.size 2 (twoF ka sa ta kb sb tb) := by
  refine ⟨by simp, fun i hi => ?_, fun i hi => ?_⟩
  · match i, hi with
    | 0, _ => simp [go_sem, twoF]
    | 1, _ => simp [go_sem, twoF]
  · simp [go_sem]
theorem tokT_le' (k : Int) (s : ByteArray) : (tokT k s).size ≤ 2 * s.size + 2 := by
  cases h : tokOk k s
  · unfold tokT
    rw [if_pos h]
    show 0 ≤ _
    omega
  · rw [tokT_txt h]
    have := txt_len k s
    show (txtL k s).toArray.size ≤ _
    rw [List.size_toArray]
    exact this
/-- A row of tokens that Lex hands back. -/
theorem row_form3 {w w' : World} {toks : List Tk} {bad : Int} {e : Ending} (h : LexPost w (toks, bad) e w') : Below w.heap.size w w' ∧ ∃ (a : Option Addr) (c : Nat), e = .returned (.tuple #[.slice a toks.length c, .int .i64 bad]) ∧
    (0 < toks.length → ∃ g, a = some ⟨g, 0, none⟩ ∧ ToksF w' g toks.length (tkF toks)) := by
  obtain ⟨hb, v, he, hv⟩ := row_form h
  rcases hv with ⟨h0, a, c, rfl⟩ | ⟨hp, g, c, rfl, _, _, hT⟩
  · have h0' : toks.length = 0 := h0
    exact ⟨hb, a, c, by rw [h0']; exact he, fun h => absurd h (by omega)⟩
  · exact ⟨hb, _, c, he, fun _ => ⟨g, rfl, hT⟩⟩
theorem tkF_get (l : List Tk) (i : Nat) (h : i < l.length) : tkF l i = (l[i].1, l[i].2.1, (l[i].2.2 : Int)) := by simp [tkF, List.getD, List.getElem?_eq_getElem h]

theorem glue (x y : List UInt8) : (⟨x.toArray⟩ : ByteArray) ++ ⟨y.toArray⟩ = ⟨(x ++ y).toArray⟩ := ByteArray.ext (by rw [ByteArray.data_append]; simp)
/-- What the law says of the lexer, in plain words. -/
theorem pair_no {ka kb : Int} {sa sb : ByteArray} (ta : tokOk ka sa = true) (tb : tokOk kb sb = true) (hs : sa.size ≤ 41) (hs' : sb.size ≤ 41) (hg : gapB ka sa kb sb = false) (t t' : Int) :
    ∃ toks, lexS (tokT ka sa ++ tokT kb sb) = (toks, -1) ∧ toks.length = 2 ∧ sameF 2 (tkF toks) (twoF ka sa t kb sb t') = true := by
  have h1 := txt_len ka sa
  have h2 := txt_len kb sb
  rw [tokT_txt ta, tokT_txt tb, show (⟨(txtL ka sa).toArray⟩ : ByteArray) ++ ⟨(txtL kb sb).toArray⟩ = ⟨(txtL ka sa ++ txtL kb sb).toArray⟩ from glue _ _, lexS_list _ (by simp; omega), lex_pair ta tb hg]
  refine ⟨_, rfl, rfl, sameF_all fun i hi => ?_⟩
  match i, hi with
  | 0, _ => simp [tkF, twoF]
  | 1, _ => simp [tkF, twoF]
theorem pair_yes {ka kb : Int} {sa sb : ByteArray} (ta : tokOk ka sa = true) (tb : tokOk kb sb = true) (hs : sa.size ≤ 41) (hs' : sb.size ≤ 41) (hg : gapB ka sa kb sb = true) (t t' : Int) :
    ∃ toks bad, lexS (tokT ka sa ++ tokT kb sb) = (toks, bad) ∧ (¬ bad = -1 ∨ bad = -1 ∧ (¬ toks.length = 2 ∨ toks.length = 2 ∧ sameF 2 (tkF toks) (twoF ka sa t kb sb t') = false)) := by
  have h1 := txt_len ka sa
  have h2 := txt_len kb sb
  rw [tokT_txt ta, tokT_txt tb, show (⟨(txtL ka sa).toArray⟩ : ByteArray) ++ ⟨(txtL kb sb).toArray⟩ = ⟨(txtL ka sa ++ txtL kb sb).toArray⟩ from glue _ _, lexS_list _ (by simp; omega)]
  refine ⟨(lexAt (txtL ka sa ++ txtL kb sb) 0).1, (lexAt (txtL ka sa ++ txtL kb sb) 0).2, rfl, ?_⟩
  by_cases hb : (lexAt (txtL ka sa ++ txtL kb sb) 0).2 = -1
  · refine .inr ⟨hb, ?_⟩
    by_cases hl : (lexAt (txtL ka sa ++ txtL kb sb) 0).1.length = 2
    · refine .inr ⟨hl, ?_⟩
      have hno := lex_gap ta tb hg (lexAt (txtL ka sa ++ txtL kb sb) 0).1 (by rw [← hb])
      generalize (lexAt (txtL ka sa ++ txtL kb sb) 0).1 = toks at hl hno ⊢
      match toks, hl with
      | [x, y], _ =>
        cases hsf : sameF 2 (tkF [x, y]) (twoF ka sa t kb sb t')
        · rfl
        · exfalso
          unfold sameF at hsf
          rw [List.all_eq_true] at hsf
          have s0 := hsf 0 (by simp)
          have s1 := hsf 1 (by simp)
          rw [Bool.and_eq_true] at s0 s1
          obtain ⟨a0, a1⟩ := s0
          obtain ⟨b0, b1⟩ := s1
          have c1 := (Lib.bytes_beq_iff _ _).1 a1
          have d1 := (Lib.bytes_beq_iff _ _).1 b1
          clear a1 b1 hsf
          simp [tkF, twoF] at a0 c1 b0 d1
          obtain ⟨x0, x1, x2⟩ := x
          obtain ⟨y0, y1, y2⟩ := y
          simp only at a0 c1 b0 d1
          subst a0 c1 b0 d1
          exact hno ⟨x2, y2, rfl⟩
    · exact .inl hl
  · exact .inl hb

theorem specSameL (a a' : Option Addr) (n n' c c' : Nat) (h : ¬ n = n') (w : World) : Calls Tryz.prog 14 #[.slice a n c, .slice a' n' c'] w fun e w' => e = .returned (.bool false) ∧ w = w' := by
  have g1 : ((n : Int) == n') = false := by rw [beq_eq_false_iff_ne]; omega
  have g2 : ((n : Int) != n') = true := by unfold bne; rw [g1]; rfl
  go_enter Tryz.func14, Tryz.ntmps14
  go_wp2
  all_goals go_ret
  all_goals exact ⟨rfl, rfl⟩

set_option maxRecDepth 100000 in
set_option maxHeartbeats 3200000 in
theorem fnNoNeedless.walk (a : Option Addr) (n c : Nat) (zs : List Int) (w : World) (w0 : IsRow .u8 w a n c zs) (hR : Ready w) :
    Calls Tryz.prog 3 #[.slice a n c] w fun e w' => e = .returned (.bool true) ∧ Below w.heap.size w w' := by
  have hlen := w0.len_le
  have HR := hide hR
  clear hR
  by_cases hbig : 1048576 < n
  · go_enter Tryz.func3, Tryz.ntmps3
    go_wp2_with (go_at_call 7; refine (bigC _ _ _ hlen).mono ?_; rintro e w1 ⟨rfl, rfl⟩)
    all_goals go_ret
    all_goals exact ⟨rfl, by go_grown⟩
  · have HC := hide (Code.of_row w0 (by omega))
    go_enter Tryz.func3, Tryz.ntmps3
    go_wp2_with (go_at_call 7; refine (bigC _ _ _ hlen).mono ?_; rintro e w1 ⟨rfl, rfl⟩)
    refine (dDrawNeedsGapC c HC.out (Nat.le_refl _)).mono ?_
    rintro e w1 ⟨ka, sa, ta, kb, sb, tb, rfl, hsa, hsb, hb1⟩
    clear hbig hlen
    obtain ⟨va, hva⟩ : ∃ va, Hid (va = w1.heap.size) := ⟨_, rfl⟩
    obtain ⟨vb, hvb⟩ : ∃ vb, Hid (vb = w1.heap.size + 1) := ⟨_, rfl⟩
    have h0 := (C3.made w1 (.int .i64 ka) (.string sa) (.int .i64 ta) 25).alloc (.cells #[.int .i64 kb, .string sb, .int .i64 tb] 25)
    have h1 := C3.made (w1.alloc (.cells #[.int .i64 ka, .string sa, .int .i64 ta] 25)) (.int .i64 kb) (.string sb) (.int .i64 tb) 25
    rw [show (w1.alloc (.cells #[.int .i64 ka, .string sa, .int .i64 ta] 25)).heap.size = w1.heap.size + 1 by simp, ← hvb.out] at h1
    rw [← hva.out] at h0
    have hb2 := (hb1.alloc hb1.size (.cells #[.int .i64 ka, .string sa, .int .i64 ta] 25)).alloc (by simp; have := hb1.size; omega) (.cells #[.int .i64 kb, .string sb, .int .i64 tb] 25)
    have H1 := hide (And.intro hb2 (And.intro h0 h1))
    clear hb1 hb2 h0 h1
    have hI := fun w h => implGap ka sa ta kb sb tb w (by omega) (by omega) h
    have hS := fun w => specGap ka sa ta kb sb tb w (by omega) (by omega)
    have hA := fun w => specTokenOk ka sa ta w (by omega)
    have hB := fun w => specTokenOk kb sb tb w (by omega)
    have hTA := fun w => specTokenText ka sa ta w (by omega)
    have hTB := fun w => specTokenText kb sb tb w (by omega)
    have hle1 := tokT_le' ka sa
    have hle2 := tokT_le' kb sb
    cases hta : tokOk ka sa
    · rw [gap_na hta] at hI hS
      rw [hta] at hA
      clear hta
      go_wp2_with fail
      (try rw [← hvb.out, ← hva.out])
      refine (hI _ (HR.out.below H1.out.1)).mono ?_
      rintro e w2 ⟨rfl, hb2⟩
      have H2 := hide (And.intro (below_via H1.out.1 hb2) (And.intro (H1.out.2.1.below hb2) (H1.out.2.2.below hb2)))
      clear hb2 hI
      obtain ⟨xs, ⟨x0, x1, x2⟩, ⟨xf0, xf1, xf2⟩⟩ := H2.out.2.1
      obtain ⟨ys, ⟨y0, y1, y2⟩, ⟨yf0, yf1, yf2⟩⟩ := H2.out.2.2
      go_wp2_with fail
      refine (hS _).mono ?_
      rintro e w3 ⟨rfl, hb3⟩
      have H3 := hide (And.intro (below_via H2.out.1 hb3) (And.intro (H2.out.2.1.below hb3) (H2.out.2.2.below hb3)))
      clear hb3 hS xs x0 x1 x2 xf0 xf1 xf2 ys y0 y1 y2 yf0 yf1 yf2
      obtain ⟨xs, ⟨x0, x1, x2⟩, ⟨xf0, xf1, xf2⟩⟩ := H3.out.2.1
      go_wp2_with fail
      refine (hA _).mono ?_
      rintro e w4 ⟨rfl, hb4⟩
      have H4 := hide (below_via H3.out.1 hb4)
      clear hb4
      go_wp2_with fail
      all_goals go_ret
      all_goals exact ⟨by simp, H4.out⟩
    · cases htb : tokOk kb sb
      · rw [gap_nb htb] at hI hS
        rw [hta] at hA
        rw [htb] at hB
        clear hta htb
        go_wp2_with fail
        (try rw [← hvb.out, ← hva.out])
        refine (hI _ (HR.out.below H1.out.1)).mono ?_
        rintro e w2 ⟨rfl, hb2⟩
        have H2 := hide (And.intro (below_via H1.out.1 hb2) (And.intro (H1.out.2.1.below hb2) (H1.out.2.2.below hb2)))
        clear hb2 hI
        obtain ⟨xs, ⟨x0, x1, x2⟩, ⟨xf0, xf1, xf2⟩⟩ := H2.out.2.1
        obtain ⟨ys, ⟨y0, y1, y2⟩, ⟨yf0, yf1, yf2⟩⟩ := H2.out.2.2
        go_wp2_with fail
        refine (hS _).mono ?_
        rintro e w3 ⟨rfl, hb3⟩
        have H3 := hide (And.intro (below_via H2.out.1 hb3) (And.intro (H2.out.2.1.below hb3) (H2.out.2.2.below hb3)))
        clear hb3 hS xs x0 x1 x2 xf0 xf1 xf2 ys y0 y1 y2 yf0 yf1 yf2
        obtain ⟨xs, ⟨x0, x1, x2⟩, ⟨xf0, xf1, xf2⟩⟩ := H3.out.2.1
        go_wp2_with fail
        refine (hA _).mono ?_
        rintro e w4 ⟨rfl, hb4⟩
        have H4 := hide (And.intro (below_via H3.out.1 hb4) (H3.out.2.2.below hb4))
        clear hb4 xs x0 x1 x2 xf0 xf1 xf2
        obtain ⟨ys, ⟨y0, y1, y2⟩, ⟨yf0, yf1, yf2⟩⟩ := H4.out.2
        go_wp2_with fail
        refine (hB _).mono ?_
        rintro e w5 ⟨rfl, hb5⟩
        have H5 := hide (below_via H4.out.1 hb5)
        clear hb5
        go_wp2_with fail
        all_goals go_ret
        all_goals exact ⟨by simp, H5.out⟩
      · rw [hta] at hA
        rw [htb] at hB
        obtain ⟨toks, bad, g, hlex, hgap, hcase⟩ : ∃ toks bad g, lexS (tokT ka sa ++ tokT kb sb) = (toks, bad) ∧ gapB ka sa kb sb = g ∧
            (g = false ∧ bad = -1 ∧ toks.length = 2 ∧ sameF 2 (tkF toks) (twoF ka sa ta kb sb tb) = true ∨ g = true ∧ ¬ bad = -1 ∨ g = true ∧ bad = -1 ∧ ¬ toks.length = 2 ∨ g = true ∧ bad = -1 ∧ toks.length = 2 ∧ sameF 2 (tkF toks) (twoF ka sa ta kb sb tb) = false) := by
          cases hg : gapB ka sa kb sb
          · obtain ⟨toks, h1, h2, h3⟩ := pair_no hta htb hsa hsb hg ta tb
            exact ⟨toks, -1, false, h1, rfl, .inl ⟨rfl, rfl, h2, h3⟩⟩
          · obtain ⟨toks, bad, h1, h2⟩ := pair_yes hta htb hsa hsb hg ta tb
            refine ⟨toks, bad, true, h1, rfl, ?_⟩
            rcases h2 with h2 | ⟨h2, h3 | ⟨h3, h4⟩⟩
            · exact .inr (.inl ⟨rfl, h2⟩)
            · exact .inr (.inr (.inl ⟨rfl, h2, h3⟩))
            · exact .inr (.inr (.inr ⟨rfl, h2, h3, h4⟩))
        rw [hgap] at hI hS
        have hX : (tokT ka sa ++ tokT kb sb).size ≤ 1048576 := by rw [ByteArray.size_append]; omega
        have hL := fun w h => implLex (tokT ka sa ++ tokT kb sb) hX w h
        rw [hlex] at hL
        clear hta htb hlex hgap
        generalize tokT ka sa = ua at hTA hle1 hL
        generalize tokT kb sb = ub at hTB hle2 hL
        have hua : ua.size ≤ 84 := by omega
        have hub : ub.size ≤ 84 := by omega
        have huu : (ua ++ ub).size = ua.size + ub.size := ByteArray.size_append
        clear hX hle1 hle2
        have HCA := hide hcase
        clear hcase
        go_wp2_with fail
        (try rw [← hvb.out, ← hva.out])
        refine (hI _ (HR.out.below H1.out.1)).mono ?_
        rintro e w2 ⟨rfl, hb2⟩
        have H2 := hide (And.intro (below_via H1.out.1 hb2) (And.intro (H1.out.2.1.below hb2) (H1.out.2.2.below hb2)))
        clear hb2 hI
        obtain ⟨xs, ⟨x0, x1, x2⟩, ⟨xf0, xf1, xf2⟩⟩ := H2.out.2.1
        obtain ⟨ys, ⟨y0, y1, y2⟩, ⟨yf0, yf1, yf2⟩⟩ := H2.out.2.2
        go_wp2_with fail
        refine (hS _).mono ?_
        rintro e w3 ⟨rfl, hb3⟩
        have H3 := hide (And.intro (below_via H2.out.1 hb3) (And.intro (H2.out.2.1.below hb3) (H2.out.2.2.below hb3)))
        clear hb3 hS xs x0 x1 x2 xf0 xf1 xf2 ys y0 y1 y2 yf0 yf1 yf2
        obtain ⟨xs, ⟨x0, x1, x2⟩, ⟨xf0, xf1, xf2⟩⟩ := H3.out.2.1
        go_wp2_with fail
        refine (hA _).mono ?_
        rintro e w4 ⟨rfl, hb4⟩
        have H4 := hide (And.intro (below_via H3.out.1 hb4) (And.intro (H3.out.2.1.below hb4) (H3.out.2.2.below hb4)))
        clear hb4 xs x0 x1 x2 xf0 xf1 xf2
        obtain ⟨ys, ⟨y0, y1, y2⟩, ⟨yf0, yf1, yf2⟩⟩ := H4.out.2.2
        go_wp2_with fail
        refine (hB _).mono ?_
        rintro e w5 ⟨rfl, hb5⟩
        have H5 := hide (And.intro (below_via H4.out.1 hb5) (And.intro (H4.out.2.1.below hb5) (H4.out.2.2.below hb5)))
        clear hb5 ys y0 y1 y2 yf0 yf1 yf2 hA hB
        obtain ⟨xs, ⟨x0, x1, x2⟩, ⟨xf0, xf1, xf2⟩⟩ := H5.out.2.1
        obtain ⟨ys, ⟨y0, y1, y2⟩, ⟨yf0, yf1, yf2⟩⟩ := H5.out.2.2
        have K0 := H5.out
        go_wp2_with fail
        go_region_with (first
          | (go_at_call 13; first
              | ((with_reducible refine (hTA _).mono ?_); rintro e wz ⟨rfl, hbz⟩; have hbz2 : Below w5.heap.size w5 wz := (by first | exact hbz | exact (below_via ((Below.refl w5.heap.size w5).drew) hbz)); have k2 := K0.2.1.below hbz2; have k3 := K0.2.2.below hbz2; have k1 := below_via K0.1 hbz2; replace K0 := And.intro k1 (And.intro k2 k3); clear hbz hbz2 k1 k2 k3 xs x0 x1 x2 xf0 xf1 xf2 ys y0 y1 y2 yf0 yf1 yf2; obtain ⟨ys, ⟨y0, y1, y2⟩, ⟨yf0, yf1, yf2⟩⟩ := K0.2.2)
              | ((with_reducible refine (hTB _).mono ?_); rintro e wy ⟨rfl, hby⟩; have k2 := K0.2.1.below hby; have k3 := K0.2.2.below hby; have k1 := below_via K0.1 hby; replace K0 := And.intro k1 (And.intro k2 k3); clear hby k1 k2 k3))
          | (go_at_call 12; refine (hL _ (HR.out.below K0.1)).mono ?_; rintro e wl hp; obtain ⟨hbl, la, lc, rfl, hT⟩ := row_form3 hp; have k2 := K0.2.1.below hbl; have k3 := K0.2.2.below hbl; have k1 := below_via K0.1 hbl; have KL := hide (And.intro k1 (And.intro k2 (And.intro k3 hT))); clear hp hbl k1 k2 k3 hT))
        all_goals
          have HKL := hide (And.intro KL.out HCA.out)
          clear KL HCA K0 hTA hTB hL HC H1 H2 H3 H4 H5 hua hub huu
          obtain ⟨xs, ⟨x0, x1, x2⟩, _⟩ := HKL.out.1.2.1
          obtain ⟨ys, ⟨y0, y1, y2⟩, _⟩ := HKL.out.1.2.2.1
          rcases HKL.out.2 with ⟨rfl, rfl, hl, hsf⟩ | ⟨rfl, hbad⟩ | ⟨rfl, rfl, hl⟩ | ⟨rfl, rfl, hl, hsf⟩
          · obtain ⟨g, rfl, hT⟩ := HKL.out.1.2.2.2 (by omega)
            rw [hl] at hT ⊢
            have HT := hide (And.intro (hT.below ((Below.refl wl.heap.size wl).alloc (Nat.le_refl _) (.cells #[.int .i64 ka, .string sa, .int .i64 ta, .int .i64 kb, .string sb, .int .i64 tb] 25))) (twoF_made wl ka sa ta kb sb tb 25))
            have HSF := hide hsf
            clear hT hl hsf
            go_wp2_with fail
            refine (specSameC HT.out.1 HT.out.2 (by omega)).mono ?_
            rintro e wm ⟨rfl, hbm⟩
            rw [HSF.out]
            have HM := hide (below_via (HKL.out.1.1.alloc HKL.out.1.1.size _) hbm)
            clear hbm x0 x1 x2 y0 y1 y2 xs ys
            go_wp2_with fail
            all_goals go_ret
            all_goals exact ⟨by simp, HM.out⟩
          · have gb : (bad == -1) = false := by simpa using hbad
            clear hbad
            go_wp2_with fail
            all_goals go_ret
            all_goals exact ⟨by simp, HKL.out.1.1⟩
          · have HL := hide hl
            clear hl
            go_wp2_with fail
            refine (specSameL _ _ _ _ _ _ HL.out _).mono ?_
            rintro e wm ⟨rfl, rfl⟩
            have HM := hide (HKL.out.1.1.alloc HKL.out.1.1.size (.cells #[.int .i64 ka, .string sa, .int .i64 ta, .int .i64 kb, .string sb, .int .i64 tb] 25))
            go_wp2_with fail
            all_goals go_ret
            all_goals exact ⟨by simp, HM.out⟩
          · obtain ⟨g, rfl, hT⟩ := HKL.out.1.2.2.2 (by omega)
            rw [hl] at hT ⊢
            have HT := hide (And.intro (hT.below ((Below.refl wl.heap.size wl).alloc (Nat.le_refl _) (.cells #[.int .i64 ka, .string sa, .int .i64 ta, .int .i64 kb, .string sb, .int .i64 tb] 25))) (twoF_made wl ka sa ta kb sb tb 25))
            have HSF := hide hsf
            clear hT hl hsf
            go_wp2_with fail
            refine (specSameC HT.out.1 HT.out.2 (by omega)).mono ?_
            rintro e wm ⟨rfl, hbm⟩
            rw [HSF.out]
            have HM := hide (below_via (HKL.out.1.1.alloc HKL.out.1.1.size _) hbm)
            clear hbm x0 x1 x2 y0 y1 y2 xs ys
            go_wp2_with fail
            all_goals go_ret
            all_goals exact ⟨by simp, HM.out⟩
end Go.Proofs.YtfnjcgakcpadiaaGreatDoor
