/-
  The walk of FnLexPlaces.
-/
import Derived.Test.YtfnjcgakcpadiaaGreatDoorDrLx
import Derived.Test.YtfnjcgakcpadiaaGreatDoorGLexR
import Derived.Test.YtfnjcgakcpadiaaGreatDoorLexIm
import Derived.Test.YtfnjcgakcpadiaaGreatDoorLexSp
import Derived.Test.YtfnjcgakcpadiaaGreatDoorGLexH
import Derived.Test.YtfnjcgakcpadiaaGreatDoorGSame
import Derived.Test.YtfnjcgakcpadiaaGreatDoorAt0
import Derived.IntWalk
namespace Go.Proofs.YtfnjcgakcpadiaaGreatDoor
open Go.RowKit

theorem tok_size {k : Int} {x : ByteArray} (h : tokOk k x = true) : x.size ≤ 40 := by
  unfold tokOk at h
  split at h
  · simp only [Bool.and_eq_true, Bool.not_eq_true'] at h
    by_cases h8 : 8 < x.size
    · have := keyNo_long x h8
      rw [this] at h
      simp at h
    · omega
  · split at h
    · simp at h; omega
    · split at h
      · unfold numB at h
        split at h
        · rename_i hi
          obtain ⟨n, hn, rfl⟩ := hi
          have := (numS_size n hn).2
          omega
        · cases h
      · split at h
        · simp at h; omega
        · split at h
          · have hs := sign_cases h
            obtain ⟨c, t, e, _, _, _, _, ht, _⟩ := sign_bytes _ hs
            have hl := list_size x
            rw [e] at hl
            simp at hl
            omega
          · cases h

/-- A row of tokens, with its room. -/
theorem row_form2 {w w' : World} {toks : List Tk} {bad : Int} {e : Ending} (h : LexPost w (toks, bad) e w') : Below w.heap.size w w' ∧ ∃ v, e = .returned (.tuple #[v, .int .i64 bad]) ∧
    ((toks.length = 0 ∧ ∃ a c, v = .slice a 0 c) ∨ (0 < toks.length ∧ ∃ g c, v = .slice (some ⟨g, 0, none⟩) toks.length c ∧ toks.length ≤ c ∧ c ≤ maxLen ∧ g < w'.heap.size ∧ ToksF w' g toks.length (tkF toks))) := by
  obtain ⟨v, rfl, ho, hb⟩ := h
  refine ⟨hb, v, rfl, ?_⟩
  by_cases hn : toks.length = 0
  · refine .inl ⟨hn, ?_⟩
    rcases ho.2 with ⟨rfl, _⟩ | ⟨g, cap, cur, hv, _⟩
    · exact ⟨_, _, rfl⟩
    · exact ⟨some ⟨g, 0, none⟩, cap, by rw [hv]; simp [hn]⟩
  · have hp : 0 < toks.length := by omega
    rcases ho.2 with ⟨_, h⟩ | ⟨g, cap, cur, rfl, hg, hh, h1, h2, _⟩
    · exact absurd h hn
    · exact .inr ⟨hp, g, cap, rfl, h1, h2, (Array.getElem?_eq_some_iff.1 hh).1, ToksF.of_owns ho⟩
theorem ToksF.less {w : World} {g n m : Nat} {f : Nat → Int × ByteArray × Int} (h : ToksF w g n f) (hm : m ≤ n) : ToksF w g m f :=
  ⟨h.lt, fun i hi => h.cell i (by omega), fun i hi => h.free i (by omega)⟩
theorem tkF_at (l : List Tk) (i : Nat) (h : i < l.length) : tkF l i = (l[i].1, l[i].2.1, (l[i].2.2 : Int)) := by simp [tkF, List.getD, List.getElem?_eq_getElem h]
theorem tkF_take (l : List Tk) (k i : Nat) (h : i < k) (hk : k ≤ l.length) : tkF (l.take k) i = tkF l i := by
  rw [tkF_at _ _ (by simp; omega), tkF_at _ _ (by omega)]
  simp

set_option maxRecDepth 100000 in
set_option maxHeartbeats 3200000 in
theorem fnLexPlaces.walk (a : Option Addr) (n c : Nat) (zs : List Int) (w : World) (w0 : IsRow .u8 w a n c zs) (hR : Ready w) :
    Calls Tryz.prog 6 #[.slice a n c] w fun e w' => e = .returned (.bool true) ∧ Below w.heap.size w w' := by
  have hlen := w0.len_le
  have HR := hide hR
  clear hR
  by_cases hbig : 1048576 < n
  · go_enter Tryz.func6, Tryz.ntmps6
    go_wp2_with (go_at_call 7; refine (bigC _ _ _ hlen).mono ?_; rintro e w1 ⟨rfl, rfl⟩)
    all_goals go_ret
    all_goals exact ⟨rfl, by go_grown⟩
  · have HC := hide (Code.of_row w0 (by omega))
    go_enter Tryz.func6, Tryz.ntmps6
    go_wp2_with (go_at_call 7; refine (bigC _ _ _ hlen).mono ?_; rintro e w1 ⟨rfl, rfl⟩)
    refine (dDrawLexC c HC.out (Nat.le_refl _)).mono ?_
    rintro e w1 ⟨s, rfl, hs, hb1⟩
    have H1 := hide hb1
    clear hb1 hbig hlen
    obtain ⟨toks, bad, hlex⟩ : ∃ toks bad, lexS s = (toks, bad) := ⟨_, _, rfl⟩
    have hI := fun w h => implLex s (by omega) w h
    have hS := fun w => specLex s (by omega) w
    rw [hlex] at hI hS
    by_cases hbad : bad = -1
    · subst hbad
      obtain ⟨hs2, hg1, hg2, hg3⟩ := lexS_good s toks hlex
      have hcnt := lexS_count s
      rw [hlex] at hcnt
      have HG := hide (And.intro hg1 (And.intro hg2 hg3))
      have hN : toks.length ≤ 2000 := by have : toks.length ≤ s.size := hcnt; omega
      clear hlex hg1 hg2 hg3 hcnt
      go_wp2_with fail
      refine (hI _ (HR.out.below H1.out)).mono ?_
      rintro e w2 hp
      obtain ⟨hb2, v, rfl, hv⟩ := row_form2 hp
      have H2 := hide (below_via H1.out hb2)
      clear hb2 hp hI
      obtain ⟨m, hm⟩ : ∃ m, Hid (toks.length = m) := ⟨_, rfl⟩
      rw [hm.out] at hv hN
      rcases hv with ⟨rfl, va, vc, rfl⟩ | ⟨hpos, g, vc, rfl, hvc, hvm, hgl, hT⟩
      · go_wp2_with fail
        refine (hS _).mono ?_
        rintro e w3 hp
        obtain ⟨hb3, v', rfl, _⟩ := row_form2 hp
        have H3 := hide (below_via H2.out hb3)
        clear hb3 hp hS
        go_wp2_with fail
        refine wp_loop_rounds 1 ?_
        rw [rounds_succ]
        go_wp2_with fail
        all_goals go_ret
        all_goals exact ⟨rfl, H3.out⟩
      · have HT2 := hide (And.intro hgl hT)
        clear hgl hT
        go_wp2_with fail
        refine (hS _).mono ?_
        rintro e w3 hp
        obtain ⟨hb3, v', rfl, _⟩ := row_form2 hp
        have H3 := hide (below_via H2.out hb3)
        have HT := hide (HT2.out.2.below hb3)
        clear hb3 hp hS HT2
        have hposI : (0 : Int) < m := by omega
        have hmne : ((m : Int) == 0) = false := by simpa using (show ¬ m = 0 by omega)
        unfold maxLen at hvm
        go_wp2_with fail
        go_loopw [8] (fun x wr => ∃ j : Nat, x = .int .i64 j ∧ j ≤ m ∧ Hid (Below w3.heap.size w3 wr)) (fun x _ => m - (intOf x).toNat)
        case atStart => exact ⟨0, rfl, by omega, (show Below w3.heap.size w3 _ by go_grown)⟩
        case round =>
          obtain ⟨j, rfl, hj, HB⟩ := hrel
          by_cases hlt : j < m
          · have hlt2 : (j : Int) < m := by omega
            have hjt : j < toks.length := by have := hm.out; omega
            have hT3 := HT.out.below HB.out
            obtain ⟨c0, c1, c2⟩ := hT3.cell j hlt
            obtain ⟨t1, t2⟩ := HG.out.1 j hjt
            rw [tkF_at toks j hjt] at c0 c1 c2
            simp only at c0 c1 c2
            have hsz := tok_size t1
            have hO := fun w => specTokenOk toks[j].1 toks[j].2.1 (toks[j].2.2 : Int) w (by omega)
            rw [t1] at hO
            have hlt3 := HG.out.2.1
            have e0 := BelowOf.cell c0 hT3.lt
            have e1 := BelowOf.cell c1 hT3.lt
            have e2 := BelowOf.cell c2 hT3.lt
            by_cases hj0 : j = 0
            · subst hj0
              have q1 : ¬ s.size ≤ toks[0].2.2 := by omega
              have q2 : decide (s.size ≤ toks[0].2.2) = false := decide_eq_false q1
              clear hlt3 hT3 c0 c1 c2 t1 t2
              generalize toks[0].1 = tk at e0 hO
              generalize toks[0].2.1 = tx at e1 hO
              generalize toks[0].2.2 = ta at e2 hO q1 q2
              clear hsz hjt
              simp only [Nat.zero_mul, Nat.zero_add] at e0 e1 e2
              go_wp2_with fail
              refine wp_region_wq (by kernel_rfl) (by kernel_rfl) ?_
              repeat (refine WQ.step (fun K hK => ?_); go_simp; first | (refine hK _ ?_; clear hK K) | (apply Exists.intro; refine ⟨fun _ => ?_, hK _ ?_⟩; (exact Calls.below_of (hO _)); clear hK K))
              refine WQ.nil ?_
              intro W2 hq2
              have HB2 := hide (below_via HB.out (BelowOf.of hq2))
              clear hq2 e0 e1 e2 hO q1 q2
              go_wp2_with fail
              go_roundw
              case rel => exact ⟨1, by go_num, by omega, HB2.out⟩
              case measure => simp [intOf]; omega
            · obtain ⟨p, hp⟩ : ∃ p : Nat, p + 1 = j := ⟨j - 1, by omega⟩
              have hpt : p < toks.length := by omega
              obtain ⟨_, _, d2⟩ := hT3.cell p (by omega)
              rw [tkF_at toks p hpt] at d2
              simp only at d2
              have d2' := BelowOf.cell d2 hT3.lt
              have hord := hlt3 p (by omega)
              have hord2 : toks[p].2.2 < toks[j].2.2 := by subst hp; exact hord
              have q1 : ¬ s.size ≤ toks[j].2.2 := by omega
              have q2 : decide (s.size ≤ toks[j].2.2) = false := decide_eq_false q1
              have q3 : ¬ toks[j].2.2 ≤ toks[p].2.2 := by omega
              have q4 : decide (toks[j].2.2 ≤ toks[p].2.2) = false := decide_eq_false q3
              have hwr : IntKind.i64.wrap ((j : Int) - 1) = (p : Int) := by rw [IntWalk.i64_in _ (by omega)]; omega
              have hj1 : 0 < j := by omega
              have hj2 : (0 : Int) < j := by omega
              have hp2 : p < m := by omega
              have hp3 : (p : Int) < m := by omega
              clear hlt3 hT3 c0 c1 c2 d2 t1 t2 hord hord2
              generalize toks[j].1 = tk at e0 hO
              generalize toks[j].2.1 = tx at e1 hO
              generalize toks[j].2.2 = ta at e2 hO q1 q2 q3 q4
              generalize toks[p].2.2 = tp at d2' q3 q4
              have HP := hide hp
              clear hsz hjt hpt hp hj0
              go_wp2_with fail
              refine wp_region_wq (by kernel_rfl) (by kernel_rfl) ?_
              repeat (refine WQ.step (fun K hK => ?_); go_simp; first | (refine hK _ ?_; clear hK K) | (apply Exists.intro; refine ⟨fun _ => ?_, hK _ ?_⟩; (exact Calls.below_of (hO _)); clear hK K))
              refine WQ.nil ?_
              intro W2 hq2
              have HB2 := hide (below_via HB.out (BelowOf.of hq2))
              clear hq2 e0 e1 e2 d2' hO q1 q2 q3 q4 hwr
              go_wp2_with fail
              go_roundw
              case rel => exact ⟨j + 1, by go_num, by omega, HB2.out⟩
              case measure => simp [intOf]; omega
          · have hlt2 : ¬ (j : Int) < m := by omega
            obtain rfl : j = m := by omega
            have HB3 := hide (below_via H3.out HB.out)
            go_wp2_with fail
            refine (at0C c (HC.out.below HB3.out) 2 (by omega)).mono ?_
            rintro e w4 ⟨x, rfl, x0, x1, rfl⟩
            obtain ⟨y, rfl⟩ : ∃ y : Nat, x = (y : Int) := ⟨x.toNat, by omega⟩
            obtain ⟨k, hk⟩ : ∃ k, Hid (k = y % j) := ⟨_, rfl⟩
            have hkj : k < j := by rw [hk.out]; exact Nat.mod_lt _ hpos
            have hmod : (y : Int) % (j : Int) = (k : Int) := by rw [hk.out]; omega
            have hmod2 : (y : Int).tmod (j : Int) = (k : Int) := by rw [Int.tmod_eq_emod_of_nonneg (by omega)]; exact hmod
            have hkt : k < toks.length := by have := hm.out; omega
            have hT3 := HT.out.below HB.out
            obtain ⟨_, _, c2⟩ := hT3.cell k hkj
            rw [tkF_at toks k hkt] at c2
            simp only at c2
            have hcut := HG.out.2.2 k hkt
            have hat := (HG.out.1 k hkt).2
            have hI2 := fun w h => implLex (s.extract 0 toks[k].2.2) (by simp only [ByteArray.size_extract]; omega) w h
            rw [hcut] at hI2
            have HT3 := hide hT3
            clear hT3 hcut
            generalize toks[k].2.2 = ta at c2 hat hI2
            have hk3 : (k : Int) < j := by omega
            have hkvc : k ≤ vc := by omega
            have ha2 : ta ≤ s.size := by omega
            go_wp2_with fail
            refine (hI2 _ (HR.out.below HB3.out)).mono ?_
            rintro e w5 hp
            obtain ⟨hb5, v5, rfl, hv5⟩ := row_form2 hp
            have H5 := hide (And.intro (below_via HB3.out hb5) (And.intro (HT3.out.below hb5) hk.out))
            clear hb5 hp hI2 c2 hmod hmod2
            rcases hv5 with ⟨hz, va, vc5, rfl⟩ | ⟨hp5, g5, vc5, rfl, _, _, _, hT5⟩
            · obtain rfl : k = 0 := by rw [List.length_take] at hz; omega
              have hA := fun (c c' : Nat) w => implSameN va (some ⟨g, 0, none⟩) c c' w
              have hB := fun (c c' : Nat) w => specSameN va (some ⟨g, 0, none⟩) c c' w
              go_wp2_with (first | (go_at_call 21; refine (hA _ _ _).mono ?_; rintro e w6 ⟨rfl, rfl⟩) | (go_at_call 14; refine (hB _ _ _).mono ?_; rintro e w7 ⟨rfl, rfl⟩))
              all_goals go_ret
              all_goals exact ⟨rfl, H5.out.1⟩
            · have hkl : (toks.take k).length = k := by simp; omega
              rw [hkl] at hT5 ⊢
              have hsm : ∀ i, i < k → (tkF (toks.take k) i).1 = (tkF toks i).1 ∧ (tkF (toks.take k) i).2.1 = (tkF toks i).2.1 := fun i hi => by rw [tkF_take toks k i hi (by omega)]; exact ⟨rfl, rfl⟩
              have HH := hide (And.intro hT5 (And.intro (H5.out.2.1.less (Nat.le_of_lt hkj)) hsm))
              clear hT5 hsm hkl
              go_wp2_with fail
              refine (implSameC HH.out.1 HH.out.2.1 (by omega) HH.out.2.2).mono ?_
              rintro e w6 ⟨rfl, hb6⟩
              have H6 := hide (below_via H5.out.1 hb6)
              have HH6 := hide (And.intro (HH.out.1.below hb6) (HH.out.2.1.below hb6))
              have hsf := sameF_all (n := k) (f := tkF (toks.take k)) (f' := tkF toks) (fun i hi => by obtain ⟨h1, h2⟩ := HH.out.2.2 i hi; rw [h1, h2]; simp)
              have hC := specSameC HH6.out.1 HH6.out.2 (by omega) (c := vc5) (c' := vc)
              rw [hsf] at hC
              have HCC := hide hC
              clear hb6 hsf hC
              go_wp2_with fail
              refine HCC.out.mono ?_
              rintro e w7 ⟨rfl, hb7⟩
              have H7 := hide (below_via H6.out hb7)
              clear hb7
              go_wp2_with fail
              all_goals go_ret
              all_goals exact ⟨rfl, H7.out⟩
    · obtain ⟨p, rfl, hp, rfl⟩ : ∃ p : Nat, bad = (p : Int) ∧ p ≤ s.size ∧ toks = [] := by
        by_cases hl : 2000 < s.size
        · unfold lexS at hlex
          rw [if_pos hl] at hlex
          injection hlex with h1 h2
          exact ⟨2000, h2.symm, by omega, h1.symm⟩
        · obtain ⟨p, h1, h2, h3, _⟩ := lexS_bad s (by omega) toks bad hlex hbad
          exact ⟨p, h1, h2, h3⟩
      have hp2 : (p : Int) ≤ s.size := by omega
      clear hlex hbad
      go_wp2_with fail
      refine (hI _ (HR.out.below H1.out)).mono ?_
      rintro e w2 hp9
      obtain ⟨hb2, v, rfl, hv⟩ := row_form2 hp9
      have H2 := hide (below_via H1.out hb2)
      clear hb2 hp9 hI
      rcases hv with ⟨_, va, vc, rfl⟩ | ⟨hpos, _⟩
      · go_wp2_with fail
        refine (hS _).mono ?_
        rintro e w3 hp9
        obtain ⟨hb3, v', rfl, _⟩ := row_form2 hp9
        have H3 := hide (below_via H2.out hb3)
        clear hb3 hp9 hS
        go_wp2_with fail
        all_goals go_ret
        all_goals exact ⟨by simp, H3.out⟩
      · simp at hpos
end Go.Proofs.YtfnjcgakcpadiaaGreatDoor
