/-
  ValueText, in the program and in the reference.
-/
import Derived.Test.YtifkldghbdpdmaaDoorWValOk
import Derived.Test.YtifkldghbdpdmaaDoorWFnExactDigits
import Derived.Test.YtifkldghbdpdmaaDoorWFnExactQuoteText
namespace Go.Proofs.YtifkldghbdpdmaaDoor
open Go.RowKit

/-- A value's text. -/
def valT (k n : Int) (s : ByteArray) : ByteArray :=
  if valOk k n s = false then ⟨#[63]⟩ else if k = 1 then ⟨(Lib.itoa n).toArray⟩ else if k = 2 then ⟨(quoteL 39 s).toArray⟩ else if k = 3 then (if n = 1 then ⟨#[84, 82, 85, 69]⟩ else ⟨#[70, 65, 76, 83, 69]⟩) else ⟨#[78, 85, 76, 76]⟩

theorem box_below {w w1 : World} {o : Obj} (hb : Below (w.alloc o).heap.size (w.alloc o) w1) : Below w.heap.size w w1 :=
  below_via ((Below.refl _ _).alloc (Nat.le_refl _) _) hb

set_option maxRecDepth 100000 in
set_option maxHeartbeats 800000 in
theorem implValueText (k n : Int) (s : ByteArray) (w : World) (ws : s.size ≤ 1048576) (h0 : -9223372036854775808 ≤ n) (h1 : n ≤ 9223372036854775807)
    (htab : Lib.TabIs Tryd.prog w "internal/strconv.uint64pow10" .u64 Lib.pow10Tab) (hm : ∃ m, w.cell? ⟨2, 0, none⟩ = some (.int .i64 m)) :
    Calls Tryd.prog 32 #[.agg #[.int .i64 k, .int .i64 n, .string s]] w fun e w' => e = .returned (.string (valT k n s)) ∧ Below w.heap.size w w' := by
  obtain ⟨r, hr⟩ : ∃ r, Hid (valT k n s = r) := ⟨_, rfl⟩
  rw [hr.out]
  have HT := hide (Lib.tabBelow_of_tabIs htab)
  have HM := hide hm
  clear htab hm
  cases hv : valOk k n s
  · have hres : r = ⟨#[63]⟩ := by rw [← hr.out]; unfold valT; rw [hv, if_pos rfl]
    subst hres
    go_enter Tryd.func32, Tryd.ntmps32
    go_wp2_with fail
    refine (implValueOk k n s _ (by omega)).mono ?_
    rintro e w1 ⟨rfl, hb⟩
    have H1 := hide (box_below hb)
    clear hb
    rw [hv]
    go_wp2_with fail
    all_goals go_ret
    all_goals exact ⟨rfl, H1.out⟩
  · have hT : ∀ x, valT k n s = x → r = x := fun x h => by rw [← hr.out, h]
    by_cases hk1 : k = 1
    · subst hk1
      have hres : r = ⟨(Lib.itoa n).toArray⟩ := hT _ (by unfold valT; rw [hv, if_neg (by simp), if_pos rfl])
      subst hres
      clear hT hr
      go_enter Tryd.func32, Tryd.ntmps32
      go_wp2_with fail
      refine (implValueOk 1 n s _ (by omega)).mono ?_
      rintro e w1 ⟨rfl, hb⟩
      obtain ⟨c0, c1, c2, f0, f1, f2, hz⟩ := kept3 hb
      have H1 := hide (box_below hb)
      clear hb
      rw [hv]
      go_wp2_with fail
      refine (implDigits n h0 h1 w1 (HT.out w1 H1.out)).mono ?_
      rintro e w2 ⟨rfl, hb2⟩
      have H2 := hide (below_via H1.out hb2)
      clear hb2 c0 c1 c2 f0 f1 f2 hz hv
      go_wp2_with fail
      all_goals go_ret
      all_goals exact ⟨rfl, H2.out⟩
    · by_cases hk2 : k = 2
      · subst hk2
        have hres : r = ⟨(quoteL 39 s).toArray⟩ := hT _ (by unfold valT; rw [hv, if_neg (by simp), if_neg (by decide), if_pos rfl])
        subst hres
        clear hT hr hk1
        go_enter Tryd.func32, Tryd.ntmps32
        go_wp2_with fail
        refine (implValueOk 2 n s _ (by omega)).mono ?_
        rintro e w1 ⟨rfl, hb⟩
        obtain ⟨c0, c1, c2, f0, f1, f2, hz⟩ := kept3 hb
        have H1 := hide (box_below hb)
        clear hb
        rw [hv]
        go_wp2_with fail
        obtain ⟨m, hm⟩ := some_below HM.out H1.out
        refine (implQuoteText s m w1 ws hm).mono ?_
        rintro e w2 ⟨rfl, hb2⟩
        have H2 := hide (below_via H1.out hb2)
        clear hb2 c0 c1 c2 f0 f1 f2 hz hv hm
        go_wp2_with fail
        all_goals go_ret
        all_goals exact ⟨rfl, H2.out⟩
      · by_cases hk3 : k = 3
        · subst hk3
          clear hk1 hk2
          have hn : n = 0 ∨ n = 1 := by
            unfold valOk at hv
            rw [if_neg (by decide), if_neg (by decide), if_neg (by decide), if_pos rfl] at hv
            simp at hv
            exact hv.1
          have hres : r = if n = 1 then ⟨#[84, 82, 85, 69]⟩ else ⟨#[70, 65, 76, 83, 69]⟩ := hT _ (by unfold valT; rw [hv, if_neg (by simp), if_neg (by decide), if_neg (by decide), if_pos rfl])
          clear hT hr
          rcases hn with rfl | rfl
          · rw [if_neg (by decide)] at hres
            subst hres
            go_enter Tryd.func32, Tryd.ntmps32
            go_wp2_with fail
            refine (implValueOk 3 0 s _ (by omega)).mono ?_
            rintro e w1 ⟨rfl, hb⟩
            obtain ⟨c0, c1, c2, f0, f1, f2, hz⟩ := kept3 hb
            have H1 := hide (box_below hb)
            clear hb
            rw [hv]
            go_wp2_with fail
            all_goals go_ret
            all_goals exact ⟨rfl, H1.out⟩
          · rw [if_pos rfl] at hres
            subst hres
            go_enter Tryd.func32, Tryd.ntmps32
            go_wp2_with fail
            refine (implValueOk 3 1 s _ (by omega)).mono ?_
            rintro e w1 ⟨rfl, hb⟩
            obtain ⟨c0, c1, c2, f0, f1, f2, hz⟩ := kept3 hb
            have H1 := hide (box_below hb)
            clear hb
            rw [hv]
            go_wp2_with fail
            all_goals go_ret
            all_goals exact ⟨rfl, H1.out⟩
        · have hres : r = ⟨#[78, 85, 76, 76]⟩ := hT _ (by unfold valT; rw [hv, if_neg (by simp), if_neg hk1, if_neg hk2, if_neg hk3])
          subst hres
          clear hT hr
          have g1 : (k == 1) = false := by simpa using hk1
          have g2 : (k == 2) = false := by simpa using hk2
          have g3 : (k == 3) = false := by simpa using hk3
          clear hk1 hk2 hk3
          go_enter Tryd.func32, Tryd.ntmps32
          go_wp2_with fail
          refine (implValueOk k n s _ (by omega)).mono ?_
          rintro e w1 ⟨rfl, hb⟩
          obtain ⟨c0, c1, c2, f0, f1, f2, hz⟩ := kept3 hb
          have H1 := hide (box_below hb)
          clear hb
          rw [hv]
          go_wp2_with fail
          all_goals go_ret
          all_goals exact ⟨rfl, H1.out⟩

set_option maxRecDepth 100000 in
set_option maxHeartbeats 800000 in
theorem specValueText (k n : Int) (s : ByteArray) (w : World) (ws : s.size ≤ 1048576) (h0 : -9223372036854775808 ≤ n) (h1 : n ≤ 9223372036854775807) :
    Calls Tryd.prog 30 #[.agg #[.int .i64 k, .int .i64 n, .string s]] w fun e w' => e = .returned (.string (valT k n s)) ∧ Below w.heap.size w w' := by
  obtain ⟨r, hr⟩ : ∃ r, Hid (valT k n s = r) := ⟨_, rfl⟩
  rw [hr.out]
  cases hv : valOk k n s
  · have hres : r = ⟨#[63]⟩ := by rw [← hr.out]; unfold valT; rw [hv, if_pos rfl]
    subst hres
    go_enter Tryd.func30, Tryd.ntmps30
    go_wp2_with fail
    refine (specValueOk k n s _ (by omega)).mono ?_
    rintro e w1 ⟨rfl, hb⟩
    have H1 := hide (box_below hb)
    clear hb
    rw [hv]
    go_wp2_with fail
    all_goals go_ret
    all_goals exact ⟨rfl, H1.out⟩
  · have hT : ∀ x, valT k n s = x → r = x := fun x h => by rw [← hr.out, h]
    by_cases hk1 : k = 1
    · subst hk1
      have hres : r = ⟨(Lib.itoa n).toArray⟩ := hT _ (by unfold valT; rw [hv, if_neg (by simp), if_pos rfl])
      subst hres
      clear hT hr
      go_enter Tryd.func30, Tryd.ntmps30
      go_wp2_with fail
      refine (specValueOk 1 n s _ (by omega)).mono ?_
      rintro e w1 ⟨rfl, hb⟩
      obtain ⟨c0, c1, c2, f0, f1, f2, hz⟩ := kept3 hb
      have H1 := hide (box_below hb)
      clear hb
      rw [hv]
      go_wp2_with fail
      refine (specDigits n h0 h1 w1).mono ?_
      rintro e w2 ⟨rfl, hb2⟩
      have H2 := hide (below_via H1.out hb2)
      clear hb2 c0 c1 c2 f0 f1 f2 hz hv
      go_wp2_with fail
      all_goals go_ret
      all_goals exact ⟨rfl, H2.out⟩
    · by_cases hk2 : k = 2
      · subst hk2
        have hres : r = ⟨(quoteL 39 s).toArray⟩ := hT _ (by unfold valT; rw [hv, if_neg (by simp), if_neg (by decide), if_pos rfl])
        subst hres
        clear hT hr hk1
        go_enter Tryd.func30, Tryd.ntmps30
        go_wp2_with fail
        refine (specValueOk 2 n s _ (by omega)).mono ?_
        rintro e w1 ⟨rfl, hb⟩
        obtain ⟨c0, c1, c2, f0, f1, f2, hz⟩ := kept3 hb
        have H1 := hide (box_below hb)
        clear hb
        rw [hv]
        go_wp2_with fail
        refine (specQuoteText s w1 ws).mono ?_
        rintro e w2 ⟨rfl, hb2⟩
        have H2 := hide (below_via H1.out hb2)
        clear hb2 c0 c1 c2 f0 f1 f2 hz hv
        go_wp2_with fail
        all_goals go_ret
        all_goals exact ⟨rfl, H2.out⟩
      · by_cases hk3 : k = 3
        · subst hk3
          clear hk1 hk2
          have hn : n = 0 ∨ n = 1 := by
            unfold valOk at hv
            rw [if_neg (by decide), if_neg (by decide), if_neg (by decide), if_pos rfl] at hv
            simp at hv
            exact hv.1
          have hres : r = if n = 1 then ⟨#[84, 82, 85, 69]⟩ else ⟨#[70, 65, 76, 83, 69]⟩ := hT _ (by unfold valT; rw [hv, if_neg (by simp), if_neg (by decide), if_neg (by decide), if_pos rfl])
          clear hT hr
          rcases hn with rfl | rfl
          · rw [if_neg (by decide)] at hres
            subst hres
            go_enter Tryd.func30, Tryd.ntmps30
            go_wp2_with fail
            refine (specValueOk 3 0 s _ (by omega)).mono ?_
            rintro e w1 ⟨rfl, hb⟩
            obtain ⟨c0, c1, c2, f0, f1, f2, hz⟩ := kept3 hb
            have H1 := hide (box_below hb)
            clear hb
            rw [hv]
            go_wp2_with fail
            all_goals go_ret
            all_goals exact ⟨rfl, H1.out⟩
          · rw [if_pos rfl] at hres
            subst hres
            go_enter Tryd.func30, Tryd.ntmps30
            go_wp2_with fail
            refine (specValueOk 3 1 s _ (by omega)).mono ?_
            rintro e w1 ⟨rfl, hb⟩
            obtain ⟨c0, c1, c2, f0, f1, f2, hz⟩ := kept3 hb
            have H1 := hide (box_below hb)
            clear hb
            rw [hv]
            go_wp2_with fail
            all_goals go_ret
            all_goals exact ⟨rfl, H1.out⟩
        · have hres : r = ⟨#[78, 85, 76, 76]⟩ := hT _ (by unfold valT; rw [hv, if_neg (by simp), if_neg hk1, if_neg hk2, if_neg hk3])
          subst hres
          clear hT hr
          have g1 : (k == 1) = false := by simpa using hk1
          have g2 : (k == 2) = false := by simpa using hk2
          have g3 : (k == 3) = false := by simpa using hk3
          clear hk1 hk2 hk3
          go_enter Tryd.func30, Tryd.ntmps30
          go_wp2_with fail
          refine (specValueOk k n s _ (by omega)).mono ?_
          rintro e w1 ⟨rfl, hb⟩
          obtain ⟨c0, c1, c2, f0, f1, f2, hz⟩ := kept3 hb
          have H1 := hide (box_below hb)
          clear hb
          rw [hv]
          go_wp2_with fail
          all_goals go_ret
          all_goals exact ⟨rfl, H1.out⟩
end Go.Proofs.YtifkldghbdpdmaaDoor
