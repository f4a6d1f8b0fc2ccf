/-
  TokenText, in the program and in the reference.
-/
import Derived.Test.YtfnjcgakcpadiaaGreatDoorTokC
import Derived.Test.YtfnjcgakcpadiaaGreatDoorWFnExactNameText
import Derived.Test.YtfnjcgakcpadiaaGreatDoorWFnExactQuoteText
namespace Go.Proofs.YtfnjcgakcpadiaaGreatDoor
open Go.RowKit

/-- A token's text. -/
noncomputable def tokT (k : Int) (s : ByteArray) : ByteArray := if tokOk k s = false then ⟨#[]⟩ else if k = 2 then nameT s else if k = 4 then ⟨(quoteL 39 s).toArray⟩ else s

set_option maxRecDepth 100000 in
set_option maxHeartbeats 1600000 in
theorem implTokenText (k : Int) (s : ByteArray) (a : Int) (w : World) (ws : s.size ≤ 1048576) (hR : Ready w) :
    Calls Tryz.prog 16 #[.agg #[.int .i64 k, .string s, .int .i64 a]] w fun e w' => e = .returned (.string (tokT k s)) ∧ Below w.heap.size w w' := by
  obtain ⟨r, hr⟩ : ∃ r, Hid (tokT k s = r) := ⟨_, rfl⟩
  rw [hr.out]
  have HR := hide hR
  clear hR
  cases hv : tokOk k s
  · have hres : r = ⟨#[]⟩ := by rw [← hr.out]; unfold tokT; rw [hv, if_pos rfl]
    subst hres
    clear hr
    go_enter Tryz.func16, Tryz.ntmps16
    go_wp2_with fail
    refine (implTokenOk k s a _ ws (HR.out.below (by go_grown))).mono ?_
    rintro e w1 ⟨rfl, hb⟩
    obtain ⟨c0, c1, c2, f0, f1, f2, hz⟩ := kept3 hb
    have H1 := hide (box_belowT hb)
    clear hb
    rw [hv]
    go_wp2_with fail
    all_goals go_ret
    all_goals exact ⟨rfl, H1.out⟩
  · have hT : ∀ x, tokT k s = x → r = x := fun x h => by rw [← hr.out, h]
    by_cases hk2 : k = 2
    · subst hk2
      have hres : r = nameT s := hT _ (by unfold tokT; rw [hv, if_neg (by simp), if_pos rfl])
      subst hres
      clear hT hr
      go_enter Tryz.func16, Tryz.ntmps16
      go_wp2_with fail
      refine (implTokenOk 2 s a _ ws (HR.out.below (by go_grown))).mono ?_
      rintro e w1 ⟨rfl, hb⟩
      obtain ⟨c0, c1, c2, f0, f1, f2, hz⟩ := kept3 hb
      have H1 := hide (box_belowT hb)
      clear hb
      rw [hv]
      go_wp2_with fail
      obtain ⟨m, hm⟩ := (HR.out.below H1.out).max
      refine (implNameText s m w1 ws hm).mono ?_
      rintro e w2 ⟨rfl, hb2⟩
      have H2 := hide (below_via H1.out hb2)
      clear hb2 c0 c1 c2 f0 f1 f2 hz hv
      go_wp2_with fail
      all_goals go_ret
      all_goals exact ⟨rfl, H2.out⟩
    · by_cases hk4 : k = 4
      · subst hk4
        have hres : r = ⟨(quoteL 39 s).toArray⟩ := hT _ (by unfold tokT; rw [hv, if_neg (by simp), if_neg (by decide), if_pos rfl])
        subst hres
        clear hT hr hk2
        go_enter Tryz.func16, Tryz.ntmps16
        go_wp2_with fail
        refine (implTokenOk 4 s a _ ws (HR.out.below (by go_grown))).mono ?_
        rintro e w1 ⟨rfl, hb⟩
        obtain ⟨c0, c1, c2, f0, f1, f2, hz⟩ := kept3 hb
        have H1 := hide (box_belowT hb)
        clear hb
        rw [hv]
        go_wp2_with fail
        obtain ⟨m, hm⟩ := (HR.out.below H1.out).max
        refine (implQuoteText s m w1 ws hm).mono ?_
        rintro e w2 ⟨rfl, hb2⟩
        have H2 := hide (below_via H1.out hb2)
        clear hb2 c0 c1 c2 f0 f1 f2 hz hv
        go_wp2_with fail
        all_goals go_ret
        all_goals exact ⟨rfl, H2.out⟩
      · have hres : r = s := hT _ (by unfold tokT; rw [hv, if_neg (by simp), if_neg hk2, if_neg hk4])
        subst hres
        clear hT hr
        have g2 : (k == 2) = false := by simpa using hk2
        have g4 : (k == 4) = false := by simpa using hk4
        clear hk2 hk4
        go_enter Tryz.func16, Tryz.ntmps16
        go_wp2_with fail
        refine (implTokenOk k _ a _ ws (HR.out.below (by go_grown))).mono ?_
        rintro e w1 ⟨rfl, hb⟩
        obtain ⟨c0, c1, c2, f0, f1, f2, hz⟩ := kept3 hb
        have H1 := hide (box_belowT hb)
        clear hb
        rw [hv]
        go_wp2_with fail
        all_goals go_ret
        all_goals exact ⟨rfl, H1.out⟩

set_option maxRecDepth 100000 in
set_option maxHeartbeats 1600000 in
theorem specTokenText (k : Int) (s : ByteArray) (a : Int) (w : World) (ws : s.size ≤ 1048576) :
    Calls Tryz.prog 13 #[.agg #[.int .i64 k, .string s, .int .i64 a]] w fun e w' => e = .returned (.string (tokT k s)) ∧ Below w.heap.size w w' := by
  obtain ⟨r, hr⟩ : ∃ r, Hid (tokT k s = r) := ⟨_, rfl⟩
  rw [hr.out]
  cases hv : tokOk k s
  · have hres : r = ⟨#[]⟩ := by rw [← hr.out]; unfold tokT; rw [hv, if_pos rfl]
    subst hres
    clear hr
    go_enter Tryz.func13, Tryz.ntmps13
    go_wp2_with fail
    refine (specTokenOk k s a _ ws).mono ?_
    rintro e w1 ⟨rfl, hb⟩
    obtain ⟨c0, c1, c2, f0, f1, f2, hz⟩ := kept3 hb
    have H1 := hide (box_belowT hb)
    clear hb
    rw [hv]
    go_wp2_with fail
    all_goals go_ret
    all_goals exact ⟨rfl, H1.out⟩
  · have hT : ∀ x, tokT k s = x → r = x := fun x h => by rw [← hr.out, h]
    by_cases hk2 : k = 2
    · subst hk2
      have hres : r = nameT s := hT _ (by unfold tokT; rw [hv, if_neg (by simp), if_pos rfl])
      subst hres
      clear hT hr
      go_enter Tryz.func13, Tryz.ntmps13
      go_wp2_with fail
      refine (specTokenOk 2 s a _ ws).mono ?_
      rintro e w1 ⟨rfl, hb⟩
      obtain ⟨c0, c1, c2, f0, f1, f2, hz⟩ := kept3 hb
      have H1 := hide (box_belowT hb)
      clear hb
      rw [hv]
      go_wp2_with fail
      refine (specNameText s w1 ws).mono ?_
      rintro e w2 ⟨rfl, hb2⟩
      have H2 := hide (below_via H1.out hb2)
      clear hb2 c0 c1 c2 f0 f1 f2 hz hv
      go_wp2_with fail
      all_goals go_ret
      all_goals exact ⟨rfl, H2.out⟩
    · by_cases hk4 : k = 4
      · subst hk4
        have hres : r = ⟨(quoteL 39 s).toArray⟩ := hT _ (by unfold tokT; rw [hv, if_neg (by simp), if_neg (by decide), if_pos rfl])
        subst hres
        clear hT hr hk2
        go_enter Tryz.func13, Tryz.ntmps13
        go_wp2_with fail
        refine (specTokenOk 4 s a _ ws).mono ?_
        rintro e w1 ⟨rfl, hb⟩
        obtain ⟨c0, c1, c2, f0, f1, f2, hz⟩ := kept3 hb
        have H1 := hide (box_belowT hb)
        clear hb
        rw [hv]
        go_wp2_with fail
        refine (specQuoteText s w1 ws).mono ?_
        rintro e w2 ⟨rfl, hb2⟩
        have H2 := hide (below_via H1.out hb2)
        clear hb2 c0 c1 c2 f0 f1 f2 hz hv
        go_wp2_with fail
        all_goals go_ret
        all_goals exact ⟨rfl, H2.out⟩
      · have hres : r = s := hT _ (by unfold tokT; rw [hv, if_neg (by simp), if_neg hk2, if_neg hk4])
        subst hres
        clear hT hr
        have g2 : (k == 2) = false := by simpa using hk2
        have g4 : (k == 4) = false := by simpa using hk4
        clear hk2 hk4
        go_enter Tryz.func13, Tryz.ntmps13
        go_wp2_with fail
        refine (specTokenOk k _ a _ ws).mono ?_
        rintro e w1 ⟨rfl, hb⟩
        obtain ⟨c0, c1, c2, f0, f1, f2, hz⟩ := kept3 hb
        have H1 := hide (box_belowT hb)
        clear hb
        rw [hv]
        go_wp2_with fail
        all_goals go_ret
        all_goals exact ⟨rfl, H1.out⟩
end Go.Proofs.YtfnjcgakcpadiaaGreatDoor
