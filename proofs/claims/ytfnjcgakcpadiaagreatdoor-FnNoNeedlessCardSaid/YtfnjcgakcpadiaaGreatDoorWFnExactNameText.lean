/-
  The walk of FnExactNameText.
-/
import Derived.Test.YtfnjcgakcpadiaaGreatDoorQuoteI
import Derived.Test.YtfnjcgakcpadiaaGreatDoorPlainN
namespace Go.Proofs.YtfnjcgakcpadiaaGreatDoor
open Go.RowKit

/-- A name's text. -/
def nameT (s : ByteArray) : ByteArray := if 1 ≤ s.size ∧ s.size ≤ 20 then (if plainB s = true then s else ⟨(quoteL 34 s).toArray⟩) else ⟨#[]⟩

set_option maxRecDepth 100000 in
theorem implNameText (s : ByteArray) (m : Int) (w : World) (hs : s.size ≤ 1048576) (hm : w.cell? ⟨0, 0, none⟩ = some (.int .i64 m)) :
    Calls Tryz.prog 39 #[.string s] w fun e w' => e = .returned (.string (nameT s)) ∧ Below w.heap.size w w' := by
  obtain ⟨r, hr⟩ : ∃ r, Hid (nameT s = r) := ⟨_, rfl⟩
  rw [hr.out]
  cases hok : (decide (1 ≤ s.size) && decide (s.size ≤ 20))
  · have hres : r = ⟨#[]⟩ := by
      rw [← hr.out]; unfold nameT; rw [if_neg]; intro h; simp [h.1, h.2] at hok
    subst hres
    go_enter Tryz.func39, Tryz.ntmps39
    go_wp2_with fail
    refine (nameOkI s w).mono ?_
    rintro e w1 ⟨rfl, rfl⟩
    rw [hok]
    go_wp2_with fail
    all_goals go_ret
    all_goals exact ⟨rfl, by go_grown⟩
  · have hsz : 1 ≤ s.size ∧ s.size ≤ 20 := by simpa using hok
    have hP := implPlain s w hs m hm
    cases hp : plainB s
    · have hres : r = ⟨(quoteL 34 s).toArray⟩ := by rw [← hr.out]; unfold nameT; rw [if_pos hsz, if_neg (by rw [hp]; simp)]
      have HM := hide hm
      rw [hp] at hP
      subst hres
      clear hr hm
      go_enter Tryz.func39, Tryz.ntmps39
      go_wp2_with fail
      refine (nameOkI s w).mono ?_
      rintro e w1 ⟨rfl, rfl⟩
      rw [hok]
      go_wp2_with fail
      refine hP.mono ?_
      rintro e w1 ⟨rfl, hb1⟩
      have H1 := hide hb1
      clear hb1 hP
      go_wp2_with fail
      obtain ⟨m2, hm2⟩ := some_below ⟨m, HM.out⟩ H1.out
      refine (implQuoted s 34 m2 w1 hs hm2).mono ?_
      rintro e w2 ⟨rfl, hb2⟩
      have H2 := hide (below_via H1.out hb2)
      clear hb2
      go_wp2_with fail
      all_goals go_ret
      all_goals exact ⟨rfl, H2.out⟩
    · have hres : r = s := by rw [← hr.out]; unfold nameT; rw [if_pos hsz, if_pos hp]
      subst hres
      rw [hp] at hP
      clear hr
      go_enter Tryz.func39, Tryz.ntmps39
      go_wp2_with fail
      refine (nameOkI _ w).mono ?_
      rintro e w1 ⟨rfl, rfl⟩
      rw [hok]
      go_wp2_with fail
      refine hP.mono ?_
      rintro e w1 ⟨rfl, hb1⟩
      have H1 := hide hb1
      clear hb1
      go_wp2_with fail
      all_goals go_ret
      all_goals exact ⟨rfl, H1.out⟩

set_option maxRecDepth 100000 in
theorem specNameText (s : ByteArray) (w : World) (hs : s.size ≤ 1048576) :
    Calls Tryz.prog 37 #[.string s] w fun e w' => e = .returned (.string (nameT s)) ∧ Below w.heap.size w w' := by
  obtain ⟨r, hr⟩ : ∃ r, Hid (nameT s = r) := ⟨_, rfl⟩
  rw [hr.out]
  cases hok : (decide (1 ≤ s.size) && decide (s.size ≤ 20))
  · have hres : r = ⟨#[]⟩ := by
      rw [← hr.out]; unfold nameT; rw [if_neg]; intro h; simp [h.1, h.2] at hok
    subst hres
    go_enter Tryz.func37, Tryz.ntmps37
    go_wp2_with fail
    refine (nameOkS s w).mono ?_
    rintro e w1 ⟨rfl, rfl⟩
    rw [hok]
    go_wp2_with fail
    all_goals go_ret
    all_goals exact ⟨rfl, by go_grown⟩
  · have hsz : 1 ≤ s.size ∧ s.size ≤ 20 := by simpa using hok
    have hP := specPlain s w hs
    cases hp : plainB s
    · have hres : r = ⟨(quoteL 34 s).toArray⟩ := by rw [← hr.out]; unfold nameT; rw [if_pos hsz, if_neg (by rw [hp]; simp)]
      subst hres
      rw [hp] at hP
      clear hr
      go_enter Tryz.func37, Tryz.ntmps37
      go_wp2_with fail
      refine (nameOkS s w).mono ?_
      rintro e w1 ⟨rfl, rfl⟩
      rw [hok]
      go_wp2_with fail
      refine hP.mono ?_
      rintro e w1 ⟨rfl, hb1⟩
      have H1 := hide hb1
      clear hb1 hP
      go_wp2_with fail
      refine (l2QuoteC s 34 w1 hs).mono ?_
      rintro e w2 ⟨rfl, hb2⟩
      have H2 := hide (below_via H1.out hb2)
      clear hb2
      go_wp2_with fail
      all_goals go_ret
      all_goals exact ⟨rfl, H2.out⟩
    · have hres : r = s := by rw [← hr.out]; unfold nameT; rw [if_pos hsz, if_pos hp]
      subst hres
      rw [hp] at hP
      clear hr
      go_enter Tryz.func37, Tryz.ntmps37
      go_wp2_with fail
      refine (nameOkS _ w).mono ?_
      rintro e w1 ⟨rfl, rfl⟩
      rw [hok]
      go_wp2_with fail
      refine hP.mono ?_
      rintro e w1 ⟨rfl, hb1⟩
      have H1 := hide hb1
      clear hb1
      go_wp2_with fail
      all_goals go_ret
      all_goals exact ⟨rfl, H1.out⟩
end Go.Proofs.YtfnjcgakcpadiaaGreatDoor
