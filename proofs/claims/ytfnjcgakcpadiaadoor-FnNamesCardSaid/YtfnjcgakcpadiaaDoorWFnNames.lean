/-
  The walk of FnNames.
-/
import Derived.Test.YtfnjcgakcpadiaaDoorWFnQuotes
import Derived.Test.YtfnjcgakcpadiaaDoorWFnExactNameText
namespace Go.Proofs.YtfnjcgakcpadiaaDoor
open Go.RowKit

theorem name_txt {s : ByteArray} (h : 1 ≤ s.size ∧ s.size ≤ 20) : nameT s = ⟨(txtL 2 s).toArray⟩ := by
  unfold nameT txtL
  rw [if_pos h]
  cases hp : plainB s
  · have hq : quotB 2 s = true := by simp [quotB, hp]
    rw [if_neg (by simp), if_pos hq]
  · have hq : quotB 2 s = false := by simp [quotB, hp]
    rw [if_pos rfl, if_neg (by rw [hq]; simp), if_neg (by decide), arr_list]
theorem txt2_le (s : ByteArray) : (txtL 2 s).length ≤ 2 * s.size + 2 := by
  unfold txtL
  split
  · exact quoteL_le _ _
  · rw [if_neg (by decide), list_size]
    omega
theorem name_lex {s : ByteArray} (h : 1 ≤ s.size ∧ s.size ≤ 20) : lexS (nameT s) = ([(2, s, 0)], -1) := by
  have ht : tokOk 2 s = true := by
    unfold tokOk
    rw [if_neg (by decide), if_pos rfl]
    simpa using h
  rw [name_txt h, lex_arr _ (by have := txt2_le s; omega), lex_single ht]
theorem dbl_ge (q : UInt8) (x : List UInt8) : x.length ≤ (x.flatMap (dbl q)).length := by
  induction x with
  | nil => simp
  | cons c t ih =>
    rw [List.flatMap_cons, List.length_append, List.length_cons]
    have : 1 ≤ (dbl q c).length := by unfold dbl; split <;> simp
    omega
theorem name_same {s : ByteArray} (h : 1 ≤ s.size ∧ s.size ≤ 20) : ((nameT s).toList == s.toList) = plainB s := by
  cases hp : plainB s
  · rw [Bool.eq_false_iff]
    intro hb
    have e := beq_bytes hb
    have hn : nameT s = ⟨(quoteL 34 s).toArray⟩ := by
      unfold nameT
      rw [if_pos h, if_neg (by rw [hp]; simp)]
    rw [hn] at e
    have hsz := congrArg ByteArray.size e
    rw [arr_size] at hsz
    have h1 := dbl_ge 34 s.data.toList
    rw [list_size] at h1
    unfold quoteL at hsz
    rw [List.length_cons, List.length_append] at hsz
    omega
  · have hn : nameT s = s := by
      unfold nameT
      rw [if_pos h, if_pos hp]
    rw [hn]
    simp
theorem name_size (s : ByteArray) (h : s.size ≤ 21) : (nameT s).size ≤ 1048576 := by
  unfold nameT
  split
  · split
    · omega
    · rw [arr_size]
      have := quoteL_le 34 s
      omega
  · show 0 ≤ _
    omega

set_option maxRecDepth 100000 in
set_option maxHeartbeats 800000 in
theorem fnNames.walk (a : Option Addr) (n c : Nat) (zs : List Int) (w : World) (w0 : IsRow .u8 w a n c zs) (hR : Ready w) :
    Calls Tryd.prog 6 #[.slice a n c] w fun e w' => e = .returned (.bool true) ∧ Below w.heap.size w w' := by
  have hlen := w0.len_le
  have HR := hide hR
  clear hR
  by_cases hbig : 1048576 < n
  · go_enter Tryd.func6, Tryd.ntmps6
    go_wp2_with (go_at_call 7; refine (bigC _ _ _ hlen).mono ?_; rintro e w1 ⟨rfl, rfl⟩)
    all_goals go_ret
    all_goals exact ⟨rfl, by go_grown⟩
  · have HC := hide (Code.of_row w0 (by omega))
    go_enter Tryd.func6, Tryd.ntmps6
    go_wp2_with (go_at_call 7; refine (bigC _ _ _ hlen).mono ?_; rintro e w1 ⟨rfl, rfl⟩)
    refine (dDrawNameTextC c HC.out (Nat.le_refl _)).mono ?_
    rintro e w1 ⟨s, rfl, hs, hb1⟩
    have H1 := hide hb1
    clear hb1
    have hN := fun m w => implNameText s m w (by omega)
    have hL := fun w h => implLex (nameT s) (name_size s hs) w h
    have hP := fun w => specPlain s w (by omega)
    have hO := fun w => nameOkS s w
    have hO2 := fun w => nameOkI s w
    by_cases hok : 1 ≤ s.size ∧ s.size ≤ 20
    · rw [name_lex hok] at hL
      have hsame := name_same hok
      have hdec : (decide (1 ≤ s.size) && decide (s.size ≤ 20)) = true := by simpa using hok
      rw [hdec] at hO hO2
      generalize nameT s = t at hN hL hsame
      generalize plainB s = pb at hP hsame
      clear hdec
      go_wp2_with fail
      obtain ⟨m, hm⟩ := (HR.out.below H1.out).max
      refine (hN m _ hm).mono ?_
      rintro e w2 ⟨rfl, hb2⟩
      have H2 := hide (below_via H1.out hb2)
      clear hb2 hm hN
      go_wp2_with fail
      refine (hL _ (HR.out.below H2.out)).mono ?_
      rintro e w3 hp
      obtain ⟨hb3, g, c3, rfl, hg, c0, c1, c2⟩ := one_row hp
      have H3 := hide (And.intro (below_via H2.out hb3) (And.intro hg (And.intro c0 (And.intro c1 c2))))
      clear hb3 hp hL hg c0 c1 c2
      go_wp2_with fail
      refine (hO _).mono ?_
      rintro e w4 ⟨rfl, rfl⟩
      obtain ⟨hb3, hg, c0, c1, c2⟩ := H3.out
      clear hb3
      go_wp2_with fail
      refine (hP _).mono ?_
      rintro e w5 ⟨rfl, hb5⟩
      have H5 := hide (below_via H3.out.1 hb5)
      clear hb5 c0 c1 c2
      go_wp2_with fail
      all_goals go_ret
      all_goals exact ⟨by simp, H5.out⟩
    · have hdec : (decide (1 ≤ s.size) && decide (s.size ≤ 20)) = false := by
        rw [Bool.eq_false_iff]
        intro h
        exact hok (by simpa using h)
      rw [hdec] at hO hO2
      have hn : nameT s = ⟨#[]⟩ := by unfold nameT; rw [if_neg hok]
      rw [hn] at hN hL
      clear hn hdec hP
      go_wp2_with fail
      obtain ⟨m, hm⟩ := (HR.out.below H1.out).max
      refine (hN m _ hm).mono ?_
      rintro e w2 ⟨rfl, hb2⟩
      have H2 := hide (below_via H1.out hb2)
      clear hb2 hm hN
      go_wp2_with fail
      refine (hL _ (HR.out.below H2.out)).mono ?_
      rintro e w3 hp
      obtain ⟨hb3, v, rfl, hc⟩ := row_form hp
      have H3 := hide (below_via H2.out hb3)
      clear hb3 hp hL hc
      generalize (lexS ⟨#[]⟩).2 = bad
      go_wp2_with fail
      refine (hO _).mono ?_
      rintro e w4 ⟨rfl, rfl⟩
      go_wp2_with fail
      refine (hO2 _).mono ?_
      rintro e w5 ⟨rfl, rfl⟩
      go_wp2_with fail
      all_goals go_ret
      all_goals exact ⟨by simp, H3.out⟩
end Go.Proofs.YtfnjcgakcpadiaaDoor
