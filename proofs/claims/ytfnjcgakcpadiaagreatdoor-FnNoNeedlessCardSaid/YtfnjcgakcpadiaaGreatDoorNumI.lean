/-
  Number, in the program.
-/
import Derived.Test.YtfnjcgakcpadiaaGreatDoorGNum
import Derived.Test.YtfnjcgakcpadiaaGreatDoorReady
namespace Go.Proofs.YtfnjcgakcpadiaaGreatDoor
open Go.RowKit

theorem below_of_bytes {w w1 : World} {t0 : TypeId} (h : w1 = w ∨ ∃ t, w1 = Lib.bytesWorld w t0 t) : Below w.heap.size w w1 := by
  rcases h with rfl | ⟨t, rfl⟩
  · exact Below.refl _ _
  · exact Lib.bytesWorld_below _ _ _

set_option maxRecDepth 100000 in
set_option maxHeartbeats 800000 in
theorem implNumber (s : ByteArray) (ws : s.size ≤ 281474976710656) (w : World) (hR : Ready w) :
    Calls Tryz.prog 44 #[.string s] w fun e w' => e = .returned (.tuple #[.int .i64 (numN s), .bool (numB s)]) ∧ Below w.heap.size w w' := by
  obtain ⟨r, hr⟩ : ∃ r, Hid (numN s = r) := ⟨_, rfl⟩
  obtain ⟨b, hb⟩ : ∃ b, Hid (numB s = b) := ⟨_, rfl⟩
  rw [hr.out, hb.out]
  have HNO : Hid (¬ isNum s → r = 0 ∧ b = false) := by
    show ¬ isNum s → _
    rw [← hr.out, ← hb.out]
    exact numN_no
  have HYES : Hid (∀ n : Nat, n ≤ 9223372036854775807 → s = numS n → r = (n : Int) ∧ b = true) := by
    show ∀ n : Nat, _
    rw [← hr.out, ← hb.out]
    exact fun n => numN_yes
  clear hr hb
  have HR := hide hR
  clear hR
  cases h : Lib.atoiAll s.data.toList with
  | ok v =>
    have hb := Lib.atoiAll_bounds h
    have hA := fun w => Tryz.strconv_Atoi_ok s (by omega) v h w
    have HU : Hid (∀ n : Nat, n ≤ 9223372036854775807 → s = numS n → v = (n : Int)) := by
      show ∀ n : Nat, _
      intro n hn e
      have := num_atoi hn e
      rw [h] at this
      injection this
    clear h
    obtain ⟨hb0, hb1⟩ := hb
    by_cases hv : v < 0
    · obtain ⟨rfl, rfl⟩ := HNO.out (by
        rintro ⟨n, hn, e⟩
        have := HU.out n hn e
        omega)
      go_enter Tryz.func44, Tryz.ntmps44
      go_wp2_with fail
      refine (hA w).mono ?_
      rintro e w1 ⟨rfl, hw⟩
      have H1 := hide (below_of_bytes hw)
      clear hw
      go_wp2_with fail
      all_goals go_ret2
      all_goals exact ⟨rfl, H1.out⟩
    · obtain ⟨m, rfl⟩ : ∃ m : Nat, v = (m : Int) := ⟨v.toNat, by omega⟩
      go_enter Tryz.func44, Tryz.ntmps44
      go_wp2_with fail
      refine (hA w).mono ?_
      rintro e w1 ⟨rfl, hw⟩
      have H1 := hide (below_of_bytes hw)
      clear hw
      go_wp2_with fail
      refine (implDigits (m : Int) (by omega) (by omega) w1 (HR.out.below H1.out).tab).mono ?_
      rintro e w2 ⟨rfl, hb2⟩
      have H2 := hide (below_via H1.out hb2)
      clear hb2
      have e1 : (⟨(Lib.itoa (m : Int)).toArray⟩ : ByteArray) = numS m := rfl
      rw [e1]
      by_cases heq : numS m = s
      · obtain ⟨rfl, rfl⟩ := HYES.out m (by omega) heq.symm
        have hq0 : ((numS m).toList == s.toList) = true := (Lib.bytes_beq_iff _ _).2 heq
        clear heq e1
        generalize numS m = q at hq0 ⊢
        go_wp2_with fail
        all_goals go_ret2
        all_goals exact ⟨rfl, H2.out⟩
      · obtain ⟨rfl, rfl⟩ := HNO.out (by
          rintro ⟨n, hn, e⟩
          have h2 := HU.out n hn e
          have h3 : m = n := by omega
          exact heq (by rw [h3]; exact e.symm))
        have hq0 : ((numS m).toList == s.toList) = false := (Lib.bytes_beq_false_iff _ _).2 heq
        clear heq e1
        generalize numS m = q at hq0 ⊢
        go_wp2_with fail
        all_goals go_ret2
        all_goals exact ⟨rfl, H2.out⟩
  | «syntax» =>
    obtain ⟨rfl, rfl⟩ := HNO.out (by
      rintro ⟨n, hn, e⟩
      have := num_atoi hn e
      rw [h] at this
      cases this)
    obtain ⟨tp, p, hc⟩ := HR.out.syn
    have hA := Tryz.strconv_Atoi_syntax s ws h _ w hc (.inr ⟨tp, p, rfl⟩)
    clear h hc
    go_enter Tryz.func44, Tryz.ntmps44
    go_wp2_with fail
    refine hA.mono ?_
    rintro e w1 ⟨N, rfl, -, -, hb⟩
    have H1 := hide hb
    clear hb hA
    go_wp2_with fail
    all_goals go_ret2
    all_goals exact ⟨rfl, H1.out⟩
  | range =>
    obtain ⟨rfl, rfl⟩ := HNO.out (by
      rintro ⟨n, hn, e⟩
      have := num_atoi hn e
      rw [h] at this
      cases this)
    obtain ⟨tp, p, hc⟩ := HR.out.rng
    have hA := Tryz.strconv_Atoi_range s ws h _ w hc (.inr ⟨tp, p, rfl⟩)
    clear h hc
    generalize Lib.atoiSat s.data.toList = sat at hA
    go_enter Tryz.func44, Tryz.ntmps44
    go_wp2_with fail
    refine hA.mono ?_
    rintro e w1 ⟨N, rfl, -, -, hb⟩
    have H1 := hide hb
    clear hb hA
    go_wp2_with fail
    all_goals go_ret2
    all_goals exact ⟨rfl, H1.out⟩
end Go.Proofs.YtfnjcgakcpadiaaGreatDoor
