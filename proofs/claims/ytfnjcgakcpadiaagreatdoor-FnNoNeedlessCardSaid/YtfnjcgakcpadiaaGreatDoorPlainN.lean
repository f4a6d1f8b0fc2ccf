/-
  PlainName: the two walks.
-/
import Derived.Test.YtfnjcgakcpadiaaGreatDoorPlainC
namespace Go.Proofs.YtfnjcgakcpadiaaGreatDoor
open Go.RowKit

theorem keyNo_nonneg (f : ByteArray) : 0 ≤ keyNo f := by
  by_cases h : ∃ k, 1 ≤ k ∧ k < 29 ∧ kw k = f ∧ ∀ j, 1 ≤ j → j < k → kw j ≠ f
  · obtain ⟨k, h1, h2, h4, h5⟩ := h
    have := keyNo_hit f k h1 h2 h4 h5
    omega
  · have h6 : ∀ k, 1 ≤ k → k < 29 → kw k ≠ f := by
      intro k
      induction k using Nat.strongRecOn with
      | _ k ih => exact fun h1 h2 h4 => h ⟨k, h1, h2, h4, fun j a b => ih j b a (by omega)⟩
    rw [keyNo_miss f h6]
    omega

theorem get_list (s : ByteArray) (j : Nat) (hj : j < s.size) : s.data.toList[j]'(by rw [Array.length_toList]; exact hj) = s[j] := by
  simp [ByteArray.getElem_eq_getElem_data]

theorem all_of (l : List UInt8) (h : ∀ j (hj : j < l.length), partB l[j] = true) : l.all partB = true := by
  rw [List.all_eq_true]
  intro x hx
  obtain ⟨j, hj, rfl⟩ := List.getElem_of_mem hx
  exact h j hj
theorem all_not (l : List UInt8) (k : Nat) (hk : k < l.length) (h : partB l[k] = false) : l.all partB = false := by
  rw [List.all_eq_false]
  exact ⟨l[k], List.getElem_mem hk, by rw [h]; simp⟩

set_option maxRecDepth 100000 in
set_option maxHeartbeats 800000 in
theorem specPlain (s : ByteArray) (w : World) (hs : s.size ≤ 1048576) :
    Calls Tryz.prog 56 #[.string s] w fun e w' => e = .returned (.bool (plainB s)) ∧ Below w.heap.size w w' := by
  have hlen : s.data.toList.length = s.size := Array.length_toList
  obtain ⟨r, hr⟩ : ∃ r, Hid (plainB s = r) := ⟨_, rfl⟩
  rw [hr.out]
  cases hok : (decide (1 ≤ s.size) && decide (s.size ≤ 20))
  · have hres : r = false := by rw [← hr.out]; unfold plainB; rw [hok]; simp
    subst hres
    go_enter Tryz.func56, Tryz.ntmps56
    go_wp2_with fail
    refine (nameOkS s w).mono ?_
    rintro e w1 ⟨rfl, rfl⟩
    rw [hok]
    go_wp2_with fail
    all_goals go_ret
    all_goals exact ⟨rfl, by go_grown⟩
  · have hsz : 1 ≤ s.size ∧ s.size ≤ 20 := by simpa using hok
    obtain ⟨hz1, hz2⟩ := hsz
    have hget := fun j hj => get_list s j hj
    have hg0 : s.data.toList.getD 0 0 = s[0]'hz1 := by
      rw [List.getD, List.getElem?_eq_getElem (by omega), ← hget 0 (by omega)]
      rfl
    have HGET := hide hget
    clear hget
    cases hd : digB (s[0]'hz1)
    · by_cases hkn : keyNo (upAll s) = 0
      · have hres : r = s.data.toList.all partB := by rw [← hr.out]; unfold plainB; rw [hok, hg0, hd]; simp [hkn]
        have HRES := hide hres
        have HLEN := hide hlen
        clear hres hg0 hlen
        go_enter Tryz.func56, Tryz.ntmps56
        go_wp2_with fail
        refine (nameOkS s w).mono ?_
        rintro e w1 ⟨rfl, rfl⟩
        rw [hok]
        go_wp2_with fail
        refine (figureC _ w).mono ?_
        rintro e w1 ⟨rfl, rfl⟩
        rw [hd]
        go_wp2_with fail
        refine (specKeyOf s w hs).mono ?_
        rintro e w1 ⟨rfl, hb1⟩
        have H1 := hide hb1
        rw [hkn]
        clear hb1 hkn
        go_wp2_with fail
        go_loopw [3] (fun x wr => ∃ k : Nat, x = .int .i64 (k : Int) ∧ k ≤ s.size ∧ Hid (∀ j (hj : j < s.data.toList.length), j < k → partB s.data.toList[j] = true) ∧ Hid (Below w.heap.size w wr)) (fun x _ => s.size + 1 - (intOf x).toNat)
        case atStart => exact ⟨0, rfl, by omega, (show ∀ j (hj : j < s.data.toList.length), j < 0 → partB s.data.toList[j] = true from fun j _ h => by omega), H1.out⟩
        case round =>
          obtain ⟨k, rfl, hk, hall, HB⟩ := hrel
          by_cases hk2 : k < s.size
          · have hk3 : (k : Int) < s.size := by omega
            go_wp2_with fail
            refine (letterC _ wr).mono ?_
            rintro e w3 ⟨rfl, rfl⟩
            cases hl : letB (s[k]'hk2)
            · go_wp2_with fail
              refine (figureC _ wr).mono ?_
              rintro e w3 ⟨rfl, rfl⟩
              cases hp : digB (s[k]'hk2)
              · go_wp2_with fail
                all_goals go_ret
                all_goals refine ⟨?_, HB.out⟩
                all_goals rw [HRES.out, all_not s.data.toList k (by have := HLEN.out; omega) (by rw [HGET.out k hk2]; unfold partB; rw [hl, hp]; rfl)]
                all_goals rfl
              · go_wp2_with fail
                go_roundw
                case rel =>
                  refine ⟨k + 1, by go_num, by omega, ?_, HB.out⟩
                  show ∀ j (hj : j < s.data.toList.length), j < k + 1 → partB s.data.toList[j] = true
                  intro j hj hjk
                  by_cases hjk2 : j = k
                  · subst hjk2
                    rw [HGET.out j hk2]
                    unfold partB; rw [hl, hp]; rfl
                  · exact hall.out j hj (by omega)
                case measure => simp [intOf]; omega
            · go_wp2_with fail
              go_roundw
              case rel =>
                refine ⟨k + 1, by go_num, by omega, ?_, HB.out⟩
                show ∀ j (hj : j < s.data.toList.length), j < k + 1 → partB s.data.toList[j] = true
                intro j hj hjk
                by_cases hjk2 : j = k
                · subst hjk2
                  rw [HGET.out j hk2]
                  unfold partB; rw [hl]; rfl
                · exact hall.out j hj (by omega)
              case measure => simp [intOf]; omega
          · have hk3 : ¬ (k : Int) < s.size := by omega
            have hke : k = s.size := by omega
            go_wp2_with fail
            all_goals go_ret
            all_goals refine ⟨?_, HB.out⟩
            all_goals rw [HRES.out, all_of s.data.toList (fun j hj => hall.out j hj (by have := HLEN.out; omega))]
            all_goals rfl
      · have hkn2 : 0 < keyNo (upAll s) := by have := keyNo_nonneg (upAll s); omega
        have hres : r = false := by rw [← hr.out]; unfold plainB; simp [hkn]
        subst hres
        clear hg0 hlen
        go_enter Tryz.func56, Tryz.ntmps56
        go_wp2_with fail
        refine (nameOkS s w).mono ?_
        rintro e w1 ⟨rfl, rfl⟩
        rw [hok]
        go_wp2_with fail
        refine (figureC _ w).mono ?_
        rintro e w1 ⟨rfl, rfl⟩
        rw [hd]
        go_wp2_with fail
        refine (specKeyOf s w hs).mono ?_
        rintro e w1 ⟨rfl, hb1⟩
        have H1 := hide hb1
        clear hb1
        generalize keyNo (upAll s) = kn at hkn hkn2 ⊢
        go_wp2_with fail
        all_goals go_ret
        all_goals exact ⟨rfl, H1.out⟩
    · have hres : r = false := by rw [← hr.out]; unfold plainB; rw [hg0, hd]; simp
      subst hres
      clear hg0 hlen
      go_enter Tryz.func56, Tryz.ntmps56
      go_wp2_with fail
      refine (nameOkS s w).mono ?_
      rintro e w1 ⟨rfl, rfl⟩
      rw [hok]
      go_wp2_with fail
      refine (figureC _ w).mono ?_
      rintro e w1 ⟨rfl, rfl⟩
      rw [hd]
      go_wp2_with fail
      all_goals go_ret
      all_goals exact ⟨rfl, by go_grown⟩

set_option maxRecDepth 100000 in
set_option maxHeartbeats 800000 in
theorem implPlain (s : ByteArray) (w : World) (hs : s.size ≤ 1048576) (m : Int) (hm : w.cell? ⟨0, 0, none⟩ = some (.int .i64 m)) :
    Calls Tryz.prog 55 #[.string s] w fun e w' => e = .returned (.bool (plainB s)) ∧ Below w.heap.size w w' := by
  have hlen : s.data.toList.length = s.size := Array.length_toList
  obtain ⟨r, hr⟩ : ∃ r, Hid (plainB s = r) := ⟨_, rfl⟩
  rw [hr.out]
  cases hok : (decide (1 ≤ s.size) && decide (s.size ≤ 20))
  · have hres : r = false := by rw [← hr.out]; unfold plainB; rw [hok]; simp
    subst hres
    go_enter Tryz.func55, Tryz.ntmps55
    go_wp2_with fail
    refine (nameOkI s w).mono ?_
    rintro e w1 ⟨rfl, rfl⟩
    rw [hok]
    go_wp2_with fail
    all_goals go_ret
    all_goals exact ⟨rfl, by go_grown⟩
  · have hsz : 1 ≤ s.size ∧ s.size ≤ 20 := by simpa using hok
    obtain ⟨hz1, hz2⟩ := hsz
    have hget := fun j hj => get_list s j hj
    have hg0 : s.data.toList.getD 0 0 = s[0]'hz1 := by
      rw [List.getD, List.getElem?_eq_getElem (by omega), ← hget 0 (by omega)]
      rfl
    have HGET := hide hget
    clear hget
    cases hd : digB (s[0]'hz1)
    · by_cases hkn : keyNo (upAll s) = 0
      · have hres : r = s.data.toList.all partB := by rw [← hr.out]; unfold plainB; rw [hok, hg0, hd]; simp [hkn]
        have HRES := hide hres
        have HLEN := hide hlen
        clear hres hg0 hlen
        go_enter Tryz.func55, Tryz.ntmps55
        go_wp2_with fail
        refine (nameOkI s w).mono ?_
        rintro e w1 ⟨rfl, rfl⟩
        rw [hok]
        go_wp2_with fail
        refine (isDigitC _ w).mono ?_
        rintro e w1 ⟨rfl, rfl⟩
        rw [hd]
        go_wp2_with fail
        refine (implKeyOf s m w hs hm).mono ?_
        rintro e w1 ⟨rfl, hb1⟩
        have H1 := hide hb1
        rw [hkn]
        clear hb1 hkn
        go_wp2_with fail
        go_loopw [19] (fun x wr => ∃ k : Nat, x = .int .i64 (k : Int) ∧ k ≤ s.size ∧ Hid (∀ j (hj : j < s.data.toList.length), j < k → partB s.data.toList[j] = true) ∧ Hid (Below w.heap.size w wr)) (fun x _ => s.size + 1 - (intOf x).toNat)
        case atStart => exact ⟨0, rfl, by omega, (show ∀ j (hj : j < s.data.toList.length), j < 0 → partB s.data.toList[j] = true from fun j _ h => by omega), H1.out⟩
        case round =>
          obtain ⟨k, rfl, hk, hall, HB⟩ := hrel
          by_cases hk2 : k < s.size
          · have hk3 : (k : Int) < s.size := by omega
            go_wp2_with fail
            refine (isPartC _ wr).mono ?_
            rintro e w3 ⟨rfl, rfl⟩
            cases hp : partB (s[k]'hk2)
            · go_wp2_with fail
              all_goals go_ret
              all_goals refine ⟨?_, HB.out⟩
              all_goals rw [HRES.out, all_not s.data.toList k (by have := HLEN.out; omega) (by rw [HGET.out k hk2]; exact hp)]
              all_goals rfl
            · go_wp2_with fail
              go_roundw
              case rel =>
                refine ⟨k + 1, by go_num, by omega, ?_, HB.out⟩
                show ∀ j (hj : j < s.data.toList.length), j < k + 1 → partB s.data.toList[j] = true
                intro j hj hjk
                by_cases hjk2 : j = k
                · subst hjk2
                  rw [HGET.out j hk2]
                  exact hp
                · exact hall.out j hj (by omega)
              case measure => simp [intOf]; omega
          · have hk3 : ¬ (k : Int) < s.size := by omega
            have hke : k = s.size := by omega
            go_wp2_with fail
            all_goals go_ret
            all_goals refine ⟨?_, HB.out⟩
            all_goals rw [HRES.out, all_of s.data.toList (fun j hj => hall.out j hj (by have := HLEN.out; omega))]
            all_goals rfl
      · have hkn2 : 0 < keyNo (upAll s) := by have := keyNo_nonneg (upAll s); omega
        have hres : r = false := by rw [← hr.out]; unfold plainB; simp [hkn]
        subst hres
        clear hg0 hlen
        go_enter Tryz.func55, Tryz.ntmps55
        go_wp2_with fail
        refine (nameOkI s w).mono ?_
        rintro e w1 ⟨rfl, rfl⟩
        rw [hok]
        go_wp2_with fail
        refine (isDigitC _ w).mono ?_
        rintro e w1 ⟨rfl, rfl⟩
        rw [hd]
        go_wp2_with fail
        refine (implKeyOf s m w hs hm).mono ?_
        rintro e w1 ⟨rfl, hb1⟩
        have H1 := hide hb1
        clear hb1
        generalize keyNo (upAll s) = kn at hkn hkn2 ⊢
        go_wp2_with fail
        all_goals go_ret
        all_goals exact ⟨rfl, H1.out⟩
    · have hres : r = false := by rw [← hr.out]; unfold plainB; rw [hg0, hd]; simp
      subst hres
      clear hg0 hlen
      go_enter Tryz.func55, Tryz.ntmps55
      go_wp2_with fail
      refine (nameOkI s w).mono ?_
      rintro e w1 ⟨rfl, rfl⟩
      rw [hok]
      go_wp2_with fail
      refine (isDigitC _ w).mono ?_
      rintro e w1 ⟨rfl, rfl⟩
      rw [hd]
      go_wp2_with fail
      all_goals go_ret
      all_goals exact ⟨rfl, by go_grown⟩
end Go.Proofs.YtfnjcgakcpadiaaGreatDoor
