/-
  l3Pass: what the reference passes over.
-/
import Derived.Test.YtfnjcgakcpadiaaGreatDoorGLexP
import Derived.Test.YtfnjcgakcpadiaaGreatDoorTokC
namespace Go.Proofs.YtfnjcgakcpadiaaGreatDoor
open Go.RowKit

theorem l1MinC (x y : Int) (w : World) : Calls Tryz.prog 75 #[.int .i64 x, .int .i64 y] w fun e w' => e = .returned (.int .i64 (if x < y then x else y)) ∧ w = w' := by
  by_cases h : x < y
  · rw [if_pos h]
    go_enter Tryz.func75, Tryz.ntmps75
    go_wp2
    go_ret
    exact ⟨rfl, rfl⟩
  · rw [if_neg h]
    go_enter Tryz.func75, Tryz.ntmps75
    go_wp2
    go_ret
    exact ⟨rfl, rfl⟩

/-- Two bytes, or what is left of them. -/
theorem win_eq (s : ByteArray) (b e : Nat) (he : e = b + 2 ∧ b + 2 ≤ s.size ∨ e = s.size ∧ s.size ≤ b + 1) (x y : UInt8) : ((s.extract b e).toList == [x, y]) = Lib.hasPrefix (s.data.toList.drop b) [x, y] := by
  rw [ByteArray.toList_eq, Lib.extract_data]
  have hl := list_size s
  generalize s.data.toList = l at hl ⊢
  rcases he with ⟨rfl, h⟩ | ⟨rfl, h⟩
  · rw [← Lib.hasPrefix_of_take]
    have e1 : b + 2 - b = 2 := by omega
    have e2 : decide ([x, y].length ≤ (l.drop b).length) = true := by simp; omega
    rw [e1, e2, Bool.true_and]
    rfl
  · have hf : Lib.hasPrefix (l.drop b) [x, y] = false := pre2_no l b x y (by rintro ⟨h3, _⟩; omega)
    rw [hf]
    have h4 : ((l.drop b).take (s.size - b)).length ≤ 1 := by simp; omega
    generalize (l.drop b).take (s.size - b) = q at h4
    match q, h4 with
    | [], _ => rfl
    | [z], _ => simp

theorem close_none (l : List UInt8) (b : Nat) (h : ∀ i, b ≤ i → i < l.length → Lib.hasPrefix (l.drop i) [42, 47] = false) : Lib.index (l.drop b) [42, 47] < 0 := by
  rw [Lib.index_none (s := l.drop b) (sub := [42, 47])]
  · omega
  · intro j hj
    simp at hj
    show Lib.hasPrefix ((l.drop b).drop j) [42, 47] = false
    rw [List.drop_drop]
    by_cases hlt : b + j < l.length
    · exact h (b + j) (by omega) hlt
    · rw [List.drop_eq_nil_of_le (by omega)]
      rfl
theorem close_at (l : List UInt8) (b j : Nat) (hj : b ≤ j) (hl : j < l.length) (h : ∀ i, b ≤ i → i < j → Lib.hasPrefix (l.drop i) [42, 47] = false) (hp : Lib.hasPrefix (l.drop j) [42, 47] = true) :
    Lib.index (l.drop b) [42, 47] = ((j - b : Nat) : Int) := by
  refine Lib.index_first (by simp; omega) ?_ ?_
  · show Lib.hasPrefix ((l.drop b).drop (j - b)) [42, 47] = true
    rw [List.drop_drop, show b + (j - b) = j by omega]
    exact hp
  · intro i hi
    show Lib.hasPrefix ((l.drop b).drop i) [42, 47] = false
    rw [List.drop_drop]
    exact h (b + i) (by omega) (by omega)

/-- What l3Pass says. -/
def passR (r : Nat × Bool) : Int := if r.2 then (r.1 : Int) else -(r.1 : Int) - 1

theorem ws_tests (c : UInt8) (h : wsB c = true) : (c.toNat : Int) = 32 ∨ (c.toNat : Int) = 9 ∨ (c.toNat : Int) = 10 ∨ (c.toNat : Int) = 13 := by
  have h2 : c = 32 ∨ c = 9 ∨ c = 10 ∨ c = 13 := by simpa [wsB, or_assoc] using h
  rcases h2 with rfl | rfl | rfl | rfl <;> simp
theorem ws_none (c : UInt8) (h : wsB c = false) : ((c.toNat : Int) == 32) = false ∧ ((c.toNat : Int) == 9) = false ∧ ((c.toNat : Int) == 10) = false ∧ ((c.toNat : Int) == 13) = false := by
  have h2 : ¬ (c = 32 ∨ c = 9 ∨ c = 10 ∨ c = 13) := by
    intro h3
    have : wsB c = true := by simpa [wsB, or_assoc] using h3
    rw [this] at h
    cases h
  have f : ∀ d : UInt8, c ≠ d → ((c.toNat : Int) == (d.toNat : Int)) = false := fun d hd => by
    simp only [beq_eq_false_iff_ne, ne_eq]
    exact fun e => hd (UInt8.toNat_inj.mp (by omega))
  exact ⟨f 32 (fun e => h2 (.inl e)), f 9 (fun e => h2 (.inr (.inl e))), f 10 (fun e => h2 (.inr (.inr (.inl e)))), f 13 (fun e => h2 (.inr (.inr (.inr e))))⟩
/-- The end of a window of two bytes. -/
theorem win_end (s : ByteArray) (b : Nat) (hb : b < s.size) : ∃ e : Nat, (e = b + 2 ∧ b + 2 ≤ s.size ∨ e = s.size ∧ s.size ≤ b + 1) ∧ b ≤ e ∧ e ≤ s.size ∧ ∀ w, Calls Tryz.prog 75 #[.int .i64 (s.size : Int), .int .i64 ((b : Int) + 2)] w fun x w' => x = .returned (.int .i64 (e : Int)) ∧ w = w' := by
  by_cases h : b + 2 ≤ s.size
  · refine ⟨b + 2, .inl ⟨rfl, h⟩, by omega, h, fun w => (l1MinC _ _ w).mono fun x w' ⟨hx, hw⟩ => ⟨?_, hw⟩⟩
    rw [hx]
    by_cases h2 : (s.size : Int) < (b : Int) + 2
    · rw [if_pos h2]; exact ret_int (by omega)
    · rw [if_neg h2]; rfl
  · refine ⟨s.size, .inr ⟨rfl, by omega⟩, by omega, Nat.le_refl _, fun w => (l1MinC _ _ w).mono fun x w' ⟨hx, hw⟩ => ⟨?_, hw⟩⟩
    rw [hx, if_pos (by omega)]

set_option maxRecDepth 100000 in
set_option maxHeartbeats 3200000 in
theorem specPass (s : ByteArray) (a : Nat) (ha : a ≤ s.size) (hs : s.size ≤ 1048576) (w : World) :
    Calls Tryz.prog 47 #[.string s, .int .i64 (a : Int)] w fun e w' => e = .returned (.int .i64 (passR (skipTo s.data.toList a))) ∧ w = w' := by
  obtain ⟨r, hr⟩ : ∃ r, Hid (skipTo s.data.toList a = r) := ⟨_, rfl⟩
  rw [hr.out]
  go_enter Tryz.func47, Tryz.ntmps47
  go_wp2_with fail
  go_loop [1] (fun x => ∃ b : Nat, x = .int .i64 (b : Int) ∧ b ≤ s.size ∧ Hid (skipTo s.data.toList b = r)) (fun x => s.size - (intOf x).toNat)
  case atStart => exact ⟨a, rfl, ha, hr⟩
  case round =>
    obtain ⟨b, rfl, hb, HS⟩ := hrel
    by_cases hlt : b < s.size
    · have hlt2 : (b : Int) < s.size := by omega
      have hlen := list_size s
      obtain ⟨e, hwin, hbe, hes, hmin⟩ := win_end s b hlt
      have h45 := win_eq s b e hwin 45 45
      have h47 := win_eq s b e hwin 47 42
      clear hwin
      have hge := list_get s b hlt (by omega)
      cases hw : wsB s[b]
      · obtain ⟨w1, w2, w3, w4⟩ := ws_none _ hw
        cases h1 : Lib.hasPrefix (s.data.toList.drop b) [45, 45]
        · rw [h1] at h45
          cases h2 : Lib.hasPrefix (s.data.toList.drop b) [47, 42]
          · rw [h2] at h47
            have HK := hide (skip_stop s.data.toList b (by omega) (by rw [hge]; exact hw) h1 h2)
            clear hw h1 h2 hlen hge
            go_wp2_with fail
            refine (hmin w).mono ?_
            rintro x w5 ⟨rfl, rfl⟩
            go_wp2_with fail
            go_ret
            refine ⟨?_, rfl⟩
            rw [← HS.out, HK.out]
            rfl
          · rw [h2] at h47
            have hpre := hide (And.intro h1 h2)
            obtain ⟨hb1, c0, c1⟩ := (pre2_iff _ b 47 42).1 h2
            have HC := hide (And.intro c0 c1)
            have HLEN := hide hlen
            have hb2 : b + 2 ≤ s.size := by omega
            clear hw h1 h2 c0 c1 hlen hge
            go_wp2_with fail
            refine (hmin w).mono ?_
            rintro x w5 ⟨rfl, rfl⟩
            go_wp2_with fail
            go_loop [6] (fun x => ∃ j : Nat, x = .int .i64 (j : Int) ∧ b + 2 ≤ j ∧ j ≤ s.size ∧ Hid (∀ i, b + 2 ≤ i → i < j → Lib.hasPrefix (s.data.toList.drop i) [42, 47] = false)) (fun x => s.size - (intOf x).toNat)
            case atStart => exact ⟨b + 2, by go_num, by omega, by omega, fun i h3 h4 => by omega⟩
            case round =>
              obtain ⟨j, rfl, hj1, hj2, HJ⟩ := hrel
              by_cases hjl : j < s.size
              · have hjl2 : (j : Int) < s.size := by omega
                obtain ⟨e', hwin', hbe', hes', hmin'⟩ := win_end s j hjl
                have hq := win_eq s j e' hwin' 42 47
                clear hwin' h45 h47 hmin
                cases h6 : Lib.hasPrefix (s.data.toList.drop j) [42, 47]
                · rw [h6] at hq
                  have H6 := hide h6
                  clear h6
                  go_wp2_with fail
                  refine (hmin' w).mono ?_
                  rintro x w5 ⟨rfl, rfl⟩
                  go_wp2_with fail
                  go_round
                  case rel =>
                    refine ⟨j + 1, by go_num, by omega, by omega, ?_⟩
                    show ∀ i, b + 2 ≤ i → i < j + 1 → _
                    intro i h7 h8
                    by_cases h9 : i = j
                    · rw [h9]; exact H6.out
                    · exact HJ.out i h7 (by omega)
                  case measure => simp [intOf]; omega
                · rw [h6] at hq
                  have hx := close_at s.data.toList (b + 2) j hj1 (by have := HLEN.out; omega) HJ.out h6
                  have hk := skip_comment s.data.toList b (j - (b + 2)) (by have := HLEN.out; omega) HC.out.1 HC.out.2 hx
                  rw [show b + (j - (b + 2) + 4) = j + 2 by omega] at hk
                  have HK := hide hk
                  have hj3 : j + 2 ≤ s.size := by
                    obtain ⟨h10, _⟩ := (pre2_iff _ j 42 47).1 h6
                    have := HLEN.out
                    omega
                  clear h6 hx hk
                  go_wp2_with fail
                  refine (hmin' w).mono ?_
                  rintro x w5 ⟨rfl, rfl⟩
                  go_wp2_with fail
                  go_round
                  case rel => exact ⟨j + 2, by go_num, by omega, by show _ = _; rw [← HK.out]; exact HS.out⟩
                  case measure => simp [intOf]; omega
              · have hjl2 : ¬ (j : Int) < s.size := by omega
                have hx := close_none s.data.toList (b + 2) (fun i h7 h8 => HJ.out i h7 (by have := HLEN.out; omega))
                have HK := hide (skip_open s.data.toList b (by have := HLEN.out; omega) HC.out.1 HC.out.2 hx)
                clear hx hmin h45 h47
                go_wp2_with fail
                go_ret
                refine ⟨?_, rfl⟩
                rw [← HS.out, HK.out]
                rfl
        · rw [h1] at h45
          obtain ⟨hb1, c0, c1⟩ := (pre2_iff _ b 45 45).1 h1
          have HC := hide (And.intro c0 c1)
          have HLEN := hide hlen
          have hc45 : Hid (s[b] = 45) := by show s[b] = 45; rw [← hge]; exact c0
          clear hw h1 c0 c1 hlen hge h47
          go_wp2_with fail
          refine (hmin w).mono ?_
          rintro x w5 ⟨rfl, rfl⟩
          go_wp2_with fail
          go_loop [1] (fun x => ∃ j : Nat, x = .int .i64 (j : Int) ∧ b ≤ j ∧ j ≤ s.size ∧ Hid (∀ i (h : i < s.data.toList.length), b ≤ i → i < j → s.data.toList[i] ≠ 10)) (fun x => s.size - (intOf x).toNat)
          case atStart => exact ⟨b, rfl, by omega, by omega, fun i h3 h4 h5 => by omega⟩
          case round =>
            obtain ⟨j, rfl, hj1, hj2, HJ⟩ := hrel
            clear h45 hmin
            by_cases hjl : j < s.size
            · have hjl2 : (j : Int) < s.size := by omega
              have hgj := list_get s j hjl (by have := HLEN.out; omega)
              by_cases h10 : s[j] = 10
              · have ht : ((s[j].toNat : Int) == 10) = true := by rw [h10]; rfl
                have ht2 : ((s[j].toNat : Int) != 10) = false := by unfold bne; rw [ht]; rfl
                have hjb : j ≠ b := by
                  rintro rfl
                  rw [hc45.out] at h10
                  cases h10
                have HK := hide (skip_line s.data.toList b j hb1 HC.out.1 HC.out.2 hj1 (by have := HLEN.out; omega) (fun i h h3 h4 => HJ.out i h h3 h4) (fun _ => by rw [hgj]; exact h10))
                clear h10 hgj
                go_wp2_with fail
                go_round
                case rel => exact ⟨j, by go_num, by omega, by show _ = _; rw [← HK.out]; exact HS.out⟩
                case measure => simp [intOf]; omega
              · have ht : ((s[j].toNat : Int) == 10) = false := by
                  simp only [beq_eq_false_iff_ne, ne_eq]
                  exact fun e => h10 (UInt8.toNat_inj.mp (by show _ = 10; omega))
                have ht2 : ((s[j].toNat : Int) != 10) = true := by unfold bne; rw [ht]; rfl
                have H10 : Hid (s.data.toList[j]'(by have := HLEN.out; omega) ≠ 10) := by show _ ≠ _; rw [hgj]; exact h10
                clear h10 hgj
                go_wp2_with fail
                go_round
                case rel =>
                  refine ⟨j + 1, by go_num, by omega, by omega, ?_⟩
                  show ∀ i (h : i < s.data.toList.length), b ≤ i → i < j + 1 → _
                  intro i h h3 h4
                  by_cases h9 : i = j
                  · subst h9; exact H10.out
                  · exact HJ.out i h h3 (by omega)
                case measure => simp [intOf]; omega
            · have hjl2 : ¬ (j : Int) < s.size := by omega
              obtain rfl : j = s.size := by omega
              have HK := hide (skip_line s.data.toList b s.size hb1 HC.out.1 HC.out.2 hj1 (by have := HLEN.out; omega) (fun i h h3 h4 => HJ.out i h h3 h4) (fun h => by have := HLEN.out; omega))
              go_wp2_with fail
              go_round
              case rel => exact ⟨s.size, by go_num, by omega, by show _ = _; rw [← HK.out]; exact HS.out⟩
              case measure => simp [intOf]; omega
      · have HK := hide (skip_ws s.data.toList b (by omega) (by rw [hge]; exact hw))
        have hws := ws_tests _ hw
        clear hw h45 h47 hlen hge
        have hx : (((s[b].toNat : Int) == 32) = true) ∨ (((s[b].toNat : Int) == 32) = false ∧ ((s[b].toNat : Int) == 9) = true) ∨ (((s[b].toNat : Int) == 32) = false ∧ ((s[b].toNat : Int) == 9) = false ∧ ((s[b].toNat : Int) == 10) = true) ∨ (((s[b].toNat : Int) == 32) = false ∧ ((s[b].toNat : Int) == 9) = false ∧ ((s[b].toNat : Int) == 10) = false ∧ ((s[b].toNat : Int) == 13) = true) := by
          generalize (s[b].toNat : Int) = c at hws
          rcases hws with rfl | rfl | rfl | rfl <;> decide
        clear hws
        rcases hx with w1 | ⟨w1, w2⟩ | ⟨w1, w2, w3⟩ | ⟨w1, w2, w3, w4⟩
        all_goals
          go_wp2_with fail
          refine (hmin w).mono ?_
          rintro x w5 ⟨rfl, rfl⟩
          go_wp2_with fail
          go_round
          case rel => exact ⟨b + 1, by go_num, by omega, by show _ = _; rw [← HK.out]; exact HS.out⟩
          case measure => simp [intOf]; omega
    · obtain rfl : b = s.size := by omega
      have hk := skip_end s.data.toList s.size (by rw [list_size]; omega)
      have HK := hide hk
      clear hk
      go_wp2_with fail
      go_ret
      refine ⟨?_, rfl⟩
      rw [← HS.out, HK.out]
      rfl
end Go.Proofs.YtfnjcgakcpadiaaGreatDoor
