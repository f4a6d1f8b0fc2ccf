/-
  Quoted texts, read: in the program and in the reference.
-/
import Derived.Test.YtfnjcgakcpadiaaGreatDoorGLexP
import Derived.Test.YtfnjcgakcpadiaaGreatDoorGQuo
namespace Go.Proofs.YtfnjcgakcpadiaaGreatDoor
open Go.RowKit

/-- What stands in quotes, and where it ends. -/
def qT (r : Option (List UInt8 × Nat)) : ByteArray := match r with | none => ⟨#[]⟩ | some x => ⟨x.1.toArray⟩
def qE (a : Nat) (d : Int) (r : Option (List UInt8 × Nat)) : Int := match r with | none => d | some x => (a : Int) + x.2

/-- The same behind what has been read. -/
def qPre (pre : List UInt8) (k : Nat) (r : Option (List UInt8 × Nat)) : Option (List UInt8 × Nat) := r.map fun x => (pre ++ x.1, k + x.2)
theorem qPre_zero (r : Option (List UInt8 × Nat)) : qPre [] 0 r = r := by unfold qPre; cases r <;> simp

theorem q_other (s : ByteArray) (q : UInt8) (a i : Nat) (pre : List UInt8) (ha : a ≤ i) (hi : i < s.size) (h : s[i] ≠ q) :
    qPre pre (i - a) (quotR q (s.data.toList.drop i)) = qPre (pre ++ [s[i]]) (i + 1 - a) (quotR q (s.data.toList.drop (i + 1))) := by
  have hl := list_size s
  have hg := list_get s i hi (by omega)
  rw [List.drop_eq_getElem_cons (by omega), hg, quotR_other q _ _ h]
  unfold qPre
  cases quotR q (s.data.toList.drop (i + 1)) with
  | none => rfl
  | some x => simp; omega
theorem q_two (s : ByteArray) (q : UInt8) (a i : Nat) (pre : List UInt8) (ha : a ≤ i) (hi : i + 1 < s.size) (h : s[i] = q) (h' : s[i + 1] = q) :
    qPre pre (i - a) (quotR q (s.data.toList.drop i)) = qPre (pre ++ [q]) (i + 2 - a) (quotR q (s.data.toList.drop (i + 2))) := by
  have hl := list_size s
  have hg := list_get s i (by omega) (by omega)
  have hg' := list_get s (i + 1) hi (by omega)
  rw [List.drop_eq_getElem_cons (show i < _ by omega), hg, h, List.drop_eq_getElem_cons (show i + 1 < _ by omega), hg', h', quotR_two]
  unfold qPre
  cases quotR q (s.data.toList.drop (i + 1 + 1)) with
  | none => rfl
  | some x => simp; omega
theorem q_end (s : ByteArray) (q : UInt8) (a i : Nat) (pre : List UInt8) (ha : a ≤ i) (hi : i < s.size) (h : s[i] = q) (h' : ∀ h : i + 1 < s.size, s[i + 1] ≠ q) :
    qPre pre (i - a) (quotR q (s.data.toList.drop i)) = some (pre, i + 1 - a) := by
  have hl := list_size s
  have hg := list_get s i hi (by omega)
  rw [List.drop_eq_getElem_cons (by omega), hg, h, quotR_end]
  · unfold qPre; simp; omega
  · intro h0
    simp at h0
    have := h' (by omega)
    rw [List.getElem_drop]
    simp only [Nat.add_zero]
    rw [list_get s (i + 1) (by omega)]
    exact this
theorem q_none (s : ByteArray) (q : UInt8) (k i : Nat) (pre : List UInt8) (hi : s.size ≤ i) : qPre pre k (quotR q (s.data.toList.drop i)) = none := by
  rw [List.drop_eq_nil_of_le (by rw [list_size]; exact hi)]
  rfl
theorem u8_ne {a b : UInt8} (h : a ≠ b) : ((a.toNat : Int) == (b.toNat : Int)) = false := by
  simp only [beq_eq_false_iff_ne, ne_eq]
  exact fun e => h (UInt8.toNat_inj.mp (by omega))
theorem u8_eq {a b : UInt8} (h : a = b) : ((a.toNat : Int) == (b.toNat : Int)) = true := by rw [h]; simp
theorem bne_t {a b : Int} (h : (a == b) = true) : (a != b) = false := by unfold bne; rw [h]; rfl
theorem bne_f {a b : Int} (h : (a == b) = false) : (a != b) = true := by unfold bne; rw [h]; rfl

theorem retQ3 {pre : List UInt8} {a i : Nat} (h : a + 1 ≤ i + 1) : Ending.returned (.tuple #[.string ⟨pre.toArray⟩, .int .i64 ((i : Int) + 1), .bool true]) = Ending.returned (.tuple #[.string (qT (some (pre, i + 1 - (a + 1)))), .int .i64 (qE (a + 1) 0 (some (pre, i + 1 - (a + 1)))), .bool (some (pre, i + 1 - (a + 1))).isSome]) := by
  have e : qE (a + 1) 0 (some (pre, i + 1 - (a + 1))) = (i : Int) + 1 := by unfold qE; simp; omega
  rw [e]
  rfl
theorem retQ2 {pre : List UInt8} {a i : Nat} (h : a + 1 ≤ i + 1) : Ending.returned (.tuple #[.string ⟨pre.toArray⟩, .int .i64 ((i : Int) + 1)]) = Ending.returned (.tuple #[.string (qT (some (pre, i + 1 - (a + 1)))), .int .i64 (qE (a + 1) (-1) (some (pre, i + 1 - (a + 1))))]) := by
  have e : qE (a + 1) (-1) (some (pre, i + 1 - (a + 1))) = (i : Int) + 1 := by unfold qE; simp; omega
  rw [e]
  rfl

set_option maxRecDepth 100000 in
set_option maxHeartbeats 3200000 in
theorem implReadQ (s : ByteArray) (a : Nat) (ha : a < s.size) (hs : s.size ≤ 1048576) (q : UInt8) (hq : s[a] = q) (w : World) (r : Option (List UInt8 × Nat)) (hr : Hid (quotR q (s.data.toList.drop (a + 1)) = r)) :
    Calls Tryz.prog 65 #[.string s, .int .i64 (a : Int)] w fun e w' => e = .returned (.tuple #[.string (qT r), .int .i64 (qE (a + 1) 0 r), .bool r.isSome]) ∧ Below w.heap.size w w' := by
  obtain ⟨i0, hi, hz0, hz1, hz2⟩ := info_parts Tryz.infoU8
  have ha2 : (a : Int) < s.size := by omega
  go_enter Tryz.func65, Tryz.ntmps65
  go_wp2_with fail
  clear hq
  go_loopw [8, 9] (fun v x wr => ∃ (i : Nat) (pre : List UInt8), x = .int .i64 (i : Int) ∧ a + 1 ≤ i ∧ i ≤ s.size ∧ Hid (qPre pre (i - (a + 1)) (quotR q (s.data.toList.drop i)) = r) ∧ pre.length ≤ i ∧ wr.ownsRow w.heap.size 5 1 v pre.length (pre.map fun c => .int .u8 (c.toNat : Int)) ∧ v ≠ .slice none 0 0 ∧ Below w.heap.size w wr) (fun _ x _ => s.size - (intOf x).toNat)
  case atStart => exact ⟨a + 1, [], by go_num, by omega, by omega, by show _ = _; rw [Nat.sub_self, qPre_zero]; exact hr.out, by simp, World.ownsRow_made _ _ _ (by simp) (by decide) (by simp), by simp, by go_grown⟩
  case round =>
    obtain ⟨i, pre, rfl, hi1, hi2, HQ, hpl, hown, hnn, hb⟩ := hrel
    have hsz := hb.size
    by_cases hlt : i < s.size
    · have hlt2 : (i : Int) < s.size := by omega
      by_cases hc : s[i] = q
      · have g1 := u8_eq hc
        have g2 := bne_t g1
        by_cases hlt3 : i + 1 < s.size
        · have hlt4 : (i : Int) + 1 < s.size := by omega
          have g3 : ((i : Int) + 1 == (s.size : Int)) = false := by simp; omega
          by_cases hc2 : s[i + 1] = q
          · have g5 := u8_eq hc2
            have g6 := bne_t g5
            have HK := hide (q_two s q (a + 1) i pre hi1 hlt3 hc hc2)
            have hc3 : (s[i + 1].toNat : Int) = (q.toNat : Int) := by rw [hc2]
            have HC3 := hide hc3
            clear hc hc2 hc3
            go_wp2_with (first | (at_builtin; refine wpList_append_own _ rfl _ _ 22 rfl w.heap.size 5 i0 (.int .u8 0) 1 1 Tryz.underlying22 hi hz0 hz1 hz2 rfl (by decide) _ _ _ rfl (hown.alloc _) ⟨wr.heap.size, 0, none⟩ 1 1 [.int .u8 (s[i + 1].toNat : Int)] rfl rfl ?x1 ?x2 ?x3 ?x4 ?x5 ?_))
            case x1 =>
              intro j u hj
              match j, hj with
              | 0, hj => simp at hj; subst hj; simp [Addr.add, go_sem]
            case x2 => intro u hu; simp at hu; subst hu; rfl
            case x3 => unfold maxLen; omega
            case x4 => omega
            case x5 => simp; omega
            · intro v1 w1 hown1 hgrow1 hnil1
              have hb1 := Below.grown (hb.alloc (B := w.heap.size) hb.size _) hgrow1 (by simp; omega) (fun k hk => (hown.lt k hk).1)
              have HB := hide (And.intro hb1 (And.intro hown1 hnil1))
              clear hown hgrow1 hown1 hb hb1 hnil1
              go_wp2
              go_roundw
              case rel =>
                refine ⟨i + 2, pre ++ [q], by go_num, by omega, by omega, by show _ = _; rw [← HK.out]; exact HQ.out, by simp; omega, by simpa [HC3.out] using HB.out.2.1, ?_, HB.out.1⟩
                have h1 := HB.out.2.2
                simp_all
              case measure => simp [intOf]; omega
          · have g5 := u8_ne hc2
            have g6 := bne_f g5
            have HK := hide (q_end s q (a + 1) i pre hi1 hlt hc (fun _ => hc2))
            clear hc hc2
            obtain ⟨g, cap, hv, hg1, hg2, hg3⟩ := owns_form hown hnn
            rw [hv] at hown
            subst hv
            have hat : BytesAt wr g pre := BytesAt.of_owns (e := 5) (n := pre.length) (cap := cap) hown
            have hcs := hat.string (P := Tryz.prog) 22 5 9 Tryz.underlying22 Tryz.underlying5 Tryz.underlying9 pre.length cap rfl
            have HB := hide hb
            clear hown hat hb
            go_wp2_with fail
            all_goals go_ret3
            all_goals refine ⟨?_, HB.out⟩
            all_goals rw [← HQ.out, HK.out]
            all_goals exact retQ3 (by omega)
        · have hlt4 : ¬ (i : Int) + 1 < s.size := by omega
          have g3 : ((i : Int) + 1 == (s.size : Int)) = true := by simp; omega
          have HK := hide (q_end s q (a + 1) i pre hi1 hlt hc (fun h => absurd h hlt3))
          clear hc
          obtain ⟨g, cap, hv, hg1, hg2, hg3⟩ := owns_form hown hnn
          rw [hv] at hown
          subst hv
          have hat : BytesAt wr g pre := BytesAt.of_owns (e := 5) (n := pre.length) (cap := cap) hown
          have hcs := hat.string (P := Tryz.prog) 22 5 9 Tryz.underlying22 Tryz.underlying5 Tryz.underlying9 pre.length cap rfl
          have HB := hide hb
          clear hown hat hb
          go_wp2_with fail
          all_goals go_ret3
          all_goals refine ⟨?_, HB.out⟩
          all_goals rw [← HQ.out, HK.out]
          all_goals exact retQ3 (by omega)
      · have g1 := u8_ne hc
        have g2 := bne_f g1
        have HK := hide (q_other s q (a + 1) i pre hi1 hlt hc)
        clear hc
        go_wp2_with (first | (at_builtin; refine wpList_append_own _ rfl _ _ 22 rfl w.heap.size 5 i0 (.int .u8 0) 1 1 Tryz.underlying22 hi hz0 hz1 hz2 rfl (by decide) _ _ _ rfl (hown.alloc _) ⟨wr.heap.size, 0, none⟩ 1 1 [.int .u8 (s[i].toNat : Int)] rfl rfl ?y1 ?y2 ?y3 ?y4 ?y5 ?_))
        case y1 =>
          intro j u hj
          match j, hj with
          | 0, hj => simp at hj; subst hj; simp [Addr.add, go_sem]
        case y2 => intro u hu; simp at hu; subst hu; rfl
        case y3 => unfold maxLen; omega
        case y4 => omega
        case y5 => simp; omega
        · intro v1 w1 hown1 hgrow1 hnil1
          have hb1 := Below.grown (hb.alloc (B := w.heap.size) hb.size _) hgrow1 (by simp; omega) (fun k hk => (hown.lt k hk).1)
          have HB := hide (And.intro hb1 (And.intro hown1 hnil1))
          clear hown hgrow1 hown1 hb hb1 hnil1
          go_wp2
          go_roundw
          case rel =>
            refine ⟨i + 1, pre ++ [s[i]], by go_num, by omega, by omega, by show _ = _; rw [← HK.out]; exact HQ.out, by simp; omega, by simpa using HB.out.2.1, ?_, HB.out.1⟩
            have h1 := HB.out.2.2
            simp_all
          case measure => simp [intOf]; omega
    · have hlt2 : ¬ (i : Int) < s.size := by omega
      have HK := hide (q_none s q (i - (a + 1)) i pre (by omega))
      have HB := hide hb
      clear hown hb
      go_wp2_with fail
      all_goals go_ret3
      all_goals refine ⟨?_, HB.out⟩
      all_goals rw [← HQ.out, HK.out]
      all_goals rfl

set_option maxRecDepth 100000 in
set_option maxHeartbeats 3200000 in
theorem specReadQ (s : ByteArray) (a : Nat) (ha : a < s.size) (hs : s.size ≤ 1048576) (q : UInt8) (hq : s[a] = q) (w : World) (r : Option (List UInt8 × Nat)) (hr : Hid (quotR q (s.data.toList.drop (a + 1)) = r)) :
    Calls Tryz.prog 79 #[.string s, .int .i64 (a : Int)] w fun e w' => e = .returned (.tuple #[.string (qT r), .int .i64 (qE (a + 1) (-1) r)]) ∧ Below w.heap.size w w' := by
  obtain ⟨i0, hi, hz0, hz1, hz2⟩ := info_parts Tryz.infoU8
  have ha2 : (a : Int) < s.size := by omega
  go_enter Tryz.func79, Tryz.ntmps79
  go_wp2_with fail
  clear hq
  go_loopw [7, 8] (fun v x wr => ∃ (i : Nat) (pre : List UInt8), x = .int .i64 (i : Int) ∧ a + 1 ≤ i ∧ i ≤ s.size ∧ Hid (qPre pre (i - (a + 1)) (quotR q (s.data.toList.drop i)) = r) ∧ pre.length ≤ i ∧ wr.ownsRow w.heap.size 5 1 v pre.length (pre.map fun c => .int .u8 (c.toNat : Int)) ∧ v ≠ .slice none 0 0 ∧ Below w.heap.size w wr) (fun _ x _ => s.size - (intOf x).toNat)
  case atStart => exact ⟨a + 1, [], by go_num, by omega, by omega, by show _ = _; rw [Nat.sub_self, qPre_zero]; exact hr.out, by simp, World.ownsRow_made _ _ _ (by simp) (by decide) (by simp), by simp, by go_grown⟩
  case round =>
    obtain ⟨i, pre, rfl, hi1, hi2, HQ, hpl, hown, hnn, hb⟩ := hrel
    have hsz := hb.size
    by_cases hlt : i < s.size
    · have hlt2 : (i : Int) < s.size := by omega
      by_cases hc : s[i] = q
      · have g1 := u8_eq hc
        have g2 := bne_t g1
        by_cases hlt3 : i + 1 < s.size
        · have hlt4 : (i : Int) + 1 < s.size := by omega
          have g3 : ((i : Int) + 1 == (s.size : Int)) = false := by simp; omega
          by_cases hc2 : s[i + 1] = q
          · have g5 := u8_eq hc2
            have g6 := bne_t g5
            have HK := hide (q_two s q (a + 1) i pre hi1 hlt3 hc hc2)
            have hc3 : (s[i + 1].toNat : Int) = (q.toNat : Int) := by rw [hc2]
            have HC3 := hide hc3
            clear hc hc2 hc3
            go_wp2_with (first | (at_builtin; refine wpList_append_own _ rfl _ _ 22 rfl w.heap.size 5 i0 (.int .u8 0) 1 1 Tryz.underlying22 hi hz0 hz1 hz2 rfl (by decide) _ _ _ rfl (hown.alloc _) ⟨wr.heap.size, 0, none⟩ 1 1 [.int .u8 (q.toNat : Int)] rfl rfl ?x1 ?x2 ?x3 ?x4 ?x5 ?_))
            case x1 =>
              intro j u hj
              match j, hj with
              | 0, hj => simp at hj; subst hj; simp [Addr.add, go_sem]
            case x2 => intro u hu; simp at hu; subst hu; rfl
            case x3 => unfold maxLen; omega
            case x4 => omega
            case x5 => simp; omega
            · intro v1 w1 hown1 hgrow1 hnil1
              have hb1 := Below.grown (hb.alloc (B := w.heap.size) hb.size _) hgrow1 (by simp; omega) (fun k hk => (hown.lt k hk).1)
              have HB := hide (And.intro hb1 (And.intro hown1 hnil1))
              clear hown hgrow1 hown1 hb hb1 hnil1
              go_wp2
              go_roundw
              case rel =>
                refine ⟨i + 2, pre ++ [q], by go_num, by omega, by omega, by show _ = _; rw [← HK.out]; exact HQ.out, by simp; omega, by simpa using HB.out.2.1, ?_, HB.out.1⟩
                have h1 := HB.out.2.2
                simp_all
              case measure => simp [intOf]; omega
          · have g5 := u8_ne hc2
            have g6 := bne_f g5
            have HK := hide (q_end s q (a + 1) i pre hi1 hlt hc (fun _ => hc2))
            clear hc hc2
            obtain ⟨g, cap, hv, hg1, hg2, hg3⟩ := owns_form hown hnn
            rw [hv] at hown
            subst hv
            have hat : BytesAt wr g pre := BytesAt.of_owns (e := 5) (n := pre.length) (cap := cap) hown
            have hcs := hat.string (P := Tryz.prog) 22 5 9 Tryz.underlying22 Tryz.underlying5 Tryz.underlying9 pre.length cap rfl
            have HB := hide hb
            clear hown hat hb
            go_wp2_with fail
            all_goals go_ret2
            all_goals refine ⟨?_, HB.out⟩
            all_goals rw [← HQ.out, HK.out]
            all_goals exact retQ2 (by omega)
        · have hlt4 : ¬ (i : Int) + 1 < s.size := by omega
          have g3 : ((i : Int) + 1 == (s.size : Int)) = true := by simp; omega
          have HK := hide (q_end s q (a + 1) i pre hi1 hlt hc (fun h => absurd h hlt3))
          clear hc
          obtain ⟨g, cap, hv, hg1, hg2, hg3⟩ := owns_form hown hnn
          rw [hv] at hown
          subst hv
          have hat : BytesAt wr g pre := BytesAt.of_owns (e := 5) (n := pre.length) (cap := cap) hown
          have hcs := hat.string (P := Tryz.prog) 22 5 9 Tryz.underlying22 Tryz.underlying5 Tryz.underlying9 pre.length cap rfl
          have HB := hide hb
          clear hown hat hb
          go_wp2_with fail
          all_goals go_ret2
          all_goals refine ⟨?_, HB.out⟩
          all_goals rw [← HQ.out, HK.out]
          all_goals exact retQ2 (by omega)
      · have g1 := u8_ne hc
        have g2 := bne_f g1
        have HK := hide (q_other s q (a + 1) i pre hi1 hlt hc)
        clear hc
        go_wp2_with (first | (at_builtin; refine wpList_append_own _ rfl _ _ 22 rfl w.heap.size 5 i0 (.int .u8 0) 1 1 Tryz.underlying22 hi hz0 hz1 hz2 rfl (by decide) _ _ _ rfl (hown.alloc _) ⟨wr.heap.size, 0, none⟩ 1 1 [.int .u8 (s[i].toNat : Int)] rfl rfl ?y1 ?y2 ?y3 ?y4 ?y5 ?_))
        case y1 =>
          intro j u hj
          match j, hj with
          | 0, hj => simp at hj; subst hj; simp [Addr.add, go_sem]
        case y2 => intro u hu; simp at hu; subst hu; rfl
        case y3 => unfold maxLen; omega
        case y4 => omega
        case y5 => simp; omega
        · intro v1 w1 hown1 hgrow1 hnil1
          have hb1 := Below.grown (hb.alloc (B := w.heap.size) hb.size _) hgrow1 (by simp; omega) (fun k hk => (hown.lt k hk).1)
          have HB := hide (And.intro hb1 (And.intro hown1 hnil1))
          clear hown hgrow1 hown1 hb hb1 hnil1
          go_wp2
          go_roundw
          case rel =>
            refine ⟨i + 1, pre ++ [s[i]], by go_num, by omega, by omega, by show _ = _; rw [← HK.out]; exact HQ.out, by simp; omega, by simpa using HB.out.2.1, ?_, HB.out.1⟩
            have h1 := HB.out.2.2
            simp_all
          case measure => simp [intOf]; omega
    · have hlt2 : ¬ (i : Int) < s.size := by omega
      have HK := hide (q_none s q (i - (a + 1)) i pre (by omega))
      have HB := hide hb
      clear hown hb
      go_wp2_with fail
      all_goals go_ret2
      all_goals refine ⟨?_, HB.out⟩
      all_goals rw [← HQ.out, HK.out]
      all_goals rfl
end Go.Proofs.YtfnjcgakcpadiaaGreatDoor
