/-
  szTokenS, szValueS: what they take off the budget; what is left over says that all rows are short.
-/
import Derived.Test.YtfikgiekigbaoaaRows
import Derived.WalkLawsBesides
import Derived.Deep.Light
import Derived.Test.YtfikgiekigbaoaaM1
import Derived.Test.YtfikgiekigbaoaaFlat
import Derived.Test.YtfikgiekigbaoaaQ
namespace Go.Proofs.Ytfikgiekigbaoaa
open Go.RowKit

/-- What is left of a budget, below 0 if there was too little; G where there was enough. -/
structure SzPost (w : World) (left : Int) (G : Prop) (e : Ending) (w' : World) : Prop where
  ex : ∃ r : Int, e = .returned (.int .i64 r) ∧ (r < 0 ∨ 0 ≤ r ∧ r ≤ left ∧ G)
  below : Below w.heap.size w w'
theorem SzPost.no {w w' : World} {left : Int} {G : Prop} (h : Below w.heap.size w w') : SzPost w left G (.returned (.int .i64 (-1))) w' := ⟨⟨-1, rfl, .inl (by omega)⟩, h⟩
theorem SzPost.yes {w w' : World} {left r : Int} {G : Prop} (h : Below w.heap.size w w') (h0 : 0 ≤ r) (h1 : r ≤ left) (hG : G) : SzPost w left G (.returned (.int .i64 r)) w' := ⟨⟨r, rfl, .inr ⟨h0, h1, hG⟩⟩, h⟩

theorem szValueP (k n : Int) (s : ByteArray) (left : Int) (w : World) (h0 : 0 ≤ left) (h1 : left ≤ 1048576) (ws : s.size ≤ maxLen) :
    Calls Try.prog 31 #[.agg #[.int .i64 k, .int .i64 n, .string s], .int .i64 left] w (SzPost w left (s.size ≤ 1048576)) := by
  unfold maxLen at ws
  by_cases h : left - (s.size : Int) < 0
  · go_enter Try.func31, Try.ntmps31
    go_wp2
    all_goals go_ret
    all_goals exact SzPost.no (by go_grown)
  · go_enter Try.func31, Try.ntmps31
    go_wp2
    all_goals go_ret
    all_goals exact SzPost.yes (by go_grown) (by omega) (by omega) (by omega)

/-- The contract of szToken. -/
def SzTk (_n : Nat) : Prop := ∀ (w0 w : World) (_lo : Nat) (x : TokF) (left : Int), Below w0.heap.size w0 w → x.text.size ≤ maxLen → 0 ≤ left → left ≤ 1048576 →
  Calls Try.prog 26 #[.agg #[.int .i64 x.kind, .string x.text, .int .i64 x.pos], .int .i64 left] w (SzPost w left (x.text.size ≤ 1048576))

/-- The contract of szValue. -/
def SzVa (_n : Nat) : Prop := ∀ (w0 w : World) (_lo : Nat) (x : ValF) (left : Int), Below w0.heap.size w0 w → x.text.size ≤ maxLen → 0 ≤ left → left ≤ 1048576 →
  Calls Try.prog 31 #[.agg #[.int .i64 x.kind, .int .i64 x.num, .string x.text], .int .i64 left] w (SzPost w left (x.text.size ≤ 1048576))

theorem szTokenC (n : Nat) : SzTk n := by
  intro w0 w lo x left _ ws h0 h1
  unfold maxLen at ws
  by_cases h : left - (x.text.size : Int) < 0
  · go_enter Try.func26, Try.ntmps26
    go_wp2
    all_goals go_ret
    all_goals exact SzPost.no (by go_grown)
  · go_enter Try.func26, Try.ntmps26
    go_wp2
    all_goals go_ret
    all_goals exact SzPost.yes (by go_grown) (by omega) (by omega) (by omega)
theorem szValueC (n : Nat) : SzVa n := fun _ w _ x left _ ws h0 h1 => szValueP x.kind x.num x.text left w h0 h1 ws

set_option maxRecDepth 100000 in
set_option maxHeartbeats 1600000 in
theorem szTokenSC {n : Nat} (IH : SzTk n) {w0 w : World} (h00 : Below w0.heap.size w0 w) {lo : Nat} {xs : List (TokF)} {a : Option Addr} (c : Nat) (left : Int) (h : RowP w0 lo maxLen 3 (tkC maxLen) xs a) (h0 : 0 ≤ left) (h1 : left ≤ 1048576) :
    Calls Try.prog 7 #[.slice a xs.length c, .int .i64 left] w (SzPost w left (RowP w0 lo 1048576 3 (tkC 1048576) xs a)) := by
  obtain ⟨hlen, hrow⟩ := h
  unfold maxLen at hlen
  have HI := hide IH
  clear IH
  obtain ⟨m, hm⟩ : ∃ m, Hid (xs.length = m) := ⟨_, rfl⟩
  rw [hm.out] at hlen ⊢
  have H0 := hide h00
  clear h00
  by_cases hneg : left - (m : Int) < 0
  · have HR := hide hrow
    clear hrow
    go_enter Try.func7, Try.ntmps7
    go_wp2
    all_goals go_ret
    all_goals exact SzPost.no (by go_grown)
  · have hneg2 : (m : Int) ≤ left := by omega
    rcases Nat.eq_zero_or_pos m with rfl | hpos
    · have HR := hide (show RowP w0 lo 1048576 3 (tkC 1048576) xs a from ⟨by have := hm.out; omega, fun h => absurd hm.out (by omega)⟩)
      clear hrow
      go_enter Try.func7, Try.ntmps7
      go_wp2
      refine wp_loop_rounds 1 ?_
      rw [rounds_succ]
      go_wp2
      go_ret
      exact SzPost.yes (by go_grown) (by omega) (by omega) HR.out
    · obtain ⟨b, o, rfl, hlo, hb, hel⟩ := hrow (by have := hm.out; omega)
      have HE := hide (And.intro hlo (And.intro hb hel))
      clear hrow hlo hb hel
      go_enter Try.func7, Try.ntmps7
      go_wp2
      go_loopw [1, 5] (fun l x wr => ∃ (j : Nat) (r : Int), l = .int .i64 r ∧ x = .int .i64 j ∧ j ≤ m ∧ 0 ≤ r ∧ r ≤ left ∧ Hid (∀ i (h : i < xs.length), i < j → ∃ cs, (tkC 1048576) xs[i] cs ∧ cellsAt w0 b (o + i * 3) cs) ∧ Hid (Below w.heap.size w wr)) (fun _ x _ => m - (intOf x).toNat)
      case atStart => exact ⟨0, _, rfl, rfl, by omega, by omega, by omega, (fun i _ hi => absurd hi (by omega)), (show Below w.heap.size w _ by go_grown)⟩
      case round =>
        obtain ⟨j, r, rfl, rfl, hj, hr0, hr1, HJ, HB⟩ := hrel
        by_cases hlt : j < m
        · have hlt2 : (j : Int) < m := by omega
          have hjx : j < xs.length := by have := hm.out; omega
          obtain ⟨cs, ⟨rfl, hx⟩, hat⟩ := HE.out.2.2 j hjx
          have hat2 := hat.same ((below_via H0.out HB.out).block b HE.out.2.1)
          obtain ⟨c0, c1, c2⟩ := tk_at hat2
          have HX := hide (And.intro hx hat)
          clear hx hat hat2
          generalize hxe : xs[j] = x at HX c0 c1 c2
          have HXE := hide hxe
          clear hxe
          go_wp2_with fail
          refine (HI.out w0 _ lo x  r (below_via H0.out HB.out) HX.out.1 hr0 (by omega)).mono ?_
          rintro e w2 ⟨⟨r2, rfl, hr2⟩, hb2⟩
          have HB2 := hide (below_via HB.out hb2)
          clear hb2 c0 c1 c2
          rcases hr2 with hr2 | ⟨hr20, hr21, hx2⟩
          · go_wp2_with fail
            all_goals go_ret
            all_goals exact SzPost.no HB2.out
          · have HX2 := hide hx2
            clear hx2
            go_wp2_with fail
            go_roundw
            case rel =>
              refine ⟨j + 1, r2, rfl, by go_num, by omega, by omega, by omega, ?_, HB2.out⟩
              show ∀ i (h : i < xs.length), i < j + 1 → _
              intro i hi hij
              by_cases hij2 : i = j
              · subst hij2; exact ⟨_, ⟨rfl, by rw [HXE.out]; exact HX2.out⟩, by rw [HXE.out]; exact HX.out.2⟩
              · exact HJ.out i hi (by omega)
            case measure => simp [intOf]; omega
        · have hlt2 : ¬ (j : Int) < m := by omega
          go_wp2_with fail
          go_ret
          exact SzPost.yes HB.out hr0 hr1 ⟨by have := hm.out; omega, fun _ => ⟨b, o, rfl, HE.out.1, HE.out.2.1, fun i hi => HJ.out i hi (by have := hm.out; omega)⟩⟩

set_option maxRecDepth 100000 in
set_option maxHeartbeats 1600000 in
theorem szValueSC {n : Nat} (IH : SzVa n) {w0 w : World} (h00 : Below w0.heap.size w0 w) {lo : Nat} {xs : List (ValF)} {a : Option Addr} (c : Nat) (left : Int) (h : RowP w0 lo maxLen 3 (vaC maxLen) xs a) (h0 : 0 ≤ left) (h1 : left ≤ 1048576) :
    Calls Try.prog 12 #[.slice a xs.length c, .int .i64 left] w (SzPost w left (RowP w0 lo 1048576 3 (vaC 1048576) xs a)) := by
  obtain ⟨hlen, hrow⟩ := h
  unfold maxLen at hlen
  have HI := hide IH
  clear IH
  obtain ⟨m, hm⟩ : ∃ m, Hid (xs.length = m) := ⟨_, rfl⟩
  rw [hm.out] at hlen ⊢
  have H0 := hide h00
  clear h00
  by_cases hneg : left - (m : Int) < 0
  · have HR := hide hrow
    clear hrow
    go_enter Try.func12, Try.ntmps12
    go_wp2
    all_goals go_ret
    all_goals exact SzPost.no (by go_grown)
  · have hneg2 : (m : Int) ≤ left := by omega
    rcases Nat.eq_zero_or_pos m with rfl | hpos
    · have HR := hide (show RowP w0 lo 1048576 3 (vaC 1048576) xs a from ⟨by have := hm.out; omega, fun h => absurd hm.out (by omega)⟩)
      clear hrow
      go_enter Try.func12, Try.ntmps12
      go_wp2
      refine wp_loop_rounds 1 ?_
      rw [rounds_succ]
      go_wp2
      go_ret
      exact SzPost.yes (by go_grown) (by omega) (by omega) HR.out
    · obtain ⟨b, o, rfl, hlo, hb, hel⟩ := hrow (by have := hm.out; omega)
      have HE := hide (And.intro hlo (And.intro hb hel))
      clear hrow hlo hb hel
      go_enter Try.func12, Try.ntmps12
      go_wp2
      go_loopw [1, 5] (fun l x wr => ∃ (j : Nat) (r : Int), l = .int .i64 r ∧ x = .int .i64 j ∧ j ≤ m ∧ 0 ≤ r ∧ r ≤ left ∧ Hid (∀ i (h : i < xs.length), i < j → ∃ cs, (vaC 1048576) xs[i] cs ∧ cellsAt w0 b (o + i * 3) cs) ∧ Hid (Below w.heap.size w wr)) (fun _ x _ => m - (intOf x).toNat)
      case atStart => exact ⟨0, _, rfl, rfl, by omega, by omega, by omega, (fun i _ hi => absurd hi (by omega)), (show Below w.heap.size w _ by go_grown)⟩
      case round =>
        obtain ⟨j, r, rfl, rfl, hj, hr0, hr1, HJ, HB⟩ := hrel
        by_cases hlt : j < m
        · have hlt2 : (j : Int) < m := by omega
          have hjx : j < xs.length := by have := hm.out; omega
          obtain ⟨cs, ⟨rfl, hx⟩, hat⟩ := HE.out.2.2 j hjx
          have hat2 := hat.same ((below_via H0.out HB.out).block b HE.out.2.1)
          obtain ⟨c0, c1, c2⟩ := va_at hat2
          have HX := hide (And.intro hx hat)
          clear hx hat hat2
          generalize hxe : xs[j] = x at HX c0 c1 c2
          have HXE := hide hxe
          clear hxe
          go_wp2_with fail
          refine (HI.out w0 _ lo x  r (below_via H0.out HB.out) HX.out.1 hr0 (by omega)).mono ?_
          rintro e w2 ⟨⟨r2, rfl, hr2⟩, hb2⟩
          have HB2 := hide (below_via HB.out hb2)
          clear hb2 c0 c1 c2
          rcases hr2 with hr2 | ⟨hr20, hr21, hx2⟩
          · go_wp2_with fail
            all_goals go_ret
            all_goals exact SzPost.no HB2.out
          · have HX2 := hide hx2
            clear hx2
            go_wp2_with fail
            go_roundw
            case rel =>
              refine ⟨j + 1, r2, rfl, by go_num, by omega, by omega, by omega, ?_, HB2.out⟩
              show ∀ i (h : i < xs.length), i < j + 1 → _
              intro i hi hij
              by_cases hij2 : i = j
              · subst hij2; exact ⟨_, ⟨rfl, by rw [HXE.out]; exact HX2.out⟩, by rw [HXE.out]; exact HX.out.2⟩
              · exact HJ.out i hi (by omega)
            case measure => simp [intOf]; omega
        · have hlt2 : ¬ (j : Int) < m := by omega
          go_wp2_with fail
          go_ret
          exact SzPost.yes HB.out hr0 hr1 ⟨by have := hm.out; omega, fun _ => ⟨b, o, rfl, HE.out.1, HE.out.2.1, fun i hi => HJ.out i hi (by have := hm.out; omega)⟩⟩

end Go.Proofs.Ytfikgiekigbaoaa
