/-
  szStmt and what it calls.
-/
import Derived.Test.YtfpoakdmclekoaaSz
import Derived.Test.YtfpoakdmclekoaaStm
namespace Go.Proofs.Ytfpoakdmclekoaa
open Go.RowKit

/-- szExprS, as a row's element. -/
def SzRe (n : Nat) : Prop := ∀ (w0 w : World) (lo : Nat) (x : List Ex) (oa : Option Addr) (oc : Nat) (left : Int), Below w0.heap.size w0 w → RowP w0 lo maxLen 10 (exC (ExB w0 lo maxLen n)) x oa → 0 ≤ left → left ≤ 1048576 →
  Calls Try.prog 34 #[.slice oa x.length oc, .int .i64 left] w (SzPost w left (RowP w0 lo 1048576 10 (exC (ExB w0 lo 1048576 n)) x oa))
theorem szReC {n : Nat} (IH : SzEx n) : SzRe n := fun _ _ _ _ _ oc left h00 h h0 h1 => szExprSC IH h00 oc left h h0 h1

set_option maxRecDepth 100000 in
set_option maxHeartbeats 1600000 in
theorem szExprSSC {n : Nat} (IH : SzRe n) {w0 w : World} (h00 : Below w0.heap.size w0 w) {lo : Nat} {xs : List (List Ex)} {a : Option Addr} (c : Nat) (left : Int) (h : RowP w0 lo maxLen 1 (reC w0 lo maxLen (ExB w0 lo maxLen n)) xs a) (h0 : 0 ≤ left) (h1 : left ≤ 1048576) :
    Calls Try.prog 62 #[.slice a xs.length c, .int .i64 left] w (SzPost w left (RowP w0 lo 1048576 1 (reC w0 lo 1048576 (ExB w0 lo 1048576 n)) xs a)) := by
  obtain ⟨hlen, hrow⟩ := h
  unfold maxLen at hlen
  have HI := hide IH
  clear IH
  obtain ⟨m, hm⟩ : ∃ m, Hid (xs.length = m) := ⟨_, rfl⟩
  rw [hm.out] at hlen ⊢
  have H0 := hide h00
  clear h00
  by_cases hneg : left - (m : Int) < 0
  · have HR := hide hrow
    clear hrow
    go_enter Try.func62, Try.ntmps62
    go_wp2
    all_goals go_ret
    all_goals exact SzPost.no (by go_grown)
  · have hneg2 : (m : Int) ≤ left := by omega
    rcases Nat.eq_zero_or_pos m with rfl | hpos
    · have HR := hide (show RowP w0 lo 1048576 1 (reC w0 lo 1048576 (ExB w0 lo 1048576 n)) xs a from ⟨by have := hm.out; omega, fun h => absurd hm.out (by omega)⟩)
      clear hrow
      go_enter Try.func62, Try.ntmps62
      go_wp2
      refine wp_loop_rounds 1 ?_
      rw [rounds_succ]
      go_wp2
      go_ret
      exact SzPost.yes (by go_grown) (by omega) (by omega) HR.out
    · obtain ⟨b, o, rfl, hlo, hb, hel⟩ := hrow (by have := hm.out; omega)
      have HE := hide (And.intro hlo (And.intro hb hel))
      clear hrow hlo hb hel
      go_enter Try.func62, Try.ntmps62
      go_wp2
      go_loopw [1, 5] (fun l x wr => ∃ (j : Nat) (r : Int), l = .int .i64 r ∧ x = .int .i64 j ∧ j ≤ m ∧ 0 ≤ r ∧ r ≤ left ∧ Hid (∀ i (h : i < xs.length), i < j → ∃ cs, (reC w0 lo 1048576 (ExB w0 lo 1048576 n)) xs[i] cs ∧ cellsAt w0 b (o + i * 1) cs) ∧ Hid (Below w.heap.size w wr)) (fun _ x _ => m - (intOf x).toNat)
      case atStart => exact ⟨0, _, rfl, rfl, by omega, by omega, by omega, (fun i _ hi => absurd hi (by omega)), (show Below w.heap.size w _ by go_grown)⟩
      case round =>
        obtain ⟨j, r, rfl, rfl, hj, hr0, hr1, HJ, HB⟩ := hrel
        by_cases hlt : j < m
        · have hlt2 : (j : Int) < m := by omega
          have hjx : j < xs.length := by have := hm.out; omega
          obtain ⟨cs, ⟨oa, oc, rfl, hx⟩, hat⟩ := HE.out.2.2 j hjx
          have hat2 := hat.same ((below_via H0.out HB.out).block b HE.out.2.1)
          have c0 := re_at hat2
          simp only [Nat.mul_one] at c0
          have HX := hide (And.intro hx hat)
          clear hx hat hat2
          generalize hxe : xs[j] = x at HX c0
          have HXE := hide hxe
          clear hxe
          go_wp2_with fail
          refine (HI.out w0 _ lo x oa oc r (below_via H0.out HB.out) HX.out.1 hr0 (by omega)).mono ?_
          rintro e w2 ⟨⟨r2, rfl, hr2⟩, hb2⟩
          have HB2 := hide (below_via HB.out hb2)
          clear hb2 c0
          rcases hr2 with hr2 | ⟨hr20, hr21, hx2⟩
          · go_wp2_with fail
            all_goals go_ret
            all_goals exact SzPost.no HB2.out
          · have HX2 := hide hx2
            clear hx2
            go_wp2_with fail
            go_roundw
            case rel =>
              refine ⟨j + 1, r2, rfl, by go_num, by omega, by omega, by omega, ?_, HB2.out⟩
              show ∀ i (h : i < xs.length), i < j + 1 → _
              intro i hi hij
              by_cases hij2 : i = j
              · subst hij2; exact ⟨_, ⟨oa, oc, rfl, by rw [HXE.out]; exact HX2.out⟩, by rw [HXE.out]; exact HX.out.2⟩
              · exact HJ.out i hi (by omega)
            case measure => simp [intOf]; omega
        · have hlt2 : ¬ (j : Int) < m := by omega
          go_wp2_with fail
          go_ret
          exact SzPost.yes HB.out hr0 hr1 ⟨by have := hm.out; omega, fun _ => ⟨b, o, rfl, HE.out.1, HE.out.2.1, fun i hi => HJ.out i hi (by have := hm.out; omega)⟩⟩

set_option maxRecDepth 100000 in
set_option maxHeartbeats 1600000 in
theorem szStringSC {w0 w : World} (h00 : Below w0.heap.size w0 w) {lo : Nat} {xs : List (ByteArray)} {a : Option Addr} (c : Nat) (left : Int) (h : RowP w0 lo maxLen 1 (sgC maxLen) xs a) (h0 : 0 ≤ left) (h1 : left ≤ 1048576) :
    Calls Try.prog 63 #[.slice a xs.length c, .int .i64 left] w (SzPost w left (RowP w0 lo 1048576 1 (sgC 1048576) xs a)) := by
  obtain ⟨hlen, hrow⟩ := h
  unfold maxLen at hlen
  obtain ⟨m, hm⟩ : ∃ m, Hid (xs.length = m) := ⟨_, rfl⟩
  rw [hm.out] at hlen ⊢
  have H0 := hide h00
  clear h00
  by_cases hneg : left - (m : Int) < 0
  · have HR := hide hrow
    clear hrow
    go_enter Try.func63, Try.ntmps63
    go_wp2
    all_goals go_ret
    all_goals exact SzPost.no (by go_grown)
  · have hneg2 : (m : Int) ≤ left := by omega
    rcases Nat.eq_zero_or_pos m with rfl | hpos
    · have HR := hide (show RowP w0 lo 1048576 1 (sgC 1048576) xs a from ⟨by have := hm.out; omega, fun h => absurd hm.out (by omega)⟩)
      clear hrow
      go_enter Try.func63, Try.ntmps63
      go_wp2
      refine wp_loop_rounds 1 ?_
      rw [rounds_succ]
      go_wp2
      go_ret
      exact SzPost.yes (by go_grown) (by omega) (by omega) HR.out
    · obtain ⟨b, o, rfl, hlo, hb, hel⟩ := hrow (by have := hm.out; omega)
      have HE := hide (And.intro hlo (And.intro hb hel))
      clear hrow hlo hb hel
      go_enter Try.func63, Try.ntmps63
      go_wp2
      go_loopw [1, 5] (fun l x wr => ∃ (j : Nat) (r : Int), l = .int .i64 r ∧ x = .int .i64 j ∧ j ≤ m ∧ 0 ≤ r ∧ r ≤ left ∧ Hid (∀ i (h : i < xs.length), i < j → ∃ cs, (sgC 1048576) xs[i] cs ∧ cellsAt w0 b (o + i * 1) cs) ∧ Hid (Below w.heap.size w wr)) (fun _ x _ => m - (intOf x).toNat)
      case atStart => exact ⟨0, _, rfl, rfl, by omega, by omega, by omega, (fun i _ hi => absurd hi (by omega)), (show Below w.heap.size w _ by go_grown)⟩
      case round =>
        obtain ⟨j, r, rfl, rfl, hj, hr0, hr1, HJ, HB⟩ := hrel
        by_cases hlt : j < m
        · have hlt2 : (j : Int) < m := by omega
          have hjx : j < xs.length := by have := hm.out; omega
          obtain ⟨cs, ⟨rfl, hx⟩, hat⟩ := HE.out.2.2 j hjx
          have hat2 := hat.same ((below_via H0.out HB.out).block b HE.out.2.1)
          have c0 := sg_at hat2
          simp only [Nat.mul_one] at c0
          have HX := hide (And.intro hx hat)
          clear hx hat hat2
          generalize hxe : xs[j] = x at HX c0
          have HXE := hide hxe
          clear hxe
          have hxs := HX.out.1
          have HXS := hide hxs
          unfold maxLen at hxs
          by_cases hs : r - (x.size : Int) < 0
          · go_wp2_with fail
            all_goals go_ret
            all_goals exact SzPost.no HB.out
          · have hxn : x.size ≤ 1048576 := by omega
            have HXN := hide hxn
            go_wp2_with fail
            go_roundw
            case rel =>
              refine ⟨j + 1, r - x.size, rfl, by go_num, by omega, by omega, by omega, ?_, HB.out⟩
              show ∀ i (h : i < xs.length), i < j + 1 → _
              intro i hi hij
              by_cases hij2 : i = j
              · subst hij2; exact ⟨_, ⟨rfl, by rw [HXE.out]; exact HXN.out⟩, by rw [HXE.out]; exact HX.out.2⟩
              · exact HJ.out i hi (by omega)
            case measure => simp [intOf]; omega
        · have hlt2 : ¬ (j : Int) < m := by omega
          go_wp2_with fail
          go_ret
          exact SzPost.yes HB.out hr0 hr1 ⟨by have := hm.out; omega, fun _ => ⟨b, o, rfl, HE.out.1, HE.out.2.1, fun i hi => HJ.out i hi (by have := hm.out; omega)⟩⟩

def SzSt (n : Nat) : Prop := ∀ (w0 w : World) (lo : Nat) (x : StF) (ia : Option Addr) (ic : Nat) (fa : Option Addr) (fc : Nat) (wa : Option Addr) (wc : Nat) (oa : Option Addr) (oc : Nat) (ra : Option Addr) (rc : Nat) (ca : Option Addr) (cc : Nat) (ta : Option Addr) (tc : Nat) (ha : Option Addr) (hc : Nat) (left : Int), Below w0.heap.size w0 w → StB w0 lo maxLen (ExB w0 lo maxLen n) x ia fa wa oa ra ca ta ha → 0 ≤ left → left ≤ 1048576 →
  Calls Try.prog 26 #[.agg #[.int .i64 x.kind, .bool x.q.distinct, .slice ia x.q.items.length ic, .slice fa x.q.src.length fc, .slice wa x.q.whr.length wc, .slice oa x.q.ord.length oc, .int .i64 x.q.limit, .string x.table, .slice ra x.rows.length rc, .slice ca x.cols.length cc, .slice ta x.sets.length tc, .slice ha x.whr.length hc], .int .i64 left] w (SzPost w left (StB w0 lo 1048576 (ExB w0 lo 1048576 n) x ia fa wa oa ra ca ta ha))

set_option maxRecDepth 100000 in
set_option maxHeartbeats 1600000 in
theorem szStmtC {n : Nat} (IH : SzEx n) : SzSt n := by
  intro w0 w lo x ia ic fa fc wa wc oa oc ra rc ca cc ta tc ha hc left h00 hx h0 h1
  obtain ⟨vb, hvb⟩ : ∃ vb, Hid (vb = w.heap.size) := ⟨_, rfl⟩
  have hv := boxAt w [.int .i64 x.kind, .bool x.q.distinct, .slice ia x.q.items.length ic, .slice fa x.q.src.length fc, .slice wa x.q.whr.length wc, .slice oa x.q.ord.length oc, .int .i64 x.q.limit, .string x.table, .slice ra x.rows.length rc, .slice ca x.cols.length cc, .slice ta x.sets.length tc, .slice ha x.whr.length hc] 59
  rw [← hvb.out] at hv
  have HV := hide hv
  have H0 := hide h00
  clear hv h00
  have htb := hx.tab
  unfold maxLen at htb
  have HX := hide hx
  clear hx
  have HI := hide IH
  clear IH
  go_enter Try.func26, Try.ntmps26
  go_wp2_with fail
  (try rw [← hvb.out])
  refine (szQueryC HI.out w0 _ lo x.q ia ic fa fc wa wc oa oc _ (below_via H0.out (by go_grown)) HX.out.qu (by omega) (by omega)).mono ?_
  rintro e w1 ⟨⟨r1, rfl, hr1⟩, hb1⟩
  have HB1 := hide (below_via (show Below w.heap.size w _ by go_grown) hb1)
  have HV1 := hide (HV.out.same (hb1.block vb (by rw [hvb.out]; simp)))
  have HS1 := hide hb1.size
  clear hb1
  rcases hr1 with hr1 | ⟨hr10, hr11, hg1⟩
  · go_wp2_with fail
    all_goals go_ret
    all_goals exact SzPost.no HB1.out
  · have HG1 := hide hg1
    clear hg1
    obtain ⟨c0, c1, c2, c3, c4, c5, c6, c7, c8, c9, c10, c11⟩ := st_at0 HV1.out
    by_cases g2 : r1 - (x.table.size : Int) < 0
    · go_wp2_with fail
      all_goals go_ret
      all_goals exact SzPost.no HB1.out
    · skip
      go_wp2_with fail
      refine (szExprSSC (szReC HI.out) (below_via H0.out HB1.out) rc _ HX.out.rows (by omega) (by omega)).mono ?_
      rintro e w3 ⟨⟨r3, rfl, hr3⟩, hb3⟩
      have HB3 := hide (below_via HB1.out hb3)
      have HV3 := hide (HV1.out.same (hb3.block vb (by rw [hvb.out]; exact Nat.lt_of_lt_of_le (by simp) HS1.out)))
      have HS3 := hide (Nat.le_trans HS1.out hb3.size)
      clear hb3 c0 c1 c2 c3 c4 c5 c6 c7 c8 c9 c10 c11
      rcases hr3 with hr3 | ⟨hr30, hr31, hg3⟩
      · go_wp2_with fail
        all_goals go_ret
        all_goals exact SzPost.no HB3.out
      · have HG3 := hide hg3
        clear hg3
        obtain ⟨c0, c1, c2, c3, c4, c5, c6, c7, c8, c9, c10, c11⟩ := st_at0 HV3.out
        go_wp2_with fail
        refine (szStringSC (below_via H0.out HB3.out) cc _ HX.out.cols (by omega) (by omega)).mono ?_
        rintro e w4 ⟨⟨r4, rfl, hr4⟩, hb4⟩
        have HB4 := hide (below_via HB3.out hb4)
        have HV4 := hide (HV3.out.same (hb4.block vb (by rw [hvb.out]; exact Nat.lt_of_lt_of_le (by simp) HS3.out)))
        have HS4 := hide (Nat.le_trans HS3.out hb4.size)
        clear hb4 c0 c1 c2 c3 c4 c5 c6 c7 c8 c9 c10 c11
        rcases hr4 with hr4 | ⟨hr40, hr41, hg4⟩
        · go_wp2_with fail
          all_goals go_ret
          all_goals exact SzPost.no HB4.out
        · have HG4 := hide hg4
          clear hg4
          obtain ⟨c0, c1, c2, c3, c4, c5, c6, c7, c8, c9, c10, c11⟩ := st_at0 HV4.out
          go_wp2_with fail
          refine (szExprSC HI.out (below_via H0.out HB4.out) tc _ HX.out.sets (by omega) (by omega)).mono ?_
          rintro e w5 ⟨⟨r5, rfl, hr5⟩, hb5⟩
          have HB5 := hide (below_via HB4.out hb5)
          have HV5 := hide (HV4.out.same (hb5.block vb (by rw [hvb.out]; exact Nat.lt_of_lt_of_le (by simp) HS4.out)))
          have HS5 := hide (Nat.le_trans HS4.out hb5.size)
          clear hb5 c0 c1 c2 c3 c4 c5 c6 c7 c8 c9 c10 c11
          rcases hr5 with hr5 | ⟨hr50, hr51, hg5⟩
          · go_wp2_with fail
            all_goals go_ret
            all_goals exact SzPost.no HB5.out
          · have HG5 := hide hg5
            clear hg5
            obtain ⟨c0, c1, c2, c3, c4, c5, c6, c7, c8, c9, c10, c11⟩ := st_at0 HV5.out
            go_wp2_with fail
            refine (szExprSC HI.out (below_via H0.out HB5.out) hc _ HX.out.whr (by omega) (by omega)).mono ?_
            rintro e w6 ⟨⟨r6, rfl, hr6⟩, hb6⟩
            have HB6 := hide (below_via HB5.out hb6)
            have HV6 := hide (HV5.out.same (hb6.block vb (by rw [hvb.out]; exact Nat.lt_of_lt_of_le (by simp) HS5.out)))
            have HS6 := hide (Nat.le_trans HS5.out hb6.size)
            clear hb6 c0 c1 c2 c3 c4 c5 c6 c7 c8 c9 c10 c11
            rcases hr6 with hr6 | ⟨hr60, hr61, hg6⟩
            · go_wp2_with fail
              all_goals go_ret
              all_goals exact SzPost.no HB6.out
            · have HG6 := hide hg6
              clear hg6
              obtain ⟨c0, c1, c2, c3, c4, c5, c6, c7, c8, c9, c10, c11⟩ := st_at0 HV6.out
              go_wp2_with fail
              all_goals go_ret
              all_goals exact SzPost.yes HB6.out (by omega) (by omega) ⟨by omega, HG1.out, HG3.out, HG4.out, HG5.out, HG6.out⟩

end Go.Proofs.Ytfpoakdmclekoaa
