/-
  eqStmt and what it calls, at one statement that lies in two places.
-/
import Derived.Test.YtfpoakdmclekoaaEqs
import Derived.Test.YtfpoakdmclekoaaStm
namespace Go.Proofs.Ytfpoakdmclekoaa
open Go.RowKit

def EqRe (n : Nat) : Prop := ∀ (w0 w : World) (lo lo' M M' n' : Nat) (x : List Ex) (oa : Option Addr) (oc : Nat) (oa' : Option Addr) (oc' : Nat), Below w0.heap.size w0 w → RowP w0 lo M 10 (exC (ExB w0 lo M n)) x oa → RowP w0 lo' M' 10 (exC (ExB w0 lo' M' n')) x oa' → M ≤ 1048576 →
  Calls Try.prog 42 #[.slice oa x.length oc, .slice oa' x.length oc'] w (fun e w' => e = .returned (.bool true) ∧ Below w.heap.size w w')
theorem eqReC {n : Nat} (IH : EqEx n) : EqRe n := fun _ _ _ _ _ _ _ _ _ oc _ oc' h00 h h' hM => eqExprSC IH h00 oc oc' h h' hM

set_option maxRecDepth 100000 in
set_option maxHeartbeats 1600000 in
theorem eqExprSSC {n n' : Nat} (IH : EqRe n) {w0 w : World} (h00 : Below w0.heap.size w0 w) {lo lo' M M' : Nat} {xs : List (List Ex)} {a a' : Option Addr} (c c' : Nat) (h : RowP w0 lo M 1 (reC w0 lo M (ExB w0 lo M n)) xs a) (h' : RowP w0 lo' M' 1 (reC w0 lo' M' (ExB w0 lo' M' n')) xs a') (hM : M ≤ 1048576) :
    Calls Try.prog 69 #[.slice a xs.length c, .slice a' xs.length c'] w (fun e w' => e = .returned (.bool true) ∧ Below w.heap.size w w') := by
  obtain ⟨hlen, hrow⟩ := h
  obtain ⟨_, hrow'⟩ := h'
  have HI := hide IH
  clear IH
  obtain ⟨m, hm⟩ : ∃ m, Hid (xs.length = m) := ⟨_, rfl⟩
  rw [hm.out] at hlen ⊢
  have hlen2 : m ≤ 1048576 := by omega
  have HM := hide hM
  have H0 := hide h00
  clear h00 hlen hM
  rcases Nat.eq_zero_or_pos m with rfl | hpos
  · clear hrow hrow'
    go_enter Try.func69, Try.ntmps69
    go_wp2
    refine wp_loop_rounds 1 ?_
    rw [rounds_succ]
    go_wp2
    go_ret
    exact ⟨rfl, by go_grown⟩
  · obtain ⟨b, o, rfl, hlo, hb, hel⟩ := hrow (by have := hm.out; omega)
    obtain ⟨b', o', rfl, hlo', hb', hel'⟩ := hrow' (by have := hm.out; omega)
    have HE := hide (And.intro hlo (And.intro hb hel))
    have HE' := hide (And.intro hlo' (And.intro hb' hel'))
    clear hrow hlo hb hel hrow' hlo' hb' hel'
    go_enter Try.func69, Try.ntmps69
    go_wp2
    go_loopw [5] (fun x wr => ∃ (j : Nat), x = .int .i64 j ∧ j ≤ m ∧ Hid (Below w.heap.size w wr)) (fun x _ => m - (intOf x).toNat)
    case atStart => exact ⟨0, rfl, by omega, (show Below w.heap.size w _ by go_grown)⟩
    case round =>
      obtain ⟨j, rfl, hj, HB⟩ := hrel
      by_cases hlt : j < m
      · have hlt2 : (j : Int) < m := by omega
        have hjx : j < xs.length := by have := hm.out; omega
        obtain ⟨cs, ⟨oa, oc, rfl, hx⟩, hat⟩ := HE.out.2.2 j hjx
        obtain ⟨cs', ⟨oa', oc', rfl, hx'⟩, hat'⟩ := HE'.out.2.2 j hjx
        have HX := hide (And.intro hx hx')
        have H0B := below_via H0.out HB.out
        have c0 := re_at (hat.same (H0B.block b HE.out.2.1))
        simp only [Nat.mul_one] at c0
        have d0 := re_at (hat'.same (H0B.block b' HE'.out.2.1))
        simp only [Nat.mul_one] at d0
        have HH := hide (And.intro (Nat.lt_of_lt_of_le HE.out.2.1 H0B.size) (Nat.lt_of_lt_of_le HE'.out.2.1 H0B.size))
        have H0B2 := hide H0B
        clear hx hat hx' hat' H0B
        generalize xs[j] = x at HX c0 d0
        have e0 := BelowOf.cell c0 HH.out.1
        have f0 := BelowOf.cell d0 HH.out.2
        clear c0 d0
        go_wp2_with fail
        refine wp_region_wq (by kernel_rfl) (by kernel_rfl) ?_
        repeat (refine WQ.step (fun K hK => ?_); go_simp; first | (refine hK _ ?_; clear hK K) | (apply Exists.intro; refine ⟨fun _ => ?_, hK _ ?_⟩; (exact Calls.below_of (HI.out w0 _ _ _ _ _ n' _ _ _ _ _ (below_via H0B2.out (BelowOf.h _)) HX.out.1 HX.out.2 HM.out)); clear hK K))
        refine WQ.nil ?_
        intro W2 hq2
        have HB2 := hide (below_via HB.out (BelowOf.of hq2))
        clear hq2 e0 f0
        go_wp2_with fail
        go_roundw
        case rel => exact ⟨j + 1, by go_num, by omega, HB2.out⟩
        case measure => simp [intOf]; omega
      · have hlt2 : ¬ (j : Int) < m := by omega
        go_wp2_with fail
        go_ret
        exact ⟨rfl, HB.out⟩

set_option maxRecDepth 100000 in
set_option maxHeartbeats 1600000 in
theorem eqStringSC {w0 w : World} (h00 : Below w0.heap.size w0 w) {lo lo' M M' : Nat} {xs : List (ByteArray)} {a a' : Option Addr} (c c' : Nat) (h : RowP w0 lo M 1 (sgC M) xs a) (h' : RowP w0 lo' M' 1 (sgC M') xs a') (hM : M ≤ 1048576) :
    Calls Try.prog 70 #[.slice a xs.length c, .slice a' xs.length c'] w (fun e w' => e = .returned (.bool true) ∧ Below w.heap.size w w') := by
  obtain ⟨hlen, hrow⟩ := h
  obtain ⟨_, hrow'⟩ := h'
  obtain ⟨m, hm⟩ : ∃ m, Hid (xs.length = m) := ⟨_, rfl⟩
  rw [hm.out] at hlen ⊢
  have hlen2 : m ≤ 1048576 := by omega
  have HM := hide hM
  have H0 := hide h00
  clear h00 hlen hM
  rcases Nat.eq_zero_or_pos m with rfl | hpos
  · clear hrow hrow'
    go_enter Try.func70, Try.ntmps70
    go_wp2
    refine wp_loop_rounds 1 ?_
    rw [rounds_succ]
    go_wp2
    go_ret
    exact ⟨rfl, by go_grown⟩
  · obtain ⟨b, o, rfl, hlo, hb, hel⟩ := hrow (by have := hm.out; omega)
    obtain ⟨b', o', rfl, hlo', hb', hel'⟩ := hrow' (by have := hm.out; omega)
    have HE := hide (And.intro hlo (And.intro hb hel))
    have HE' := hide (And.intro hlo' (And.intro hb' hel'))
    clear hrow hlo hb hel hrow' hlo' hb' hel'
    go_enter Try.func70, Try.ntmps70
    go_wp2
    go_loopw [5] (fun x wr => ∃ (j : Nat), x = .int .i64 j ∧ j ≤ m ∧ Hid (Below w.heap.size w wr)) (fun x _ => m - (intOf x).toNat)
    case atStart => exact ⟨0, rfl, by omega, (show Below w.heap.size w _ by go_grown)⟩
    case round =>
      obtain ⟨j, rfl, hj, HB⟩ := hrel
      by_cases hlt : j < m
      · have hlt2 : (j : Int) < m := by omega
        have hjx : j < xs.length := by have := hm.out; omega
        obtain ⟨cs, ⟨rfl, hx⟩, hat⟩ := HE.out.2.2 j hjx
        obtain ⟨cs', ⟨rfl, hx'⟩, hat'⟩ := HE'.out.2.2 j hjx
        have HX := hide (And.intro hx hx')
        have H0B := below_via H0.out HB.out
        have c0 := sg_at (hat.same (H0B.block b HE.out.2.1))
        simp only [Nat.mul_one] at c0
        have d0 := sg_at (hat'.same (H0B.block b' HE'.out.2.1))
        simp only [Nat.mul_one] at d0
        have HH := hide (And.intro (Nat.lt_of_lt_of_le HE.out.2.1 H0B.size) (Nat.lt_of_lt_of_le HE'.out.2.1 H0B.size))
        have H0B2 := hide H0B
        clear hx hat hx' hat' H0B
        generalize xs[j] = x at HX c0 d0
        have e0 := BelowOf.cell c0 HH.out.1
        have f0 := BelowOf.cell d0 HH.out.2
        clear c0 d0
        go_wp2_with fail
        refine wp_region_wq (by kernel_rfl) (by kernel_rfl) ?_
        repeat (refine WQ.step (fun K hK => ?_); go_simp; first | (refine hK _ ?_; clear hK K) | (apply Exists.intro; refine ⟨fun _ => ?_, hK _ ?_⟩; (fail); clear hK K))
        refine WQ.nil ?_
        intro W2 hq2
        have HB2 := hide (below_via HB.out (BelowOf.of hq2))
        clear hq2 e0 f0
        go_wp2_with fail
        go_roundw
        case rel => exact ⟨j + 1, by go_num, by omega, HB2.out⟩
        case measure => simp [intOf]; omega
      · have hlt2 : ¬ (j : Int) < m := by omega
        go_wp2_with fail
        go_ret
        exact ⟨rfl, HB.out⟩

def EqSt (n : Nat) : Prop := ∀ (w0 w : World) (lo lo' M M' n' : Nat) (x : StF) (ia : Option Addr) (ic : Nat) (fa : Option Addr) (fc : Nat) (wa : Option Addr) (wc : Nat) (oa : Option Addr) (oc : Nat) (ra : Option Addr) (rc : Nat) (ca : Option Addr) (cc : Nat) (ta : Option Addr) (tc : Nat) (ha : Option Addr) (hc : Nat) (ia' : Option Addr) (ic' : Nat) (fa' : Option Addr) (fc' : Nat) (wa' : Option Addr) (wc' : Nat) (oa' : Option Addr) (oc' : Nat) (ra' : Option Addr) (rc' : Nat) (ca' : Option Addr) (cc' : Nat) (ta' : Option Addr) (tc' : Nat) (ha' : Option Addr) (hc' : Nat), Below w0.heap.size w0 w → StB w0 lo M (ExB w0 lo M n) x ia fa wa oa ra ca ta ha → StB w0 lo' M' (ExB w0 lo' M' n') x ia' fa' wa' oa' ra' ca' ta' ha' → M ≤ 1048576 →
  Calls Try.prog 30 #[.agg #[.int .i64 x.kind, .bool x.q.distinct, .slice ia x.q.items.length ic, .slice fa x.q.src.length fc, .slice wa x.q.whr.length wc, .slice oa x.q.ord.length oc, .int .i64 x.q.limit, .string x.table, .slice ra x.rows.length rc, .slice ca x.cols.length cc, .slice ta x.sets.length tc, .slice ha x.whr.length hc], .agg #[.int .i64 x.kind, .bool x.q.distinct, .slice ia' x.q.items.length ic', .slice fa' x.q.src.length fc', .slice wa' x.q.whr.length wc', .slice oa' x.q.ord.length oc', .int .i64 x.q.limit, .string x.table, .slice ra' x.rows.length rc', .slice ca' x.cols.length cc', .slice ta' x.sets.length tc', .slice ha' x.whr.length hc']] w (fun e w' => e = .returned (.bool true) ∧ Below w.heap.size w w')

set_option maxRecDepth 100000 in
set_option maxHeartbeats 1600000 in
theorem eqStmtC {n : Nat} (IH : EqEx n) : EqSt n := by
  intro w0 w lo lo' M M' n' x ia ic fa fc wa wc oa oc ra rc ca cc ta tc ha hc ia' ic' fa' fc' wa' wc' oa' oc' ra' rc' ca' cc' ta' tc' ha' hc' h00 hx hx' hM
  obtain ⟨va, hva⟩ : ∃ va, Hid (va = w.heap.size) := ⟨_, rfl⟩
  obtain ⟨vb, hvb⟩ : ∃ vb, Hid (vb = w.heap.size + 1) := ⟨_, rfl⟩
  have hv := boxAt2 w [.int .i64 x.kind, .bool x.q.distinct, .slice ia x.q.items.length ic, .slice fa x.q.src.length fc, .slice wa x.q.whr.length wc, .slice oa x.q.ord.length oc, .int .i64 x.q.limit, .string x.table, .slice ra x.rows.length rc, .slice ca x.cols.length cc, .slice ta x.sets.length tc, .slice ha x.whr.length hc] [.int .i64 x.kind, .bool x.q.distinct, .slice ia' x.q.items.length ic', .slice fa' x.q.src.length fc', .slice wa' x.q.whr.length wc', .slice oa' x.q.ord.length oc', .int .i64 x.q.limit, .string x.table, .slice ra' x.rows.length rc', .slice ca' x.cols.length cc', .slice ta' x.sets.length tc', .slice ha' x.whr.length hc'] 64 64
  rw [← hvb.out, ← hva.out] at hv
  have HV := hide hv
  have H0 := hide h00
  have HM := hide hM
  clear hv h00 hM
  have HX := hide (And.intro hx hx')
  clear hx hx'
  have HI := hide IH
  clear IH
  go_enter Try.func30, Try.ntmps30
  go_wp2_with fail
  (try rw [← hvb.out, ← hva.out])
  refine (eqQueryC HI.out w0 _ lo lo' M M' n' x.q ia ic fa fc wa wc oa oc ia' ic' fa' fc' wa' wc' oa' oc' (below_via H0.out (by go_grown)) HX.out.1.qu HX.out.2.qu HM.out).mono ?_
  rintro e w1 ⟨rfl, hb1⟩
  have HB1 := hide (below_via (show Below w.heap.size w _ by go_grown) hb1)
  have HV1 := hide (And.intro (HV.out.1.same (hb1.block va (by have := HV.out.2.2; rw [hva.out]; rw [hvb.out] at this; omega))) (And.intro (HV.out.2.1.same (hb1.block vb HV.out.2.2)) (Nat.lt_of_lt_of_le HV.out.2.2 hb1.size)))
  clear hb1
  obtain ⟨c0, c1, c2, c3, c4, c5, c6, c7, c8, c9, c10, c11⟩ := st_at0 HV1.out.1
  obtain ⟨d0, d1, d2, d3, d4, d5, d6, d7, d8, d9, d10, d11⟩ := st_at0 HV1.out.2.1
  go_wp2_with fail
  refine (eqExprSSC (eqReC HI.out) (below_via H0.out HB1.out) rc rc' HX.out.1.rows HX.out.2.rows HM.out).mono ?_
  rintro e w2 ⟨rfl, hb2⟩
  have HB2 := hide (below_via HB1.out hb2)
  have HV2 := hide (And.intro (HV1.out.1.same (hb2.block va (by have := HV1.out.2.2; rw [hva.out]; rw [hvb.out] at this; omega))) (And.intro (HV1.out.2.1.same (hb2.block vb HV1.out.2.2)) (Nat.lt_of_lt_of_le HV1.out.2.2 hb2.size)))
  clear hb2 c0 d0 c1 d1 c2 d2 c3 d3 c4 d4 c5 d5 c6 d6 c7 d7 c8 d8 c9 d9 c10 d10 c11 d11
  obtain ⟨c0, c1, c2, c3, c4, c5, c6, c7, c8, c9, c10, c11⟩ := st_at0 HV2.out.1
  obtain ⟨d0, d1, d2, d3, d4, d5, d6, d7, d8, d9, d10, d11⟩ := st_at0 HV2.out.2.1
  go_wp2_with fail
  refine (eqStringSC (below_via H0.out HB2.out) cc cc' HX.out.1.cols HX.out.2.cols HM.out).mono ?_
  rintro e w3 ⟨rfl, hb3⟩
  have HB3 := hide (below_via HB2.out hb3)
  have HV3 := hide (And.intro (HV2.out.1.same (hb3.block va (by have := HV2.out.2.2; rw [hva.out]; rw [hvb.out] at this; omega))) (And.intro (HV2.out.2.1.same (hb3.block vb HV2.out.2.2)) (Nat.lt_of_lt_of_le HV2.out.2.2 hb3.size)))
  clear hb3 c0 d0 c1 d1 c2 d2 c3 d3 c4 d4 c5 d5 c6 d6 c7 d7 c8 d8 c9 d9 c10 d10 c11 d11
  obtain ⟨c0, c1, c2, c3, c4, c5, c6, c7, c8, c9, c10, c11⟩ := st_at0 HV3.out.1
  obtain ⟨d0, d1, d2, d3, d4, d5, d6, d7, d8, d9, d10, d11⟩ := st_at0 HV3.out.2.1
  go_wp2_with fail
  refine (eqExprSC HI.out (below_via H0.out HB3.out) tc tc' HX.out.1.sets HX.out.2.sets HM.out).mono ?_
  rintro e w4 ⟨rfl, hb4⟩
  have HB4 := hide (below_via HB3.out hb4)
  have HV4 := hide (And.intro (HV3.out.1.same (hb4.block va (by have := HV3.out.2.2; rw [hva.out]; rw [hvb.out] at this; omega))) (And.intro (HV3.out.2.1.same (hb4.block vb HV3.out.2.2)) (Nat.lt_of_lt_of_le HV3.out.2.2 hb4.size)))
  clear hb4 c0 d0 c1 d1 c2 d2 c3 d3 c4 d4 c5 d5 c6 d6 c7 d7 c8 d8 c9 d9 c10 d10 c11 d11
  obtain ⟨c0, c1, c2, c3, c4, c5, c6, c7, c8, c9, c10, c11⟩ := st_at0 HV4.out.1
  obtain ⟨d0, d1, d2, d3, d4, d5, d6, d7, d8, d9, d10, d11⟩ := st_at0 HV4.out.2.1
  go_wp2_with fail
  refine (eqExprSC HI.out (below_via H0.out HB4.out) hc hc' HX.out.1.whr HX.out.2.whr HM.out).mono ?_
  rintro e w5 ⟨rfl, hb5⟩
  have HB5 := hide (below_via HB4.out hb5)
  have HV5 := hide (And.intro (HV4.out.1.same (hb5.block va (by have := HV4.out.2.2; rw [hva.out]; rw [hvb.out] at this; omega))) (And.intro (HV4.out.2.1.same (hb5.block vb HV4.out.2.2)) (Nat.lt_of_lt_of_le HV4.out.2.2 hb5.size)))
  clear hb5 c0 d0 c1 d1 c2 d2 c3 d3 c4 d4 c5 d5 c6 d6 c7 d7 c8 d8 c9 d9 c10 d10 c11 d11
  obtain ⟨c0, c1, c2, c3, c4, c5, c6, c7, c8, c9, c10, c11⟩ := st_at0 HV5.out.1
  obtain ⟨d0, d1, d2, d3, d4, d5, d6, d7, d8, d9, d10, d11⟩ := st_at0 HV5.out.2.1
  go_wp2_with fail
  all_goals go_ret
  all_goals exact ⟨rfl, HB5.out⟩

end Go.Proofs.Ytfpoakdmclekoaa
