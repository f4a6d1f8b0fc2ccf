/-
  SameStmt, in the program.
-/
import Derived.Test.YtfpoakdmclekoaaRows
import Derived.WalkLawsBesides
import Derived.Deep.Light
import Derived.Laws.StructEq
import Derived.Test.YtfpoakdmclekoaaM1
import Derived.Test.YtfpoakdmclekoaaSameIm
import Derived.Test.YtfpoakdmclekoaaStm
import Derived.Test.YtfpoakdmclekoaaQ
namespace Go.Proofs.Ytfpoakdmclekoaa
open Go.RowKit

def ImRe (n : Nat) : Prop := ∀ (w0 w : World) (lo lo' M M' n' : Nat) (x y : List Ex) (oa : Option Addr) (oc : Nat) (oa' : Option Addr) (oc' : Nat), Below w0.heap.size w0 w → RowP w0 lo M 10 (exC (ExB w0 lo M n)) x oa → RowP w0 lo' M' 10 (exC (ExB w0 lo' M' n')) y oa' → M ≤ 1048576 → M' ≤ 1048576 →
  Calls Try.prog 45 #[.slice oa x.length oc, .slice oa' y.length oc'] w (fun e w' => e = .returned (.bool (sameB x y)) ∧ Below w.heap.size w w')

theorem imReC {n : Nat} (IH : ImEx n) : ImRe n := fun _ _ _ _ _ _ _ _ _ _ oc _ oc' h00 h h' hM hM' => imSameExprsC IH h00 oc oc' h h' hM hM'

set_option maxRecDepth 100000 in
set_option maxHeartbeats 1600000 in
theorem imEqRowsC {n n' : Nat} (IH : ImRe n) {w0 w : World} (h00 : Below w0.heap.size w0 w) {lo lo' M M' : Nat} {xs ys : List (List Ex)} {a a' : Option Addr} (c c' : Nat) (h : RowP w0 lo M 1 (reC w0 lo M (ExB w0 lo M n)) xs a) (h' : RowP w0 lo' M' 1 (reC w0 lo' M' (ExB w0 lo' M' n')) ys a') (hM : M ≤ 1048576) (hM' : M' ≤ 1048576) :
    Calls Try.prog 67 #[.slice a xs.length c, .slice a' ys.length c', .func (.func 45) #[] #[]] w (fun e w' => e = .returned (.bool (sameB xs ys)) ∧ Below w.heap.size w w') := by
  obtain ⟨hlen, hrow⟩ := h
  obtain ⟨hlen', hrow'⟩ := h'
  have HI := hide IH
  have HM := hide (And.intro hM hM')
  have H0 := hide h00
  clear IH h00
  by_cases hl : xs.length = ys.length
  · obtain ⟨m, hm⟩ : ∃ m, Hid (xs.length = m) := ⟨_, rfl⟩
    have HL := hide hl
    rw [← hl, hm.out]
    have hlen2 : m ≤ 1048576 := by have := hm.out; omega
    clear hlen hlen' hM hM' hl
    rcases Nat.eq_zero_or_pos m with rfl | hpos
    · have HR := hide (sameB_eq (show xs = ys by have h1 := hm.out; have h2 := HL.out; rw [List.length_eq_zero_iff.1 h1, List.length_eq_zero_iff.1 (h2.symm.trans h1)]))
      rw [HR.out]
      clear hrow hrow'
      go_enter Try.func67, Try.ntmps67
      go_wp2_with fail
      refine wp_loop_rounds 1 ?_
      rw [rounds_succ]
      go_wp2_with fail
      go_ret
      exact ⟨rfl, by go_grown⟩
    · obtain ⟨b, o, rfl, hlo, hb, hel⟩ := hrow (by have := hm.out; omega)
      obtain ⟨b', o', rfl, hlo', hb', hel'⟩ := hrow' (by have := hm.out; have := HL.out; omega)
      have HE := hide (And.intro hlo (And.intro hb hel))
      have HE' := hide (And.intro hlo' (And.intro hb' hel'))
      clear hrow hlo hb hel hrow' hlo' hb' hel'
      obtain ⟨R, HR⟩ : ∃ R, Hid (sameB xs ys = R) := ⟨_, rfl⟩
      rw [HR.out]
      go_enter Try.func67, Try.ntmps67
      go_wp2_with fail
      go_loopw [17] (fun x wr => ∃ (j : Nat), x = .int .i64 j ∧ j ≤ m ∧ Hid (∀ i (h : i < xs.length) (h' : i < ys.length), i < j → xs[i] = ys[i]) ∧ Hid (Below w.heap.size w wr)) (fun x _ => m - (intOf x).toNat)
      case atStart => exact ⟨0, rfl, by omega, (fun i _ _ hi => absurd hi (by omega)), (show Below w.heap.size w _ by go_grown)⟩
      case round =>
        obtain ⟨j, rfl, hj, HJ, HB⟩ := hrel
        by_cases hlt : j < m
        · have hlt2 : (j : Int) < m := by omega
          have hjx : j < xs.length := by have := hm.out; omega
          have hjy : j < ys.length := by have := HL.out; omega
          obtain ⟨cs, ⟨oa, oc, rfl, hx⟩, hat⟩ := HE.out.2.2 j hjx
          obtain ⟨cs', ⟨oa', oc', rfl, hx'⟩, hat'⟩ := HE'.out.2.2 j hjy
          have HX := hide (And.intro hx hx')
          have H0B := below_via H0.out HB.out
          have c0 := re_at (hat.same (H0B.block b HE.out.2.1))
          simp only [Nat.mul_one] at c0
          have d0 := re_at (hat'.same (H0B.block b' HE'.out.2.1))
          simp only [Nat.mul_one] at d0
          have hL1 := Nat.lt_of_lt_of_le HE.out.2.1 H0B.size
          have hL2 := Nat.lt_of_lt_of_le HE'.out.2.1 H0B.size
          have HH := hide (And.intro hL1 hL2)
          have H0B2 := hide H0B
          clear hx hat hx' hat' H0B
          generalize hxe : xs[j] = x at HX c0
          generalize hye : ys[j] = y at HX d0
          have HXE := hide (And.intro hxe hye)
          clear hxe hye
          obtain ⟨r, hr⟩ : ∃ r, Hid (sameB x y = r) := ⟨_, rfl⟩
          go_wp2_with fail
          refine (HI.out w0 _ lo lo' M M' n' x y _ _ _ _ (below_via H0B2.out (show Below wr.heap.size wr _ by go_grown)) HX.out.1 HX.out.2 HM.out.1 HM.out.2).mono ?_
          rintro e w2 ⟨rfl, hb2⟩
          rw [hr.out]
          have HB2 := hide (below_via HB.out (below_via (show Below wr.heap.size wr _ by go_grown) hb2))
          clear hb2 hL1 hL2 c0 d0
          cases r
          · have HRF := hide (HR.out.symm.trans (sameB_ne (fun e => sameB_f hr.out (by rw [← HXE.out.1, ← HXE.out.2]; subst e; rfl))))
            go_wp2_with fail
            all_goals go_ret
            all_goals exact ⟨by first | (rw [HRF.out]; done) | (rw [HRF.out]; rfl), HB2.out⟩
          · have HJ2 := hide (show xs[j] = ys[j] by rw [HXE.out.1, HXE.out.2]; exact sameB_t hr.out)
            go_wp2_with fail
            go_roundw
            case rel =>
              refine ⟨j + 1, by go_num, by omega, ?_, HB2.out⟩
              show ∀ i (h : i < xs.length) (h' : i < ys.length), i < j + 1 → xs[i] = ys[i]
              intro i h h' hij
              by_cases e : i = j
              · subst e; exact HJ2.out
              · exact HJ.out i h h' (by omega)
            case measure => simp [intOf]; omega
        · have hlt2 : ¬ (j : Int) < m := by omega
          obtain rfl : j = m := by omega
          have HRT := hide (HR.out.symm.trans (sameB_eq (List.ext_getElem HL.out fun i h h' => HJ.out i h h' (by have := hm.out; omega))))
          go_wp2_with fail
          all_goals go_ret
          all_goals exact ⟨by first | (rw [HRT.out]; done) | (rw [HRT.out]; rfl), HB.out⟩
  · have HR := hide (sameB_ne (fun e : xs = ys => hl (by rw [e])))
    rw [HR.out]
    clear hrow hrow' HR hlen hlen' hM hM'
    generalize xs.length = m at hl ⊢
    generalize ys.length = m' at hl ⊢
    have hg := ne_int (show ¬ (m : Int) = m' by omega)
    obtain ⟨g1, g2⟩ := hg
    have hne : ¬ m = m' := hl
    clear hl
    go_enter Try.func67, Try.ntmps67
    go_wp2_with fail
    all_goals go_ret
    all_goals exact ⟨rfl, by go_grown⟩

set_option maxRecDepth 100000 in
set_option maxHeartbeats 1600000 in
theorem imEqStringsC {w0 w : World} (h00 : Below w0.heap.size w0 w) {lo lo' M M' : Nat} {xs ys : List (ByteArray)} {a a' : Option Addr} (c c' : Nat) (h : RowP w0 lo M 1 (sgC M) xs a) (h' : RowP w0 lo' M' 1 (sgC M') ys a') (hM : M ≤ 1048576) (hM' : M' ≤ 1048576) :
    Calls Try.prog 68 #[.slice a xs.length c, .slice a' ys.length c'] w (fun e w' => e = .returned (.bool (sameB xs ys)) ∧ Below w.heap.size w w') := by
  obtain ⟨hlen, hrow⟩ := h
  obtain ⟨hlen', hrow'⟩ := h'
  have HM := hide (And.intro hM hM')
  have H0 := hide h00
  clear h00
  by_cases hl : xs.length = ys.length
  · obtain ⟨m, hm⟩ : ∃ m, Hid (xs.length = m) := ⟨_, rfl⟩
    have HL := hide hl
    rw [← hl, hm.out]
    have hlen2 : m ≤ 1048576 := by have := hm.out; omega
    clear hlen hlen' hM hM' hl
    rcases Nat.eq_zero_or_pos m with rfl | hpos
    · have HR := hide (sameB_eq (show xs = ys by have h1 := hm.out; have h2 := HL.out; rw [List.length_eq_zero_iff.1 h1, List.length_eq_zero_iff.1 (h2.symm.trans h1)]))
      rw [HR.out]
      clear hrow hrow'
      go_enter Try.func68, Try.ntmps68
      go_wp2_with fail
      refine wp_loop_rounds 1 ?_
      rw [rounds_succ]
      go_wp2_with fail
      go_ret
      exact ⟨rfl, by go_grown⟩
    · obtain ⟨b, o, rfl, hlo, hb, hel⟩ := hrow (by have := hm.out; omega)
      obtain ⟨b', o', rfl, hlo', hb', hel'⟩ := hrow' (by have := hm.out; have := HL.out; omega)
      have HE := hide (And.intro hlo (And.intro hb hel))
      have HE' := hide (And.intro hlo' (And.intro hb' hel'))
      clear hrow hlo hb hel hrow' hlo' hb' hel'
      obtain ⟨R, HR⟩ : ∃ R, Hid (sameB xs ys = R) := ⟨_, rfl⟩
      rw [HR.out]
      go_enter Try.func68, Try.ntmps68
      go_wp2_with fail
      go_loopw [13] (fun x wr => ∃ (j : Nat), x = .int .i64 j ∧ j ≤ m ∧ Hid (∀ i (h : i < xs.length) (h' : i < ys.length), i < j → xs[i] = ys[i]) ∧ Hid (Below w.heap.size w wr)) (fun x _ => m - (intOf x).toNat)
      case atStart => exact ⟨0, rfl, by omega, (fun i _ _ hi => absurd hi (by omega)), (show Below w.heap.size w _ by go_grown)⟩
      case round =>
        obtain ⟨j, rfl, hj, HJ, HB⟩ := hrel
        by_cases hlt : j < m
        · have hlt2 : (j : Int) < m := by omega
          have hjx : j < xs.length := by have := hm.out; omega
          have hjy : j < ys.length := by have := HL.out; omega
          obtain ⟨cs, ⟨rfl, hx⟩, hat⟩ := HE.out.2.2 j hjx
          obtain ⟨cs', ⟨rfl, hx'⟩, hat'⟩ := HE'.out.2.2 j hjy
          have HX := hide (And.intro hx hx')
          have H0B := below_via H0.out HB.out
          have c0 := sg_at (hat.same (H0B.block b HE.out.2.1))
          simp only [Nat.mul_one] at c0
          have d0 := sg_at (hat'.same (H0B.block b' HE'.out.2.1))
          simp only [Nat.mul_one] at d0
          have hL1 := Nat.lt_of_lt_of_le HE.out.2.1 H0B.size
          have hL2 := Nat.lt_of_lt_of_le HE'.out.2.1 H0B.size
          have HH := hide (And.intro hL1 hL2)
          have H0B2 := hide H0B
          clear hx hat hx' hat' H0B
          generalize hxe : xs[j] = x at HX c0
          generalize hye : ys[j] = y at HX d0
          have HXE := hide (And.intro hxe hye)
          clear hxe hye
          obtain ⟨r, hr⟩ : ∃ r, Hid (sameB x y = r) := ⟨_, rfl⟩
          clear hL1 hL2 hr r
          have e0 := BelowOf.cell c0 HH.out.1
          have f0 := BelowOf.cell d0 HH.out.2
          clear c0 d0
          by_cases h0 : ¬ x = y
          · have HRF := hide (HR.out.symm.trans (sameB_ne (fun e => h0 (by rw [← HXE.out.1, ← HXE.out.2]; subst e; rfl))))
            obtain ⟨g1, g2⟩ := ne_bytes h0
            clear h0
            go_wp2_with fail
            refine wp_region_wq (by kernel_rfl) (by kernel_rfl) ?_
            repeat (refine WQ.step (fun K hK => ?_); go_simp; first | (refine hK _ ?_; clear hK K) | (apply Exists.intro; refine ⟨fun _ => ?_, hK _ ?_⟩; (fail); clear hK K))
            refine WQ.nil ?_
            intro W2 hq2
            have HB2 := hide (below_via HB.out (BelowOf.of hq2))
            clear hq2 e0 f0
            go_wp2_with fail
            all_goals go_ret
            all_goals exact ⟨by first | (rw [HRF.out]; done) | (rw [HRF.out]; rfl), HB2.out⟩
          have h0 := Classical.not_not.1 h0
          rw [← h0] at f0
          have HJ2 := hide (show xs[j] = ys[j] by rw [HXE.out.1, HXE.out.2]; exact h0)
          clear h0
          go_wp2_with fail
          refine wp_region_wq (by kernel_rfl) (by kernel_rfl) ?_
          repeat (refine WQ.step (fun K hK => ?_); go_simp; first | (refine hK _ ?_; clear hK K) | (apply Exists.intro; refine ⟨fun _ => ?_, hK _ ?_⟩; (fail); clear hK K))
          refine WQ.nil ?_
          intro W2 hq2
          have HB2 := hide (below_via HB.out (BelowOf.of hq2))
          clear hq2 e0 f0
          go_wp2_with fail
          go_roundw
          case rel =>
            refine ⟨j + 1, by go_num, by omega, ?_, HB2.out⟩
            show ∀ i (h : i < xs.length) (h' : i < ys.length), i < j + 1 → xs[i] = ys[i]
            intro i h h' hij
            by_cases e : i = j
            · subst e; exact HJ2.out
            · exact HJ.out i h h' (by omega)
          case measure => simp [intOf]; omega
        · have hlt2 : ¬ (j : Int) < m := by omega
          obtain rfl : j = m := by omega
          have HRT := hide (HR.out.symm.trans (sameB_eq (List.ext_getElem HL.out fun i h h' => HJ.out i h h' (by have := hm.out; omega))))
          go_wp2_with fail
          all_goals go_ret
          all_goals exact ⟨by first | (rw [HRT.out]; done) | (rw [HRT.out]; rfl), HB.out⟩
  · have HR := hide (sameB_ne (fun e : xs = ys => hl (by rw [e])))
    rw [HR.out]
    clear hrow hrow' HR hlen hlen' hM hM'
    generalize xs.length = m at hl ⊢
    generalize ys.length = m' at hl ⊢
    have hg := ne_int (show ¬ (m : Int) = m' by omega)
    obtain ⟨g1, g2⟩ := hg
    have hne : ¬ m = m' := hl
    clear hl
    go_enter Try.func68, Try.ntmps68
    go_wp2_with fail
    all_goals go_ret
    all_goals exact ⟨rfl, by go_grown⟩

def ImSt (n : Nat) : Prop := ∀ (w0 w : World) (lo lo' M M' n' : Nat) (x y : StF) (ia : Option Addr) (ic : Nat) (fa : Option Addr) (fc : Nat) (wa : Option Addr) (wc : Nat) (oa : Option Addr) (oc : Nat) (ra : Option Addr) (rc : Nat) (ca : Option Addr) (cc : Nat) (ta : Option Addr) (tc : Nat) (ha : Option Addr) (hc : Nat) (ia' : Option Addr) (ic' : Nat) (fa' : Option Addr) (fc' : Nat) (wa' : Option Addr) (wc' : Nat) (oa' : Option Addr) (oc' : Nat) (ra' : Option Addr) (rc' : Nat) (ca' : Option Addr) (cc' : Nat) (ta' : Option Addr) (tc' : Nat) (ha' : Option Addr) (hc' : Nat), Below w0.heap.size w0 w → StB w0 lo M (ExB w0 lo M n) x ia fa wa oa ra ca ta ha → StB w0 lo' M' (ExB w0 lo' M' n') y ia' fa' wa' oa' ra' ca' ta' ha' → M ≤ 1048576 → M' ≤ 1048576 →
  Calls Try.prog 29 #[.agg #[.int .i64 x.kind, .bool x.q.distinct, .slice ia x.q.items.length ic, .slice fa x.q.src.length fc, .slice wa x.q.whr.length wc, .slice oa x.q.ord.length oc, .int .i64 x.q.limit, .string x.table, .slice ra x.rows.length rc, .slice ca x.cols.length cc, .slice ta x.sets.length tc, .slice ha x.whr.length hc], .agg #[.int .i64 y.kind, .bool y.q.distinct, .slice ia' y.q.items.length ic', .slice fa' y.q.src.length fc', .slice wa' y.q.whr.length wc', .slice oa' y.q.ord.length oc', .int .i64 y.q.limit, .string y.table, .slice ra' y.rows.length rc', .slice ca' y.cols.length cc', .slice ta' y.sets.length tc', .slice ha' y.whr.length hc']] w (fun e w' => e = .returned (.bool (sameB x y)) ∧ Below w.heap.size w w')

set_option maxRecDepth 100000 in
set_option maxHeartbeats 1600000 in
theorem imStmtC {n : Nat} (IH : ImEx n) : ImSt n := by
  intro w0 w lo lo' M M' n' x y ia ic fa fc wa wc oa oc ra rc ca cc ta tc ha hc ia' ic' fa' fc' wa' wc' oa' oc' ra' rc' ca' cc' ta' tc' ha' hc' h00 hx hy hM hM'
  have HX := hide (And.intro hx hy)
  have HM := hide (And.intro hM hM')
  have H0 := hide h00
  have HI := hide IH
  clear IH h00 hx hy hM hM'
  by_cases h0 : ¬ x.kind = y.kind
  · have HR := hide (sameB_ne (fun e : x = y => h0 (by rw [e])))
    rw [HR.out]
    obtain ⟨g1, g2⟩ := ne_int h0
    clear h0
    go_enter Try.func29, Try.ntmps29
    go_wp2_with fail
    all_goals go_ret
    all_goals exact ⟨rfl, by go_grown⟩
  have h0 := Classical.not_not.1 h0
  rw [← h0]
  have E0 := hide h0
  clear h0
  by_cases h1 : ¬ x.table = y.table
  · have HR := hide (sameB_ne (fun e : x = y => h1 (by rw [e])))
    rw [HR.out]
    have G := hide (ne_bytes h1)
    clear h1
    obtain ⟨va, hva⟩ : ∃ va, Hid (va = w.heap.size) := ⟨_, rfl⟩
    obtain ⟨vb, hvb⟩ : ∃ vb, Hid (vb = w.heap.size + 1) := ⟨_, rfl⟩
    have hv := boxAt2 w [.int .i64 x.kind, .bool x.q.distinct, .slice ia x.q.items.length ic, .slice fa x.q.src.length fc, .slice wa x.q.whr.length wc, .slice oa x.q.ord.length oc, .int .i64 x.q.limit, .string x.table, .slice ra x.rows.length rc, .slice ca x.cols.length cc, .slice ta x.sets.length tc, .slice ha x.whr.length hc] [.int .i64 x.kind, .bool y.q.distinct, .slice ia' y.q.items.length ic', .slice fa' y.q.src.length fc', .slice wa' y.q.whr.length wc', .slice oa' y.q.ord.length oc', .int .i64 y.q.limit, .string y.table, .slice ra' y.rows.length rc', .slice ca' y.cols.length cc', .slice ta' y.sets.length tc', .slice ha' y.whr.length hc'] 64 64
    rw [← hvb.out, ← hva.out] at hv
    have HV := hide hv
    clear hv
    go_enter Try.func29, Try.ntmps29
    obtain ⟨r1, hr1⟩ : ∃ r, Hid (sameB x.q y.q = r) := ⟨_, rfl⟩
    go_wp2_with fail
    (try rw [← hvb.out, ← hva.out])
    refine (imQueryC HI.out w0 _ lo lo' M M' n' x.q y.q ia ic fa fc wa wc oa oc ia' ic' fa' fc' wa' wc' oa' oc' (below_via H0.out (by go_grown)) HX.out.1.qu HX.out.2.qu HM.out.1 HM.out.2).mono ?_
    rintro e w1 ⟨rfl, hb1⟩
    rw [hr1.out]
    have HB1 := hide (below_via (show Below w.heap.size w _ by go_grown) hb1)
    have HV1 := hide (And.intro (HV.out.1.same (hb1.block va (by have := HV.out.2.2; rw [hva.out]; rw [hvb.out] at this; omega))) (HV.out.2.1.same (hb1.block vb HV.out.2.2)))
    clear hb1
    cases r1
    · go_wp2_with fail
      all_goals go_ret
      all_goals exact ⟨rfl, HB1.out⟩
    · have cc := HV1.out.1 7 (by simp)
      have dd := HV1.out.2 7 (by simp)
      simp only [Nat.zero_add, List.getElem_cons_zero, List.getElem_cons_succ] at cc dd
      obtain ⟨g1, g2⟩ := G.out
      go_wp2_with fail
      all_goals go_ret
      all_goals exact ⟨by simp, HB1.out⟩
  have h1 := Classical.not_not.1 h1
  rw [← h1]
  have E1 := hide h1
  clear h1
  obtain ⟨va, hva⟩ : ∃ va, Hid (va = w.heap.size) := ⟨_, rfl⟩
  obtain ⟨vb, hvb⟩ : ∃ vb, Hid (vb = w.heap.size + 1) := ⟨_, rfl⟩
  have hv := boxAt2 w [.int .i64 x.kind, .bool x.q.distinct, .slice ia x.q.items.length ic, .slice fa x.q.src.length fc, .slice wa x.q.whr.length wc, .slice oa x.q.ord.length oc, .int .i64 x.q.limit, .string x.table, .slice ra x.rows.length rc, .slice ca x.cols.length cc, .slice ta x.sets.length tc, .slice ha x.whr.length hc] [.int .i64 x.kind, .bool y.q.distinct, .slice ia' y.q.items.length ic', .slice fa' y.q.src.length fc', .slice wa' y.q.whr.length wc', .slice oa' y.q.ord.length oc', .int .i64 y.q.limit, .string x.table, .slice ra' y.rows.length rc', .slice ca' y.cols.length cc', .slice ta' y.sets.length tc', .slice ha' y.whr.length hc'] 64 64
  rw [← hvb.out, ← hva.out] at hv
  have HV := hide hv
  clear hv
  obtain ⟨R, HR⟩ : ∃ R, Hid (sameB x y = R) := ⟨_, rfl⟩
  rw [HR.out]
  go_enter Try.func29, Try.ntmps29
  obtain ⟨r1, hr1⟩ : ∃ r, Hid (sameB x.q y.q = r) := ⟨_, rfl⟩
  go_wp2_with fail
  (try rw [← hvb.out, ← hva.out])
  refine (imQueryC HI.out w0 _ lo lo' M M' n' x.q y.q ia ic fa fc wa wc oa oc ia' ic' fa' fc' wa' wc' oa' oc' (below_via H0.out (by go_grown)) HX.out.1.qu HX.out.2.qu HM.out.1 HM.out.2).mono ?_
  rintro e w1 ⟨rfl, hb1⟩
  rw [hr1.out]
  have HB1 := hide (below_via (show Below w.heap.size w _ by go_grown) hb1)
  have HV1 := hide (And.intro (HV.out.1.same (hb1.block va (by have := HV.out.2.2; rw [hva.out]; rw [hvb.out] at this; omega))) (And.intro (HV.out.2.1.same (hb1.block vb HV.out.2.2)) (Nat.lt_of_lt_of_le HV.out.2.2 hb1.size)))
  clear hb1
  cases r1
  · have HRF := hide (HR.out.symm.trans (sameB_ne (fun e => sameB_f hr1.out (by rw [e]))))
    go_wp2_with fail
    all_goals go_ret
    all_goals exact ⟨by first | (rw [HRF.out]; done) | (rw [HRF.out]; rfl), HB1.out⟩
  have cc := HV1.out.1
  have dd := HV1.out.2.1
  have c0 := cc 0 (by simp)
  have d0 := dd 0 (by simp)
  have c1 := cc 1 (by simp)
  have d1 := dd 1 (by simp)
  have c2 := cc 2 (by simp)
  have d2 := dd 2 (by simp)
  have c3 := cc 3 (by simp)
  have d3 := dd 3 (by simp)
  have c4 := cc 4 (by simp)
  have d4 := dd 4 (by simp)
  have c5 := cc 5 (by simp)
  have d5 := dd 5 (by simp)
  have c6 := cc 6 (by simp)
  have d6 := dd 6 (by simp)
  have c7 := cc 7 (by simp)
  have d7 := dd 7 (by simp)
  have c8 := cc 8 (by simp)
  have d8 := dd 8 (by simp)
  have c9 := cc 9 (by simp)
  have d9 := dd 9 (by simp)
  have c10 := cc 10 (by simp)
  have d10 := dd 10 (by simp)
  have c11 := cc 11 (by simp)
  have d11 := dd 11 (by simp)
  simp only [Nat.zero_add, List.getElem_cons_zero, List.getElem_cons_succ] at c0 c1 c2 c3 c4 c5 c6 c7 c8 c9 c10 c11 d0 d1 d2 d3 d4 d5 d6 d7 d8 d9 d10 d11
  clear cc dd
  obtain ⟨r2, hr2⟩ : ∃ r, Hid (sameB x.rows y.rows = r) := ⟨_, rfl⟩
  go_wp2_with fail
  refine (imEqRowsC (imReC HI.out) (below_via H0.out HB1.out) rc rc' HX.out.1.rows HX.out.2.rows HM.out.1 HM.out.2).mono ?_
  rintro e w2 ⟨rfl, hb2⟩
  rw [hr2.out]
  have HB2 := hide (below_via HB1.out hb2)
  have HV2 := hide (And.intro (HV1.out.1.same (hb2.block va (by have := HV1.out.2.2; rw [hva.out]; rw [hvb.out] at this; omega))) (And.intro (HV1.out.2.1.same (hb2.block vb HV1.out.2.2)) (Nat.lt_of_lt_of_le HV1.out.2.2 hb2.size)))
  clear hb2 c0 c1 c2 c3 c4 c5 c6 c7 c8 c9 c10 c11 d0 d1 d2 d3 d4 d5 d6 d7 d8 d9 d10 d11
  cases r2
  · have HRF := hide (HR.out.symm.trans (sameB_ne (fun e => sameB_f hr2.out (by rw [e]))))
    go_wp2_with fail
    all_goals go_ret
    all_goals exact ⟨by first | (rw [HRF.out]; done) | (rw [HRF.out]; rfl), HB2.out⟩
  have cc := HV2.out.1
  have dd := HV2.out.2.1
  have c0 := cc 0 (by simp)
  have d0 := dd 0 (by simp)
  have c1 := cc 1 (by simp)
  have d1 := dd 1 (by simp)
  have c2 := cc 2 (by simp)
  have d2 := dd 2 (by simp)
  have c3 := cc 3 (by simp)
  have d3 := dd 3 (by simp)
  have c4 := cc 4 (by simp)
  have d4 := dd 4 (by simp)
  have c5 := cc 5 (by simp)
  have d5 := dd 5 (by simp)
  have c6 := cc 6 (by simp)
  have d6 := dd 6 (by simp)
  have c7 := cc 7 (by simp)
  have d7 := dd 7 (by simp)
  have c8 := cc 8 (by simp)
  have d8 := dd 8 (by simp)
  have c9 := cc 9 (by simp)
  have d9 := dd 9 (by simp)
  have c10 := cc 10 (by simp)
  have d10 := dd 10 (by simp)
  have c11 := cc 11 (by simp)
  have d11 := dd 11 (by simp)
  simp only [Nat.zero_add, List.getElem_cons_zero, List.getElem_cons_succ] at c0 c1 c2 c3 c4 c5 c6 c7 c8 c9 c10 c11 d0 d1 d2 d3 d4 d5 d6 d7 d8 d9 d10 d11
  clear cc dd
  obtain ⟨r3, hr3⟩ : ∃ r, Hid (sameB x.cols y.cols = r) := ⟨_, rfl⟩
  go_wp2_with fail
  refine (imEqStringsC (below_via H0.out HB2.out) cc cc' HX.out.1.cols HX.out.2.cols HM.out.1 HM.out.2).mono ?_
  rintro e w3 ⟨rfl, hb3⟩
  rw [hr3.out]
  have HB3 := hide (below_via HB2.out hb3)
  have HV3 := hide (And.intro (HV2.out.1.same (hb3.block va (by have := HV2.out.2.2; rw [hva.out]; rw [hvb.out] at this; omega))) (And.intro (HV2.out.2.1.same (hb3.block vb HV2.out.2.2)) (Nat.lt_of_lt_of_le HV2.out.2.2 hb3.size)))
  clear hb3 c0 c1 c2 c3 c4 c5 c6 c7 c8 c9 c10 c11 d0 d1 d2 d3 d4 d5 d6 d7 d8 d9 d10 d11
  cases r3
  · have HRF := hide (HR.out.symm.trans (sameB_ne (fun e => sameB_f hr3.out (by rw [e]))))
    go_wp2_with fail
    all_goals go_ret
    all_goals exact ⟨by first | (rw [HRF.out]; done) | (rw [HRF.out]; rfl), HB3.out⟩
  have cc := HV3.out.1
  have dd := HV3.out.2.1
  have c0 := cc 0 (by simp)
  have d0 := dd 0 (by simp)
  have c1 := cc 1 (by simp)
  have d1 := dd 1 (by simp)
  have c2 := cc 2 (by simp)
  have d2 := dd 2 (by simp)
  have c3 := cc 3 (by simp)
  have d3 := dd 3 (by simp)
  have c4 := cc 4 (by simp)
  have d4 := dd 4 (by simp)
  have c5 := cc 5 (by simp)
  have d5 := dd 5 (by simp)
  have c6 := cc 6 (by simp)
  have d6 := dd 6 (by simp)
  have c7 := cc 7 (by simp)
  have d7 := dd 7 (by simp)
  have c8 := cc 8 (by simp)
  have d8 := dd 8 (by simp)
  have c9 := cc 9 (by simp)
  have d9 := dd 9 (by simp)
  have c10 := cc 10 (by simp)
  have d10 := dd 10 (by simp)
  have c11 := cc 11 (by simp)
  have d11 := dd 11 (by simp)
  simp only [Nat.zero_add, List.getElem_cons_zero, List.getElem_cons_succ] at c0 c1 c2 c3 c4 c5 c6 c7 c8 c9 c10 c11 d0 d1 d2 d3 d4 d5 d6 d7 d8 d9 d10 d11
  clear cc dd
  obtain ⟨r4, hr4⟩ : ∃ r, Hid (sameB x.sets y.sets = r) := ⟨_, rfl⟩
  go_wp2_with fail
  refine (imSameExprsC HI.out (below_via H0.out HB3.out) tc tc' HX.out.1.sets HX.out.2.sets HM.out.1 HM.out.2).mono ?_
  rintro e w4 ⟨rfl, hb4⟩
  rw [hr4.out]
  have HB4 := hide (below_via HB3.out hb4)
  have HV4 := hide (And.intro (HV3.out.1.same (hb4.block va (by have := HV3.out.2.2; rw [hva.out]; rw [hvb.out] at this; omega))) (And.intro (HV3.out.2.1.same (hb4.block vb HV3.out.2.2)) (Nat.lt_of_lt_of_le HV3.out.2.2 hb4.size)))
  clear hb4 c0 c1 c2 c3 c4 c5 c6 c7 c8 c9 c10 c11 d0 d1 d2 d3 d4 d5 d6 d7 d8 d9 d10 d11
  cases r4
  · have HRF := hide (HR.out.symm.trans (sameB_ne (fun e => sameB_f hr4.out (by rw [e]))))
    go_wp2_with fail
    all_goals go_ret
    all_goals exact ⟨by first | (rw [HRF.out]; done) | (rw [HRF.out]; rfl), HB4.out⟩
  have cc := HV4.out.1
  have dd := HV4.out.2.1
  have c0 := cc 0 (by simp)
  have d0 := dd 0 (by simp)
  have c1 := cc 1 (by simp)
  have d1 := dd 1 (by simp)
  have c2 := cc 2 (by simp)
  have d2 := dd 2 (by simp)
  have c3 := cc 3 (by simp)
  have d3 := dd 3 (by simp)
  have c4 := cc 4 (by simp)
  have d4 := dd 4 (by simp)
  have c5 := cc 5 (by simp)
  have d5 := dd 5 (by simp)
  have c6 := cc 6 (by simp)
  have d6 := dd 6 (by simp)
  have c7 := cc 7 (by simp)
  have d7 := dd 7 (by simp)
  have c8 := cc 8 (by simp)
  have d8 := dd 8 (by simp)
  have c9 := cc 9 (by simp)
  have d9 := dd 9 (by simp)
  have c10 := cc 10 (by simp)
  have d10 := dd 10 (by simp)
  have c11 := cc 11 (by simp)
  have d11 := dd 11 (by simp)
  simp only [Nat.zero_add, List.getElem_cons_zero, List.getElem_cons_succ] at c0 c1 c2 c3 c4 c5 c6 c7 c8 c9 c10 c11 d0 d1 d2 d3 d4 d5 d6 d7 d8 d9 d10 d11
  clear cc dd
  obtain ⟨r5, hr5⟩ : ∃ r, Hid (sameB x.whr y.whr = r) := ⟨_, rfl⟩
  go_wp2_with fail
  refine (imSameExprsC HI.out (below_via H0.out HB4.out) hc hc' HX.out.1.whr HX.out.2.whr HM.out.1 HM.out.2).mono ?_
  rintro e w5 ⟨rfl, hb5⟩
  rw [hr5.out]
  have HB5 := hide (below_via HB4.out hb5)
  have HV5 := hide (And.intro (HV4.out.1.same (hb5.block va (by have := HV4.out.2.2; rw [hva.out]; rw [hvb.out] at this; omega))) (And.intro (HV4.out.2.1.same (hb5.block vb HV4.out.2.2)) (Nat.lt_of_lt_of_le HV4.out.2.2 hb5.size)))
  clear hb5 c0 c1 c2 c3 c4 c5 c6 c7 c8 c9 c10 c11 d0 d1 d2 d3 d4 d5 d6 d7 d8 d9 d10 d11
  cases r5
  · have HRF := hide (HR.out.symm.trans (sameB_ne (fun e => sameB_f hr5.out (by rw [e]))))
    go_wp2_with fail
    all_goals go_ret
    all_goals exact ⟨by first | (rw [HRF.out]; done) | (rw [HRF.out]; rfl), HB5.out⟩
  have HRT := hide (HR.out.symm.trans (sameB_eq (StF.eq_of E0.out E1.out (sameB_t hr1.out) (sameB_t hr2.out) (sameB_t hr3.out) (sameB_t hr4.out) (sameB_t hr5.out))))
  go_wp2_with fail
  all_goals go_ret
  all_goals exact ⟨by first | (rw [HRT.out]; done) | (rw [HRT.out]; rfl), HB5.out⟩

end Go.Proofs.Ytfpoakdmclekoaa
