/-
  SameExpr and SameQuery, in the reference.
-/
import Derived.Test.YtfpoakdmclekoaaRows
import Derived.WalkLawsBesides
import Derived.Deep.Light
import Derived.Laws.StructEq
import Derived.Test.YtfpoakdmclekoaaM1
import Derived.Test.YtfpoakdmclekoaaSame
import Derived.Test.YtfpoakdmclekoaaQ
namespace Go.Proofs.Ytfpoakdmclekoaa
open Go.RowKit

def SpEx (n : Nat) : Prop := ∀ (w0 w : World) (lo lo' M M' n' : Nat) (x y : Ex) (ka : Option Addr) (kc : Nat) (sa : Option Addr) (sc : Nat) (ka' : Option Addr) (kc' : Nat) (sa' : Option Addr) (sc' : Nat), Below w0.heap.size w0 w → ExB w0 lo M n x ka sa → ExB w0 lo' M' n' y ka' sa' → M ≤ 1048576 → M' ≤ 1048576 →
  Calls Try.prog 15 #[.agg #[.int .i64 x.f.kind, .int .i64 x.f.op, .bool x.f.neg, .int .i64 x.f.vk, .int .i64 x.f.vn, .string x.f.vt, .string x.f.qual, .string x.f.name, .slice ka x.f.kids.length kc, .slice sa x.f.sub.length sc], .agg #[.int .i64 y.f.kind, .int .i64 y.f.op, .bool y.f.neg, .int .i64 y.f.vk, .int .i64 y.f.vn, .string y.f.vt, .string y.f.qual, .string y.f.name, .slice ka' y.f.kids.length kc', .slice sa' y.f.sub.length sc']] w (fun e w' => e = .returned (.bool (sameB x y)) ∧ Below w.heap.size w w')

def SpQu (n : Nat) : Prop := ∀ (w0 w : World) (lo lo' M M' n' : Nat) (x y : QuF Ex) (ia : Option Addr) (ic : Nat) (fa : Option Addr) (fc : Nat) (wa : Option Addr) (wc : Nat) (oa : Option Addr) (oc : Nat) (ia' : Option Addr) (ic' : Nat) (fa' : Option Addr) (fc' : Nat) (wa' : Option Addr) (wc' : Nat) (oa' : Option Addr) (oc' : Nat), Below w0.heap.size w0 w → QuB w0 lo M (ExB w0 lo M n) x ia fa wa oa → QuB w0 lo' M' (ExB w0 lo' M' n') y ia' fa' wa' oa' → M ≤ 1048576 → M' ≤ 1048576 →
  Calls Try.prog 18 #[.agg #[.bool x.distinct, .slice ia x.items.length ic, .slice fa x.src.length fc, .slice wa x.whr.length wc, .slice oa x.ord.length oc, .int .i64 x.limit], .agg #[.bool y.distinct, .slice ia' y.items.length ic', .slice fa' y.src.length fc', .slice wa' y.whr.length wc', .slice oa' y.ord.length oc', .int .i64 y.limit]] w (fun e w' => e = .returned (.bool (sameB x y)) ∧ Below w.heap.size w w')

set_option maxRecDepth 100000 in
set_option maxHeartbeats 1600000 in
theorem spSameC {n n' : Nat} (IH : SpEx n) {w0 w : World} (h00 : Below w0.heap.size w0 w) {lo lo' M M' : Nat} {xs ys : List (Ex)} {a a' : Option Addr} (c c' : Nat) (h : RowP w0 lo M 10 (exC (ExB w0 lo M n)) xs a) (h' : RowP w0 lo' M' 10 (exC (ExB w0 lo' M' n')) ys a') (hM : M ≤ 1048576) (hM' : M' ≤ 1048576) :
    Calls Try.prog 44 #[.slice a xs.length c, .slice a' ys.length c'] w (fun e w' => e = .returned (.bool (sameB xs ys)) ∧ Below w.heap.size w w') := by
  obtain ⟨hlen, hrow⟩ := h
  obtain ⟨hlen', hrow'⟩ := h'
  have HI := hide IH
  have HM := hide (And.intro hM hM')
  have H0 := hide h00
  clear IH h00
  by_cases hl : xs.length = ys.length
  · obtain ⟨m, hm⟩ : ∃ m, Hid (xs.length = m) := ⟨_, rfl⟩
    have HL := hide hl
    rw [← hl, hm.out]
    have hlen2 : m ≤ 1048576 := by have := hm.out; omega
    clear hlen hlen' hM hM' hl
    rcases Nat.eq_zero_or_pos m with rfl | hpos
    · have HR := hide (sameB_eq (show xs = ys by have h1 := hm.out; have h2 := HL.out; rw [List.length_eq_zero_iff.1 h1, List.length_eq_zero_iff.1 (h2.symm.trans h1)]))
      rw [HR.out]
      clear hrow hrow'
      go_enter Try.func44, Try.ntmps44
      go_wp2_with fail
      refine wp_loop_rounds 1 ?_
      rw [rounds_succ]
      go_wp2_with fail
      go_ret
      exact ⟨rfl, by go_grown⟩
    · obtain ⟨b, o, rfl, hlo, hb, hel⟩ := hrow (by have := hm.out; omega)
      obtain ⟨b', o', rfl, hlo', hb', hel'⟩ := hrow' (by have := hm.out; have := HL.out; omega)
      have HE := hide (And.intro hlo (And.intro hb hel))
      have HE' := hide (And.intro hlo' (And.intro hb' hel'))
      clear hrow hlo hb hel hrow' hlo' hb' hel'
      obtain ⟨R, HR⟩ : ∃ R, Hid (sameB xs ys = R) := ⟨_, rfl⟩
      rw [HR.out]
      go_enter Try.func44, Try.ntmps44
      go_wp2_with fail
      go_loopw [5] (fun x wr => ∃ (j : Nat), x = .int .i64 j ∧ j ≤ m ∧ Hid (∀ i (h : i < xs.length) (h' : i < ys.length), i < j → xs[i] = ys[i]) ∧ Hid (Below w.heap.size w wr)) (fun x _ => m - (intOf x).toNat)
      case atStart => exact ⟨0, rfl, by omega, (fun i _ _ hi => absurd hi (by omega)), (show Below w.heap.size w _ by go_grown)⟩
      case round =>
        obtain ⟨j, rfl, hj, HJ, HB⟩ := hrel
        by_cases hlt : j < m
        · have hlt2 : (j : Int) < m := by omega
          have hjx : j < xs.length := by have := hm.out; omega
          have hjy : j < ys.length := by have := HL.out; omega
          obtain ⟨cs, ⟨ka, kc, sa, sc, rfl, hx⟩, hat⟩ := HE.out.2.2 j hjx
          obtain ⟨cs', ⟨ka', kc', sa', sc', rfl, hx'⟩, hat'⟩ := HE'.out.2.2 j hjy
          have HX := hide (And.intro hx hx')
          have H0B := below_via H0.out HB.out
          obtain ⟨c0, c1, c2, c3, c4, c5, c6, c7, c8, c9⟩ := ex_at (hat.same (H0B.block b HE.out.2.1))
          obtain ⟨d0, d1, d2, d3, d4, d5, d6, d7, d8, d9⟩ := ex_at (hat'.same (H0B.block b' HE'.out.2.1))
          have hL1 := Nat.lt_of_lt_of_le HE.out.2.1 H0B.size
          have hL2 := Nat.lt_of_lt_of_le HE'.out.2.1 H0B.size
          have HH := hide (And.intro hL1 hL2)
          have H0B2 := hide H0B
          clear hx hat hx' hat' H0B
          generalize hxe : xs[j] = x at HX c0 c1 c2 c3 c4 c5 c6 c7 c8 c9
          generalize hye : ys[j] = y at HX d0 d1 d2 d3 d4 d5 d6 d7 d8 d9
          have HXE := hide (And.intro hxe hye)
          clear hxe hye
          obtain ⟨r, hr⟩ : ∃ r, Hid (sameB x y = r) := ⟨_, rfl⟩
          clear hL1 hL2
          have e0 := BelowOf.cell c0 HH.out.1
          have f0 := BelowOf.cell d0 HH.out.2
          have e1 := BelowOf.cell c1 HH.out.1
          have f1 := BelowOf.cell d1 HH.out.2
          have e2 := BelowOf.cell c2 HH.out.1
          have f2 := BelowOf.cell d2 HH.out.2
          have e3 := BelowOf.cell c3 HH.out.1
          have f3 := BelowOf.cell d3 HH.out.2
          have e4 := BelowOf.cell c4 HH.out.1
          have f4 := BelowOf.cell d4 HH.out.2
          have e5 := BelowOf.cell c5 HH.out.1
          have f5 := BelowOf.cell d5 HH.out.2
          have e6 := BelowOf.cell c6 HH.out.1
          have f6 := BelowOf.cell d6 HH.out.2
          have e7 := BelowOf.cell c7 HH.out.1
          have f7 := BelowOf.cell d7 HH.out.2
          have e8 := BelowOf.cell c8 HH.out.1
          have f8 := BelowOf.cell d8 HH.out.2
          have e9 := BelowOf.cell c9 HH.out.1
          have f9 := BelowOf.cell d9 HH.out.2
          clear c0 c1 c2 c3 c4 c5 c6 c7 c8 c9 d0 d1 d2 d3 d4 d5 d6 d7 d8 d9
          have hC : ∀ W : BelowOf wr, Calls Try.prog 15 #[.agg #[.int .i64 x.f.kind, .int .i64 x.f.op, .bool x.f.neg, .int .i64 x.f.vk, .int .i64 x.f.vn, .string x.f.vt, .string x.f.qual, .string x.f.name, .slice ka x.f.kids.length kc, .slice sa x.f.sub.length sc], .agg #[.int .i64 y.f.kind, .int .i64 y.f.op, .bool y.f.neg, .int .i64 y.f.vk, .int .i64 y.f.vn, .string y.f.vt, .string y.f.qual, .string y.f.name, .slice ka' y.f.kids.length kc', .slice sa' y.f.sub.length sc']] W.world (fun e w' => e = .returned (.bool r) ∧ Below W.world.heap.size W.world w') := fun W => by
            rw [← hr.out]
            exact HI.out w0 _ lo lo' M M' n' x y _ _ _ _ _ _ _ _ (below_via H0B2.out W.h) HX.out.1 HX.out.2 HM.out.1 HM.out.2
          go_wp2_with fail
          refine wp_region_wq (by kernel_rfl) (by kernel_rfl) ?_
          repeat (refine WQ.step (fun K hK => ?_); go_simp; first | (refine hK _ ?_; clear hK K) | (apply Exists.intro; refine ⟨fun _ => ?_, hK _ ?_⟩; (exact Calls.below_of (hC _)); clear hK K))
          refine WQ.nil ?_
          intro W2 hq2
          have HB2 := hide (below_via HB.out (BelowOf.of hq2))
          clear hq2 hC e0 e1 e2 e3 e4 e5 e6 e7 e8 e9 f0 f1 f2 f3 f4 f5 f6 f7 f8 f9
          cases r
          · have HRF := hide (HR.out.symm.trans (sameB_ne (fun e => sameB_f hr.out (by rw [← HXE.out.1, ← HXE.out.2]; subst e; rfl))))
            go_wp2_with fail
            all_goals go_ret
            all_goals exact ⟨by first | (rw [HRF.out]; done) | (rw [HRF.out]; rfl), HB2.out⟩
          · have HJ2 := hide (show xs[j] = ys[j] by rw [HXE.out.1, HXE.out.2]; exact sameB_t hr.out)
            go_wp2_with fail
            go_roundw
            case rel =>
              refine ⟨j + 1, by go_num, by omega, ?_, HB2.out⟩
              show ∀ i (h : i < xs.length) (h' : i < ys.length), i < j + 1 → xs[i] = ys[i]
              intro i h h' hij
              by_cases e : i = j
              · subst e; exact HJ2.out
              · exact HJ.out i h h' (by omega)
            case measure => simp [intOf]; omega
        · have hlt2 : ¬ (j : Int) < m := by omega
          obtain rfl : j = m := by omega
          have HRT := hide (HR.out.symm.trans (sameB_eq (List.ext_getElem HL.out fun i h h' => HJ.out i h h' (by have := hm.out; omega))))
          go_wp2_with fail
          all_goals go_ret
          all_goals exact ⟨by first | (rw [HRT.out]; done) | (rw [HRT.out]; rfl), HB.out⟩
  · have HR := hide (sameB_ne (fun e : xs = ys => hl (by rw [e])))
    rw [HR.out]
    clear hrow hrow' HR hlen hlen' hM hM'
    generalize xs.length = m at hl ⊢
    generalize ys.length = m' at hl ⊢
    have hg := ne_int (show ¬ (m : Int) = m' by omega)
    obtain ⟨g1, g2⟩ := hg
    have hne : ¬ m = m' := hl
    clear hl
    go_enter Try.func44, Try.ntmps44
    go_wp2_with fail
    all_goals go_ret
    all_goals exact ⟨rfl, by go_grown⟩

set_option maxRecDepth 100000 in
set_option maxHeartbeats 6400000 in
theorem spQueryC {n : Nat} (IH : SpEx n) : SpQu n := by
  intro w0 w lo lo' M M' n' x y ia ic fa fc wa wc oa oc ia' ic' fa' fc' wa' wc' oa' oc' h00 hx hy hM hM'
  have HX := hide (And.intro hx hy)
  have HM := hide (And.intro hM hM')
  have H0 := hide h00
  have HI := hide IH
  have l1 := hx.items.1
  have l2 := hx.src.1
  have l4 := hx.ord.1
  clear IH h00 hx hy
  by_cases h0 : ¬ x.distinct = y.distinct
  · have HR := hide (sameB_ne (fun e : x = y => h0 (by rw [e])))
    rw [HR.out]
    obtain ⟨g1, g2⟩ := ne_bool h0
    clear h0 l1 l2 l4 hM hM'
    go_enter Try.func18, Try.ntmps18
    go_wp2_with fail
    all_goals go_ret
    all_goals exact ⟨rfl, by go_grown⟩
  have h0 := Classical.not_not.1 h0
  rw [← h0]
  have E0 := hide h0
  clear h0
  by_cases h1 : ¬ x.limit = y.limit
  · have HR := hide (sameB_ne (fun e : x = y => h1 (by rw [e])))
    rw [HR.out]
    obtain ⟨g1, g2⟩ := ne_int h1
    clear h1 l1 l2 l4 hM hM'
    go_enter Try.func18, Try.ntmps18
    go_wp2_with fail
    all_goals go_ret
    all_goals exact ⟨rfl, by go_grown⟩
  have h1 := Classical.not_not.1 h1
  rw [← h1]
  have E1 := hide h1
  clear h1
  by_cases k0 : ¬ x.items.length = y.items.length
  · have HR := hide (sameB_ne (fun e : x = y => k0 (by rw [e])))
    rw [HR.out]
    obtain ⟨g1, g2⟩ := ne_int (show ¬ (x.items.length : Int) = y.items.length by omega)
    have hne : ¬ x.items.length = y.items.length := k0
    clear HR k0 hM hM' l1 l2 l4
    go_enter Try.func18, Try.ntmps18
    go_wp2_with fail
    all_goals go_ret
    all_goals exact ⟨rfl, by go_grown⟩
  have k0 := Classical.not_not.1 k0
  rw [← k0]
  have F0 := hide k0
  clear k0
  by_cases k1 : ¬ x.src.length = y.src.length
  · have HR := hide (sameB_ne (fun e : x = y => k1 (by rw [e])))
    rw [HR.out]
    obtain ⟨g1, g2⟩ := ne_int (show ¬ (x.src.length : Int) = y.src.length by omega)
    have hne : ¬ x.src.length = y.src.length := k1
    clear HR k1 hM hM' l1 l2 l4
    go_enter Try.func18, Try.ntmps18
    go_wp2_with fail
    all_goals go_ret
    all_goals exact ⟨rfl, by go_grown⟩
  have k1 := Classical.not_not.1 k1
  rw [← k1]
  have F1 := hide k1
  clear k1
  by_cases k2 : ¬ x.ord.length = y.ord.length
  · have HR := hide (sameB_ne (fun e : x = y => k2 (by rw [e])))
    rw [HR.out]
    obtain ⟨g1, g2⟩ := ne_int (show ¬ (x.ord.length : Int) = y.ord.length by omega)
    have hne : ¬ x.ord.length = y.ord.length := k2
    clear HR k2 hM hM' l1 l2 l4
    go_enter Try.func18, Try.ntmps18
    go_wp2_with fail
    all_goals go_ret
    all_goals exact ⟨rfl, by go_grown⟩
  have k2 := Classical.not_not.1 k2
  rw [← k2]
  have F2 := hide k2
  clear k2
  obtain ⟨m1, hm0⟩ : ∃ m, Hid (x.items.length = m) := ⟨_, rfl⟩
  rw [hm0.out] at l1 ⊢
  obtain ⟨m2, hm1⟩ : ∃ m, Hid (x.src.length = m) := ⟨_, rfl⟩
  rw [hm1.out] at l2 ⊢
  obtain ⟨m4, hm2⟩ : ∃ m, Hid (x.ord.length = m) := ⟨_, rfl⟩
  rw [hm2.out] at l4 ⊢
  have b1 : m1 ≤ 1048576 := by omega
  have b2 : m2 ≤ 1048576 := by omega
  have b4 : m4 ≤ 1048576 := by omega
  clear l1 l2 l4 hM hM'
  obtain ⟨va, hva⟩ : ∃ va, Hid (va = w.heap.size) := ⟨_, rfl⟩
  obtain ⟨vb, hvb⟩ : ∃ vb, Hid (vb = w.heap.size + 1) := ⟨_, rfl⟩
  have hv := boxAt2 w [.bool x.distinct, .slice ia m1 ic, .slice fa m2 fc, .slice wa x.whr.length wc, .slice oa m4 oc, .int .i64 x.limit] [.bool x.distinct, .slice ia' m1 ic', .slice fa' m2 fc', .slice wa' y.whr.length wc', .slice oa' m4 oc', .int .i64 x.limit] 50 50
  rw [← hvb.out, ← hva.out] at hv
  have HV := hide hv
  clear hv
  obtain ⟨R, HR⟩ : ∃ R, Hid (sameB x y = R) := ⟨_, rfl⟩
  rw [HR.out]
  go_enter Try.func18, Try.ntmps18
  obtain ⟨r1, hr1⟩ : ∃ r, Hid (sameB x.whr y.whr = r) := ⟨_, rfl⟩
  go_wp2_with fail
  (try rw [← hvb.out, ← hva.out])
  refine (spSameC HI.out (below_via H0.out (by go_grown)) wc wc' HX.out.1.whr HX.out.2.whr HM.out.1 HM.out.2).mono ?_
  rintro e w1 ⟨rfl, hb1⟩
  rw [hr1.out]
  have HB1 := hide (below_via (show Below w.heap.size w _ by go_grown) hb1)
  have hva1 : va < w1.heap.size := Nat.lt_of_lt_of_le (by have := HV.out.2.2; rw [hva.out]; rw [hvb.out] at this; omega) hb1.size
  have HV1 := hide (And.intro (HV.out.1.same (hb1.block va (by have := HV.out.2.2; rw [hva.out]; rw [hvb.out] at this; omega))) (And.intro (HV.out.2.1.same (hb1.block vb HV.out.2.2)) (And.intro hva1 (Nat.lt_of_lt_of_le HV.out.2.2 hb1.size))))
  clear hb1 hva1
  cases r1
  · have HRF := hide (HR.out.symm.trans (sameB_ne (fun e => sameB_f hr1.out (by rw [e]))))
    go_wp2_with fail
    all_goals go_ret
    all_goals exact ⟨by first | (rw [HRF.out]; done) | (rw [HRF.out]; rfl), HB1.out⟩
  go_wp2_with fail
  go_loopw [5] (fun u wr => ∃ (j : Nat), u = .int .i64 j ∧ j ≤ m1 ∧ Hid (∀ i (h : i < x.items.length) (h' : i < y.items.length), i < j → x.items[i] = y.items[i]) ∧ Hid (Below w1.heap.size w1 wr)) (fun u _ => m1 - (intOf u).toNat)
  case atStart => exact ⟨0, rfl, by omega, (fun i _ _ hi => absurd hi (by omega)), (show Below w1.heap.size w1 _ by go_grown)⟩
  case round =>
    obtain ⟨j, rfl, hj, HJ, HB⟩ := hrel
    have HVq := hide (And.intro (HV1.out.1.same (HB.out.block va HV1.out.2.2.1)) (And.intro (HV1.out.2.1.same (HB.out.block vb HV1.out.2.2.2)) (And.intro (Nat.lt_of_lt_of_le HV1.out.2.2.1 HB.out.size) (Nat.lt_of_lt_of_le HV1.out.2.2.2 HB.out.size))))
    have HBq := hide (below_via HB1.out HB.out)
    have a9 := HVq.out.1 1 (by simp)
    have b9 := HVq.out.2.1 1 (by simp)
    simp only [Nat.zero_add, List.getElem_cons_zero, List.getElem_cons_succ] at a9 b9
    by_cases hlt : j < m1
    · have hlt2 : (j : Int) < m1 := by omega
      have hjx : j < x.items.length := by have := hm0.out; omega
      have hjy : j < y.items.length := by have := F0.out; omega
      obtain ⟨b, o, rfl, hlo, hb, hel⟩ := HX.out.1.items.2 (by omega)
      obtain ⟨b', o', rfl, hlo', hb', hel'⟩ := HX.out.2.items.2 (by omega)
      obtain ⟨cs, ⟨ka1, kc1, sa1, sc1, rfl, hx1⟩, hat⟩ := hel j hjx
      obtain ⟨cs', ⟨ka2, kc2, sa2, sc2, rfl, hy1⟩, hat'⟩ := hel' j hjy
      have HX1 := hide (And.intro hx1 hy1)
      have H0B := below_via H0.out HBq.out
      obtain ⟨c0, c1, c2, c3, c4, c5, c6, c7, c8, c9, c10, c11, c12⟩ := it_at (hat.same (H0B.block b hb))
      obtain ⟨d0, d1, d2, d3, d4, d5, d6, d7, d8, d9, d10, d11, d12⟩ := it_at (hat'.same (H0B.block b' hb'))
      have hL1 := Nat.lt_of_lt_of_le hb H0B.size
      have hL2 := Nat.lt_of_lt_of_le hb' H0B.size
      have H0B2 := hide H0B
      clear hx1 hat hy1 hat' H0B hel hel' hlo hlo' hb hb'
      generalize hxe : x.items[j] = x1 at HX1 c0 c1 c2 c3 c4 c5 c6 c7 c8 c9 c10 c11 c12
      generalize hye : y.items[j] = y1 at HX1 d0 d1 d2 d3 d4 d5 d6 d7 d8 d9 d10 d11 d12
      have HXE := hide (And.intro hxe hye)
      clear hxe hye
      have lva := HVq.out.2.2.1
      have lvb := HVq.out.2.2.2
      by_cases h0 : ¬ x1.star = y1.star
      · have HRF := hide (HR.out.symm.trans (sameB_ne (fun e : x = y => h0 (by have hh1 := HXE.out.1; have hh2 := HXE.out.2; subst e; rw [hh1] at hh2; rw [hh2]))))
        obtain ⟨g1, g2⟩ := ne_bool h0
        clear h0
        go_wp2_with fail
        all_goals go_ret
        all_goals exact ⟨by first | (rw [HRF.out]; done) | (rw [HRF.out]; rfl), (HBq.out.alloc HBq.out.size _).alloc (by simp; have := HBq.out.size; omega) _⟩
      have h0 := Classical.not_not.1 h0
      rw [← h0] at d0
      have E50 := hide h0
      clear h0
      by_cases h1 : ¬ x1.qual = y1.qual
      · have HRF := hide (HR.out.symm.trans (sameB_ne (fun e : x = y => h1 (by have hh1 := HXE.out.1; have hh2 := HXE.out.2; subst e; rw [hh1] at hh2; rw [hh2]))))
        obtain ⟨g1, g2⟩ := ne_bytes h1
        clear h1
        go_wp2_with fail
        all_goals go_ret
        all_goals exact ⟨by first | (rw [HRF.out]; done) | (rw [HRF.out]; rfl), (HBq.out.alloc HBq.out.size _).alloc (by simp; have := HBq.out.size; omega) _⟩
      have h1 := Classical.not_not.1 h1
      rw [← h1] at d1
      have E51 := hide h1
      clear h1
      by_cases h2 : ¬ x1.nm = y1.nm
      · have HRF := hide (HR.out.symm.trans (sameB_ne (fun e : x = y => h2 (by have hh1 := HXE.out.1; have hh2 := HXE.out.2; subst e; rw [hh1] at hh2; rw [hh2]))))
        obtain ⟨g1, g2⟩ := ne_bytes h2
        clear h2
        go_wp2_with fail
        all_goals go_ret
        all_goals exact ⟨by first | (rw [HRF.out]; done) | (rw [HRF.out]; rfl), (HBq.out.alloc HBq.out.size _).alloc (by simp; have := HBq.out.size; omega) _⟩
      have h2 := Classical.not_not.1 h2
      rw [← h2] at d12
      have E52 := hide h2
      clear h2
      obtain ⟨r, hr⟩ : ∃ r, Hid (sameB x1.e y1.e = r) := ⟨_, rfl⟩
      go_wp2_with fail
      refine (HI.out w0 _ lo lo' M M' n' x1.e y1.e ka1 kc1 sa1 sc1 ka2 kc2 sa2 sc2 (below_via H0B2.out (show Below wr.heap.size wr _ by go_grown)) HX1.out.1.2 HX1.out.2.2 HM.out.1 HM.out.2).mono ?_
      rintro e w2 ⟨rfl, hb2⟩
      rw [hr.out]
      have HB2 := hide (below_via HB.out (below_via (show Below wr.heap.size wr _ by go_grown) hb2))
      have HB3 := hide (below_via HB1.out HB2.out)
      clear hb2 hL1 hL2 lva lvb c0 c1 c2 c3 c4 c5 c6 c7 c8 c9 c10 c11 c12 d0 d1 d2 d3 d4 d5 d6 d7 d8 d9 d10 d11 d12 a9 b9
      cases r
      · have HRF := hide (HR.out.symm.trans (sameB_ne (fun e : x = y => sameB_f hr.out (by have hh1 := HXE.out.1; have hh2 := HXE.out.2; subst e; rw [hh1] at hh2; rw [hh2]))))
        go_wp2_with fail
        all_goals go_ret
        all_goals exact ⟨by first | (rw [HRF.out]; done) | (rw [HRF.out]; rfl), HB3.out⟩
      · have HJ2 := hide (show x.items[j] = y.items[j] by rw [HXE.out.1, HXE.out.2]; exact ItF.eq_of E50.out E51.out E52.out (sameB_t hr.out))
        go_wp2_with fail
        go_roundw
        case rel =>
          refine ⟨j + 1, by go_num, by omega, ?_, HB2.out⟩
          show ∀ i (h : i < x.items.length) (h' : i < y.items.length), i < j + 1 → x.items[i] = y.items[i]
          intro i h h' hij
          by_cases e : i = j
          · subst e; exact HJ2.out
          · exact HJ.out i h h' (by omega)
        case measure => simp [intOf]; omega
    · have hlt2 : ¬ (j : Int) < m1 := by omega
      have hjm : j = m1 := by omega
      have HQ1 := hide (show x.items = y.items from List.ext_getElem (by have h1 := hm0.out; have h2 := F0.out; omega) fun i h h' => HJ.out i h h' (by have := hm0.out; omega))
      clear hj hlt hjm
      go_wp2_with fail
      have HBA := HBq
      have HVA := HVq
      clear HBq HVq HB HJ a9 b9 hlt2
      obtain ⟨wA, rfl⟩ : ∃ wA : World, wA = wr := ⟨_, rfl⟩
      go_loopw [8] (fun u wr => ∃ (j : Nat), u = .int .i64 j ∧ j ≤ m2 ∧ Hid (∀ i (h : i < x.src.length) (h' : i < y.src.length), i < j → x.src[i] = y.src[i]) ∧ Hid (Below wA.heap.size wA wr)) (fun u _ => m2 - (intOf u).toNat)
      case atStart => exact ⟨0, rfl, by omega, (fun i _ _ hi => absurd hi (by omega)), (show Below wA.heap.size wA _ by go_grown)⟩
      case round =>
        obtain ⟨j, rfl, hj, HJ, HB⟩ := hrel
        have HVq := hide (And.intro (HVA.out.1.same (HB.out.block va HVA.out.2.2.1)) (And.intro (HVA.out.2.1.same (HB.out.block vb HVA.out.2.2.2)) (And.intro (Nat.lt_of_lt_of_le HVA.out.2.2.1 HB.out.size) (Nat.lt_of_lt_of_le HVA.out.2.2.2 HB.out.size))))
        have HBq := hide (below_via HBA.out HB.out)
        have a9 := HVq.out.1 2 (by simp)
        have b9 := HVq.out.2.1 2 (by simp)
        simp only [Nat.zero_add, List.getElem_cons_zero, List.getElem_cons_succ] at a9 b9
        by_cases hlt : j < m2
        · have hlt2 : (j : Int) < m2 := by omega
          have hjx : j < x.src.length := by have := hm1.out; omega
          have hjy : j < y.src.length := by have := F1.out; omega
          obtain ⟨b, o, rfl, hlo, hb, hel⟩ := HX.out.1.src.2 (by omega)
          obtain ⟨b', o', rfl, hlo', hb', hel'⟩ := HX.out.2.src.2 (by omega)
          obtain ⟨cs, ⟨oa1, oc1, rfl, hx1⟩, hat⟩ := hel j hjx
          obtain ⟨cs', ⟨oa2, oc2, rfl, hy1⟩, hat'⟩ := hel' j hjy
          have HX1 := hide (And.intro hx1 hy1)
          have H0B := below_via H0.out HBq.out
          obtain ⟨c0, c1, c2⟩ := so_at (hat.same (H0B.block b hb))
          obtain ⟨d0, d1, d2⟩ := so_at (hat'.same (H0B.block b' hb'))
          have hL1 := Nat.lt_of_lt_of_le hb H0B.size
          have hL2 := Nat.lt_of_lt_of_le hb' H0B.size
          have H0B2 := hide H0B
          clear hx1 hat hy1 hat' H0B hel hel' hlo hlo' hb hb'
          generalize hxe : x.src[j] = x1 at HX1 c0 c1 c2
          generalize hye : y.src[j] = y1 at HX1 d0 d1 d2
          have HXE := hide (And.intro hxe hye)
          clear hxe hye
          have lva := HVq.out.2.2.1
          have lvb := HVq.out.2.2.2
          by_cases h0 : ¬ x1.table = y1.table
          · have HRF := hide (HR.out.symm.trans (sameB_ne (fun e : x = y => h0 (by have hh1 := HXE.out.1; have hh2 := HXE.out.2; subst e; rw [hh1] at hh2; rw [hh2]))))
            obtain ⟨g1, g2⟩ := ne_bytes h0
            clear h0
            go_wp2_with fail
            all_goals go_ret
            all_goals exact ⟨by first | (rw [HRF.out]; done) | (rw [HRF.out]; rfl), (HBq.out.alloc HBq.out.size _).alloc (by simp; have := HBq.out.size; omega) _⟩
          have h0 := Classical.not_not.1 h0
          rw [← h0] at d0
          have E50 := hide h0
          clear h0
          by_cases h1 : ¬ x1.nm = y1.nm
          · have HRF := hide (HR.out.symm.trans (sameB_ne (fun e : x = y => h1 (by have hh1 := HXE.out.1; have hh2 := HXE.out.2; subst e; rw [hh1] at hh2; rw [hh2]))))
            obtain ⟨g1, g2⟩ := ne_bytes h1
            clear h1
            go_wp2_with fail
            all_goals go_ret
            all_goals exact ⟨by first | (rw [HRF.out]; done) | (rw [HRF.out]; rfl), (HBq.out.alloc HBq.out.size _).alloc (by simp; have := HBq.out.size; omega) _⟩
          have h1 := Classical.not_not.1 h1
          rw [← h1] at d1
          have E51 := hide h1
          clear h1
          obtain ⟨r, hr⟩ : ∃ r, Hid (sameB x1.on y1.on = r) := ⟨_, rfl⟩
          go_wp2_with fail
          refine (spSameC HI.out (below_via H0B2.out (show Below wr.heap.size wr _ by go_grown)) oc1 oc2 HX1.out.1.2 HX1.out.2.2 HM.out.1 HM.out.2).mono ?_
          rintro e w2 ⟨rfl, hb2⟩
          rw [hr.out]
          have HB2 := hide (below_via HB.out (below_via (show Below wr.heap.size wr _ by go_grown) hb2))
          have HB3 := hide (below_via HBA.out HB2.out)
          clear hb2 hL1 hL2 lva lvb c0 c1 c2 d0 d1 d2 a9 b9
          cases r
          · have HRF := hide (HR.out.symm.trans (sameB_ne (fun e : x = y => sameB_f hr.out (by have hh1 := HXE.out.1; have hh2 := HXE.out.2; subst e; rw [hh1] at hh2; rw [hh2]))))
            go_wp2_with fail
            all_goals go_ret
            all_goals exact ⟨by first | (rw [HRF.out]; done) | (rw [HRF.out]; rfl), HB3.out⟩
          · have HJ2 := hide (show x.src[j] = y.src[j] by rw [HXE.out.1, HXE.out.2]; exact SoF.eq_of E50.out E51.out (sameB_t hr.out))
            go_wp2_with fail
            go_roundw
            case rel =>
              refine ⟨j + 1, by go_num, by omega, ?_, HB2.out⟩
              show ∀ i (h : i < x.src.length) (h' : i < y.src.length), i < j + 1 → x.src[i] = y.src[i]
              intro i h h' hij
              by_cases e : i = j
              · subst e; exact HJ2.out
              · exact HJ.out i h h' (by omega)
            case measure => simp [intOf]; omega
        · have hlt2 : ¬ (j : Int) < m2 := by omega
          have hjm : j = m2 := by omega
          have HQ2 := hide (show x.src = y.src from List.ext_getElem (by have h1 := hm1.out; have h2 := F1.out; omega) fun i h h' => HJ.out i h h' (by have := hm1.out; omega))
          clear hj hlt hjm
          go_wp2_with fail
          have HBB := HBq
          have HVB := HVq
          clear HBq HVq HB HJ a9 b9 hlt2
          obtain ⟨wB, rfl⟩ : ∃ wB : World, wB = wr := ⟨_, rfl⟩
          go_loopw [11] (fun u wr => ∃ (j : Nat), u = .int .i64 j ∧ j ≤ m4 ∧ Hid (∀ i (h : i < x.ord.length) (h' : i < y.ord.length), i < j → x.ord[i] = y.ord[i]) ∧ Hid (Below wB.heap.size wB wr)) (fun u _ => m4 - (intOf u).toNat)
          case atStart => exact ⟨0, rfl, by omega, (fun i _ _ hi => absurd hi (by omega)), (show Below wB.heap.size wB _ by go_grown)⟩
          case round =>
            obtain ⟨j, rfl, hj, HJ, HB⟩ := hrel
            have HVq := hide (And.intro (HVB.out.1.same (HB.out.block va HVB.out.2.2.1)) (And.intro (HVB.out.2.1.same (HB.out.block vb HVB.out.2.2.2)) (And.intro (Nat.lt_of_lt_of_le HVB.out.2.2.1 HB.out.size) (Nat.lt_of_lt_of_le HVB.out.2.2.2 HB.out.size))))
            have HBq := hide (below_via HBB.out HB.out)
            have a9 := HVq.out.1 4 (by simp)
            have b9 := HVq.out.2.1 4 (by simp)
            simp only [Nat.zero_add, List.getElem_cons_zero, List.getElem_cons_succ] at a9 b9
            by_cases hlt : j < m4
            · have hlt2 : (j : Int) < m4 := by omega
              have hjx : j < x.ord.length := by have := hm2.out; omega
              have hjy : j < y.ord.length := by have := F2.out; omega
              obtain ⟨b, o, rfl, hlo, hb, hel⟩ := HX.out.1.ord.2 (by omega)
              obtain ⟨b', o', rfl, hlo', hb', hel'⟩ := HX.out.2.ord.2 (by omega)
              obtain ⟨cs, ⟨ka1, kc1, sa1, sc1, rfl, hx1⟩, hat⟩ := hel j hjx
              obtain ⟨cs', ⟨ka2, kc2, sa2, sc2, rfl, hy1⟩, hat'⟩ := hel' j hjy
              have HX1 := hide (And.intro hx1 hy1)
              have H0B := below_via H0.out HBq.out
              obtain ⟨c0, c1, c2, c3, c4, c5, c6, c7, c8, c9, c10⟩ := ke_at (hat.same (H0B.block b hb))
              obtain ⟨d0, d1, d2, d3, d4, d5, d6, d7, d8, d9, d10⟩ := ke_at (hat'.same (H0B.block b' hb'))
              have hL1 := Nat.lt_of_lt_of_le hb H0B.size
              have hL2 := Nat.lt_of_lt_of_le hb' H0B.size
              have H0B2 := hide H0B
              clear hx1 hat hy1 hat' H0B hel hel' hlo hlo' hb hb'
              generalize hxe : x.ord[j] = x1 at HX1 c0 c1 c2 c3 c4 c5 c6 c7 c8 c9 c10
              generalize hye : y.ord[j] = y1 at HX1 d0 d1 d2 d3 d4 d5 d6 d7 d8 d9 d10
              have HXE := hide (And.intro hxe hye)
              clear hxe hye
              have HLT := hide (And.intro hL1 hL2)
              clear hL1 hL2
              by_cases h0 : ¬ x1.desc = y1.desc
              · have HRF := hide (HR.out.symm.trans (sameB_ne (fun e : x = y => h0 (by have hh1 := HXE.out.1; have hh2 := HXE.out.2; subst e; rw [hh1] at hh2; rw [hh2]))))
                obtain ⟨g1, g2⟩ := ne_bool h0
                clear h0
                have e0 := BelowOf.cell c0 HLT.out.1
                have f0 := BelowOf.cell d0 HLT.out.2
                have e1 := BelowOf.cell c1 HLT.out.1
                have f1 := BelowOf.cell d1 HLT.out.2
                have e2 := BelowOf.cell c2 HLT.out.1
                have f2 := BelowOf.cell d2 HLT.out.2
                have e3 := BelowOf.cell c3 HLT.out.1
                have f3 := BelowOf.cell d3 HLT.out.2
                have e4 := BelowOf.cell c4 HLT.out.1
                have f4 := BelowOf.cell d4 HLT.out.2
                have e5 := BelowOf.cell c5 HLT.out.1
                have f5 := BelowOf.cell d5 HLT.out.2
                have e6 := BelowOf.cell c6 HLT.out.1
                have f6 := BelowOf.cell d6 HLT.out.2
                have e7 := BelowOf.cell c7 HLT.out.1
                have f7 := BelowOf.cell d7 HLT.out.2
                have e8 := BelowOf.cell c8 HLT.out.1
                have f8 := BelowOf.cell d8 HLT.out.2
                have e9 := BelowOf.cell c9 HLT.out.1
                have f9 := BelowOf.cell d9 HLT.out.2
                have e10 := BelowOf.cell c10 HLT.out.1
                have f10 := BelowOf.cell d10 HLT.out.2
                have e99 := BelowOf.cell a9 HVq.out.2.2.1
                have f99 := BelowOf.cell b9 HVq.out.2.2.2
                go_wp2_with fail
                refine wp_region_wq (by kernel_rfl) (by kernel_rfl) ?_
                repeat (refine WQ.step (fun K hK => ?_); go_simp; first | (refine hK _ ?_; clear hK K) | (apply Exists.intro; refine ⟨fun _ => ?_, hK _ ?_⟩; (fail); clear hK K))
                refine WQ.nil ?_
                intro W2 hq2
                have HB2 := hide (below_via HBq.out (BelowOf.of hq2))
                clear hq2 e99 f99 e0 e1 e2 e3 e4 e5 e6 e7 e8 e9 e10 f0 f1 f2 f3 f4 f5 f6 f7 f8 f9 f10 c0 c1 c2 c3 c4 c5 c6 c7 c8 c9 c10 d0 d1 d2 d3 d4 d5 d6 d7 d8 d9 d10 a9 b9
                go_wp2_with fail
                all_goals go_ret
                all_goals exact ⟨by first | (rw [HRF.out]; done) | (rw [HRF.out]; rfl), HB2.out⟩
              have h0 := Classical.not_not.1 h0
              rw [← h0] at d10
              have E50 := hide h0
              clear h0
              obtain ⟨r, hr⟩ : ∃ r, Hid (sameB x1.e y1.e = r) := ⟨_, rfl⟩
              have hC := fun (V : BelowOf wr) => HI.out w0 _ lo lo' M M' n' x1.e y1.e ka1 kc1 sa1 sc1 ka2 kc2 sa2 sc2 (below_via H0B2.out V.h) HX1.out.1 HX1.out.2 HM.out.1 HM.out.2
              rw [hr.out] at hC
              have e0 := BelowOf.cell c0 HLT.out.1
              have f0 := BelowOf.cell d0 HLT.out.2
              have e1 := BelowOf.cell c1 HLT.out.1
              have f1 := BelowOf.cell d1 HLT.out.2
              have e2 := BelowOf.cell c2 HLT.out.1
              have f2 := BelowOf.cell d2 HLT.out.2
              have e3 := BelowOf.cell c3 HLT.out.1
              have f3 := BelowOf.cell d3 HLT.out.2
              have e4 := BelowOf.cell c4 HLT.out.1
              have f4 := BelowOf.cell d4 HLT.out.2
              have e5 := BelowOf.cell c5 HLT.out.1
              have f5 := BelowOf.cell d5 HLT.out.2
              have e6 := BelowOf.cell c6 HLT.out.1
              have f6 := BelowOf.cell d6 HLT.out.2
              have e7 := BelowOf.cell c7 HLT.out.1
              have f7 := BelowOf.cell d7 HLT.out.2
              have e8 := BelowOf.cell c8 HLT.out.1
              have f8 := BelowOf.cell d8 HLT.out.2
              have e9 := BelowOf.cell c9 HLT.out.1
              have f9 := BelowOf.cell d9 HLT.out.2
              have e10 := BelowOf.cell c10 HLT.out.1
              have f10 := BelowOf.cell d10 HLT.out.2
              have e99 := BelowOf.cell a9 HVq.out.2.2.1
              have f99 := BelowOf.cell b9 HVq.out.2.2.2
              clear c0 c1 c2 c3 c4 c5 c6 c7 c8 c9 c10 d0 d1 d2 d3 d4 d5 d6 d7 d8 d9 d10
              go_wp2_with fail
              refine wp_region_wq (by kernel_rfl) (by kernel_rfl) ?_
              repeat (refine WQ.step (fun K hK => ?_); go_simp; first | (refine hK _ ?_; clear hK K) | (apply Exists.intro; refine ⟨fun _ => ?_, hK _ ?_⟩; (exact Calls.below_of (hC _)); clear hK K))
              refine WQ.nil ?_
              intro W2 hq2
              have HB2 := hide (below_via HB.out (BelowOf.of hq2))
              have HB3 := hide (below_via HBB.out HB2.out)
              clear hq2 hC e99 f99 e0 e1 e2 e3 e4 e5 e6 e7 e8 e9 e10 f0 f1 f2 f3 f4 f5 f6 f7 f8 f9 f10 a9 b9
              cases r
              · have HRF := hide (HR.out.symm.trans (sameB_ne (fun e : x = y => sameB_f hr.out (by have hh1 := HXE.out.1; have hh2 := HXE.out.2; subst e; rw [hh1] at hh2; rw [hh2]))))
                go_wp2_with fail
                all_goals go_ret
                all_goals exact ⟨by first | (rw [HRF.out]; done) | (rw [HRF.out]; rfl), HB3.out⟩
              · have HJ2 := hide (show x.ord[j] = y.ord[j] by rw [HXE.out.1, HXE.out.2]; exact KeF.eq_of E50.out (sameB_t hr.out))
                go_wp2_with fail
                go_roundw
                case rel =>
                  refine ⟨j + 1, by go_num, by omega, ?_, HB2.out⟩
                  show ∀ i (h : i < x.ord.length) (h' : i < y.ord.length), i < j + 1 → x.ord[i] = y.ord[i]
                  intro i h h' hij
                  by_cases e : i = j
                  · subst e; exact HJ2.out
                  · exact HJ.out i h h' (by omega)
                case measure => simp [intOf]; omega
            · have hlt2 : ¬ (j : Int) < m4 := by omega
              have hjm : j = m4 := by omega
              have HQ3 := hide (show x.ord = y.ord from List.ext_getElem (by have h1 := hm2.out; have h2 := F2.out; omega) fun i h h' => HJ.out i h h' (by have := hm2.out; omega))
              clear hj hlt hjm
              have HRT := hide (HR.out.symm.trans (sameB_eq (QuF.eq_of E0.out E1.out HQ1.out HQ2.out (sameB_t hr1.out) HQ3.out)))
              go_wp2_with fail
              all_goals go_ret
              all_goals exact ⟨by first | (rw [HRT.out]; done) | (rw [HRT.out]; rfl), HBq.out⟩

set_option maxRecDepth 100000 in
set_option maxHeartbeats 6400000 in
theorem spExprC {n : Nat} (IH : SpEx n) : SpEx (n + 1) := by
  intro w0 w lo lo' M M' n' x y ka kc sa sc ka' kc' sa' sc' h00 hx hy hM hM'
  obtain _ | n' := n'
  · exact hy.elim
  have HX := hide (And.intro hx hy)
  have HM := hide (And.intro hM hM')
  have H0 := hide h00
  have HI := hide IH
  have l1 := hx.2.2.1
  clear IH h00 hx hy
  by_cases h0 : ¬ x.f.kind = y.f.kind
  · have HR := hide (sameB_ne (fun e : x = y => h0 (by rw [e])))
    rw [HR.out]
    obtain ⟨g1, g2⟩ := ne_int h0
    clear h0 l1 hM hM'
    go_enter Try.func15, Try.ntmps15
    go_wp2_with fail
    all_goals go_ret
    all_goals exact ⟨rfl, by go_grown⟩
  have h0 := Classical.not_not.1 h0
  rw [← h0]
  have E0 := hide h0
  clear h0
  by_cases h1 : ¬ x.f.op = y.f.op
  · have HR := hide (sameB_ne (fun e : x = y => h1 (by rw [e])))
    rw [HR.out]
    obtain ⟨g1, g2⟩ := ne_int h1
    clear h1 l1 hM hM'
    go_enter Try.func15, Try.ntmps15
    go_wp2_with fail
    all_goals go_ret
    all_goals exact ⟨rfl, by go_grown⟩
  have h1 := Classical.not_not.1 h1
  rw [← h1]
  have E1 := hide h1
  clear h1
  by_cases h2 : ¬ x.f.neg = y.f.neg
  · have HR := hide (sameB_ne (fun e : x = y => h2 (by rw [e])))
    rw [HR.out]
    obtain ⟨g1, g2⟩ := ne_bool h2
    clear h2 l1 hM hM'
    go_enter Try.func15, Try.ntmps15
    go_wp2_with fail
    all_goals go_ret
    all_goals exact ⟨rfl, by go_grown⟩
  have h2 := Classical.not_not.1 h2
  rw [← h2]
  have E2 := hide h2
  clear h2
  by_cases h3 : ¬ x.f.vk = y.f.vk
  · have HR := hide (sameB_ne (fun e : x = y => h3 (by rw [e])))
    rw [HR.out]
    obtain ⟨g1, g2⟩ := ne_int h3
    clear h3 l1 hM hM'
    go_enter Try.func15, Try.ntmps15
    go_wp2_with fail
    all_goals go_ret
    all_goals exact ⟨rfl, by go_grown⟩
  have h3 := Classical.not_not.1 h3
  rw [← h3]
  have E3 := hide h3
  clear h3
  by_cases h4 : ¬ x.f.vn = y.f.vn
  · have HR := hide (sameB_ne (fun e : x = y => h4 (by rw [e])))
    rw [HR.out]
    obtain ⟨g1, g2⟩ := ne_int h4
    clear h4 l1 hM hM'
    go_enter Try.func15, Try.ntmps15
    go_wp2_with fail
    all_goals go_ret
    all_goals exact ⟨rfl, by go_grown⟩
  have h4 := Classical.not_not.1 h4
  rw [← h4]
  have E4 := hide h4
  clear h4
  by_cases h5 : ¬ x.f.vt = y.f.vt
  · have HR := hide (sameB_ne (fun e : x = y => h5 (by rw [e])))
    rw [HR.out]
    obtain ⟨g1, g2⟩ := ne_bytes h5
    clear h5 l1 hM hM'
    go_enter Try.func15, Try.ntmps15
    go_wp2_with fail
    all_goals go_ret
    all_goals exact ⟨rfl, by go_grown⟩
  have h5 := Classical.not_not.1 h5
  rw [← h5]
  have E5 := hide h5
  clear h5
  by_cases h6 : ¬ x.f.qual = y.f.qual
  · have HR := hide (sameB_ne (fun e : x = y => h6 (by rw [e])))
    rw [HR.out]
    obtain ⟨g1, g2⟩ := ne_bytes h6
    clear h6 l1 hM hM'
    go_enter Try.func15, Try.ntmps15
    go_wp2_with fail
    all_goals go_ret
    all_goals exact ⟨rfl, by go_grown⟩
  have h6 := Classical.not_not.1 h6
  rw [← h6]
  have E6 := hide h6
  clear h6
  by_cases h7 : ¬ x.f.name = y.f.name
  · have HR := hide (sameB_ne (fun e : x = y => h7 (by rw [e])))
    rw [HR.out]
    obtain ⟨g1, g2⟩ := ne_bytes h7
    clear h7 l1 hM hM'
    go_enter Try.func15, Try.ntmps15
    go_wp2_with fail
    all_goals go_ret
    all_goals exact ⟨rfl, by go_grown⟩
  have h7 := Classical.not_not.1 h7
  rw [← h7]
  have E7 := hide h7
  clear h7
  by_cases k0 : ¬ x.f.sub.length = y.f.sub.length
  · have HR := hide (sameB_ne (fun e : x = y => k0 (by rw [e])))
    rw [HR.out]
    obtain ⟨g1, g2⟩ := ne_int (show ¬ (x.f.sub.length : Int) = y.f.sub.length by omega)
    have hne : ¬ x.f.sub.length = y.f.sub.length := k0
    clear HR k0 hM hM' l1
    go_enter Try.func15, Try.ntmps15
    go_wp2_with fail
    all_goals go_ret
    all_goals exact ⟨rfl, by go_grown⟩
  have k0 := Classical.not_not.1 k0
  rw [← k0]
  have F0 := hide k0
  clear k0
  obtain ⟨m1, hm0⟩ : ∃ m, Hid (x.f.sub.length = m) := ⟨_, rfl⟩
  rw [hm0.out] at l1 ⊢
  have b1 : m1 ≤ 1048576 := by omega
  clear l1 hM hM'
  obtain ⟨va, hva⟩ : ∃ va, Hid (va = w.heap.size) := ⟨_, rfl⟩
  obtain ⟨vb, hvb⟩ : ∃ vb, Hid (vb = w.heap.size + 1) := ⟨_, rfl⟩
  have hv := boxAt2 w [.int .i64 x.f.kind, .int .i64 x.f.op, .bool x.f.neg, .int .i64 x.f.vk, .int .i64 x.f.vn, .string x.f.vt, .string x.f.qual, .string x.f.name, .slice ka x.f.kids.length kc, .slice sa m1 sc] [.int .i64 x.f.kind, .int .i64 x.f.op, .bool x.f.neg, .int .i64 x.f.vk, .int .i64 x.f.vn, .string x.f.vt, .string x.f.qual, .string x.f.name, .slice ka' y.f.kids.length kc', .slice sa' m1 sc'] 34 34
  rw [← hvb.out, ← hva.out] at hv
  have HV := hide hv
  clear hv
  obtain ⟨R, HR⟩ : ∃ R, Hid (sameB x y = R) := ⟨_, rfl⟩
  rw [HR.out]
  go_enter Try.func15, Try.ntmps15
  obtain ⟨r1, hr1⟩ : ∃ r, Hid (sameB x.f.kids y.f.kids = r) := ⟨_, rfl⟩
  go_wp2_with fail
  (try rw [← hvb.out, ← hva.out])
  refine (spSameC HI.out (below_via H0.out (by go_grown)) kc kc' HX.out.1.2.1 HX.out.2.2.1 HM.out.1 HM.out.2).mono ?_
  rintro e w1 ⟨rfl, hb1⟩
  rw [hr1.out]
  have HB1 := hide (below_via (show Below w.heap.size w _ by go_grown) hb1)
  have hva1 : va < w1.heap.size := Nat.lt_of_lt_of_le (by have := HV.out.2.2; rw [hva.out]; rw [hvb.out] at this; omega) hb1.size
  have HV1 := hide (And.intro (HV.out.1.same (hb1.block va (by have := HV.out.2.2; rw [hva.out]; rw [hvb.out] at this; omega))) (And.intro (HV.out.2.1.same (hb1.block vb HV.out.2.2)) (And.intro hva1 (Nat.lt_of_lt_of_le HV.out.2.2 hb1.size))))
  clear hb1 hva1
  cases r1
  · have HRF := hide (HR.out.symm.trans (sameB_ne (fun e => sameB_f hr1.out (by rw [e]))))
    go_wp2_with fail
    all_goals go_ret
    all_goals exact ⟨by first | (rw [HRF.out]; done) | (rw [HRF.out]; rfl), HB1.out⟩
  go_wp2_with fail
  go_loopw [5] (fun u wr => ∃ (j : Nat), u = .int .i64 j ∧ j ≤ m1 ∧ Hid (∀ i (h : i < x.f.sub.length) (h' : i < y.f.sub.length), i < j → x.f.sub[i] = y.f.sub[i]) ∧ Hid (Below w1.heap.size w1 wr)) (fun u _ => m1 - (intOf u).toNat)
  case atStart => exact ⟨0, rfl, by omega, (fun i _ _ hi => absurd hi (by omega)), (show Below w1.heap.size w1 _ by go_grown)⟩
  case round =>
    obtain ⟨j, rfl, hj, HJ, HB⟩ := hrel
    have HVq := hide (And.intro (HV1.out.1.same (HB.out.block va HV1.out.2.2.1)) (And.intro (HV1.out.2.1.same (HB.out.block vb HV1.out.2.2.2)) (And.intro (Nat.lt_of_lt_of_le HV1.out.2.2.1 HB.out.size) (Nat.lt_of_lt_of_le HV1.out.2.2.2 HB.out.size))))
    have HBq := hide (below_via HB1.out HB.out)
    have a9 := HVq.out.1 9 (by simp)
    have b9 := HVq.out.2.1 9 (by simp)
    simp only [Nat.zero_add, List.getElem_cons_zero, List.getElem_cons_succ] at a9 b9
    by_cases hlt : j < m1
    · have hlt2 : (j : Int) < m1 := by omega
      have hjx : j < x.f.sub.length := by have := hm0.out; omega
      have hjy : j < y.f.sub.length := by have := F0.out; omega
      obtain ⟨b, o, rfl, hlo, hb, hel⟩ := HX.out.1.2.2.2 (by omega)
      obtain ⟨b', o', rfl, hlo', hb', hel'⟩ := HX.out.2.2.2.2 (by omega)
      obtain ⟨cs, ⟨ia1, ic1, fa1, fc1, wa1, wc1, oa1, oc1, rfl, hx1⟩, hat⟩ := hel j hjx
      obtain ⟨cs', ⟨ia2, ic2, fa2, fc2, wa2, wc2, oa2, oc2, rfl, hy1⟩, hat'⟩ := hel' j hjy
      have HX1 := hide (And.intro hx1 hy1)
      have H0B := below_via H0.out HBq.out
      obtain ⟨c0, c1, c2, c3, c4, c5⟩ := qu_at (hat.same (H0B.block b hb))
      obtain ⟨d0, d1, d2, d3, d4, d5⟩ := qu_at (hat'.same (H0B.block b' hb'))
      have hL1 := Nat.lt_of_lt_of_le hb H0B.size
      have hL2 := Nat.lt_of_lt_of_le hb' H0B.size
      have H0B2 := hide H0B
      clear hx1 hat hy1 hat' H0B hel hel' hlo hlo' hb hb'
      generalize hxe : x.f.sub[j] = x1 at HX1 c0 c1 c2 c3 c4 c5
      generalize hye : y.f.sub[j] = y1 at HX1 d0 d1 d2 d3 d4 d5
      have HXE := hide (And.intro hxe hye)
      clear hxe hye
      have HLT := hide (And.intro hL1 hL2)
      clear hL1 hL2
      obtain ⟨r, hr⟩ : ∃ r, Hid (sameB x1 y1 = r) := ⟨_, rfl⟩
      have hC := fun (V : BelowOf wr) => spQueryC HI.out w0 _ lo lo' M M' n' x1 y1 ia1 ic1 fa1 fc1 wa1 wc1 oa1 oc1 ia2 ic2 fa2 fc2 wa2 wc2 oa2 oc2 (below_via H0B2.out V.h) HX1.out.1 HX1.out.2 HM.out.1 HM.out.2
      rw [hr.out] at hC
      have e0 := BelowOf.cell c0 HLT.out.1
      have f0 := BelowOf.cell d0 HLT.out.2
      have e1 := BelowOf.cell c1 HLT.out.1
      have f1 := BelowOf.cell d1 HLT.out.2
      have e2 := BelowOf.cell c2 HLT.out.1
      have f2 := BelowOf.cell d2 HLT.out.2
      have e3 := BelowOf.cell c3 HLT.out.1
      have f3 := BelowOf.cell d3 HLT.out.2
      have e4 := BelowOf.cell c4 HLT.out.1
      have f4 := BelowOf.cell d4 HLT.out.2
      have e5 := BelowOf.cell c5 HLT.out.1
      have f5 := BelowOf.cell d5 HLT.out.2
      have e99 := BelowOf.cell a9 HVq.out.2.2.1
      have f99 := BelowOf.cell b9 HVq.out.2.2.2
      clear c0 c1 c2 c3 c4 c5 d0 d1 d2 d3 d4 d5
      go_wp2_with fail
      refine wp_region_wq (by kernel_rfl) (by kernel_rfl) ?_
      repeat (refine WQ.step (fun K hK => ?_); go_simp; first | (refine hK _ ?_; clear hK K) | (apply Exists.intro; refine ⟨fun _ => ?_, hK _ ?_⟩; (exact Calls.below_of (hC _)); clear hK K))
      refine WQ.nil ?_
      intro W2 hq2
      have HB2 := hide (below_via HB.out (BelowOf.of hq2))
      have HB3 := hide (below_via HB1.out HB2.out)
      clear hq2 hC e99 f99 e0 e1 e2 e3 e4 e5 f0 f1 f2 f3 f4 f5 a9 b9
      cases r
      · have HRF := hide (HR.out.symm.trans (sameB_ne (fun e : x = y => sameB_f hr.out (by have hh1 := HXE.out.1; have hh2 := HXE.out.2; subst e; rw [hh1] at hh2; rw [hh2]))))
        go_wp2_with fail
        all_goals go_ret
        all_goals exact ⟨by first | (rw [HRF.out]; done) | (rw [HRF.out]; rfl), HB3.out⟩
      · have HJ2 := hide (show x.f.sub[j] = y.f.sub[j] by rw [HXE.out.1, HXE.out.2]; exact sameB_t hr.out)
        go_wp2_with fail
        go_roundw
        case rel =>
          refine ⟨j + 1, by go_num, by omega, ?_, HB2.out⟩
          show ∀ i (h : i < x.f.sub.length) (h' : i < y.f.sub.length), i < j + 1 → x.f.sub[i] = y.f.sub[i]
          intro i h h' hij
          by_cases e : i = j
          · subst e; exact HJ2.out
          · exact HJ.out i h h' (by omega)
        case measure => simp [intOf]; omega
    · have hlt2 : ¬ (j : Int) < m1 := by omega
      have hjm : j = m1 := by omega
      have HQ1 := hide (show x.f.sub = y.f.sub from List.ext_getElem (by have h1 := hm0.out; have h2 := F0.out; omega) fun i h h' => HJ.out i h h' (by have := hm0.out; omega))
      clear hj hlt hjm
      have HRT := hide (HR.out.symm.trans (sameB_eq (Ex.eq_of E0.out E1.out E2.out E3.out E4.out E5.out E6.out E7.out (sameB_t hr1.out) HQ1.out)))
      go_wp2_with fail
      all_goals go_ret
      all_goals exact ⟨by first | (rw [HRT.out]; done) | (rw [HRT.out]; rfl), HBq.out⟩

theorem spExprAll : ∀ n, SpEx n
  | 0 => fun _ _ _ _ _ _ _ _ _ _ _ _ _ _ _ _ _ _ h => h.elim
  | n + 1 => spExprC (spExprAll n)
end Go.Proofs.Ytfpoakdmclekoaa
