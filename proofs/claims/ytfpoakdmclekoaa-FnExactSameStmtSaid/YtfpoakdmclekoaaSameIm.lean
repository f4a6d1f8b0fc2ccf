/-
  SameExpr and its kin, in the program.
-/
import Derived.Test.YtfpoakdmclekoaaRows
import Derived.WalkLawsBesides
import Derived.Deep.Light
import Derived.Laws.StructEq
import Derived.Test.YtfpoakdmclekoaaM1
import Derived.Test.YtfpoakdmclekoaaSame
import Derived.Test.YtfpoakdmclekoaaQ
namespace Go.Proofs.Ytfpoakdmclekoaa
open Go.RowKit

def ImEx (n : Nat) : Prop := ∀ (w0 w : World) (lo lo' M M' n' : Nat) (x y : Ex) (ka : Option Addr) (kc : Nat) (sa : Option Addr) (sc : Nat) (ka' : Option Addr) (kc' : Nat) (sa' : Option Addr) (sc' : Nat), Below w0.heap.size w0 w → ExB w0 lo M n x ka sa → ExB w0 lo' M' n' y ka' sa' → M ≤ 1048576 → M' ≤ 1048576 →
  Calls Try.prog 16 #[.agg #[.int .i64 x.f.kind, .int .i64 x.f.op, .bool x.f.neg, .int .i64 x.f.vk, .int .i64 x.f.vn, .string x.f.vt, .string x.f.qual, .string x.f.name, .slice ka x.f.kids.length kc, .slice sa x.f.sub.length sc], .agg #[.int .i64 y.f.kind, .int .i64 y.f.op, .bool y.f.neg, .int .i64 y.f.vk, .int .i64 y.f.vn, .string y.f.vt, .string y.f.qual, .string y.f.name, .slice ka' y.f.kids.length kc', .slice sa' y.f.sub.length sc']] w (fun e w' => e = .returned (.bool (sameB x y)) ∧ Below w.heap.size w w')

def ImIt (n : Nat) : Prop := ∀ (w0 w : World) (lo lo' M M' n' : Nat) (x y : ItF Ex) (ka : Option Addr) (kc : Nat) (sa : Option Addr) (sc : Nat) (ka' : Option Addr) (kc' : Nat) (sa' : Option Addr) (sc' : Nat), Below w0.heap.size w0 w → (x.qual.size ≤ M ∧ x.nm.size ≤ M) ∧ ExB w0 lo M n x.e ka sa → (y.qual.size ≤ M' ∧ y.nm.size ≤ M') ∧ ExB w0 lo' M' n' y.e ka' sa' → M ≤ 1048576 → M' ≤ 1048576 →
  Calls Try.prog 53 #[.agg #[.bool x.star, .string x.qual, .int .i64 x.e.f.kind, .int .i64 x.e.f.op, .bool x.e.f.neg, .int .i64 x.e.f.vk, .int .i64 x.e.f.vn, .string x.e.f.vt, .string x.e.f.qual, .string x.e.f.name, .slice ka x.e.f.kids.length kc, .slice sa x.e.f.sub.length sc, .string x.nm], .agg #[.bool y.star, .string y.qual, .int .i64 y.e.f.kind, .int .i64 y.e.f.op, .bool y.e.f.neg, .int .i64 y.e.f.vk, .int .i64 y.e.f.vn, .string y.e.f.vt, .string y.e.f.qual, .string y.e.f.name, .slice ka' y.e.f.kids.length kc', .slice sa' y.e.f.sub.length sc', .string y.nm]] w (fun e w' => e = .returned (.bool (sameB x y)) ∧ Below w.heap.size w w')

def ImSo (n : Nat) : Prop := ∀ (w0 w : World) (lo lo' M M' n' : Nat) (x y : SoF Ex) (oa : Option Addr) (oc : Nat) (oa' : Option Addr) (oc' : Nat), Below w0.heap.size w0 w → (x.table.size ≤ M ∧ x.nm.size ≤ M) ∧ RowP w0 lo M 10 (exC (ExB w0 lo M n)) x.on oa → (y.table.size ≤ M' ∧ y.nm.size ≤ M') ∧ RowP w0 lo' M' 10 (exC (ExB w0 lo' M' n')) y.on oa' → M ≤ 1048576 → M' ≤ 1048576 →
  Calls Try.prog 54 #[.agg #[.string x.table, .string x.nm, .slice oa x.on.length oc], .agg #[.string y.table, .string y.nm, .slice oa' y.on.length oc']] w (fun e w' => e = .returned (.bool (sameB x y)) ∧ Below w.heap.size w w')

def ImKe (n : Nat) : Prop := ∀ (w0 w : World) (lo lo' M M' n' : Nat) (x y : KeF Ex) (ka : Option Addr) (kc : Nat) (sa : Option Addr) (sc : Nat) (ka' : Option Addr) (kc' : Nat) (sa' : Option Addr) (sc' : Nat), Below w0.heap.size w0 w → ExB w0 lo M n x.e ka sa → ExB w0 lo' M' n' y.e ka' sa' → M ≤ 1048576 → M' ≤ 1048576 →
  Calls Try.prog 55 #[.agg #[.int .i64 x.e.f.kind, .int .i64 x.e.f.op, .bool x.e.f.neg, .int .i64 x.e.f.vk, .int .i64 x.e.f.vn, .string x.e.f.vt, .string x.e.f.qual, .string x.e.f.name, .slice ka x.e.f.kids.length kc, .slice sa x.e.f.sub.length sc, .bool x.desc], .agg #[.int .i64 y.e.f.kind, .int .i64 y.e.f.op, .bool y.e.f.neg, .int .i64 y.e.f.vk, .int .i64 y.e.f.vn, .string y.e.f.vt, .string y.e.f.qual, .string y.e.f.name, .slice ka' y.e.f.kids.length kc', .slice sa' y.e.f.sub.length sc', .bool y.desc]] w (fun e w' => e = .returned (.bool (sameB x y)) ∧ Below w.heap.size w w')

def ImQu (n : Nat) : Prop := ∀ (w0 w : World) (lo lo' M M' n' : Nat) (x y : QuF Ex) (ia : Option Addr) (ic : Nat) (fa : Option Addr) (fc : Nat) (wa : Option Addr) (wc : Nat) (oa : Option Addr) (oc : Nat) (ia' : Option Addr) (ic' : Nat) (fa' : Option Addr) (fc' : Nat) (wa' : Option Addr) (wc' : Nat) (oa' : Option Addr) (oc' : Nat), Below w0.heap.size w0 w → QuB w0 lo M (ExB w0 lo M n) x ia fa wa oa → QuB w0 lo' M' (ExB w0 lo' M' n') y ia' fa' wa' oa' → M ≤ 1048576 → M' ≤ 1048576 →
  Calls Try.prog 20 #[.agg #[.bool x.distinct, .slice ia x.items.length ic, .slice fa x.src.length fc, .slice wa x.whr.length wc, .slice oa x.ord.length oc, .int .i64 x.limit], .agg #[.bool y.distinct, .slice ia' y.items.length ic', .slice fa' y.src.length fc', .slice wa' y.whr.length wc', .slice oa' y.ord.length oc', .int .i64 y.limit]] w (fun e w' => e = .returned (.bool (sameB x y)) ∧ Below w.heap.size w w')

set_option maxRecDepth 100000 in
set_option maxHeartbeats 1600000 in
theorem imEqExprC {n n' : Nat} (IH : ImEx n) {w0 w : World} (h00 : Below w0.heap.size w0 w) {lo lo' M M' : Nat} {xs ys : List (Ex)} {a a' : Option Addr} (c c' : Nat) (h : RowP w0 lo M 10 (exC (ExB w0 lo M n)) xs a) (h' : RowP w0 lo' M' 10 (exC (ExB w0 lo' M' n')) ys a') (hM : M ≤ 1048576) (hM' : M' ≤ 1048576) :
    Calls Try.prog 72 #[.slice a xs.length c, .slice a' ys.length c', .func (.func 16) #[] #[]] w (fun e w' => e = .returned (.bool (sameB xs ys)) ∧ Below w.heap.size w w') := by
  obtain ⟨hlen, hrow⟩ := h
  obtain ⟨hlen', hrow'⟩ := h'
  have HI := hide IH
  have HM := hide (And.intro hM hM')
  have H0 := hide h00
  clear IH h00
  by_cases hl : xs.length = ys.length
  · obtain ⟨m, hm⟩ : ∃ m, Hid (xs.length = m) := ⟨_, rfl⟩
    have HL := hide hl
    rw [← hl, hm.out]
    have hlen2 : m ≤ 1048576 := by have := hm.out; omega
    clear hlen hlen' hM hM' hl
    rcases Nat.eq_zero_or_pos m with rfl | hpos
    · have HR := hide (sameB_eq (show xs = ys by have h1 := hm.out; have h2 := HL.out; rw [List.length_eq_zero_iff.1 h1, List.length_eq_zero_iff.1 (h2.symm.trans h1)]))
      rw [HR.out]
      clear hrow hrow'
      go_enter Try.func72, Try.ntmps72
      go_wp2_with fail
      refine wp_loop_rounds 1 ?_
      rw [rounds_succ]
      go_wp2_with fail
      go_ret
      exact ⟨rfl, by go_grown⟩
    · obtain ⟨b, o, rfl, hlo, hb, hel⟩ := hrow (by have := hm.out; omega)
      obtain ⟨b', o', rfl, hlo', hb', hel'⟩ := hrow' (by have := hm.out; have := HL.out; omega)
      have HE := hide (And.intro hlo (And.intro hb hel))
      have HE' := hide (And.intro hlo' (And.intro hb' hel'))
      clear hrow hlo hb hel hrow' hlo' hb' hel'
      obtain ⟨R, HR⟩ : ∃ R, Hid (sameB xs ys = R) := ⟨_, rfl⟩
      rw [HR.out]
      go_enter Try.func72, Try.ntmps72
      go_wp2_with fail
      go_loopw [17] (fun x wr => ∃ (j : Nat), x = .int .i64 j ∧ j ≤ m ∧ Hid (∀ i (h : i < xs.length) (h' : i < ys.length), i < j → xs[i] = ys[i]) ∧ Hid (Below w.heap.size w wr)) (fun x _ => m - (intOf x).toNat)
      case atStart => exact ⟨0, rfl, by omega, (fun i _ _ hi => absurd hi (by omega)), (show Below w.heap.size w _ by go_grown)⟩
      case round =>
        obtain ⟨j, rfl, hj, HJ, HB⟩ := hrel
        by_cases hlt : j < m
        · have hlt2 : (j : Int) < m := by omega
          have hjx : j < xs.length := by have := hm.out; omega
          have hjy : j < ys.length := by have := HL.out; omega
          obtain ⟨cs, ⟨ka, kc, sa, sc, rfl, hx⟩, hat⟩ := HE.out.2.2 j hjx
          obtain ⟨cs', ⟨ka', kc', sa', sc', rfl, hx'⟩, hat'⟩ := HE'.out.2.2 j hjy
          have HX := hide (And.intro hx hx')
          have H0B := below_via H0.out HB.out
          obtain ⟨c0, c1, c2, c3, c4, c5, c6, c7, c8, c9⟩ := ex_at (hat.same (H0B.block b HE.out.2.1))
          obtain ⟨d0, d1, d2, d3, d4, d5, d6, d7, d8, d9⟩ := ex_at (hat'.same (H0B.block b' HE'.out.2.1))
          have hL1 := Nat.lt_of_lt_of_le HE.out.2.1 H0B.size
          have hL2 := Nat.lt_of_lt_of_le HE'.out.2.1 H0B.size
          have HH := hide (And.intro hL1 hL2)
          have H0B2 := hide H0B
          clear hx hat hx' hat' H0B
          generalize hxe : xs[j] = x at HX c0 c1 c2 c3 c4 c5 c6 c7 c8 c9
          generalize hye : ys[j] = y at HX d0 d1 d2 d3 d4 d5 d6 d7 d8 d9
          have HXE := hide (And.intro hxe hye)
          clear hxe hye
          obtain ⟨r, hr⟩ : ∃ r, Hid (sameB x y = r) := ⟨_, rfl⟩
          go_wp2_with fail
          refine (HI.out w0 _ lo lo' M M' n' x y _ _ _ _ _ _ _ _ (below_via H0B2.out (show Below wr.heap.size wr _ by go_grown)) HX.out.1 HX.out.2 HM.out.1 HM.out.2).mono ?_
          rintro e w2 ⟨rfl, hb2⟩
          rw [hr.out]
          have HB2 := hide (below_via HB.out (below_via (show Below wr.heap.size wr _ by go_grown) hb2))
          clear hb2 hL1 hL2 c0 c1 c2 c3 c4 c5 c6 c7 c8 c9 d0 d1 d2 d3 d4 d5 d6 d7 d8 d9
          cases r
          · have HRF := hide (HR.out.symm.trans (sameB_ne (fun e => sameB_f hr.out (by rw [← HXE.out.1, ← HXE.out.2]; subst e; rfl))))
            go_wp2_with fail
            all_goals go_ret
            all_goals exact ⟨by first | (rw [HRF.out]; done) | (rw [HRF.out]; rfl), HB2.out⟩
          · have HJ2 := hide (show xs[j] = ys[j] by rw [HXE.out.1, HXE.out.2]; exact sameB_t hr.out)
            go_wp2_with fail
            go_roundw
            case rel =>
              refine ⟨j + 1, by go_num, by omega, ?_, HB2.out⟩
              show ∀ i (h : i < xs.length) (h' : i < ys.length), i < j + 1 → xs[i] = ys[i]
              intro i h h' hij
              by_cases e : i = j
              · subst e; exact HJ2.out
              · exact HJ.out i h h' (by omega)
            case measure => simp [intOf]; omega
        · have hlt2 : ¬ (j : Int) < m := by omega
          obtain rfl : j = m := by omega
          have HRT := hide (HR.out.symm.trans (sameB_eq (List.ext_getElem HL.out fun i h h' => HJ.out i h h' (by have := hm.out; omega))))
          go_wp2_with fail
          all_goals go_ret
          all_goals exact ⟨by first | (rw [HRT.out]; done) | (rw [HRT.out]; rfl), HB.out⟩
  · have HR := hide (sameB_ne (fun e : xs = ys => hl (by rw [e])))
    rw [HR.out]
    clear hrow hrow' HR hlen hlen' hM hM'
    generalize xs.length = m at hl ⊢
    generalize ys.length = m' at hl ⊢
    have hg := ne_int (show ¬ (m : Int) = m' by omega)
    obtain ⟨g1, g2⟩ := hg
    have hne : ¬ m = m' := hl
    clear hl
    go_enter Try.func72, Try.ntmps72
    go_wp2_with fail
    all_goals go_ret
    all_goals exact ⟨rfl, by go_grown⟩

theorem imSameExprsC {n n' : Nat} (IH : ImEx n) {w0 w : World} (h00 : Below w0.heap.size w0 w) {lo lo' M M' : Nat} {xs ys : List Ex} {a a' : Option Addr} (c c' : Nat) (h : RowP w0 lo M 10 (exC (ExB w0 lo M n)) xs a) (h' : RowP w0 lo' M' 10 (exC (ExB w0 lo' M' n')) ys a') (hM : M ≤ 1048576) (hM' : M' ≤ 1048576) :
    Calls Try.prog 45 #[.slice a xs.length c, .slice a' ys.length c'] w (fun e w' => e = .returned (.bool (sameB xs ys)) ∧ Below w.heap.size w w') := by
  have HC := hide (imEqExprC IH h00 c c' h h' hM hM')
  clear h h' hM hM' IH h00
  generalize xs.length = m at HC ⊢
  generalize ys.length = m' at HC ⊢
  go_enter Try.func45, Try.ntmps45
  go_wp2_with fail
  refine HC.out.mono ?_
  rintro e w1 ⟨rfl, hb⟩
  go_wp2_with fail
  go_ret
  exact ⟨rfl, hb⟩

set_option maxRecDepth 100000 in
set_option maxHeartbeats 1600000 in
theorem imItemC {n : Nat} (IH : ImEx n) : ImIt n := by
  intro w0 w lo lo' M M' n' x y ka kc sa sc ka' kc' sa' sc' h00 hx hy hM hM'
  have HX := hide (And.intro hx hy)
  have HM := hide (And.intro hM hM')
  have H0 := hide h00
  have HI := hide IH
  clear IH h00 hx hy hM hM'
  by_cases h0 : ¬ x.star = y.star
  · have HR := hide (sameB_ne (fun e : x = y => h0 (by rw [e])))
    rw [HR.out]
    obtain ⟨g1, g2⟩ := ne_bool h0
    clear h0
    go_enter Try.func53, Try.ntmps53
    go_wp2_with fail
    all_goals go_ret
    all_goals exact ⟨rfl, by go_grown⟩
  have h0 := Classical.not_not.1 h0
  rw [← h0]
  have E0 := hide h0
  clear h0
  by_cases h1 : ¬ x.qual = y.qual
  · have HR := hide (sameB_ne (fun e : x = y => h1 (by rw [e])))
    rw [HR.out]
    obtain ⟨g1, g2⟩ := ne_bytes h1
    clear h1
    go_enter Try.func53, Try.ntmps53
    go_wp2_with fail
    all_goals go_ret
    all_goals exact ⟨rfl, by go_grown⟩
  have h1 := Classical.not_not.1 h1
  rw [← h1]
  have E1 := hide h1
  clear h1
  by_cases h2 : ¬ x.nm = y.nm
  · have HR := hide (sameB_ne (fun e : x = y => h2 (by rw [e])))
    rw [HR.out]
    obtain ⟨g1, g2⟩ := ne_bytes h2
    clear h2
    go_enter Try.func53, Try.ntmps53
    go_wp2_with fail
    all_goals go_ret
    all_goals exact ⟨rfl, by go_grown⟩
  have h2 := Classical.not_not.1 h2
  rw [← h2]
  have E2 := hide h2
  clear h2
  obtain ⟨va, hva⟩ : ∃ va, Hid (va = w.heap.size) := ⟨_, rfl⟩
  obtain ⟨vb, hvb⟩ : ∃ vb, Hid (vb = w.heap.size + 1) := ⟨_, rfl⟩
  have hv := boxAt2 w [.bool x.star, .string x.qual, .int .i64 x.e.f.kind, .int .i64 x.e.f.op, .bool x.e.f.neg, .int .i64 x.e.f.vk, .int .i64 x.e.f.vn, .string x.e.f.vt, .string x.e.f.qual, .string x.e.f.name, .slice ka x.e.f.kids.length kc, .slice sa x.e.f.sub.length sc, .string x.nm] [.bool x.star, .string x.qual, .int .i64 y.e.f.kind, .int .i64 y.e.f.op, .bool y.e.f.neg, .int .i64 y.e.f.vk, .int .i64 y.e.f.vn, .string y.e.f.vt, .string y.e.f.qual, .string y.e.f.name, .slice ka' y.e.f.kids.length kc', .slice sa' y.e.f.sub.length sc', .string x.nm] 88 88
  rw [← hvb.out, ← hva.out] at hv
  have HV := hide hv
  clear hv
  obtain ⟨R, HR⟩ : ∃ R, Hid (sameB x y = R) := ⟨_, rfl⟩
  rw [HR.out]
  go_enter Try.func53, Try.ntmps53
  obtain ⟨r1, hr1⟩ : ∃ r, Hid (sameB x.e y.e = r) := ⟨_, rfl⟩
  go_wp2_with fail
  (try rw [← hvb.out, ← hva.out])
  refine (HI.out w0 _ lo lo' M M' n' x.e y.e ka kc sa sc ka' kc' sa' sc' (below_via H0.out (by go_grown)) HX.out.1.2 HX.out.2.2 HM.out.1 HM.out.2).mono ?_
  rintro e w1 ⟨rfl, hb1⟩
  rw [hr1.out]
  have HB1 := hide (below_via (show Below w.heap.size w _ by go_grown) hb1)
  have HV1 := hide (And.intro (HV.out.1.same (hb1.block va (by have := HV.out.2.2; rw [hva.out]; rw [hvb.out] at this; omega))) (And.intro (HV.out.2.1.same (hb1.block vb HV.out.2.2)) (Nat.lt_of_lt_of_le HV.out.2.2 hb1.size)))
  clear hb1
  cases r1
  · have HRF := hide (HR.out.symm.trans (sameB_ne (fun e => sameB_f hr1.out (by rw [e]))))
    go_wp2_with fail
    all_goals go_ret
    all_goals exact ⟨by first | (rw [HRF.out]; done) | (rw [HRF.out]; rfl), HB1.out⟩
  have HRT := hide (HR.out.symm.trans (sameB_eq (ItF.eq_of E0.out E1.out E2.out (sameB_t hr1.out))))
  go_wp2_with fail
  all_goals go_ret
  all_goals exact ⟨by first | (rw [HRT.out]; done) | (rw [HRT.out]; rfl), HB1.out⟩

set_option maxRecDepth 100000 in
set_option maxHeartbeats 1600000 in
theorem imSourceC {n : Nat} (IH : ImEx n) : ImSo n := by
  intro w0 w lo lo' M M' n' x y oa oc oa' oc' h00 hx hy hM hM'
  have HX := hide (And.intro hx hy)
  have HM := hide (And.intro hM hM')
  have H0 := hide h00
  have HI := hide IH
  clear IH h00 hx hy hM hM'
  by_cases h0 : ¬ x.table = y.table
  · have HR := hide (sameB_ne (fun e : x = y => h0 (by rw [e])))
    rw [HR.out]
    obtain ⟨g1, g2⟩ := ne_bytes h0
    clear h0
    go_enter Try.func54, Try.ntmps54
    go_wp2_with fail
    all_goals go_ret
    all_goals exact ⟨rfl, by go_grown⟩
  have h0 := Classical.not_not.1 h0
  rw [← h0]
  have E0 := hide h0
  clear h0
  by_cases h1 : ¬ x.nm = y.nm
  · have HR := hide (sameB_ne (fun e : x = y => h1 (by rw [e])))
    rw [HR.out]
    obtain ⟨g1, g2⟩ := ne_bytes h1
    clear h1
    go_enter Try.func54, Try.ntmps54
    go_wp2_with fail
    all_goals go_ret
    all_goals exact ⟨rfl, by go_grown⟩
  have h1 := Classical.not_not.1 h1
  rw [← h1]
  have E1 := hide h1
  clear h1
  obtain ⟨va, hva⟩ : ∃ va, Hid (va = w.heap.size) := ⟨_, rfl⟩
  obtain ⟨vb, hvb⟩ : ∃ vb, Hid (vb = w.heap.size + 1) := ⟨_, rfl⟩
  have hv := boxAt2 w [.string x.table, .string x.nm, .slice oa x.on.length oc] [.string x.table, .string x.nm, .slice oa' y.on.length oc'] 90 90
  rw [← hvb.out, ← hva.out] at hv
  have HV := hide hv
  clear hv
  obtain ⟨R, HR⟩ : ∃ R, Hid (sameB x y = R) := ⟨_, rfl⟩
  rw [HR.out]
  go_enter Try.func54, Try.ntmps54
  obtain ⟨r1, hr1⟩ : ∃ r, Hid (sameB x.on y.on = r) := ⟨_, rfl⟩
  go_wp2_with fail
  (try rw [← hvb.out, ← hva.out])
  refine (imSameExprsC HI.out (below_via H0.out (by go_grown)) oc oc' HX.out.1.2 HX.out.2.2 HM.out.1 HM.out.2).mono ?_
  rintro e w1 ⟨rfl, hb1⟩
  rw [hr1.out]
  have HB1 := hide (below_via (show Below w.heap.size w _ by go_grown) hb1)
  have HV1 := hide (And.intro (HV.out.1.same (hb1.block va (by have := HV.out.2.2; rw [hva.out]; rw [hvb.out] at this; omega))) (And.intro (HV.out.2.1.same (hb1.block vb HV.out.2.2)) (Nat.lt_of_lt_of_le HV.out.2.2 hb1.size)))
  clear hb1
  cases r1
  · have HRF := hide (HR.out.symm.trans (sameB_ne (fun e => sameB_f hr1.out (by rw [e]))))
    go_wp2_with fail
    all_goals go_ret
    all_goals exact ⟨by first | (rw [HRF.out]; done) | (rw [HRF.out]; rfl), HB1.out⟩
  have HRT := hide (HR.out.symm.trans (sameB_eq (SoF.eq_of E0.out E1.out (sameB_t hr1.out))))
  go_wp2_with fail
  all_goals go_ret
  all_goals exact ⟨by first | (rw [HRT.out]; done) | (rw [HRT.out]; rfl), HB1.out⟩

set_option maxRecDepth 100000 in
set_option maxHeartbeats 1600000 in
theorem imSortKeyC {n : Nat} (IH : ImEx n) : ImKe n := by
  intro w0 w lo lo' M M' n' x y ka kc sa sc ka' kc' sa' sc' h00 hx hy hM hM'
  have HX := hide (And.intro hx hy)
  have HM := hide (And.intro hM hM')
  have H0 := hide h00
  have HI := hide IH
  clear IH h00 hx hy hM hM'
  by_cases h0 : ¬ x.desc = y.desc
  · have HR := hide (sameB_ne (fun e : x = y => h0 (by rw [e])))
    rw [HR.out]
    obtain ⟨g1, g2⟩ := ne_bool h0
    clear h0
    go_enter Try.func55, Try.ntmps55
    go_wp2_with fail
    all_goals go_ret
    all_goals exact ⟨rfl, by go_grown⟩
  have h0 := Classical.not_not.1 h0
  rw [← h0]
  have E0 := hide h0
  clear h0
  obtain ⟨va, hva⟩ : ∃ va, Hid (va = w.heap.size) := ⟨_, rfl⟩
  obtain ⟨vb, hvb⟩ : ∃ vb, Hid (vb = w.heap.size + 1) := ⟨_, rfl⟩
  have hv := boxAt2 w [.int .i64 x.e.f.kind, .int .i64 x.e.f.op, .bool x.e.f.neg, .int .i64 x.e.f.vk, .int .i64 x.e.f.vn, .string x.e.f.vt, .string x.e.f.qual, .string x.e.f.name, .slice ka x.e.f.kids.length kc, .slice sa x.e.f.sub.length sc, .bool x.desc] [.int .i64 y.e.f.kind, .int .i64 y.e.f.op, .bool y.e.f.neg, .int .i64 y.e.f.vk, .int .i64 y.e.f.vn, .string y.e.f.vt, .string y.e.f.qual, .string y.e.f.name, .slice ka' y.e.f.kids.length kc', .slice sa' y.e.f.sub.length sc', .bool x.desc] 92 92
  rw [← hvb.out, ← hva.out] at hv
  have HV := hide hv
  clear hv
  obtain ⟨R, HR⟩ : ∃ R, Hid (sameB x y = R) := ⟨_, rfl⟩
  rw [HR.out]
  go_enter Try.func55, Try.ntmps55
  obtain ⟨r1, hr1⟩ : ∃ r, Hid (sameB x.e y.e = r) := ⟨_, rfl⟩
  go_wp2_with fail
  (try rw [← hvb.out, ← hva.out])
  refine (HI.out w0 _ lo lo' M M' n' x.e y.e ka kc sa sc ka' kc' sa' sc' (below_via H0.out (by go_grown)) HX.out.1 HX.out.2 HM.out.1 HM.out.2).mono ?_
  rintro e w1 ⟨rfl, hb1⟩
  rw [hr1.out]
  have HB1 := hide (below_via (show Below w.heap.size w _ by go_grown) hb1)
  have HV1 := hide (And.intro (HV.out.1.same (hb1.block va (by have := HV.out.2.2; rw [hva.out]; rw [hvb.out] at this; omega))) (And.intro (HV.out.2.1.same (hb1.block vb HV.out.2.2)) (Nat.lt_of_lt_of_le HV.out.2.2 hb1.size)))
  clear hb1
  cases r1
  · have HRF := hide (HR.out.symm.trans (sameB_ne (fun e => sameB_f hr1.out (by rw [e]))))
    go_wp2_with fail
    all_goals go_ret
    all_goals exact ⟨by first | (rw [HRF.out]; done) | (rw [HRF.out]; rfl), HB1.out⟩
  have HRT := hide (HR.out.symm.trans (sameB_eq (KeF.eq_of E0.out (sameB_t hr1.out))))
  go_wp2_with fail
  all_goals go_ret
  all_goals exact ⟨by first | (rw [HRT.out]; done) | (rw [HRT.out]; rfl), HB1.out⟩

set_option maxRecDepth 100000 in
set_option maxHeartbeats 1600000 in
theorem imEqItemC {n n' : Nat} (IH : ImIt n) {w0 w : World} (h00 : Below w0.heap.size w0 w) {lo lo' M M' : Nat} {xs ys : List (ItF Ex)} {a a' : Option Addr} (c c' : Nat) (h : RowP w0 lo M 13 (itC M (ExB w0 lo M n)) xs a) (h' : RowP w0 lo' M' 13 (itC M' (ExB w0 lo' M' n')) ys a') (hM : M ≤ 1048576) (hM' : M' ≤ 1048576) :
    Calls Try.prog 56 #[.slice a xs.length c, .slice a' ys.length c', .func (.func 53) #[] #[]] w (fun e w' => e = .returned (.bool (sameB xs ys)) ∧ Below w.heap.size w w') := by
  obtain ⟨hlen, hrow⟩ := h
  obtain ⟨hlen', hrow'⟩ := h'
  have HI := hide IH
  have HM := hide (And.intro hM hM')
  have H0 := hide h00
  clear IH h00
  by_cases hl : xs.length = ys.length
  · obtain ⟨m, hm⟩ : ∃ m, Hid (xs.length = m) := ⟨_, rfl⟩
    have HL := hide hl
    rw [← hl, hm.out]
    have hlen2 : m ≤ 1048576 := by have := hm.out; omega
    clear hlen hlen' hM hM' hl
    rcases Nat.eq_zero_or_pos m with rfl | hpos
    · have HR := hide (sameB_eq (show xs = ys by have h1 := hm.out; have h2 := HL.out; rw [List.length_eq_zero_iff.1 h1, List.length_eq_zero_iff.1 (h2.symm.trans h1)]))
      rw [HR.out]
      clear hrow hrow'
      go_enter Try.func56, Try.ntmps56
      go_wp2_with fail
      refine wp_loop_rounds 1 ?_
      rw [rounds_succ]
      go_wp2_with fail
      go_ret
      exact ⟨rfl, by go_grown⟩
    · obtain ⟨b, o, rfl, hlo, hb, hel⟩ := hrow (by have := hm.out; omega)
      obtain ⟨b', o', rfl, hlo', hb', hel'⟩ := hrow' (by have := hm.out; have := HL.out; omega)
      have HE := hide (And.intro hlo (And.intro hb hel))
      have HE' := hide (And.intro hlo' (And.intro hb' hel'))
      clear hrow hlo hb hel hrow' hlo' hb' hel'
      obtain ⟨R, HR⟩ : ∃ R, Hid (sameB xs ys = R) := ⟨_, rfl⟩
      rw [HR.out]
      go_enter Try.func56, Try.ntmps56
      go_wp2_with fail
      go_loopw [17] (fun x wr => ∃ (j : Nat), x = .int .i64 j ∧ j ≤ m ∧ Hid (∀ i (h : i < xs.length) (h' : i < ys.length), i < j → xs[i] = ys[i]) ∧ Hid (Below w.heap.size w wr)) (fun x _ => m - (intOf x).toNat)
      case atStart => exact ⟨0, rfl, by omega, (fun i _ _ hi => absurd hi (by omega)), (show Below w.heap.size w _ by go_grown)⟩
      case round =>
        obtain ⟨j, rfl, hj, HJ, HB⟩ := hrel
        by_cases hlt : j < m
        · have hlt2 : (j : Int) < m := by omega
          have hjx : j < xs.length := by have := hm.out; omega
          have hjy : j < ys.length := by have := HL.out; omega
          obtain ⟨cs, ⟨ka, kc, sa, sc, rfl, hx⟩, hat⟩ := HE.out.2.2 j hjx
          obtain ⟨cs', ⟨ka', kc', sa', sc', rfl, hx'⟩, hat'⟩ := HE'.out.2.2 j hjy
          have HX := hide (And.intro hx hx')
          have H0B := below_via H0.out HB.out
          obtain ⟨c0, c1, c2, c3, c4, c5, c6, c7, c8, c9, c10, c11, c12⟩ := it_at (hat.same (H0B.block b HE.out.2.1))
          obtain ⟨d0, d1, d2, d3, d4, d5, d6, d7, d8, d9, d10, d11, d12⟩ := it_at (hat'.same (H0B.block b' HE'.out.2.1))
          have hL1 := Nat.lt_of_lt_of_le HE.out.2.1 H0B.size
          have hL2 := Nat.lt_of_lt_of_le HE'.out.2.1 H0B.size
          have HH := hide (And.intro hL1 hL2)
          have H0B2 := hide H0B
          clear hx hat hx' hat' H0B
          generalize hxe : xs[j] = x at HX c0 c1 c2 c3 c4 c5 c6 c7 c8 c9 c10 c11 c12
          generalize hye : ys[j] = y at HX d0 d1 d2 d3 d4 d5 d6 d7 d8 d9 d10 d11 d12
          have HXE := hide (And.intro hxe hye)
          clear hxe hye
          obtain ⟨r, hr⟩ : ∃ r, Hid (sameB x y = r) := ⟨_, rfl⟩
          go_wp2_with fail
          refine (HI.out w0 _ lo lo' M M' n' x y _ _ _ _ _ _ _ _ (below_via H0B2.out (show Below wr.heap.size wr _ by go_grown)) HX.out.1 HX.out.2 HM.out.1 HM.out.2).mono ?_
          rintro e w2 ⟨rfl, hb2⟩
          rw [hr.out]
          have HB2 := hide (below_via HB.out (below_via (show Below wr.heap.size wr _ by go_grown) hb2))
          clear hb2 hL1 hL2 c0 c1 c2 c3 c4 c5 c6 c7 c8 c9 c10 c11 c12 d0 d1 d2 d3 d4 d5 d6 d7 d8 d9 d10 d11 d12
          cases r
          · have HRF := hide (HR.out.symm.trans (sameB_ne (fun e => sameB_f hr.out (by rw [← HXE.out.1, ← HXE.out.2]; subst e; rfl))))
            go_wp2_with fail
            all_goals go_ret
            all_goals exact ⟨by first | (rw [HRF.out]; done) | (rw [HRF.out]; rfl), HB2.out⟩
          · have HJ2 := hide (show xs[j] = ys[j] by rw [HXE.out.1, HXE.out.2]; exact sameB_t hr.out)
            go_wp2_with fail
            go_roundw
            case rel =>
              refine ⟨j + 1, by go_num, by omega, ?_, HB2.out⟩
              show ∀ i (h : i < xs.length) (h' : i < ys.length), i < j + 1 → xs[i] = ys[i]
              intro i h h' hij
              by_cases e : i = j
              · subst e; exact HJ2.out
              · exact HJ.out i h h' (by omega)
            case measure => simp [intOf]; omega
        · have hlt2 : ¬ (j : Int) < m := by omega
          obtain rfl : j = m := by omega
          have HRT := hide (HR.out.symm.trans (sameB_eq (List.ext_getElem HL.out fun i h h' => HJ.out i h h' (by have := hm.out; omega))))
          go_wp2_with fail
          all_goals go_ret
          all_goals exact ⟨by first | (rw [HRT.out]; done) | (rw [HRT.out]; rfl), HB.out⟩
  · have HR := hide (sameB_ne (fun e : xs = ys => hl (by rw [e])))
    rw [HR.out]
    clear hrow hrow' HR hlen hlen' hM hM'
    generalize xs.length = m at hl ⊢
    generalize ys.length = m' at hl ⊢
    have hg := ne_int (show ¬ (m : Int) = m' by omega)
    obtain ⟨g1, g2⟩ := hg
    have hne : ¬ m = m' := hl
    clear hl
    go_enter Try.func56, Try.ntmps56
    go_wp2_with fail
    all_goals go_ret
    all_goals exact ⟨rfl, by go_grown⟩

set_option maxRecDepth 100000 in
set_option maxHeartbeats 1600000 in
theorem imEqSourceC {n n' : Nat} (IH : ImSo n) {w0 w : World} (h00 : Below w0.heap.size w0 w) {lo lo' M M' : Nat} {xs ys : List (SoF Ex)} {a a' : Option Addr} (c c' : Nat) (h : RowP w0 lo M 3 (soC w0 lo M (ExB w0 lo M n)) xs a) (h' : RowP w0 lo' M' 3 (soC w0 lo' M' (ExB w0 lo' M' n')) ys a') (hM : M ≤ 1048576) (hM' : M' ≤ 1048576) :
    Calls Try.prog 57 #[.slice a xs.length c, .slice a' ys.length c', .func (.func 54) #[] #[]] w (fun e w' => e = .returned (.bool (sameB xs ys)) ∧ Below w.heap.size w w') := by
  obtain ⟨hlen, hrow⟩ := h
  obtain ⟨hlen', hrow'⟩ := h'
  have HI := hide IH
  have HM := hide (And.intro hM hM')
  have H0 := hide h00
  clear IH h00
  by_cases hl : xs.length = ys.length
  · obtain ⟨m, hm⟩ : ∃ m, Hid (xs.length = m) := ⟨_, rfl⟩
    have HL := hide hl
    rw [← hl, hm.out]
    have hlen2 : m ≤ 1048576 := by have := hm.out; omega
    clear hlen hlen' hM hM' hl
    rcases Nat.eq_zero_or_pos m with rfl | hpos
    · have HR := hide (sameB_eq (show xs = ys by have h1 := hm.out; have h2 := HL.out; rw [List.length_eq_zero_iff.1 h1, List.length_eq_zero_iff.1 (h2.symm.trans h1)]))
      rw [HR.out]
      clear hrow hrow'
      go_enter Try.func57, Try.ntmps57
      go_wp2_with fail
      refine wp_loop_rounds 1 ?_
      rw [rounds_succ]
      go_wp2_with fail
      go_ret
      exact ⟨rfl, by go_grown⟩
    · obtain ⟨b, o, rfl, hlo, hb, hel⟩ := hrow (by have := hm.out; omega)
      obtain ⟨b', o', rfl, hlo', hb', hel'⟩ := hrow' (by have := hm.out; have := HL.out; omega)
      have HE := hide (And.intro hlo (And.intro hb hel))
      have HE' := hide (And.intro hlo' (And.intro hb' hel'))
      clear hrow hlo hb hel hrow' hlo' hb' hel'
      obtain ⟨R, HR⟩ : ∃ R, Hid (sameB xs ys = R) := ⟨_, rfl⟩
      rw [HR.out]
      go_enter Try.func57, Try.ntmps57
      go_wp2_with fail
      go_loopw [17] (fun x wr => ∃ (j : Nat), x = .int .i64 j ∧ j ≤ m ∧ Hid (∀ i (h : i < xs.length) (h' : i < ys.length), i < j → xs[i] = ys[i]) ∧ Hid (Below w.heap.size w wr)) (fun x _ => m - (intOf x).toNat)
      case atStart => exact ⟨0, rfl, by omega, (fun i _ _ hi => absurd hi (by omega)), (show Below w.heap.size w _ by go_grown)⟩
      case round =>
        obtain ⟨j, rfl, hj, HJ, HB⟩ := hrel
        by_cases hlt : j < m
        · have hlt2 : (j : Int) < m := by omega
          have hjx : j < xs.length := by have := hm.out; omega
          have hjy : j < ys.length := by have := HL.out; omega
          obtain ⟨cs, ⟨oa, oc, rfl, hx⟩, hat⟩ := HE.out.2.2 j hjx
          obtain ⟨cs', ⟨oa', oc', rfl, hx'⟩, hat'⟩ := HE'.out.2.2 j hjy
          have HX := hide (And.intro hx hx')
          have H0B := below_via H0.out HB.out
          obtain ⟨c0, c1, c2⟩ := so_at (hat.same (H0B.block b HE.out.2.1))
          obtain ⟨d0, d1, d2⟩ := so_at (hat'.same (H0B.block b' HE'.out.2.1))
          have hL1 := Nat.lt_of_lt_of_le HE.out.2.1 H0B.size
          have hL2 := Nat.lt_of_lt_of_le HE'.out.2.1 H0B.size
          have HH := hide (And.intro hL1 hL2)
          have H0B2 := hide H0B
          clear hx hat hx' hat' H0B
          generalize hxe : xs[j] = x at HX c0 c1 c2
          generalize hye : ys[j] = y at HX d0 d1 d2
          have HXE := hide (And.intro hxe hye)
          clear hxe hye
          obtain ⟨r, hr⟩ : ∃ r, Hid (sameB x y = r) := ⟨_, rfl⟩
          go_wp2_with fail
          refine (HI.out w0 _ lo lo' M M' n' x y _ _ _ _ (below_via H0B2.out (show Below wr.heap.size wr _ by go_grown)) HX.out.1 HX.out.2 HM.out.1 HM.out.2).mono ?_
          rintro e w2 ⟨rfl, hb2⟩
          rw [hr.out]
          have HB2 := hide (below_via HB.out (below_via (show Below wr.heap.size wr _ by go_grown) hb2))
          clear hb2 hL1 hL2 c0 c1 c2 d0 d1 d2
          cases r
          · have HRF := hide (HR.out.symm.trans (sameB_ne (fun e => sameB_f hr.out (by rw [← HXE.out.1, ← HXE.out.2]; subst e; rfl))))
            go_wp2_with fail
            all_goals go_ret
            all_goals exact ⟨by first | (rw [HRF.out]; done) | (rw [HRF.out]; rfl), HB2.out⟩
          · have HJ2 := hide (show xs[j] = ys[j] by rw [HXE.out.1, HXE.out.2]; exact sameB_t hr.out)
            go_wp2_with fail
            go_roundw
            case rel =>
              refine ⟨j + 1, by go_num, by omega, ?_, HB2.out⟩
              show ∀ i (h : i < xs.length) (h' : i < ys.length), i < j + 1 → xs[i] = ys[i]
              intro i h h' hij
              by_cases e : i = j
              · subst e; exact HJ2.out
              · exact HJ.out i h h' (by omega)
            case measure => simp [intOf]; omega
        · have hlt2 : ¬ (j : Int) < m := by omega
          obtain rfl : j = m := by omega
          have HRT := hide (HR.out.symm.trans (sameB_eq (List.ext_getElem HL.out fun i h h' => HJ.out i h h' (by have := hm.out; omega))))
          go_wp2_with fail
          all_goals go_ret
          all_goals exact ⟨by first | (rw [HRT.out]; done) | (rw [HRT.out]; rfl), HB.out⟩
  · have HR := hide (sameB_ne (fun e : xs = ys => hl (by rw [e])))
    rw [HR.out]
    clear hrow hrow' HR hlen hlen' hM hM'
    generalize xs.length = m at hl ⊢
    generalize ys.length = m' at hl ⊢
    have hg := ne_int (show ¬ (m : Int) = m' by omega)
    obtain ⟨g1, g2⟩ := hg
    have hne : ¬ m = m' := hl
    clear hl
    go_enter Try.func57, Try.ntmps57
    go_wp2_with fail
    all_goals go_ret
    all_goals exact ⟨rfl, by go_grown⟩

set_option maxRecDepth 100000 in
set_option maxHeartbeats 1600000 in
theorem imEqSortKeyC {n n' : Nat} (IH : ImKe n) {w0 w : World} (h00 : Below w0.heap.size w0 w) {lo lo' M M' : Nat} {xs ys : List (KeF Ex)} {a a' : Option Addr} (c c' : Nat) (h : RowP w0 lo M 11 (keC (ExB w0 lo M n)) xs a) (h' : RowP w0 lo' M' 11 (keC (ExB w0 lo' M' n')) ys a') (hM : M ≤ 1048576) (hM' : M' ≤ 1048576) :
    Calls Try.prog 58 #[.slice a xs.length c, .slice a' ys.length c', .func (.func 55) #[] #[]] w (fun e w' => e = .returned (.bool (sameB xs ys)) ∧ Below w.heap.size w w') := by
  obtain ⟨hlen, hrow⟩ := h
  obtain ⟨hlen', hrow'⟩ := h'
  have HI := hide IH
  have HM := hide (And.intro hM hM')
  have H0 := hide h00
  clear IH h00
  by_cases hl : xs.length = ys.length
  · obtain ⟨m, hm⟩ : ∃ m, Hid (xs.length = m) := ⟨_, rfl⟩
    have HL := hide hl
    rw [← hl, hm.out]
    have hlen2 : m ≤ 1048576 := by have := hm.out; omega
    clear hlen hlen' hM hM' hl
    rcases Nat.eq_zero_or_pos m with rfl | hpos
    · have HR := hide (sameB_eq (show xs = ys by have h1 := hm.out; have h2 := HL.out; rw [List.length_eq_zero_iff.1 h1, List.length_eq_zero_iff.1 (h2.symm.trans h1)]))
      rw [HR.out]
      clear hrow hrow'
      go_enter Try.func58, Try.ntmps58
      go_wp2_with fail
      refine wp_loop_rounds 1 ?_
      rw [rounds_succ]
      go_wp2_with fail
      go_ret
      exact ⟨rfl, by go_grown⟩
    · obtain ⟨b, o, rfl, hlo, hb, hel⟩ := hrow (by have := hm.out; omega)
      obtain ⟨b', o', rfl, hlo', hb', hel'⟩ := hrow' (by have := hm.out; have := HL.out; omega)
      have HE := hide (And.intro hlo (And.intro hb hel))
      have HE' := hide (And.intro hlo' (And.intro hb' hel'))
      clear hrow hlo hb hel hrow' hlo' hb' hel'
      obtain ⟨R, HR⟩ : ∃ R, Hid (sameB xs ys = R) := ⟨_, rfl⟩
      rw [HR.out]
      go_enter Try.func58, Try.ntmps58
      go_wp2_with fail
      go_loopw [17] (fun x wr => ∃ (j : Nat), x = .int .i64 j ∧ j ≤ m ∧ Hid (∀ i (h : i < xs.length) (h' : i < ys.length), i < j → xs[i] = ys[i]) ∧ Hid (Below w.heap.size w wr)) (fun x _ => m - (intOf x).toNat)
      case atStart => exact ⟨0, rfl, by omega, (fun i _ _ hi => absurd hi (by omega)), (show Below w.heap.size w _ by go_grown)⟩
      case round =>
        obtain ⟨j, rfl, hj, HJ, HB⟩ := hrel
        by_cases hlt : j < m
        · have hlt2 : (j : Int) < m := by omega
          have hjx : j < xs.length := by have := hm.out; omega
          have hjy : j < ys.length := by have := HL.out; omega
          obtain ⟨cs, ⟨ka, kc, sa, sc, rfl, hx⟩, hat⟩ := HE.out.2.2 j hjx
          obtain ⟨cs', ⟨ka', kc', sa', sc', rfl, hx'⟩, hat'⟩ := HE'.out.2.2 j hjy
          have HX := hide (And.intro hx hx')
          have H0B := below_via H0.out HB.out
          obtain ⟨c0, c1, c2, c3, c4, c5, c6, c7, c8, c9, c10⟩ := ke_at (hat.same (H0B.block b HE.out.2.1))
          obtain ⟨d0, d1, d2, d3, d4, d5, d6, d7, d8, d9, d10⟩ := ke_at (hat'.same (H0B.block b' HE'.out.2.1))
          have hL1 := Nat.lt_of_lt_of_le HE.out.2.1 H0B.size
          have hL2 := Nat.lt_of_lt_of_le HE'.out.2.1 H0B.size
          have HH := hide (And.intro hL1 hL2)
          have H0B2 := hide H0B
          clear hx hat hx' hat' H0B
          generalize hxe : xs[j] = x at HX c0 c1 c2 c3 c4 c5 c6 c7 c8 c9 c10
          generalize hye : ys[j] = y at HX d0 d1 d2 d3 d4 d5 d6 d7 d8 d9 d10
          have HXE := hide (And.intro hxe hye)
          clear hxe hye
          obtain ⟨r, hr⟩ : ∃ r, Hid (sameB x y = r) := ⟨_, rfl⟩
          go_wp2_with fail
          refine (HI.out w0 _ lo lo' M M' n' x y _ _ _ _ _ _ _ _ (below_via H0B2.out (show Below wr.heap.size wr _ by go_grown)) HX.out.1 HX.out.2 HM.out.1 HM.out.2).mono ?_
          rintro e w2 ⟨rfl, hb2⟩
          rw [hr.out]
          have HB2 := hide (below_via HB.out (below_via (show Below wr.heap.size wr _ by go_grown) hb2))
          clear hb2 hL1 hL2 c0 c1 c2 c3 c4 c5 c6 c7 c8 c9 c10 d0 d1 d2 d3 d4 d5 d6 d7 d8 d9 d10
          cases r
          · have HRF := hide (HR.out.symm.trans (sameB_ne (fun e => sameB_f hr.out (by rw [← HXE.out.1, ← HXE.out.2]; subst e; rfl))))
            go_wp2_with fail
            all_goals go_ret
            all_goals exact ⟨by first | (rw [HRF.out]; done) | (rw [HRF.out]; rfl), HB2.out⟩
          · have HJ2 := hide (show xs[j] = ys[j] by rw [HXE.out.1, HXE.out.2]; exact sameB_t hr.out)
            go_wp2_with fail
            go_roundw
            case rel =>
              refine ⟨j + 1, by go_num, by omega, ?_, HB2.out⟩
              show ∀ i (h : i < xs.length) (h' : i < ys.length), i < j + 1 → xs[i] = ys[i]
              intro i h h' hij
              by_cases e : i = j
              · subst e; exact HJ2.out
              · exact HJ.out i h h' (by omega)
            case measure => simp [intOf]; omega
        · have hlt2 : ¬ (j : Int) < m := by omega
          obtain rfl : j = m := by omega
          have HRT := hide (HR.out.symm.trans (sameB_eq (List.ext_getElem HL.out fun i h h' => HJ.out i h h' (by have := hm.out; omega))))
          go_wp2_with fail
          all_goals go_ret
          all_goals exact ⟨by first | (rw [HRT.out]; done) | (rw [HRT.out]; rfl), HB.out⟩
  · have HR := hide (sameB_ne (fun e : xs = ys => hl (by rw [e])))
    rw [HR.out]
    clear hrow hrow' HR hlen hlen' hM hM'
    generalize xs.length = m at hl ⊢
    generalize ys.length = m' at hl ⊢
    have hg := ne_int (show ¬ (m : Int) = m' by omega)
    obtain ⟨g1, g2⟩ := hg
    have hne : ¬ m = m' := hl
    clear hl
    go_enter Try.func58, Try.ntmps58
    go_wp2_with fail
    all_goals go_ret
    all_goals exact ⟨rfl, by go_grown⟩

set_option maxRecDepth 100000 in
set_option maxHeartbeats 1600000 in
theorem imQueryC {n : Nat} (IH : ImEx n) : ImQu n := by
  intro w0 w lo lo' M M' n' x y ia ic fa fc wa wc oa oc ia' ic' fa' fc' wa' wc' oa' oc' h00 hx hy hM hM'
  have HX := hide (And.intro hx hy)
  have HM := hide (And.intro hM hM')
  have H0 := hide h00
  have HI := hide IH
  clear IH h00 hx hy hM hM'
  by_cases h0 : ¬ x.distinct = y.distinct
  · have HR := hide (sameB_ne (fun e : x = y => h0 (by rw [e])))
    rw [HR.out]
    obtain ⟨g1, g2⟩ := ne_bool h0
    clear h0
    go_enter Try.func20, Try.ntmps20
    go_wp2_with fail
    all_goals go_ret
    all_goals exact ⟨rfl, by go_grown⟩
  have h0 := Classical.not_not.1 h0
  rw [← h0]
  have E0 := hide h0
  clear h0
  by_cases h1 : ¬ x.limit = y.limit
  · have HR := hide (sameB_ne (fun e : x = y => h1 (by rw [e])))
    rw [HR.out]
    obtain ⟨g1, g2⟩ := ne_int h1
    clear h1
    go_enter Try.func20, Try.ntmps20
    go_wp2_with fail
    all_goals go_ret
    all_goals exact ⟨rfl, by go_grown⟩
  have h1 := Classical.not_not.1 h1
  rw [← h1]
  have E1 := hide h1
  clear h1
  obtain ⟨va, hva⟩ : ∃ va, Hid (va = w.heap.size) := ⟨_, rfl⟩
  obtain ⟨vb, hvb⟩ : ∃ vb, Hid (vb = w.heap.size + 1) := ⟨_, rfl⟩
  have hv := boxAt2 w [.bool x.distinct, .slice ia x.items.length ic, .slice fa x.src.length fc, .slice wa x.whr.length wc, .slice oa x.ord.length oc, .int .i64 x.limit] [.bool x.distinct, .slice ia' y.items.length ic', .slice fa' y.src.length fc', .slice wa' y.whr.length wc', .slice oa' y.ord.length oc', .int .i64 x.limit] 50 50
  rw [← hvb.out, ← hva.out] at hv
  have HV := hide hv
  clear hv
  obtain ⟨R, HR⟩ : ∃ R, Hid (sameB x y = R) := ⟨_, rfl⟩
  rw [HR.out]
  go_enter Try.func20, Try.ntmps20
  obtain ⟨r1, hr1⟩ : ∃ r, Hid (sameB x.items y.items = r) := ⟨_, rfl⟩
  go_wp2_with fail
  (try rw [← hvb.out, ← hva.out])
  refine (imEqItemC (imItemC HI.out) (below_via H0.out (by go_grown)) ic ic' HX.out.1.items HX.out.2.items HM.out.1 HM.out.2).mono ?_
  rintro e w1 ⟨rfl, hb1⟩
  rw [hr1.out]
  have HB1 := hide (below_via (show Below w.heap.size w _ by go_grown) hb1)
  have HV1 := hide (And.intro (HV.out.1.same (hb1.block va (by have := HV.out.2.2; rw [hva.out]; rw [hvb.out] at this; omega))) (And.intro (HV.out.2.1.same (hb1.block vb HV.out.2.2)) (Nat.lt_of_lt_of_le HV.out.2.2 hb1.size)))
  clear hb1
  cases r1
  · have HRF := hide (HR.out.symm.trans (sameB_ne (fun e => sameB_f hr1.out (by rw [e]))))
    go_wp2_with fail
    all_goals go_ret
    all_goals exact ⟨by first | (rw [HRF.out]; done) | (rw [HRF.out]; rfl), HB1.out⟩
  have cc := HV1.out.1
  have dd := HV1.out.2.1
  have c0 := cc 0 (by simp)
  have d0 := dd 0 (by simp)
  have c1 := cc 1 (by simp)
  have d1 := dd 1 (by simp)
  have c2 := cc 2 (by simp)
  have d2 := dd 2 (by simp)
  have c3 := cc 3 (by simp)
  have d3 := dd 3 (by simp)
  have c4 := cc 4 (by simp)
  have d4 := dd 4 (by simp)
  have c5 := cc 5 (by simp)
  have d5 := dd 5 (by simp)
  simp only [Nat.zero_add, List.getElem_cons_zero, List.getElem_cons_succ] at c0 c1 c2 c3 c4 c5 d0 d1 d2 d3 d4 d5
  clear cc dd
  obtain ⟨r2, hr2⟩ : ∃ r, Hid (sameB x.src y.src = r) := ⟨_, rfl⟩
  go_wp2_with fail
  refine (imEqSourceC (imSourceC HI.out) (below_via H0.out HB1.out) fc fc' HX.out.1.src HX.out.2.src HM.out.1 HM.out.2).mono ?_
  rintro e w2 ⟨rfl, hb2⟩
  rw [hr2.out]
  have HB2 := hide (below_via HB1.out hb2)
  have HV2 := hide (And.intro (HV1.out.1.same (hb2.block va (by have := HV1.out.2.2; rw [hva.out]; rw [hvb.out] at this; omega))) (And.intro (HV1.out.2.1.same (hb2.block vb HV1.out.2.2)) (Nat.lt_of_lt_of_le HV1.out.2.2 hb2.size)))
  clear hb2 c0 c1 c2 c3 c4 c5 d0 d1 d2 d3 d4 d5
  cases r2
  · have HRF := hide (HR.out.symm.trans (sameB_ne (fun e => sameB_f hr2.out (by rw [e]))))
    go_wp2_with fail
    all_goals go_ret
    all_goals exact ⟨by first | (rw [HRF.out]; done) | (rw [HRF.out]; rfl), HB2.out⟩
  have cc := HV2.out.1
  have dd := HV2.out.2.1
  have c0 := cc 0 (by simp)
  have d0 := dd 0 (by simp)
  have c1 := cc 1 (by simp)
  have d1 := dd 1 (by simp)
  have c2 := cc 2 (by simp)
  have d2 := dd 2 (by simp)
  have c3 := cc 3 (by simp)
  have d3 := dd 3 (by simp)
  have c4 := cc 4 (by simp)
  have d4 := dd 4 (by simp)
  have c5 := cc 5 (by simp)
  have d5 := dd 5 (by simp)
  simp only [Nat.zero_add, List.getElem_cons_zero, List.getElem_cons_succ] at c0 c1 c2 c3 c4 c5 d0 d1 d2 d3 d4 d5
  clear cc dd
  obtain ⟨r3, hr3⟩ : ∃ r, Hid (sameB x.whr y.whr = r) := ⟨_, rfl⟩
  go_wp2_with fail
  refine (imSameExprsC HI.out (below_via H0.out HB2.out) wc wc' HX.out.1.whr HX.out.2.whr HM.out.1 HM.out.2).mono ?_
  rintro e w3 ⟨rfl, hb3⟩
  rw [hr3.out]
  have HB3 := hide (below_via HB2.out hb3)
  have HV3 := hide (And.intro (HV2.out.1.same (hb3.block va (by have := HV2.out.2.2; rw [hva.out]; rw [hvb.out] at this; omega))) (And.intro (HV2.out.2.1.same (hb3.block vb HV2.out.2.2)) (Nat.lt_of_lt_of_le HV2.out.2.2 hb3.size)))
  clear hb3 c0 c1 c2 c3 c4 c5 d0 d1 d2 d3 d4 d5
  cases r3
  · have HRF := hide (HR.out.symm.trans (sameB_ne (fun e => sameB_f hr3.out (by rw [e]))))
    go_wp2_with fail
    all_goals go_ret
    all_goals exact ⟨by first | (rw [HRF.out]; done) | (rw [HRF.out]; rfl), HB3.out⟩
  have cc := HV3.out.1
  have dd := HV3.out.2.1
  have c0 := cc 0 (by simp)
  have d0 := dd 0 (by simp)
  have c1 := cc 1 (by simp)
  have d1 := dd 1 (by simp)
  have c2 := cc 2 (by simp)
  have d2 := dd 2 (by simp)
  have c3 := cc 3 (by simp)
  have d3 := dd 3 (by simp)
  have c4 := cc 4 (by simp)
  have d4 := dd 4 (by simp)
  have c5 := cc 5 (by simp)
  have d5 := dd 5 (by simp)
  simp only [Nat.zero_add, List.getElem_cons_zero, List.getElem_cons_succ] at c0 c1 c2 c3 c4 c5 d0 d1 d2 d3 d4 d5
  clear cc dd
  obtain ⟨r4, hr4⟩ : ∃ r, Hid (sameB x.ord y.ord = r) := ⟨_, rfl⟩
  go_wp2_with fail
  refine (imEqSortKeyC (imSortKeyC HI.out) (below_via H0.out HB3.out) oc oc' HX.out.1.ord HX.out.2.ord HM.out.1 HM.out.2).mono ?_
  rintro e w4 ⟨rfl, hb4⟩
  rw [hr4.out]
  have HB4 := hide (below_via HB3.out hb4)
  have HV4 := hide (And.intro (HV3.out.1.same (hb4.block va (by have := HV3.out.2.2; rw [hva.out]; rw [hvb.out] at this; omega))) (And.intro (HV3.out.2.1.same (hb4.block vb HV3.out.2.2)) (Nat.lt_of_lt_of_le HV3.out.2.2 hb4.size)))
  clear hb4 c0 c1 c2 c3 c4 c5 d0 d1 d2 d3 d4 d5
  cases r4
  · have HRF := hide (HR.out.symm.trans (sameB_ne (fun e => sameB_f hr4.out (by rw [e]))))
    go_wp2_with fail
    all_goals go_ret
    all_goals exact ⟨by first | (rw [HRF.out]; done) | (rw [HRF.out]; rfl), HB4.out⟩
  have HRT := hide (HR.out.symm.trans (sameB_eq (QuF.eq_of E0.out E1.out (sameB_t hr1.out) (sameB_t hr2.out) (sameB_t hr3.out) (sameB_t hr4.out))))
  go_wp2_with fail
  all_goals go_ret
  all_goals exact ⟨by first | (rw [HRT.out]; done) | (rw [HRT.out]; rfl), HB4.out⟩

set_option maxRecDepth 100000 in
set_option maxHeartbeats 1600000 in
theorem imEqQueryC {n n' : Nat} (IH : ImQu n) {w0 w : World} (h00 : Below w0.heap.size w0 w) {lo lo' M M' : Nat} {xs ys : List (QuF Ex)} {a a' : Option Addr} (c c' : Nat) (h : RowP w0 lo M 6 (quC w0 lo M (ExB w0 lo M n)) xs a) (h' : RowP w0 lo' M' 6 (quC w0 lo' M' (ExB w0 lo' M' n')) ys a') (hM : M ≤ 1048576) (hM' : M' ≤ 1048576) :
    Calls Try.prog 46 #[.slice a xs.length c, .slice a' ys.length c', .func (.func 20) #[] #[]] w (fun e w' => e = .returned (.bool (sameB xs ys)) ∧ Below w.heap.size w w') := by
  obtain ⟨hlen, hrow⟩ := h
  obtain ⟨hlen', hrow'⟩ := h'
  have HI := hide IH
  have HM := hide (And.intro hM hM')
  have H0 := hide h00
  clear IH h00
  by_cases hl : xs.length = ys.length
  · obtain ⟨m, hm⟩ : ∃ m, Hid (xs.length = m) := ⟨_, rfl⟩
    have HL := hide hl
    rw [← hl, hm.out]
    have hlen2 : m ≤ 1048576 := by have := hm.out; omega
    clear hlen hlen' hM hM' hl
    rcases Nat.eq_zero_or_pos m with rfl | hpos
    · have HR := hide (sameB_eq (show xs = ys by have h1 := hm.out; have h2 := HL.out; rw [List.length_eq_zero_iff.1 h1, List.length_eq_zero_iff.1 (h2.symm.trans h1)]))
      rw [HR.out]
      clear hrow hrow'
      go_enter Try.func46, Try.ntmps46
      go_wp2_with fail
      refine wp_loop_rounds 1 ?_
      rw [rounds_succ]
      go_wp2_with fail
      go_ret
      exact ⟨rfl, by go_grown⟩
    · obtain ⟨b, o, rfl, hlo, hb, hel⟩ := hrow (by have := hm.out; omega)
      obtain ⟨b', o', rfl, hlo', hb', hel'⟩ := hrow' (by have := hm.out; have := HL.out; omega)
      have HE := hide (And.intro hlo (And.intro hb hel))
      have HE' := hide (And.intro hlo' (And.intro hb' hel'))
      clear hrow hlo hb hel hrow' hlo' hb' hel'
      obtain ⟨R, HR⟩ : ∃ R, Hid (sameB xs ys = R) := ⟨_, rfl⟩
      rw [HR.out]
      go_enter Try.func46, Try.ntmps46
      go_wp2_with fail
      go_loopw [17] (fun x wr => ∃ (j : Nat), x = .int .i64 j ∧ j ≤ m ∧ Hid (∀ i (h : i < xs.length) (h' : i < ys.length), i < j → xs[i] = ys[i]) ∧ Hid (Below w.heap.size w wr)) (fun x _ => m - (intOf x).toNat)
      case atStart => exact ⟨0, rfl, by omega, (fun i _ _ hi => absurd hi (by omega)), (show Below w.heap.size w _ by go_grown)⟩
      case round =>
        obtain ⟨j, rfl, hj, HJ, HB⟩ := hrel
        by_cases hlt : j < m
        · have hlt2 : (j : Int) < m := by omega
          have hjx : j < xs.length := by have := hm.out; omega
          have hjy : j < ys.length := by have := HL.out; omega
          obtain ⟨cs, ⟨ia, ic, fa, fc, wa, wc, oa, oc, rfl, hx⟩, hat⟩ := HE.out.2.2 j hjx
          obtain ⟨cs', ⟨ia', ic', fa', fc', wa', wc', oa', oc', rfl, hx'⟩, hat'⟩ := HE'.out.2.2 j hjy
          have HX := hide (And.intro hx hx')
          have H0B := below_via H0.out HB.out
          obtain ⟨c0, c1, c2, c3, c4, c5⟩ := qu_at (hat.same (H0B.block b HE.out.2.1))
          obtain ⟨d0, d1, d2, d3, d4, d5⟩ := qu_at (hat'.same (H0B.block b' HE'.out.2.1))
          have hL1 := Nat.lt_of_lt_of_le HE.out.2.1 H0B.size
          have hL2 := Nat.lt_of_lt_of_le HE'.out.2.1 H0B.size
          have HH := hide (And.intro hL1 hL2)
          have H0B2 := hide H0B
          clear hx hat hx' hat' H0B
          generalize hxe : xs[j] = x at HX c0 c1 c2 c3 c4 c5
          generalize hye : ys[j] = y at HX d0 d1 d2 d3 d4 d5
          have HXE := hide (And.intro hxe hye)
          clear hxe hye
          obtain ⟨r, hr⟩ : ∃ r, Hid (sameB x y = r) := ⟨_, rfl⟩
          go_wp2_with fail
          refine (HI.out w0 _ lo lo' M M' n' x y _ _ _ _ _ _ _ _ _ _ _ _ _ _ _ _ (below_via H0B2.out (show Below wr.heap.size wr _ by go_grown)) HX.out.1 HX.out.2 HM.out.1 HM.out.2).mono ?_
          rintro e w2 ⟨rfl, hb2⟩
          rw [hr.out]
          have HB2 := hide (below_via HB.out (below_via (show Below wr.heap.size wr _ by go_grown) hb2))
          clear hb2 hL1 hL2 c0 c1 c2 c3 c4 c5 d0 d1 d2 d3 d4 d5
          cases r
          · have HRF := hide (HR.out.symm.trans (sameB_ne (fun e => sameB_f hr.out (by rw [← HXE.out.1, ← HXE.out.2]; subst e; rfl))))
            go_wp2_with fail
            all_goals go_ret
            all_goals exact ⟨by first | (rw [HRF.out]; done) | (rw [HRF.out]; rfl), HB2.out⟩
          · have HJ2 := hide (show xs[j] = ys[j] by rw [HXE.out.1, HXE.out.2]; exact sameB_t hr.out)
            go_wp2_with fail
            go_roundw
            case rel =>
              refine ⟨j + 1, by go_num, by omega, ?_, HB2.out⟩
              show ∀ i (h : i < xs.length) (h' : i < ys.length), i < j + 1 → xs[i] = ys[i]
              intro i h h' hij
              by_cases e : i = j
              · subst e; exact HJ2.out
              · exact HJ.out i h h' (by omega)
            case measure => simp [intOf]; omega
        · have hlt2 : ¬ (j : Int) < m := by omega
          obtain rfl : j = m := by omega
          have HRT := hide (HR.out.symm.trans (sameB_eq (List.ext_getElem HL.out fun i h h' => HJ.out i h h' (by have := hm.out; omega))))
          go_wp2_with fail
          all_goals go_ret
          all_goals exact ⟨by first | (rw [HRT.out]; done) | (rw [HRT.out]; rfl), HB.out⟩
  · have HR := hide (sameB_ne (fun e : xs = ys => hl (by rw [e])))
    rw [HR.out]
    clear hrow hrow' HR hlen hlen' hM hM'
    generalize xs.length = m at hl ⊢
    generalize ys.length = m' at hl ⊢
    have hg := ne_int (show ¬ (m : Int) = m' by omega)
    obtain ⟨g1, g2⟩ := hg
    have hne : ¬ m = m' := hl
    clear hl
    go_enter Try.func46, Try.ntmps46
    go_wp2_with fail
    all_goals go_ret
    all_goals exact ⟨rfl, by go_grown⟩

set_option maxRecDepth 100000 in
set_option maxHeartbeats 1600000 in
theorem imExprC {n : Nat} (IH : ImEx n) : ImEx (n + 1) := by
  intro w0 w lo lo' M M' n' x y ka kc sa sc ka' kc' sa' sc' h00 hx hy hM hM'
  obtain _ | n' := n'
  · exact hy.elim
  have HX := hide (And.intro hx hy)
  have HM := hide (And.intro hM hM')
  have H0 := hide h00
  have HI := hide IH
  clear IH h00 hx hy hM hM'
  by_cases h0 : ¬ x.f.kind = y.f.kind
  · have HR := hide (sameB_ne (fun e : x = y => h0 (by rw [e])))
    rw [HR.out]
    obtain ⟨g1, g2⟩ := ne_int h0
    clear h0
    go_enter Try.func16, Try.ntmps16
    go_wp2_with fail
    all_goals go_ret
    all_goals exact ⟨rfl, by go_grown⟩
  have h0 := Classical.not_not.1 h0
  rw [← h0]
  have E0 := hide h0
  clear h0
  by_cases h1 : ¬ x.f.op = y.f.op
  · have HR := hide (sameB_ne (fun e : x = y => h1 (by rw [e])))
    rw [HR.out]
    obtain ⟨g1, g2⟩ := ne_int h1
    clear h1
    go_enter Try.func16, Try.ntmps16
    go_wp2_with fail
    all_goals go_ret
    all_goals exact ⟨rfl, by go_grown⟩
  have h1 := Classical.not_not.1 h1
  rw [← h1]
  have E1 := hide h1
  clear h1
  by_cases h2 : ¬ x.f.neg = y.f.neg
  · have HR := hide (sameB_ne (fun e : x = y => h2 (by rw [e])))
    rw [HR.out]
    obtain ⟨g1, g2⟩ := ne_bool h2
    clear h2
    go_enter Try.func16, Try.ntmps16
    go_wp2_with fail
    all_goals go_ret
    all_goals exact ⟨rfl, by go_grown⟩
  have h2 := Classical.not_not.1 h2
  rw [← h2]
  have E2 := hide h2
  clear h2
  by_cases h3 : ¬ x.f.vk = y.f.vk
  · have HR := hide (sameB_ne (fun e : x = y => h3 (by rw [e])))
    rw [HR.out]
    obtain ⟨g1, g2⟩ := ne_int h3
    clear h3
    go_enter Try.func16, Try.ntmps16
    go_wp2_with fail
    all_goals go_ret
    all_goals exact ⟨rfl, by go_grown⟩
  have h3 := Classical.not_not.1 h3
  rw [← h3]
  have E3 := hide h3
  clear h3
  by_cases h4 : ¬ x.f.vn = y.f.vn
  · have HR := hide (sameB_ne (fun e : x = y => h4 (by rw [e])))
    rw [HR.out]
    obtain ⟨g1, g2⟩ := ne_int h4
    clear h4
    go_enter Try.func16, Try.ntmps16
    go_wp2_with fail
    all_goals go_ret
    all_goals exact ⟨rfl, by go_grown⟩
  have h4 := Classical.not_not.1 h4
  rw [← h4]
  have E4 := hide h4
  clear h4
  by_cases h5 : ¬ x.f.vt = y.f.vt
  · have HR := hide (sameB_ne (fun e : x = y => h5 (by rw [e])))
    rw [HR.out]
    obtain ⟨g1, g2⟩ := ne_bytes h5
    clear h5
    go_enter Try.func16, Try.ntmps16
    go_wp2_with fail
    all_goals go_ret
    all_goals exact ⟨rfl, by go_grown⟩
  have h5 := Classical.not_not.1 h5
  rw [← h5]
  have E5 := hide h5
  clear h5
  by_cases h6 : ¬ x.f.qual = y.f.qual
  · have HR := hide (sameB_ne (fun e : x = y => h6 (by rw [e])))
    rw [HR.out]
    obtain ⟨g1, g2⟩ := ne_bytes h6
    clear h6
    go_enter Try.func16, Try.ntmps16
    go_wp2_with fail
    all_goals go_ret
    all_goals exact ⟨rfl, by go_grown⟩
  have h6 := Classical.not_not.1 h6
  rw [← h6]
  have E6 := hide h6
  clear h6
  by_cases h7 : ¬ x.f.name = y.f.name
  · have HR := hide (sameB_ne (fun e : x = y => h7 (by rw [e])))
    rw [HR.out]
    obtain ⟨g1, g2⟩ := ne_bytes h7
    clear h7
    go_enter Try.func16, Try.ntmps16
    go_wp2_with fail
    all_goals go_ret
    all_goals exact ⟨rfl, by go_grown⟩
  have h7 := Classical.not_not.1 h7
  rw [← h7]
  have E7 := hide h7
  clear h7
  obtain ⟨va, hva⟩ : ∃ va, Hid (va = w.heap.size) := ⟨_, rfl⟩
  obtain ⟨vb, hvb⟩ : ∃ vb, Hid (vb = w.heap.size + 1) := ⟨_, rfl⟩
  have hv := boxAt2 w [.int .i64 x.f.kind, .int .i64 x.f.op, .bool x.f.neg, .int .i64 x.f.vk, .int .i64 x.f.vn, .string x.f.vt, .string x.f.qual, .string x.f.name, .slice ka x.f.kids.length kc, .slice sa x.f.sub.length sc] [.int .i64 x.f.kind, .int .i64 x.f.op, .bool x.f.neg, .int .i64 x.f.vk, .int .i64 x.f.vn, .string x.f.vt, .string x.f.qual, .string x.f.name, .slice ka' y.f.kids.length kc', .slice sa' y.f.sub.length sc'] 34 34
  rw [← hvb.out, ← hva.out] at hv
  have HV := hide hv
  clear hv
  obtain ⟨R, HR⟩ : ∃ R, Hid (sameB x y = R) := ⟨_, rfl⟩
  rw [HR.out]
  go_enter Try.func16, Try.ntmps16
  obtain ⟨r1, hr1⟩ : ∃ r, Hid (sameB x.f.kids y.f.kids = r) := ⟨_, rfl⟩
  go_wp2_with fail
  (try rw [← hvb.out, ← hva.out])
  refine (imSameExprsC HI.out (below_via H0.out (by go_grown)) kc kc' HX.out.1.2.1 HX.out.2.2.1 HM.out.1 HM.out.2).mono ?_
  rintro e w1 ⟨rfl, hb1⟩
  rw [hr1.out]
  have HB1 := hide (below_via (show Below w.heap.size w _ by go_grown) hb1)
  have HV1 := hide (And.intro (HV.out.1.same (hb1.block va (by have := HV.out.2.2; rw [hva.out]; rw [hvb.out] at this; omega))) (And.intro (HV.out.2.1.same (hb1.block vb HV.out.2.2)) (Nat.lt_of_lt_of_le HV.out.2.2 hb1.size)))
  clear hb1
  cases r1
  · have HRF := hide (HR.out.symm.trans (sameB_ne (fun e => sameB_f hr1.out (by rw [e]))))
    go_wp2_with fail
    all_goals go_ret
    all_goals exact ⟨by first | (rw [HRF.out]; done) | (rw [HRF.out]; rfl), HB1.out⟩
  have cc := HV1.out.1
  have dd := HV1.out.2.1
  have c0 := cc 0 (by simp)
  have d0 := dd 0 (by simp)
  have c1 := cc 1 (by simp)
  have d1 := dd 1 (by simp)
  have c2 := cc 2 (by simp)
  have d2 := dd 2 (by simp)
  have c3 := cc 3 (by simp)
  have d3 := dd 3 (by simp)
  have c4 := cc 4 (by simp)
  have d4 := dd 4 (by simp)
  have c5 := cc 5 (by simp)
  have d5 := dd 5 (by simp)
  have c6 := cc 6 (by simp)
  have d6 := dd 6 (by simp)
  have c7 := cc 7 (by simp)
  have d7 := dd 7 (by simp)
  have c8 := cc 8 (by simp)
  have d8 := dd 8 (by simp)
  have c9 := cc 9 (by simp)
  have d9 := dd 9 (by simp)
  simp only [Nat.zero_add, List.getElem_cons_zero, List.getElem_cons_succ] at c0 c1 c2 c3 c4 c5 c6 c7 c8 c9 d0 d1 d2 d3 d4 d5 d6 d7 d8 d9
  clear cc dd
  obtain ⟨r2, hr2⟩ : ∃ r, Hid (sameB x.f.sub y.f.sub = r) := ⟨_, rfl⟩
  go_wp2_with fail
  refine (imEqQueryC (imQueryC HI.out) (below_via H0.out HB1.out) sc sc' HX.out.1.2.2 HX.out.2.2.2 HM.out.1 HM.out.2).mono ?_
  rintro e w2 ⟨rfl, hb2⟩
  rw [hr2.out]
  have HB2 := hide (below_via HB1.out hb2)
  have HV2 := hide (And.intro (HV1.out.1.same (hb2.block va (by have := HV1.out.2.2; rw [hva.out]; rw [hvb.out] at this; omega))) (And.intro (HV1.out.2.1.same (hb2.block vb HV1.out.2.2)) (Nat.lt_of_lt_of_le HV1.out.2.2 hb2.size)))
  clear hb2 c0 c1 c2 c3 c4 c5 c6 c7 c8 c9 d0 d1 d2 d3 d4 d5 d6 d7 d8 d9
  cases r2
  · have HRF := hide (HR.out.symm.trans (sameB_ne (fun e => sameB_f hr2.out (by rw [e]))))
    go_wp2_with fail
    all_goals go_ret
    all_goals exact ⟨by first | (rw [HRF.out]; done) | (rw [HRF.out]; rfl), HB2.out⟩
  have HRT := hide (HR.out.symm.trans (sameB_eq (Ex.eq_of E0.out E1.out E2.out E3.out E4.out E5.out E6.out E7.out (sameB_t hr1.out) (sameB_t hr2.out))))
  go_wp2_with fail
  all_goals go_ret
  all_goals exact ⟨by first | (rw [HRT.out]; done) | (rw [HRT.out]; rfl), HB2.out⟩

theorem imExprAll : ∀ n, ImEx n
  | 0 => fun _ _ _ _ _ _ _ _ _ _ _ _ _ _ _ _ _ _ h => h.elim
  | n + 1 => imExprC (imExprAll n)

end Go.Proofs.Ytfpoakdmclekoaa
