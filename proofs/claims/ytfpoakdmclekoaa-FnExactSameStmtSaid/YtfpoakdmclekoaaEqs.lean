/-
  eqExpr and its kin at one tree that lies in two places: they say yes.
-/
import Derived.Test.YtfpoakdmclekoaaRows
import Derived.WalkLawsBesides
import Derived.Deep.Light
import Derived.Test.YtfpoakdmclekoaaM1
import Derived.Test.YtfpoakdmclekoaaTreAt
import Derived.Test.YtfpoakdmclekoaaQ
namespace Go.Proofs.Ytfpoakdmclekoaa
open Go.RowKit

theorem eqValueP (k n : Int) (s : ByteArray) (w : World) :
    Calls Try.prog 41 #[.agg #[.int .i64 k, .int .i64 n, .string s], .agg #[.int .i64 k, .int .i64 n, .string s]] w fun e w' => e = .returned (.bool true) ∧ Below w.heap.size w w' := by
  go_enter Try.func41, Try.ntmps41
  go_wp2
  all_goals go_ret
  all_goals exact ⟨rfl, by go_grown⟩

def EqEx (n : Nat) : Prop := ∀ (w0 w : World) (lo lo' M M' n' : Nat) (x : Ex) (ka : Option Addr) (kc : Nat) (sa : Option Addr) (sc : Nat) (ka' : Option Addr) (kc' : Nat) (sa' : Option Addr) (sc' : Nat), Below w0.heap.size w0 w → ExB w0 lo M n x ka sa → ExB w0 lo' M' n' x ka' sa' → M ≤ 1048576 →
  Calls Try.prog 14 #[.agg #[.int .i64 x.f.kind, .int .i64 x.f.op, .bool x.f.neg, .int .i64 x.f.vk, .int .i64 x.f.vn, .string x.f.vt, .string x.f.qual, .string x.f.name, .slice ka x.f.kids.length kc, .slice sa x.f.sub.length sc], .agg #[.int .i64 x.f.kind, .int .i64 x.f.op, .bool x.f.neg, .int .i64 x.f.vk, .int .i64 x.f.vn, .string x.f.vt, .string x.f.qual, .string x.f.name, .slice ka' x.f.kids.length kc', .slice sa' x.f.sub.length sc']] w (fun e w' => e = .returned (.bool true) ∧ Below w.heap.size w w')

def EqIt (n : Nat) : Prop := ∀ (w0 w : World) (lo lo' M M' n' : Nat) (x : ItF Ex) (ka : Option Addr) (kc : Nat) (sa : Option Addr) (sc : Nat) (ka' : Option Addr) (kc' : Nat) (sa' : Option Addr) (sc' : Nat), Below w0.heap.size w0 w → (x.qual.size ≤ M ∧ x.nm.size ≤ M) ∧ ExB w0 lo M n x.e ka sa → (x.qual.size ≤ M' ∧ x.nm.size ≤ M') ∧ ExB w0 lo' M' n' x.e ka' sa' → M ≤ 1048576 →
  Calls Try.prog 79 #[.agg #[.bool x.star, .string x.qual, .int .i64 x.e.f.kind, .int .i64 x.e.f.op, .bool x.e.f.neg, .int .i64 x.e.f.vk, .int .i64 x.e.f.vn, .string x.e.f.vt, .string x.e.f.qual, .string x.e.f.name, .slice ka x.e.f.kids.length kc, .slice sa x.e.f.sub.length sc, .string x.nm], .agg #[.bool x.star, .string x.qual, .int .i64 x.e.f.kind, .int .i64 x.e.f.op, .bool x.e.f.neg, .int .i64 x.e.f.vk, .int .i64 x.e.f.vn, .string x.e.f.vt, .string x.e.f.qual, .string x.e.f.name, .slice ka' x.e.f.kids.length kc', .slice sa' x.e.f.sub.length sc', .string x.nm]] w (fun e w' => e = .returned (.bool true) ∧ Below w.heap.size w w')

def EqSo (n : Nat) : Prop := ∀ (w0 w : World) (lo lo' M M' n' : Nat) (x : SoF Ex) (oa : Option Addr) (oc : Nat) (oa' : Option Addr) (oc' : Nat), Below w0.heap.size w0 w → (x.table.size ≤ M ∧ x.nm.size ≤ M) ∧ RowP w0 lo M 10 (exC (ExB w0 lo M n)) x.on oa → (x.table.size ≤ M' ∧ x.nm.size ≤ M') ∧ RowP w0 lo' M' 10 (exC (ExB w0 lo' M' n')) x.on oa' → M ≤ 1048576 →
  Calls Try.prog 80 #[.agg #[.string x.table, .string x.nm, .slice oa x.on.length oc], .agg #[.string x.table, .string x.nm, .slice oa' x.on.length oc']] w (fun e w' => e = .returned (.bool true) ∧ Below w.heap.size w w')

def EqKe (n : Nat) : Prop := ∀ (w0 w : World) (lo lo' M M' n' : Nat) (x : KeF Ex) (ka : Option Addr) (kc : Nat) (sa : Option Addr) (sc : Nat) (ka' : Option Addr) (kc' : Nat) (sa' : Option Addr) (sc' : Nat), Below w0.heap.size w0 w → ExB w0 lo M n x.e ka sa → ExB w0 lo' M' n' x.e ka' sa' → M ≤ 1048576 →
  Calls Try.prog 81 #[.agg #[.int .i64 x.e.f.kind, .int .i64 x.e.f.op, .bool x.e.f.neg, .int .i64 x.e.f.vk, .int .i64 x.e.f.vn, .string x.e.f.vt, .string x.e.f.qual, .string x.e.f.name, .slice ka x.e.f.kids.length kc, .slice sa x.e.f.sub.length sc, .bool x.desc], .agg #[.int .i64 x.e.f.kind, .int .i64 x.e.f.op, .bool x.e.f.neg, .int .i64 x.e.f.vk, .int .i64 x.e.f.vn, .string x.e.f.vt, .string x.e.f.qual, .string x.e.f.name, .slice ka' x.e.f.kids.length kc', .slice sa' x.e.f.sub.length sc', .bool x.desc]] w (fun e w' => e = .returned (.bool true) ∧ Below w.heap.size w w')

def EqQu (n : Nat) : Prop := ∀ (w0 w : World) (lo lo' M M' n' : Nat) (x : QuF Ex) (ia : Option Addr) (ic : Nat) (fa : Option Addr) (fc : Nat) (wa : Option Addr) (wc : Nat) (oa : Option Addr) (oc : Nat) (ia' : Option Addr) (ic' : Nat) (fa' : Option Addr) (fc' : Nat) (wa' : Option Addr) (wc' : Nat) (oa' : Option Addr) (oc' : Nat), Below w0.heap.size w0 w → QuB w0 lo M (ExB w0 lo M n) x ia fa wa oa → QuB w0 lo' M' (ExB w0 lo' M' n') x ia' fa' wa' oa' → M ≤ 1048576 →
  Calls Try.prog 21 #[.agg #[.bool x.distinct, .slice ia x.items.length ic, .slice fa x.src.length fc, .slice wa x.whr.length wc, .slice oa x.ord.length oc, .int .i64 x.limit], .agg #[.bool x.distinct, .slice ia' x.items.length ic', .slice fa' x.src.length fc', .slice wa' x.whr.length wc', .slice oa' x.ord.length oc', .int .i64 x.limit]] w (fun e w' => e = .returned (.bool true) ∧ Below w.heap.size w w')

set_option maxRecDepth 100000 in
set_option maxHeartbeats 1600000 in
theorem eqExprSC {n n' : Nat} (IH : EqEx n) {w0 w : World} (h00 : Below w0.heap.size w0 w) {lo lo' M M' : Nat} {xs : List (Ex)} {a a' : Option Addr} (c c' : Nat) (h : RowP w0 lo M 10 (exC (ExB w0 lo M n)) xs a) (h' : RowP w0 lo' M' 10 (exC (ExB w0 lo' M' n')) xs a') (hM : M ≤ 1048576) :
    Calls Try.prog 42 #[.slice a xs.length c, .slice a' xs.length c'] w (fun e w' => e = .returned (.bool true) ∧ Below w.heap.size w w') := by
  obtain ⟨hlen, hrow⟩ := h
  obtain ⟨_, hrow'⟩ := h'
  have HI := hide IH
  clear IH
  obtain ⟨m, hm⟩ : ∃ m, Hid (xs.length = m) := ⟨_, rfl⟩
  rw [hm.out] at hlen ⊢
  have hlen2 : m ≤ 1048576 := by omega
  have HM := hide hM
  have H0 := hide h00
  clear h00 hlen hM
  rcases Nat.eq_zero_or_pos m with rfl | hpos
  · clear hrow hrow'
    go_enter Try.func42, Try.ntmps42
    go_wp2
    refine wp_loop_rounds 1 ?_
    rw [rounds_succ]
    go_wp2
    go_ret
    exact ⟨rfl, by go_grown⟩
  · obtain ⟨b, o, rfl, hlo, hb, hel⟩ := hrow (by have := hm.out; omega)
    obtain ⟨b', o', rfl, hlo', hb', hel'⟩ := hrow' (by have := hm.out; omega)
    have HE := hide (And.intro hlo (And.intro hb hel))
    have HE' := hide (And.intro hlo' (And.intro hb' hel'))
    clear hrow hlo hb hel hrow' hlo' hb' hel'
    go_enter Try.func42, Try.ntmps42
    go_wp2
    go_loopw [5] (fun x wr => ∃ (j : Nat), x = .int .i64 j ∧ j ≤ m ∧ Hid (Below w.heap.size w wr)) (fun x _ => m - (intOf x).toNat)
    case atStart => exact ⟨0, rfl, by omega, (show Below w.heap.size w _ by go_grown)⟩
    case round =>
      obtain ⟨j, rfl, hj, HB⟩ := hrel
      by_cases hlt : j < m
      · have hlt2 : (j : Int) < m := by omega
        have hjx : j < xs.length := by have := hm.out; omega
        obtain ⟨cs, ⟨ka, kc, sa, sc, rfl, hx⟩, hat⟩ := HE.out.2.2 j hjx
        obtain ⟨cs', ⟨ka', kc', sa', sc', rfl, hx'⟩, hat'⟩ := HE'.out.2.2 j hjx
        have HX := hide (And.intro hx hx')
        have H0B := below_via H0.out HB.out
        obtain ⟨c0, c1, c2, c3, c4, c5, c6, c7, c8, c9⟩ := ex_at (hat.same (H0B.block b HE.out.2.1))
        obtain ⟨d0, d1, d2, d3, d4, d5, d6, d7, d8, d9⟩ := ex_at (hat'.same (H0B.block b' HE'.out.2.1))
        have HH := hide (And.intro (Nat.lt_of_lt_of_le HE.out.2.1 H0B.size) (Nat.lt_of_lt_of_le HE'.out.2.1 H0B.size))
        have H0B2 := hide H0B
        clear hx hat hx' hat' H0B
        generalize xs[j] = x at HX c0 c1 c2 c3 c4 c5 c6 c7 c8 c9 d0 d1 d2 d3 d4 d5 d6 d7 d8 d9
        have e0 := BelowOf.cell c0 HH.out.1
        have f0 := BelowOf.cell d0 HH.out.2
        have e1 := BelowOf.cell c1 HH.out.1
        have f1 := BelowOf.cell d1 HH.out.2
        have e2 := BelowOf.cell c2 HH.out.1
        have f2 := BelowOf.cell d2 HH.out.2
        have e3 := BelowOf.cell c3 HH.out.1
        have f3 := BelowOf.cell d3 HH.out.2
        have e4 := BelowOf.cell c4 HH.out.1
        have f4 := BelowOf.cell d4 HH.out.2
        have e5 := BelowOf.cell c5 HH.out.1
        have f5 := BelowOf.cell d5 HH.out.2
        have e6 := BelowOf.cell c6 HH.out.1
        have f6 := BelowOf.cell d6 HH.out.2
        have e7 := BelowOf.cell c7 HH.out.1
        have f7 := BelowOf.cell d7 HH.out.2
        have e8 := BelowOf.cell c8 HH.out.1
        have f8 := BelowOf.cell d8 HH.out.2
        have e9 := BelowOf.cell c9 HH.out.1
        have f9 := BelowOf.cell d9 HH.out.2
        clear c0 c1 c2 c3 c4 c5 c6 c7 c8 c9 d0 d1 d2 d3 d4 d5 d6 d7 d8 d9
        go_wp2_with fail
        refine wp_region_wq (by kernel_rfl) (by kernel_rfl) ?_
        repeat (refine WQ.step (fun K hK => ?_); go_simp; first | (refine hK _ ?_; clear hK K) | (apply Exists.intro; refine ⟨fun _ => ?_, hK _ ?_⟩; (exact Calls.below_of (HI.out w0 _ _ _ _ _ n' _ _ _ _ _ _ _ _ _ (below_via H0B2.out (BelowOf.h _)) HX.out.1 HX.out.2 HM.out)); clear hK K))
        refine WQ.nil ?_
        intro W2 hq2
        have HB2 := hide (below_via HB.out (BelowOf.of hq2))
        clear hq2 e0 e1 e2 e3 e4 e5 e6 e7 e8 e9 f0 f1 f2 f3 f4 f5 f6 f7 f8 f9
        go_wp2_with fail
        go_roundw
        case rel => exact ⟨j + 1, by go_num, by omega, HB2.out⟩
        case measure => simp [intOf]; omega
      · have hlt2 : ¬ (j : Int) < m := by omega
        go_wp2_with fail
        go_ret
        exact ⟨rfl, HB.out⟩

set_option maxRecDepth 100000 in
set_option maxHeartbeats 1600000 in
theorem eqItemC {n : Nat} (IH : EqEx n) : EqIt n := by
  intro w0 w lo lo' M M' n' x ka kc sa sc ka' kc' sa' sc' h00 hx hx' hM
  obtain ⟨va, hva⟩ : ∃ va, Hid (va = w.heap.size) := ⟨_, rfl⟩
  obtain ⟨vb, hvb⟩ : ∃ vb, Hid (vb = w.heap.size + 1) := ⟨_, rfl⟩
  have hv := boxAt2 w [.bool x.star, .string x.qual, .int .i64 x.e.f.kind, .int .i64 x.e.f.op, .bool x.e.f.neg, .int .i64 x.e.f.vk, .int .i64 x.e.f.vn, .string x.e.f.vt, .string x.e.f.qual, .string x.e.f.name, .slice ka x.e.f.kids.length kc, .slice sa x.e.f.sub.length sc, .string x.nm] [.bool x.star, .string x.qual, .int .i64 x.e.f.kind, .int .i64 x.e.f.op, .bool x.e.f.neg, .int .i64 x.e.f.vk, .int .i64 x.e.f.vn, .string x.e.f.vt, .string x.e.f.qual, .string x.e.f.name, .slice ka' x.e.f.kids.length kc', .slice sa' x.e.f.sub.length sc', .string x.nm] 88 88
  rw [← hvb.out, ← hva.out] at hv
  have HV := hide hv
  have H0 := hide h00
  have HM := hide hM
  clear hv h00 hM
  have HX := hide (And.intro hx hx')
  clear hx hx'
  have HI := hide IH
  clear IH
  go_enter Try.func79, Try.ntmps79
  go_wp2_with fail
  (try rw [← hvb.out, ← hva.out])
  refine (HI.out w0 _ lo lo' M M' n' x.e ka kc sa sc ka' kc' sa' sc' (below_via H0.out (by go_grown)) HX.out.1.2 HX.out.2.2 HM.out).mono ?_
  rintro e w1 ⟨rfl, hb1⟩
  have HB1 := hide (below_via (show Below w.heap.size w _ by go_grown) hb1)
  have HV1 := hide (And.intro (HV.out.1.same (hb1.block va (by have := HV.out.2.2; rw [hva.out]; rw [hvb.out] at this; omega))) (And.intro (HV.out.2.1.same (hb1.block vb HV.out.2.2)) (Nat.lt_of_lt_of_le HV.out.2.2 hb1.size)))
  clear hb1
  obtain ⟨c0, c1, c2, c3, c4, c5, c6, c7, c8, c9, c10, c11, c12⟩ := it_at0 HV1.out.1
  obtain ⟨d0, d1, d2, d3, d4, d5, d6, d7, d8, d9, d10, d11, d12⟩ := it_at0 HV1.out.2.1
  go_wp2_with fail
  all_goals go_ret
  all_goals exact ⟨rfl, HB1.out⟩

set_option maxRecDepth 100000 in
set_option maxHeartbeats 1600000 in
theorem eqSourceC {n : Nat} (IH : EqEx n) : EqSo n := by
  intro w0 w lo lo' M M' n' x oa oc oa' oc' h00 hx hx' hM
  obtain ⟨va, hva⟩ : ∃ va, Hid (va = w.heap.size) := ⟨_, rfl⟩
  obtain ⟨vb, hvb⟩ : ∃ vb, Hid (vb = w.heap.size + 1) := ⟨_, rfl⟩
  have hv := boxAt2 w [.string x.table, .string x.nm, .slice oa x.on.length oc] [.string x.table, .string x.nm, .slice oa' x.on.length oc'] 90 90
  rw [← hvb.out, ← hva.out] at hv
  have HV := hide hv
  have H0 := hide h00
  have HM := hide hM
  clear hv h00 hM
  have HX := hide (And.intro hx hx')
  clear hx hx'
  have HI := hide IH
  clear IH
  go_enter Try.func80, Try.ntmps80
  go_wp2_with fail
  (try rw [← hvb.out, ← hva.out])
  refine (eqExprSC HI.out (below_via H0.out (by go_grown)) oc oc' HX.out.1.2 HX.out.2.2 HM.out).mono ?_
  rintro e w1 ⟨rfl, hb1⟩
  have HB1 := hide (below_via (show Below w.heap.size w _ by go_grown) hb1)
  have HV1 := hide (And.intro (HV.out.1.same (hb1.block va (by have := HV.out.2.2; rw [hva.out]; rw [hvb.out] at this; omega))) (And.intro (HV.out.2.1.same (hb1.block vb HV.out.2.2)) (Nat.lt_of_lt_of_le HV.out.2.2 hb1.size)))
  clear hb1
  obtain ⟨c0, c1, c2⟩ := so_at0 HV1.out.1
  obtain ⟨d0, d1, d2⟩ := so_at0 HV1.out.2.1
  go_wp2_with fail
  all_goals go_ret
  all_goals exact ⟨rfl, HB1.out⟩

set_option maxRecDepth 100000 in
set_option maxHeartbeats 1600000 in
theorem eqSortKeyC {n : Nat} (IH : EqEx n) : EqKe n := by
  intro w0 w lo lo' M M' n' x ka kc sa sc ka' kc' sa' sc' h00 hx hx' hM
  obtain ⟨va, hva⟩ : ∃ va, Hid (va = w.heap.size) := ⟨_, rfl⟩
  obtain ⟨vb, hvb⟩ : ∃ vb, Hid (vb = w.heap.size + 1) := ⟨_, rfl⟩
  have hv := boxAt2 w [.int .i64 x.e.f.kind, .int .i64 x.e.f.op, .bool x.e.f.neg, .int .i64 x.e.f.vk, .int .i64 x.e.f.vn, .string x.e.f.vt, .string x.e.f.qual, .string x.e.f.name, .slice ka x.e.f.kids.length kc, .slice sa x.e.f.sub.length sc, .bool x.desc] [.int .i64 x.e.f.kind, .int .i64 x.e.f.op, .bool x.e.f.neg, .int .i64 x.e.f.vk, .int .i64 x.e.f.vn, .string x.e.f.vt, .string x.e.f.qual, .string x.e.f.name, .slice ka' x.e.f.kids.length kc', .slice sa' x.e.f.sub.length sc', .bool x.desc] 92 92
  rw [← hvb.out, ← hva.out] at hv
  have HV := hide hv
  have H0 := hide h00
  have HM := hide hM
  clear hv h00 hM
  have HX := hide (And.intro hx hx')
  clear hx hx'
  have HI := hide IH
  clear IH
  go_enter Try.func81, Try.ntmps81
  go_wp2_with fail
  (try rw [← hvb.out, ← hva.out])
  refine (HI.out w0 _ lo lo' M M' n' x.e ka kc sa sc ka' kc' sa' sc' (below_via H0.out (by go_grown)) HX.out.1 HX.out.2 HM.out).mono ?_
  rintro e w1 ⟨rfl, hb1⟩
  have HB1 := hide (below_via (show Below w.heap.size w _ by go_grown) hb1)
  have HV1 := hide (And.intro (HV.out.1.same (hb1.block va (by have := HV.out.2.2; rw [hva.out]; rw [hvb.out] at this; omega))) (And.intro (HV.out.2.1.same (hb1.block vb HV.out.2.2)) (Nat.lt_of_lt_of_le HV.out.2.2 hb1.size)))
  clear hb1
  obtain ⟨c0, c1, c2, c3, c4, c5, c6, c7, c8, c9, c10⟩ := ke_at0 HV1.out.1
  obtain ⟨d0, d1, d2, d3, d4, d5, d6, d7, d8, d9, d10⟩ := ke_at0 HV1.out.2.1
  go_wp2_with fail
  all_goals go_ret
  all_goals exact ⟨rfl, HB1.out⟩

set_option maxRecDepth 100000 in
set_option maxHeartbeats 1600000 in
theorem eqItemSC {n n' : Nat} (IH : EqIt n) {w0 w : World} (h00 : Below w0.heap.size w0 w) {lo lo' M M' : Nat} {xs : List (ItF Ex)} {a a' : Option Addr} (c c' : Nat) (h : RowP w0 lo M 13 (itC M (ExB w0 lo M n)) xs a) (h' : RowP w0 lo' M' 13 (itC M' (ExB w0 lo' M' n')) xs a') (hM : M ≤ 1048576) :
    Calls Try.prog 59 #[.slice a xs.length c, .slice a' xs.length c'] w (fun e w' => e = .returned (.bool true) ∧ Below w.heap.size w w') := by
  obtain ⟨hlen, hrow⟩ := h
  obtain ⟨_, hrow'⟩ := h'
  have HI := hide IH
  clear IH
  obtain ⟨m, hm⟩ : ∃ m, Hid (xs.length = m) := ⟨_, rfl⟩
  rw [hm.out] at hlen ⊢
  have hlen2 : m ≤ 1048576 := by omega
  have HM := hide hM
  have H0 := hide h00
  clear h00 hlen hM
  rcases Nat.eq_zero_or_pos m with rfl | hpos
  · clear hrow hrow'
    go_enter Try.func59, Try.ntmps59
    go_wp2
    refine wp_loop_rounds 1 ?_
    rw [rounds_succ]
    go_wp2
    go_ret
    exact ⟨rfl, by go_grown⟩
  · obtain ⟨b, o, rfl, hlo, hb, hel⟩ := hrow (by have := hm.out; omega)
    obtain ⟨b', o', rfl, hlo', hb', hel'⟩ := hrow' (by have := hm.out; omega)
    have HE := hide (And.intro hlo (And.intro hb hel))
    have HE' := hide (And.intro hlo' (And.intro hb' hel'))
    clear hrow hlo hb hel hrow' hlo' hb' hel'
    go_enter Try.func59, Try.ntmps59
    go_wp2
    go_loopw [5] (fun x wr => ∃ (j : Nat), x = .int .i64 j ∧ j ≤ m ∧ Hid (Below w.heap.size w wr)) (fun x _ => m - (intOf x).toNat)
    case atStart => exact ⟨0, rfl, by omega, (show Below w.heap.size w _ by go_grown)⟩
    case round =>
      obtain ⟨j, rfl, hj, HB⟩ := hrel
      by_cases hlt : j < m
      · have hlt2 : (j : Int) < m := by omega
        have hjx : j < xs.length := by have := hm.out; omega
        obtain ⟨cs, ⟨ka, kc, sa, sc, rfl, hx⟩, hat⟩ := HE.out.2.2 j hjx
        obtain ⟨cs', ⟨ka', kc', sa', sc', rfl, hx'⟩, hat'⟩ := HE'.out.2.2 j hjx
        have HX := hide (And.intro hx hx')
        have H0B := below_via H0.out HB.out
        obtain ⟨c0, c1, c2, c3, c4, c5, c6, c7, c8, c9, c10, c11, c12⟩ := it_at (hat.same (H0B.block b HE.out.2.1))
        obtain ⟨d0, d1, d2, d3, d4, d5, d6, d7, d8, d9, d10, d11, d12⟩ := it_at (hat'.same (H0B.block b' HE'.out.2.1))
        have HH := hide (And.intro (Nat.lt_of_lt_of_le HE.out.2.1 H0B.size) (Nat.lt_of_lt_of_le HE'.out.2.1 H0B.size))
        have H0B2 := hide H0B
        clear hx hat hx' hat' H0B
        generalize xs[j] = x at HX c0 c1 c2 c3 c4 c5 c6 c7 c8 c9 c10 c11 c12 d0 d1 d2 d3 d4 d5 d6 d7 d8 d9 d10 d11 d12
        have e0 := BelowOf.cell c0 HH.out.1
        have f0 := BelowOf.cell d0 HH.out.2
        have e1 := BelowOf.cell c1 HH.out.1
        have f1 := BelowOf.cell d1 HH.out.2
        have e2 := BelowOf.cell c2 HH.out.1
        have f2 := BelowOf.cell d2 HH.out.2
        have e3 := BelowOf.cell c3 HH.out.1
        have f3 := BelowOf.cell d3 HH.out.2
        have e4 := BelowOf.cell c4 HH.out.1
        have f4 := BelowOf.cell d4 HH.out.2
        have e5 := BelowOf.cell c5 HH.out.1
        have f5 := BelowOf.cell d5 HH.out.2
        have e6 := BelowOf.cell c6 HH.out.1
        have f6 := BelowOf.cell d6 HH.out.2
        have e7 := BelowOf.cell c7 HH.out.1
        have f7 := BelowOf.cell d7 HH.out.2
        have e8 := BelowOf.cell c8 HH.out.1
        have f8 := BelowOf.cell d8 HH.out.2
        have e9 := BelowOf.cell c9 HH.out.1
        have f9 := BelowOf.cell d9 HH.out.2
        have e10 := BelowOf.cell c10 HH.out.1
        have f10 := BelowOf.cell d10 HH.out.2
        have e11 := BelowOf.cell c11 HH.out.1
        have f11 := BelowOf.cell d11 HH.out.2
        have e12 := BelowOf.cell c12 HH.out.1
        have f12 := BelowOf.cell d12 HH.out.2
        clear c0 c1 c2 c3 c4 c5 c6 c7 c8 c9 c10 c11 c12 d0 d1 d2 d3 d4 d5 d6 d7 d8 d9 d10 d11 d12
        go_wp2_with fail
        refine wp_region_wq (by kernel_rfl) (by kernel_rfl) ?_
        repeat (refine WQ.step (fun K hK => ?_); go_simp; first | (refine hK _ ?_; clear hK K) | (apply Exists.intro; refine ⟨fun _ => ?_, hK _ ?_⟩; (exact Calls.below_of (HI.out w0 _ _ _ _ _ n' _ _ _ _ _ _ _ _ _ (below_via H0B2.out (BelowOf.h _)) HX.out.1 HX.out.2 HM.out)); clear hK K))
        refine WQ.nil ?_
        intro W2 hq2
        have HB2 := hide (below_via HB.out (BelowOf.of hq2))
        clear hq2 e0 e1 e2 e3 e4 e5 e6 e7 e8 e9 e10 e11 e12 f0 f1 f2 f3 f4 f5 f6 f7 f8 f9 f10 f11 f12
        go_wp2_with fail
        go_roundw
        case rel => exact ⟨j + 1, by go_num, by omega, HB2.out⟩
        case measure => simp [intOf]; omega
      · have hlt2 : ¬ (j : Int) < m := by omega
        go_wp2_with fail
        go_ret
        exact ⟨rfl, HB.out⟩

set_option maxRecDepth 100000 in
set_option maxHeartbeats 1600000 in
theorem eqSourceSC {n n' : Nat} (IH : EqSo n) {w0 w : World} (h00 : Below w0.heap.size w0 w) {lo lo' M M' : Nat} {xs : List (SoF Ex)} {a a' : Option Addr} (c c' : Nat) (h : RowP w0 lo M 3 (soC w0 lo M (ExB w0 lo M n)) xs a) (h' : RowP w0 lo' M' 3 (soC w0 lo' M' (ExB w0 lo' M' n')) xs a') (hM : M ≤ 1048576) :
    Calls Try.prog 60 #[.slice a xs.length c, .slice a' xs.length c'] w (fun e w' => e = .returned (.bool true) ∧ Below w.heap.size w w') := by
  obtain ⟨hlen, hrow⟩ := h
  obtain ⟨_, hrow'⟩ := h'
  have HI := hide IH
  clear IH
  obtain ⟨m, hm⟩ : ∃ m, Hid (xs.length = m) := ⟨_, rfl⟩
  rw [hm.out] at hlen ⊢
  have hlen2 : m ≤ 1048576 := by omega
  have HM := hide hM
  have H0 := hide h00
  clear h00 hlen hM
  rcases Nat.eq_zero_or_pos m with rfl | hpos
  · clear hrow hrow'
    go_enter Try.func60, Try.ntmps60
    go_wp2
    refine wp_loop_rounds 1 ?_
    rw [rounds_succ]
    go_wp2
    go_ret
    exact ⟨rfl, by go_grown⟩
  · obtain ⟨b, o, rfl, hlo, hb, hel⟩ := hrow (by have := hm.out; omega)
    obtain ⟨b', o', rfl, hlo', hb', hel'⟩ := hrow' (by have := hm.out; omega)
    have HE := hide (And.intro hlo (And.intro hb hel))
    have HE' := hide (And.intro hlo' (And.intro hb' hel'))
    clear hrow hlo hb hel hrow' hlo' hb' hel'
    go_enter Try.func60, Try.ntmps60
    go_wp2
    go_loopw [5] (fun x wr => ∃ (j : Nat), x = .int .i64 j ∧ j ≤ m ∧ Hid (Below w.heap.size w wr)) (fun x _ => m - (intOf x).toNat)
    case atStart => exact ⟨0, rfl, by omega, (show Below w.heap.size w _ by go_grown)⟩
    case round =>
      obtain ⟨j, rfl, hj, HB⟩ := hrel
      by_cases hlt : j < m
      · have hlt2 : (j : Int) < m := by omega
        have hjx : j < xs.length := by have := hm.out; omega
        obtain ⟨cs, ⟨oa, oc, rfl, hx⟩, hat⟩ := HE.out.2.2 j hjx
        obtain ⟨cs', ⟨oa', oc', rfl, hx'⟩, hat'⟩ := HE'.out.2.2 j hjx
        have HX := hide (And.intro hx hx')
        have H0B := below_via H0.out HB.out
        obtain ⟨c0, c1, c2⟩ := so_at (hat.same (H0B.block b HE.out.2.1))
        obtain ⟨d0, d1, d2⟩ := so_at (hat'.same (H0B.block b' HE'.out.2.1))
        have HH := hide (And.intro (Nat.lt_of_lt_of_le HE.out.2.1 H0B.size) (Nat.lt_of_lt_of_le HE'.out.2.1 H0B.size))
        have H0B2 := hide H0B
        clear hx hat hx' hat' H0B
        generalize xs[j] = x at HX c0 c1 c2 d0 d1 d2
        have e0 := BelowOf.cell c0 HH.out.1
        have f0 := BelowOf.cell d0 HH.out.2
        have e1 := BelowOf.cell c1 HH.out.1
        have f1 := BelowOf.cell d1 HH.out.2
        have e2 := BelowOf.cell c2 HH.out.1
        have f2 := BelowOf.cell d2 HH.out.2
        clear c0 c1 c2 d0 d1 d2
        go_wp2_with fail
        refine wp_region_wq (by kernel_rfl) (by kernel_rfl) ?_
        repeat (refine WQ.step (fun K hK => ?_); go_simp; first | (refine hK _ ?_; clear hK K) | (apply Exists.intro; refine ⟨fun _ => ?_, hK _ ?_⟩; (exact Calls.below_of (HI.out w0 _ _ _ _ _ n' _ _ _ _ _ (below_via H0B2.out (BelowOf.h _)) HX.out.1 HX.out.2 HM.out)); clear hK K))
        refine WQ.nil ?_
        intro W2 hq2
        have HB2 := hide (below_via HB.out (BelowOf.of hq2))
        clear hq2 e0 e1 e2 f0 f1 f2
        go_wp2_with fail
        go_roundw
        case rel => exact ⟨j + 1, by go_num, by omega, HB2.out⟩
        case measure => simp [intOf]; omega
      · have hlt2 : ¬ (j : Int) < m := by omega
        go_wp2_with fail
        go_ret
        exact ⟨rfl, HB.out⟩

set_option maxRecDepth 100000 in
set_option maxHeartbeats 1600000 in
theorem eqSortKeySC {n n' : Nat} (IH : EqKe n) {w0 w : World} (h00 : Below w0.heap.size w0 w) {lo lo' M M' : Nat} {xs : List (KeF Ex)} {a a' : Option Addr} (c c' : Nat) (h : RowP w0 lo M 11 (keC (ExB w0 lo M n)) xs a) (h' : RowP w0 lo' M' 11 (keC (ExB w0 lo' M' n')) xs a') (hM : M ≤ 1048576) :
    Calls Try.prog 61 #[.slice a xs.length c, .slice a' xs.length c'] w (fun e w' => e = .returned (.bool true) ∧ Below w.heap.size w w') := by
  obtain ⟨hlen, hrow⟩ := h
  obtain ⟨_, hrow'⟩ := h'
  have HI := hide IH
  clear IH
  obtain ⟨m, hm⟩ : ∃ m, Hid (xs.length = m) := ⟨_, rfl⟩
  rw [hm.out] at hlen ⊢
  have hlen2 : m ≤ 1048576 := by omega
  have HM := hide hM
  have H0 := hide h00
  clear h00 hlen hM
  rcases Nat.eq_zero_or_pos m with rfl | hpos
  · clear hrow hrow'
    go_enter Try.func61, Try.ntmps61
    go_wp2
    refine wp_loop_rounds 1 ?_
    rw [rounds_succ]
    go_wp2
    go_ret
    exact ⟨rfl, by go_grown⟩
  · obtain ⟨b, o, rfl, hlo, hb, hel⟩ := hrow (by have := hm.out; omega)
    obtain ⟨b', o', rfl, hlo', hb', hel'⟩ := hrow' (by have := hm.out; omega)
    have HE := hide (And.intro hlo (And.intro hb hel))
    have HE' := hide (And.intro hlo' (And.intro hb' hel'))
    clear hrow hlo hb hel hrow' hlo' hb' hel'
    go_enter Try.func61, Try.ntmps61
    go_wp2
    go_loopw [5] (fun x wr => ∃ (j : Nat), x = .int .i64 j ∧ j ≤ m ∧ Hid (Below w.heap.size w wr)) (fun x _ => m - (intOf x).toNat)
    case atStart => exact ⟨0, rfl, by omega, (show Below w.heap.size w _ by go_grown)⟩
    case round =>
      obtain ⟨j, rfl, hj, HB⟩ := hrel
      by_cases hlt : j < m
      · have hlt2 : (j : Int) < m := by omega
        have hjx : j < xs.length := by have := hm.out; omega
        obtain ⟨cs, ⟨ka, kc, sa, sc, rfl, hx⟩, hat⟩ := HE.out.2.2 j hjx
        obtain ⟨cs', ⟨ka', kc', sa', sc', rfl, hx'⟩, hat'⟩ := HE'.out.2.2 j hjx
        have HX := hide (And.intro hx hx')
        have H0B := below_via H0.out HB.out
        obtain ⟨c0, c1, c2, c3, c4, c5, c6, c7, c8, c9, c10⟩ := ke_at (hat.same (H0B.block b HE.out.2.1))
        obtain ⟨d0, d1, d2, d3, d4, d5, d6, d7, d8, d9, d10⟩ := ke_at (hat'.same (H0B.block b' HE'.out.2.1))
        have HH := hide (And.intro (Nat.lt_of_lt_of_le HE.out.2.1 H0B.size) (Nat.lt_of_lt_of_le HE'.out.2.1 H0B.size))
        have H0B2 := hide H0B
        clear hx hat hx' hat' H0B
        generalize xs[j] = x at HX c0 c1 c2 c3 c4 c5 c6 c7 c8 c9 c10 d0 d1 d2 d3 d4 d5 d6 d7 d8 d9 d10
        have e0 := BelowOf.cell c0 HH.out.1
        have f0 := BelowOf.cell d0 HH.out.2
        have e1 := BelowOf.cell c1 HH.out.1
        have f1 := BelowOf.cell d1 HH.out.2
        have e2 := BelowOf.cell c2 HH.out.1
        have f2 := BelowOf.cell d2 HH.out.2
        have e3 := BelowOf.cell c3 HH.out.1
        have f3 := BelowOf.cell d3 HH.out.2
        have e4 := BelowOf.cell c4 HH.out.1
        have f4 := BelowOf.cell d4 HH.out.2
        have e5 := BelowOf.cell c5 HH.out.1
        have f5 := BelowOf.cell d5 HH.out.2
        have e6 := BelowOf.cell c6 HH.out.1
        have f6 := BelowOf.cell d6 HH.out.2
        have e7 := BelowOf.cell c7 HH.out.1
        have f7 := BelowOf.cell d7 HH.out.2
        have e8 := BelowOf.cell c8 HH.out.1
        have f8 := BelowOf.cell d8 HH.out.2
        have e9 := BelowOf.cell c9 HH.out.1
        have f9 := BelowOf.cell d9 HH.out.2
        have e10 := BelowOf.cell c10 HH.out.1
        have f10 := BelowOf.cell d10 HH.out.2
        clear c0 c1 c2 c3 c4 c5 c6 c7 c8 c9 c10 d0 d1 d2 d3 d4 d5 d6 d7 d8 d9 d10
        go_wp2_with fail
        refine wp_region_wq (by kernel_rfl) (by kernel_rfl) ?_
        repeat (refine WQ.step (fun K hK => ?_); go_simp; first | (refine hK _ ?_; clear hK K) | (apply Exists.intro; refine ⟨fun _ => ?_, hK _ ?_⟩; (exact Calls.below_of (HI.out w0 _ _ _ _ _ n' _ _ _ _ _ _ _ _ _ (below_via H0B2.out (BelowOf.h _)) HX.out.1 HX.out.2 HM.out)); clear hK K))
        refine WQ.nil ?_
        intro W2 hq2
        have HB2 := hide (below_via HB.out (BelowOf.of hq2))
        clear hq2 e0 e1 e2 e3 e4 e5 e6 e7 e8 e9 e10 f0 f1 f2 f3 f4 f5 f6 f7 f8 f9 f10
        go_wp2_with fail
        go_roundw
        case rel => exact ⟨j + 1, by go_num, by omega, HB2.out⟩
        case measure => simp [intOf]; omega
      · have hlt2 : ¬ (j : Int) < m := by omega
        go_wp2_with fail
        go_ret
        exact ⟨rfl, HB.out⟩

set_option maxRecDepth 100000 in
set_option maxHeartbeats 1600000 in
theorem eqQueryC {n : Nat} (IH : EqEx n) : EqQu n := by
  intro w0 w lo lo' M M' n' x ia ic fa fc wa wc oa oc ia' ic' fa' fc' wa' wc' oa' oc' h00 hx hx' hM
  obtain ⟨va, hva⟩ : ∃ va, Hid (va = w.heap.size) := ⟨_, rfl⟩
  obtain ⟨vb, hvb⟩ : ∃ vb, Hid (vb = w.heap.size + 1) := ⟨_, rfl⟩
  have hv := boxAt2 w [.bool x.distinct, .slice ia x.items.length ic, .slice fa x.src.length fc, .slice wa x.whr.length wc, .slice oa x.ord.length oc, .int .i64 x.limit] [.bool x.distinct, .slice ia' x.items.length ic', .slice fa' x.src.length fc', .slice wa' x.whr.length wc', .slice oa' x.ord.length oc', .int .i64 x.limit] 50 50
  rw [← hvb.out, ← hva.out] at hv
  have HV := hide hv
  have H0 := hide h00
  have HM := hide hM
  clear hv h00 hM
  have HX := hide (And.intro hx hx')
  clear hx hx'
  have HI := hide IH
  clear IH
  go_enter Try.func21, Try.ntmps21
  go_wp2_with fail
  (try rw [← hvb.out, ← hva.out])
  refine (eqItemSC (eqItemC HI.out) (below_via H0.out (by go_grown)) ic ic' HX.out.1.items HX.out.2.items HM.out).mono ?_
  rintro e w1 ⟨rfl, hb1⟩
  have HB1 := hide (below_via (show Below w.heap.size w _ by go_grown) hb1)
  have HV1 := hide (And.intro (HV.out.1.same (hb1.block va (by have := HV.out.2.2; rw [hva.out]; rw [hvb.out] at this; omega))) (And.intro (HV.out.2.1.same (hb1.block vb HV.out.2.2)) (Nat.lt_of_lt_of_le HV.out.2.2 hb1.size)))
  clear hb1
  obtain ⟨c0, c1, c2, c3, c4, c5⟩ := qu_at0 HV1.out.1
  obtain ⟨d0, d1, d2, d3, d4, d5⟩ := qu_at0 HV1.out.2.1
  go_wp2_with fail
  refine (eqSourceSC (eqSourceC HI.out) (below_via H0.out HB1.out) fc fc' HX.out.1.src HX.out.2.src HM.out).mono ?_
  rintro e w2 ⟨rfl, hb2⟩
  have HB2 := hide (below_via HB1.out hb2)
  have HV2 := hide (And.intro (HV1.out.1.same (hb2.block va (by have := HV1.out.2.2; rw [hva.out]; rw [hvb.out] at this; omega))) (And.intro (HV1.out.2.1.same (hb2.block vb HV1.out.2.2)) (Nat.lt_of_lt_of_le HV1.out.2.2 hb2.size)))
  clear hb2 c0 d0 c1 d1 c2 d2 c3 d3 c4 d4 c5 d5
  obtain ⟨c0, c1, c2, c3, c4, c5⟩ := qu_at0 HV2.out.1
  obtain ⟨d0, d1, d2, d3, d4, d5⟩ := qu_at0 HV2.out.2.1
  go_wp2_with fail
  refine (eqExprSC HI.out (below_via H0.out HB2.out) wc wc' HX.out.1.whr HX.out.2.whr HM.out).mono ?_
  rintro e w3 ⟨rfl, hb3⟩
  have HB3 := hide (below_via HB2.out hb3)
  have HV3 := hide (And.intro (HV2.out.1.same (hb3.block va (by have := HV2.out.2.2; rw [hva.out]; rw [hvb.out] at this; omega))) (And.intro (HV2.out.2.1.same (hb3.block vb HV2.out.2.2)) (Nat.lt_of_lt_of_le HV2.out.2.2 hb3.size)))
  clear hb3 c0 d0 c1 d1 c2 d2 c3 d3 c4 d4 c5 d5
  obtain ⟨c0, c1, c2, c3, c4, c5⟩ := qu_at0 HV3.out.1
  obtain ⟨d0, d1, d2, d3, d4, d5⟩ := qu_at0 HV3.out.2.1
  go_wp2_with fail
  refine (eqSortKeySC (eqSortKeyC HI.out) (below_via H0.out HB3.out) oc oc' HX.out.1.ord HX.out.2.ord HM.out).mono ?_
  rintro e w4 ⟨rfl, hb4⟩
  have HB4 := hide (below_via HB3.out hb4)
  have HV4 := hide (And.intro (HV3.out.1.same (hb4.block va (by have := HV3.out.2.2; rw [hva.out]; rw [hvb.out] at this; omega))) (And.intro (HV3.out.2.1.same (hb4.block vb HV3.out.2.2)) (Nat.lt_of_lt_of_le HV3.out.2.2 hb4.size)))
  clear hb4 c0 d0 c1 d1 c2 d2 c3 d3 c4 d4 c5 d5
  obtain ⟨c0, c1, c2, c3, c4, c5⟩ := qu_at0 HV4.out.1
  obtain ⟨d0, d1, d2, d3, d4, d5⟩ := qu_at0 HV4.out.2.1
  go_wp2_with fail
  all_goals go_ret
  all_goals exact ⟨rfl, HB4.out⟩

set_option maxRecDepth 100000 in
set_option maxHeartbeats 1600000 in
theorem eqQuerySC {n n' : Nat} (IH : EqQu n) {w0 w : World} (h00 : Below w0.heap.size w0 w) {lo lo' M M' : Nat} {xs : List (QuF Ex)} {a a' : Option Addr} (c c' : Nat) (h : RowP w0 lo M 6 (quC w0 lo M (ExB w0 lo M n)) xs a) (h' : RowP w0 lo' M' 6 (quC w0 lo' M' (ExB w0 lo' M' n')) xs a') (hM : M ≤ 1048576) :
    Calls Try.prog 43 #[.slice a xs.length c, .slice a' xs.length c'] w (fun e w' => e = .returned (.bool true) ∧ Below w.heap.size w w') := by
  obtain ⟨hlen, hrow⟩ := h
  obtain ⟨_, hrow'⟩ := h'
  have HI := hide IH
  clear IH
  obtain ⟨m, hm⟩ : ∃ m, Hid (xs.length = m) := ⟨_, rfl⟩
  rw [hm.out] at hlen ⊢
  have hlen2 : m ≤ 1048576 := by omega
  have HM := hide hM
  have H0 := hide h00
  clear h00 hlen hM
  rcases Nat.eq_zero_or_pos m with rfl | hpos
  · clear hrow hrow'
    go_enter Try.func43, Try.ntmps43
    go_wp2
    refine wp_loop_rounds 1 ?_
    rw [rounds_succ]
    go_wp2
    go_ret
    exact ⟨rfl, by go_grown⟩
  · obtain ⟨b, o, rfl, hlo, hb, hel⟩ := hrow (by have := hm.out; omega)
    obtain ⟨b', o', rfl, hlo', hb', hel'⟩ := hrow' (by have := hm.out; omega)
    have HE := hide (And.intro hlo (And.intro hb hel))
    have HE' := hide (And.intro hlo' (And.intro hb' hel'))
    clear hrow hlo hb hel hrow' hlo' hb' hel'
    go_enter Try.func43, Try.ntmps43
    go_wp2
    go_loopw [5] (fun x wr => ∃ (j : Nat), x = .int .i64 j ∧ j ≤ m ∧ Hid (Below w.heap.size w wr)) (fun x _ => m - (intOf x).toNat)
    case atStart => exact ⟨0, rfl, by omega, (show Below w.heap.size w _ by go_grown)⟩
    case round =>
      obtain ⟨j, rfl, hj, HB⟩ := hrel
      by_cases hlt : j < m
      · have hlt2 : (j : Int) < m := by omega
        have hjx : j < xs.length := by have := hm.out; omega
        obtain ⟨cs, ⟨ia, ic, fa, fc, wa, wc, oa, oc, rfl, hx⟩, hat⟩ := HE.out.2.2 j hjx
        obtain ⟨cs', ⟨ia', ic', fa', fc', wa', wc', oa', oc', rfl, hx'⟩, hat'⟩ := HE'.out.2.2 j hjx
        have HX := hide (And.intro hx hx')
        have H0B := below_via H0.out HB.out
        obtain ⟨c0, c1, c2, c3, c4, c5⟩ := qu_at (hat.same (H0B.block b HE.out.2.1))
        obtain ⟨d0, d1, d2, d3, d4, d5⟩ := qu_at (hat'.same (H0B.block b' HE'.out.2.1))
        have HH := hide (And.intro (Nat.lt_of_lt_of_le HE.out.2.1 H0B.size) (Nat.lt_of_lt_of_le HE'.out.2.1 H0B.size))
        have H0B2 := hide H0B
        clear hx hat hx' hat' H0B
        generalize xs[j] = x at HX c0 c1 c2 c3 c4 c5 d0 d1 d2 d3 d4 d5
        have e0 := BelowOf.cell c0 HH.out.1
        have f0 := BelowOf.cell d0 HH.out.2
        have e1 := BelowOf.cell c1 HH.out.1
        have f1 := BelowOf.cell d1 HH.out.2
        have e2 := BelowOf.cell c2 HH.out.1
        have f2 := BelowOf.cell d2 HH.out.2
        have e3 := BelowOf.cell c3 HH.out.1
        have f3 := BelowOf.cell d3 HH.out.2
        have e4 := BelowOf.cell c4 HH.out.1
        have f4 := BelowOf.cell d4 HH.out.2
        have e5 := BelowOf.cell c5 HH.out.1
        have f5 := BelowOf.cell d5 HH.out.2
        clear c0 c1 c2 c3 c4 c5 d0 d1 d2 d3 d4 d5
        go_wp2_with fail
        refine wp_region_wq (by kernel_rfl) (by kernel_rfl) ?_
        repeat (refine WQ.step (fun K hK => ?_); go_simp; first | (refine hK _ ?_; clear hK K) | (apply Exists.intro; refine ⟨fun _ => ?_, hK _ ?_⟩; (exact Calls.below_of (HI.out w0 _ _ _ _ _ n' _ _ _ _ _ _ _ _ _ _ _ _ _ _ _ _ _ (below_via H0B2.out (BelowOf.h _)) HX.out.1 HX.out.2 HM.out)); clear hK K))
        refine WQ.nil ?_
        intro W2 hq2
        have HB2 := hide (below_via HB.out (BelowOf.of hq2))
        clear hq2 e0 e1 e2 e3 e4 e5 f0 f1 f2 f3 f4 f5
        go_wp2_with fail
        go_roundw
        case rel => exact ⟨j + 1, by go_num, by omega, HB2.out⟩
        case measure => simp [intOf]; omega
      · have hlt2 : ¬ (j : Int) < m := by omega
        go_wp2_with fail
        go_ret
        exact ⟨rfl, HB.out⟩

set_option maxRecDepth 100000 in
set_option maxHeartbeats 1600000 in
theorem eqExprC {n : Nat} (IH : EqEx n) : EqEx (n + 1) := by
  intro w0 w lo lo' M M' n' x ka kc sa sc ka' kc' sa' sc' h00 hx hx' hM
  obtain ⟨va, hva⟩ : ∃ va, Hid (va = w.heap.size) := ⟨_, rfl⟩
  obtain ⟨vb, hvb⟩ : ∃ vb, Hid (vb = w.heap.size + 1) := ⟨_, rfl⟩
  have hv := boxAt2 w [.int .i64 x.f.kind, .int .i64 x.f.op, .bool x.f.neg, .int .i64 x.f.vk, .int .i64 x.f.vn, .string x.f.vt, .string x.f.qual, .string x.f.name, .slice ka x.f.kids.length kc, .slice sa x.f.sub.length sc] [.int .i64 x.f.kind, .int .i64 x.f.op, .bool x.f.neg, .int .i64 x.f.vk, .int .i64 x.f.vn, .string x.f.vt, .string x.f.qual, .string x.f.name, .slice ka' x.f.kids.length kc', .slice sa' x.f.sub.length sc'] 34 34
  rw [← hvb.out, ← hva.out] at hv
  have HV := hide hv
  have H0 := hide h00
  have HM := hide hM
  clear hv h00 hM
  obtain _ | n' := n'
  · exact hx'.elim
  have HX := hide (And.intro hx hx')
  clear hx hx'
  have HI := hide IH
  clear IH
  go_enter Try.func14, Try.ntmps14
  go_wp2_with fail
  (try rw [← hvb.out, ← hva.out])
  refine (eqValueP x.f.vk x.f.vn x.f.vt _).mono ?_
  rintro e w1 ⟨rfl, hb1⟩
  have HB1 := hide (below_via (show Below w.heap.size w _ by go_grown) hb1)
  have HV1 := hide (And.intro (HV.out.1.same (hb1.block va (by have := HV.out.2.2; rw [hva.out]; rw [hvb.out] at this; omega))) (And.intro (HV.out.2.1.same (hb1.block vb HV.out.2.2)) (Nat.lt_of_lt_of_le HV.out.2.2 hb1.size)))
  clear hb1
  obtain ⟨c0, c1, c2, c3, c4, c5, c6, c7, c8, c9⟩ := ex_at0 HV1.out.1
  obtain ⟨d0, d1, d2, d3, d4, d5, d6, d7, d8, d9⟩ := ex_at0 HV1.out.2.1
  go_wp2_with fail
  refine (eqExprSC HI.out (below_via H0.out HB1.out) kc kc' HX.out.1.2.1 HX.out.2.2.1 HM.out).mono ?_
  rintro e w2 ⟨rfl, hb2⟩
  have HB2 := hide (below_via HB1.out hb2)
  have HV2 := hide (And.intro (HV1.out.1.same (hb2.block va (by have := HV1.out.2.2; rw [hva.out]; rw [hvb.out] at this; omega))) (And.intro (HV1.out.2.1.same (hb2.block vb HV1.out.2.2)) (Nat.lt_of_lt_of_le HV1.out.2.2 hb2.size)))
  clear hb2 c0 d0 c1 d1 c2 d2 c3 d3 c4 d4 c5 d5 c6 d6 c7 d7 c8 d8 c9 d9
  obtain ⟨c0, c1, c2, c3, c4, c5, c6, c7, c8, c9⟩ := ex_at0 HV2.out.1
  obtain ⟨d0, d1, d2, d3, d4, d5, d6, d7, d8, d9⟩ := ex_at0 HV2.out.2.1
  go_wp2_with fail
  refine (eqQuerySC (eqQueryC HI.out) (below_via H0.out HB2.out) sc sc' HX.out.1.2.2 HX.out.2.2.2 HM.out).mono ?_
  rintro e w3 ⟨rfl, hb3⟩
  have HB3 := hide (below_via HB2.out hb3)
  have HV3 := hide (And.intro (HV2.out.1.same (hb3.block va (by have := HV2.out.2.2; rw [hva.out]; rw [hvb.out] at this; omega))) (And.intro (HV2.out.2.1.same (hb3.block vb HV2.out.2.2)) (Nat.lt_of_lt_of_le HV2.out.2.2 hb3.size)))
  clear hb3 c0 d0 c1 d1 c2 d2 c3 d3 c4 d4 c5 d5 c6 d6 c7 d7 c8 d8 c9 d9
  obtain ⟨c0, c1, c2, c3, c4, c5, c6, c7, c8, c9⟩ := ex_at0 HV3.out.1
  obtain ⟨d0, d1, d2, d3, d4, d5, d6, d7, d8, d9⟩ := ex_at0 HV3.out.2.1
  go_wp2_with fail
  all_goals go_ret
  all_goals exact ⟨rfl, HB3.out⟩

theorem eqExprAll : ∀ n, EqEx n
  | 0 => fun _ _ _ _ _ _ _ _ _ _ _ _ _ _ _ _ _ h => h.elim
  | n + 1 => eqExprC (eqExprAll n)

end Go.Proofs.Ytfpoakdmclekoaa
