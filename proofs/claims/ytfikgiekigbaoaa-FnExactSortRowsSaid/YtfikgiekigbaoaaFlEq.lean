/-
  eqTokenS, eqValueS at one row that lies in two places: they say yes.
-/
import Derived.Test.YtfikgiekigbaoaaRows
import Derived.WalkLawsBesides
import Derived.Deep.Light
import Derived.Test.YtfikgiekigbaoaaM1
import Derived.Test.YtfikgiekigbaoaaFlat
import Derived.Test.YtfikgiekigbaoaaQ
namespace Go.Proofs.Ytfikgiekigbaoaa
open Go.RowKit

theorem eqValueP (k n : Int) (s : ByteArray) (w : World) :
    Calls Try.prog 36 #[.agg #[.int .i64 k, .int .i64 n, .string s], .agg #[.int .i64 k, .int .i64 n, .string s]] w fun e w' => e = .returned (.bool true) ∧ Below w.heap.size w w' := by
  go_enter Try.func36, Try.ntmps36
  go_wp2
  all_goals go_ret
  all_goals exact ⟨rfl, by go_grown⟩

def EqTk (_n : Nat) : Prop := ∀ (w0 w : World) (_lo _lo' M M' _n' : Nat) (x : TokF), Below w0.heap.size w0 w → x.text.size ≤ M → x.text.size ≤ M' → M ≤ 1048576 →
  Calls Try.prog 30 #[.agg #[.int .i64 x.kind, .string x.text, .int .i64 x.pos], .agg #[.int .i64 x.kind, .string x.text, .int .i64 x.pos]] w (fun e w' => e = .returned (.bool true) ∧ Below w.heap.size w w')

def EqVa (_n : Nat) : Prop := ∀ (w0 w : World) (_lo _lo' M M' _n' : Nat) (x : ValF), Below w0.heap.size w0 w → x.text.size ≤ M → x.text.size ≤ M' → M ≤ 1048576 →
  Calls Try.prog 36 #[.agg #[.int .i64 x.kind, .int .i64 x.num, .string x.text], .agg #[.int .i64 x.kind, .int .i64 x.num, .string x.text]] w (fun e w' => e = .returned (.bool true) ∧ Below w.heap.size w w')

theorem eqTokenC (n : Nat) : EqTk n := by
  intro w0 w _ _ M M' n' x _ _ _ _
  go_enter Try.func30, Try.ntmps30
  go_wp2
  all_goals go_ret
  all_goals exact ⟨rfl, by go_grown⟩
theorem eqValueC (n : Nat) : EqVa n := fun _ w _ _ _ _ _ x _ _ _ _ => eqValueP x.kind x.num x.text w

set_option maxRecDepth 100000 in
set_option maxHeartbeats 1600000 in
theorem eqTokenSC {n n' : Nat} (IH : EqTk n) {w0 w : World} (h00 : Below w0.heap.size w0 w) {lo lo' M M' : Nat} {xs : List (TokF)} {a a' : Option Addr} (c c' : Nat) (h : RowP w0 lo M 3 (tkC M) xs a) (h' : RowP w0 lo' M' 3 (tkC M') xs a') (hM : M ≤ 1048576) :
    Calls Try.prog 11 #[.slice a xs.length c, .slice a' xs.length c'] w (fun e w' => e = .returned (.bool true) ∧ Below w.heap.size w w') := by
  obtain ⟨hlen, hrow⟩ := h
  obtain ⟨_, hrow'⟩ := h'
  have HI := hide IH
  clear IH
  obtain ⟨m, hm⟩ : ∃ m, Hid (xs.length = m) := ⟨_, rfl⟩
  rw [hm.out] at hlen ⊢
  have hlen2 : m ≤ 1048576 := by omega
  have HM := hide hM
  have H0 := hide h00
  clear h00 hlen hM
  rcases Nat.eq_zero_or_pos m with rfl | hpos
  · clear hrow hrow'
    go_enter Try.func11, Try.ntmps11
    go_wp2
    refine wp_loop_rounds 1 ?_
    rw [rounds_succ]
    go_wp2
    go_ret
    exact ⟨rfl, by go_grown⟩
  · obtain ⟨b, o, rfl, hlo, hb, hel⟩ := hrow (by have := hm.out; omega)
    obtain ⟨b', o', rfl, hlo', hb', hel'⟩ := hrow' (by have := hm.out; omega)
    have HE := hide (And.intro hlo (And.intro hb hel))
    have HE' := hide (And.intro hlo' (And.intro hb' hel'))
    clear hrow hlo hb hel hrow' hlo' hb' hel'
    go_enter Try.func11, Try.ntmps11
    go_wp2
    go_loopw [5] (fun x wr => ∃ (j : Nat), x = .int .i64 j ∧ j ≤ m ∧ Hid (Below w.heap.size w wr)) (fun x _ => m - (intOf x).toNat)
    case atStart => exact ⟨0, rfl, by omega, (show Below w.heap.size w _ by go_grown)⟩
    case round =>
      obtain ⟨j, rfl, hj, HB⟩ := hrel
      by_cases hlt : j < m
      · have hlt2 : (j : Int) < m := by omega
        have hjx : j < xs.length := by have := hm.out; omega
        obtain ⟨cs, ⟨rfl, hx⟩, hat⟩ := HE.out.2.2 j hjx
        obtain ⟨cs', ⟨rfl, hx'⟩, hat'⟩ := HE'.out.2.2 j hjx
        have HX := hide (And.intro hx hx')
        have H0B := below_via H0.out HB.out
        obtain ⟨c0, c1, c2⟩ := tk_at (hat.same (H0B.block b HE.out.2.1))
        obtain ⟨d0, d1, d2⟩ := tk_at (hat'.same (H0B.block b' HE'.out.2.1))
        have HH := hide (And.intro (Nat.lt_of_lt_of_le HE.out.2.1 H0B.size) (Nat.lt_of_lt_of_le HE'.out.2.1 H0B.size))
        have H0B2 := hide H0B
        clear hx hat hx' hat' H0B
        generalize xs[j] = x at HX c0 c1 c2 d0 d1 d2
        have e0 := BelowOf.cell c0 HH.out.1
        have f0 := BelowOf.cell d0 HH.out.2
        have e1 := BelowOf.cell c1 HH.out.1
        have f1 := BelowOf.cell d1 HH.out.2
        have e2 := BelowOf.cell c2 HH.out.1
        have f2 := BelowOf.cell d2 HH.out.2
        clear c0 c1 c2 d0 d1 d2
        go_wp2_with fail
        refine wp_region_wq (by kernel_rfl) (by kernel_rfl) ?_
        repeat (refine WQ.step (fun K hK => ?_); go_simp; first | (refine hK _ ?_; clear hK K) | (apply Exists.intro; refine ⟨fun _ => ?_, hK _ ?_⟩; (exact Calls.below_of (HI.out w0 _ 0 0 _ _ n' _  (below_via H0B2.out (BelowOf.h _)) HX.out.1 HX.out.2 HM.out)); clear hK K))
        refine WQ.nil ?_
        intro W2 hq2
        have HB2 := hide (below_via HB.out (BelowOf.of hq2))
        clear hq2 e0 e1 e2 f0 f1 f2
        go_wp2_with fail
        go_roundw
        case rel => exact ⟨j + 1, by go_num, by omega, HB2.out⟩
        case measure => simp [intOf]; omega
      · have hlt2 : ¬ (j : Int) < m := by omega
        go_wp2_with fail
        go_ret
        exact ⟨rfl, HB.out⟩

set_option maxRecDepth 100000 in
set_option maxHeartbeats 1600000 in
theorem eqValueSC {n n' : Nat} (IH : EqVa n) {w0 w : World} (h00 : Below w0.heap.size w0 w) {lo lo' M M' : Nat} {xs : List (ValF)} {a a' : Option Addr} (c c' : Nat) (h : RowP w0 lo M 3 (vaC M) xs a) (h' : RowP w0 lo' M' 3 (vaC M') xs a') (hM : M ≤ 1048576) :
    Calls Try.prog 16 #[.slice a xs.length c, .slice a' xs.length c'] w (fun e w' => e = .returned (.bool true) ∧ Below w.heap.size w w') := by
  obtain ⟨hlen, hrow⟩ := h
  obtain ⟨_, hrow'⟩ := h'
  have HI := hide IH
  clear IH
  obtain ⟨m, hm⟩ : ∃ m, Hid (xs.length = m) := ⟨_, rfl⟩
  rw [hm.out] at hlen ⊢
  have hlen2 : m ≤ 1048576 := by omega
  have HM := hide hM
  have H0 := hide h00
  clear h00 hlen hM
  rcases Nat.eq_zero_or_pos m with rfl | hpos
  · clear hrow hrow'
    go_enter Try.func16, Try.ntmps16
    go_wp2
    refine wp_loop_rounds 1 ?_
    rw [rounds_succ]
    go_wp2
    go_ret
    exact ⟨rfl, by go_grown⟩
  · obtain ⟨b, o, rfl, hlo, hb, hel⟩ := hrow (by have := hm.out; omega)
    obtain ⟨b', o', rfl, hlo', hb', hel'⟩ := hrow' (by have := hm.out; omega)
    have HE := hide (And.intro hlo (And.intro hb hel))
    have HE' := hide (And.intro hlo' (And.intro hb' hel'))
    clear hrow hlo hb hel hrow' hlo' hb' hel'
    go_enter Try.func16, Try.ntmps16
    go_wp2
    go_loopw [5] (fun x wr => ∃ (j : Nat), x = .int .i64 j ∧ j ≤ m ∧ Hid (Below w.heap.size w wr)) (fun x _ => m - (intOf x).toNat)
    case atStart => exact ⟨0, rfl, by omega, (show Below w.heap.size w _ by go_grown)⟩
    case round =>
      obtain ⟨j, rfl, hj, HB⟩ := hrel
      by_cases hlt : j < m
      · have hlt2 : (j : Int) < m := by omega
        have hjx : j < xs.length := by have := hm.out; omega
        obtain ⟨cs, ⟨rfl, hx⟩, hat⟩ := HE.out.2.2 j hjx
        obtain ⟨cs', ⟨rfl, hx'⟩, hat'⟩ := HE'.out.2.2 j hjx
        have HX := hide (And.intro hx hx')
        have H0B := below_via H0.out HB.out
        obtain ⟨c0, c1, c2⟩ := va_at (hat.same (H0B.block b HE.out.2.1))
        obtain ⟨d0, d1, d2⟩ := va_at (hat'.same (H0B.block b' HE'.out.2.1))
        have HH := hide (And.intro (Nat.lt_of_lt_of_le HE.out.2.1 H0B.size) (Nat.lt_of_lt_of_le HE'.out.2.1 H0B.size))
        have H0B2 := hide H0B
        clear hx hat hx' hat' H0B
        generalize xs[j] = x at HX c0 c1 c2 d0 d1 d2
        have e0 := BelowOf.cell c0 HH.out.1
        have f0 := BelowOf.cell d0 HH.out.2
        have e1 := BelowOf.cell c1 HH.out.1
        have f1 := BelowOf.cell d1 HH.out.2
        have e2 := BelowOf.cell c2 HH.out.1
        have f2 := BelowOf.cell d2 HH.out.2
        clear c0 c1 c2 d0 d1 d2
        go_wp2_with fail
        refine wp_region_wq (by kernel_rfl) (by kernel_rfl) ?_
        repeat (refine WQ.step (fun K hK => ?_); go_simp; first | (refine hK _ ?_; clear hK K) | (apply Exists.intro; refine ⟨fun _ => ?_, hK _ ?_⟩; (exact Calls.below_of (HI.out w0 _ 0 0 _ _ n' _  (below_via H0B2.out (BelowOf.h _)) HX.out.1 HX.out.2 HM.out)); clear hK K))
        refine WQ.nil ?_
        intro W2 hq2
        have HB2 := hide (below_via HB.out (BelowOf.of hq2))
        clear hq2 e0 e1 e2 f0 f1 f2
        go_wp2_with fail
        go_roundw
        case rel => exact ⟨j + 1, by go_num, by omega, HB2.out⟩
        case measure => simp [intOf]; omega
      · have hlt2 : ¬ (j : Int) < m := by omega
        go_wp2_with fail
        go_ret
        exact ⟨rfl, HB.out⟩

end Go.Proofs.Ytfikgiekigbaoaa
