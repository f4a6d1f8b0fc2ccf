/-
  SameTokens, in the reference and in the program.
-/
import Derived.Test.YtfikgiekigbaoaaRows
import Derived.WalkLawsBesides
import Derived.Deep.Light
import Derived.Laws.StructEq
import Derived.Test.YtfikgiekigbaoaaM1
import Derived.Test.YtfikgiekigbaoaaSame
import Derived.Test.YtfikgiekigbaoaaFlat
import Derived.Test.YtfikgiekigbaoaaQ
namespace Go.Proofs.Ytfikgiekigbaoaa
open Go.RowKit

/-- What SameTokens looks at. -/
def TokF.key (x : TokF) : Int × ByteArray := (x.kind, x.text)
theorem key_at {xs ys : List TokF} (e : xs.map TokF.key = ys.map TokF.key) {j : Nat} (h : j < xs.length) (h' : j < ys.length) : xs[j].key = ys[j].key := by
  have := congrArg (fun l => l[j]?) e
  simpa [List.getElem?_eq_getElem, h, h'] using this
def ImTk (_n : Nat) : Prop := ∀ (w0 w : World) (_lo _lo' M M' _n' : Nat) (x y : TokF), Below w0.heap.size w0 w → x.text.size ≤ M → y.text.size ≤ M' → M ≤ 1048576 → M' ≤ 1048576 →
  Calls Try.prog 29 #[.agg #[.int .i64 x.kind, .string x.text, .int .i64 x.pos], .agg #[.int .i64 y.kind, .string y.text, .int .i64 y.pos]] w (fun e w' => e = .returned (.bool (sameB x.key y.key)) ∧ Below w.heap.size w w')
theorem imTokenC (n : Nat) : ImTk n := by
  intro w0 w _ _ M M' _ x y _ _ _ _ _
  by_cases h0 : ¬ x.kind = y.kind
  · have HR := hide (sameB_ne (fun e : x.key = y.key => h0 (congrArg Prod.fst e)))
    rw [HR.out]
    obtain ⟨g1, g2⟩ := ne_int h0
    clear h0
    go_enter Try.func29, Try.ntmps29
    go_wp2
    all_goals go_ret
    all_goals exact ⟨by simp, by go_grown⟩
  · have h0 := Classical.not_not.1 h0
    by_cases h1 : ¬ x.text = y.text
    · have HR := hide (sameB_ne (fun e : x.key = y.key => h1 (congrArg Prod.snd e)))
      rw [HR.out, ← h0]
      obtain ⟨g1, g2⟩ := ne_bytes h1
      clear h1 h0
      go_enter Try.func29, Try.ntmps29
      go_wp2
      all_goals go_ret
      all_goals exact ⟨by simp, by go_grown⟩
    · have h1 := Classical.not_not.1 h1
      have HR := hide (sameB_eq (show x.key = y.key by unfold TokF.key; rw [h0, h1]))
      rw [HR.out, ← h0, ← h1]
      clear h1 h0
      go_enter Try.func29, Try.ntmps29
      go_wp2
      all_goals go_ret
      all_goals exact ⟨by simp, by go_grown⟩

set_option maxRecDepth 100000 in
set_option maxHeartbeats 1600000 in
theorem imEqTokenC {n n' : Nat} (IH : ImTk n) {w0 w : World} (h00 : Below w0.heap.size w0 w) {lo lo' M M' : Nat} {xs ys : List (TokF)} {a a' : Option Addr} (c c' : Nat) (h : RowP w0 lo M 3 (tkC M) xs a) (h' : RowP w0 lo' M' 3 (tkC M') ys a') (hM : M ≤ 1048576) (hM' : M' ≤ 1048576) :
    Calls Try.prog 28 #[.slice a xs.length c, .slice a' ys.length c', .func (.func 29) #[] #[]] w (fun e w' => e = .returned (.bool (sameB (xs.map TokF.key) (ys.map TokF.key))) ∧ Below w.heap.size w w') := by
  obtain ⟨hlen, hrow⟩ := h
  obtain ⟨hlen', hrow'⟩ := h'
  have HI := hide IH
  have HM := hide (And.intro hM hM')
  have H0 := hide h00
  clear IH h00
  by_cases hl : xs.length = ys.length
  · obtain ⟨m, hm⟩ : ∃ m, Hid (xs.length = m) := ⟨_, rfl⟩
    have HL := hide hl
    rw [← hl, hm.out]
    have hlen2 : m ≤ 1048576 := by have := hm.out; omega
    clear hlen hlen' hM hM' hl
    rcases Nat.eq_zero_or_pos m with rfl | hpos
    · have HR := hide (sameB_eq (show xs.map TokF.key = ys.map TokF.key by have h1 := hm.out; have h2 := HL.out; rw [List.length_eq_zero_iff.1 h1, List.length_eq_zero_iff.1 (h2.symm.trans h1)]))
      rw [HR.out]
      clear hrow hrow'
      go_enter Try.func28, Try.ntmps28
      go_wp2_with fail
      refine wp_loop_rounds 1 ?_
      rw [rounds_succ]
      go_wp2_with fail
      go_ret
      exact ⟨rfl, by go_grown⟩
    · obtain ⟨b, o, rfl, hlo, hb, hel⟩ := hrow (by have := hm.out; omega)
      obtain ⟨b', o', rfl, hlo', hb', hel'⟩ := hrow' (by have := hm.out; have := HL.out; omega)
      have HE := hide (And.intro hlo (And.intro hb hel))
      have HE' := hide (And.intro hlo' (And.intro hb' hel'))
      clear hrow hlo hb hel hrow' hlo' hb' hel'
      obtain ⟨R, HR⟩ : ∃ R, Hid (sameB (xs.map TokF.key) (ys.map TokF.key) = R) := ⟨_, rfl⟩
      rw [HR.out]
      go_enter Try.func28, Try.ntmps28
      go_wp2_with fail
      go_loopw [17] (fun x wr => ∃ (j : Nat), x = .int .i64 j ∧ j ≤ m ∧ Hid (∀ i (h : i < xs.length) (h' : i < ys.length), i < j → xs[i].key = ys[i].key) ∧ Hid (Below w.heap.size w wr)) (fun x _ => m - (intOf x).toNat)
      case atStart => exact ⟨0, rfl, by omega, (fun i _ _ hi => absurd hi (by omega)), (show Below w.heap.size w _ by go_grown)⟩
      case round =>
        obtain ⟨j, rfl, hj, HJ, HB⟩ := hrel
        by_cases hlt : j < m
        · have hlt2 : (j : Int) < m := by omega
          have hjx : j < xs.length := by have := hm.out; omega
          have hjy : j < ys.length := by have := HL.out; omega
          obtain ⟨cs, ⟨rfl, hx⟩, hat⟩ := HE.out.2.2 j hjx
          obtain ⟨cs', ⟨rfl, hx'⟩, hat'⟩ := HE'.out.2.2 j hjy
          have HX := hide (And.intro hx hx')
          have H0B := below_via H0.out HB.out
          obtain ⟨c0, c1, c2⟩ := tk_at (hat.same (H0B.block b HE.out.2.1))
          obtain ⟨d0, d1, d2⟩ := tk_at (hat'.same (H0B.block b' HE'.out.2.1))
          have hL1 := Nat.lt_of_lt_of_le HE.out.2.1 H0B.size
          have hL2 := Nat.lt_of_lt_of_le HE'.out.2.1 H0B.size
          have HH := hide (And.intro hL1 hL2)
          have H0B2 := hide H0B
          clear hx hat hx' hat' H0B
          generalize hxe : xs[j] = x at HX c0 c1 c2
          generalize hye : ys[j] = y at HX d0 d1 d2
          have HXE := hide (And.intro hxe hye)
          clear hxe hye
          obtain ⟨r, hr⟩ : ∃ r, Hid (sameB x.key y.key = r) := ⟨_, rfl⟩
          go_wp2_with fail
          refine (HI.out w0 _ 0 0 M M' n' x y  (below_via H0B2.out (show Below wr.heap.size wr _ by go_grown)) HX.out.1 HX.out.2 HM.out.1 HM.out.2).mono ?_
          rintro e w2 ⟨rfl, hb2⟩
          rw [hr.out]
          have HB2 := hide (below_via HB.out (below_via (show Below wr.heap.size wr _ by go_grown) hb2))
          clear hb2 hL1 hL2 c0 c1 c2 d0 d1 d2
          cases r
          · have HRF := hide (HR.out.symm.trans (sameB_ne (fun e => sameB_f hr.out (by rw [← HXE.out.1, ← HXE.out.2]; exact key_at e hjx hjy))))
            go_wp2_with fail
            all_goals go_ret
            all_goals exact ⟨by first | (rw [HRF.out]; done) | (rw [HRF.out]; rfl), HB2.out⟩
          · have HJ2 := hide (show xs[j].key = ys[j].key by rw [HXE.out.1, HXE.out.2]; exact sameB_t hr.out)
            go_wp2_with fail
            go_roundw
            case rel =>
              refine ⟨j + 1, by go_num, by omega, ?_, HB2.out⟩
              show ∀ i (h : i < xs.length) (h' : i < ys.length), i < j + 1 → xs[i].key = ys[i].key
              intro i h h' hij
              by_cases e : i = j
              · subst e; exact HJ2.out
              · exact HJ.out i h h' (by omega)
            case measure => simp [intOf]; omega
        · have hlt2 : ¬ (j : Int) < m := by omega
          obtain rfl : j = m := by omega
          have HRT := hide (HR.out.symm.trans (sameB_eq (List.ext_getElem (by rw [List.length_map, List.length_map]; exact HL.out) fun i h h' => by rw [List.length_map] at h h'; rw [List.getElem_map, List.getElem_map]; exact HJ.out i h h' (by have := hm.out; omega))))
          go_wp2_with fail
          all_goals go_ret
          all_goals exact ⟨by first | (rw [HRT.out]; done) | (rw [HRT.out]; rfl), HB.out⟩
  · have HR := hide (sameB_ne (fun e : xs.map TokF.key = ys.map TokF.key => hl (by have := congrArg List.length e; simpa using this)))
    rw [HR.out]
    clear hrow hrow' HR hlen hlen' hM hM'
    generalize xs.length = m at hl ⊢
    generalize ys.length = m' at hl ⊢
    have hg := ne_int (show ¬ (m : Int) = m' by omega)
    obtain ⟨g1, g2⟩ := hg
    have hne : ¬ m = m' := hl
    clear hl
    go_enter Try.func28, Try.ntmps28
    go_wp2_with fail
    all_goals go_ret
    all_goals exact ⟨rfl, by go_grown⟩

theorem implSameTokens {n n' : Nat} {w0 w : World} (h00 : Below w0.heap.size w0 w) {lo lo' M M' : Nat} {xs ys : List TokF} {a a' : Option Addr} (c c' : Nat) (h : RowP w0 lo M 3 (tkC M) xs a) (h' : RowP w0 lo' M' 3 (tkC M') ys a') (hM : M ≤ 1048576) (hM' : M' ≤ 1048576) :
    Calls Try.prog 10 #[.slice a xs.length c, .slice a' ys.length c'] w (fun e w' => e = .returned (.bool (sameB (xs.map TokF.key) (ys.map TokF.key))) ∧ Below w.heap.size w w') := by
  have HC := hide (imEqTokenC (n := n) (n' := n') (imTokenC n) h00 c c' h h' hM hM')
  clear h h' hM hM' h00
  generalize xs.length = m at HC ⊢
  generalize ys.length = m' at HC ⊢
  go_enter Try.func10, Try.ntmps10
  go_wp2_with fail
  refine HC.out.mono ?_
  rintro e w1 ⟨rfl, hb⟩
  go_wp2_with fail
  go_ret
  exact ⟨rfl, hb⟩

set_option maxRecDepth 100000 in
set_option maxHeartbeats 1600000 in
theorem specSameTokens {n n' : Nat} {w0 w : World} (h00 : Below w0.heap.size w0 w) {lo lo' M M' : Nat} {xs ys : List (TokF)} {a a' : Option Addr} (c c' : Nat) (h : RowP w0 lo M 3 (tkC M) xs a) (h' : RowP w0 lo' M' 3 (tkC M') ys a') (hM : M ≤ 1048576) (hM' : M' ≤ 1048576) :
    Calls Try.prog 8 #[.slice a xs.length c, .slice a' ys.length c'] w (fun e w' => e = .returned (.bool (sameB (xs.map TokF.key) (ys.map TokF.key))) ∧ Below w.heap.size w w') := by
  obtain ⟨hlen, hrow⟩ := h
  obtain ⟨hlen', hrow'⟩ := h'
  have HM := hide (And.intro hM hM')
  have H0 := hide h00
  clear h00
  by_cases hl : xs.length = ys.length
  · obtain ⟨m, hm⟩ : ∃ m, Hid (xs.length = m) := ⟨_, rfl⟩
    have HL := hide hl
    rw [← hl, hm.out]
    have hlen2 : m ≤ 1048576 := by have := hm.out; omega
    clear hlen hlen' hM hM' hl
    rcases Nat.eq_zero_or_pos m with rfl | hpos
    · have HR := hide (sameB_eq (show xs.map TokF.key = ys.map TokF.key by have h1 := hm.out; have h2 := HL.out; rw [List.length_eq_zero_iff.1 h1, List.length_eq_zero_iff.1 (h2.symm.trans h1)]))
      rw [HR.out]
      clear hrow hrow'
      go_enter Try.func8, Try.ntmps8
      go_wp2_with fail
      refine wp_loop_rounds 1 ?_
      rw [rounds_succ]
      go_wp2_with fail
      go_ret
      exact ⟨rfl, by go_grown⟩
    · obtain ⟨b, o, rfl, hlo, hb, hel⟩ := hrow (by have := hm.out; omega)
      obtain ⟨b', o', rfl, hlo', hb', hel'⟩ := hrow' (by have := hm.out; have := HL.out; omega)
      have HE := hide (And.intro hlo (And.intro hb hel))
      have HE' := hide (And.intro hlo' (And.intro hb' hel'))
      clear hrow hlo hb hel hrow' hlo' hb' hel'
      obtain ⟨R, HR⟩ : ∃ R, Hid (sameB (xs.map TokF.key) (ys.map TokF.key) = R) := ⟨_, rfl⟩
      rw [HR.out]
      go_enter Try.func8, Try.ntmps8
      go_wp2_with fail
      go_loopw [5] (fun x wr => ∃ (j : Nat), x = .int .i64 j ∧ j ≤ m ∧ Hid (∀ i (h : i < xs.length) (h' : i < ys.length), i < j → xs[i].key = ys[i].key) ∧ Hid (Below w.heap.size w wr)) (fun x _ => m - (intOf x).toNat)
      case atStart => exact ⟨0, rfl, by omega, (fun i _ _ hi => absurd hi (by omega)), (show Below w.heap.size w _ by go_grown)⟩
      case round =>
        obtain ⟨j, rfl, hj, HJ, HB⟩ := hrel
        by_cases hlt : j < m
        · have hlt2 : (j : Int) < m := by omega
          have hjx : j < xs.length := by have := hm.out; omega
          have hjy : j < ys.length := by have := HL.out; omega
          obtain ⟨cs, ⟨rfl, hx⟩, hat⟩ := HE.out.2.2 j hjx
          obtain ⟨cs', ⟨rfl, hx'⟩, hat'⟩ := HE'.out.2.2 j hjy
          have HX := hide (And.intro hx hx')
          have H0B := below_via H0.out HB.out
          obtain ⟨c0, c1, c2⟩ := tk_at (hat.same (H0B.block b HE.out.2.1))
          obtain ⟨d0, d1, d2⟩ := tk_at (hat'.same (H0B.block b' HE'.out.2.1))
          have hL1 := Nat.lt_of_lt_of_le HE.out.2.1 H0B.size
          have hL2 := Nat.lt_of_lt_of_le HE'.out.2.1 H0B.size
          have HH := hide (And.intro hL1 hL2)
          have H0B2 := hide H0B
          clear hx hat hx' hat' H0B
          generalize hxe : xs[j] = x at HX c0 c1 c2
          generalize hye : ys[j] = y at HX d0 d1 d2
          have HXE := hide (And.intro hxe hye)
          clear hxe hye
          obtain ⟨r, hr⟩ : ∃ r, Hid (sameB x.key y.key = r) := ⟨_, rfl⟩
          clear hL1 hL2 hr r
          have e0 := BelowOf.cell c0 HH.out.1
          have f0 := BelowOf.cell d0 HH.out.2
          have e1 := BelowOf.cell c1 HH.out.1
          have f1 := BelowOf.cell d1 HH.out.2
          have e2 := BelowOf.cell c2 HH.out.1
          have f2 := BelowOf.cell d2 HH.out.2
          clear c0 c1 c2 d0 d1 d2
          by_cases h0 : ¬ x.kind = y.kind
          · have HRF := hide (HR.out.symm.trans (sameB_ne (fun e => h0 (by have := key_at e hjx hjy; rw [HXE.out.1, HXE.out.2] at this; exact congrArg Prod.fst this))))
            obtain ⟨g1, g2⟩ := ne_int h0
            clear h0
            go_wp2_with fail
            refine wp_region_wq (by kernel_rfl) (by kernel_rfl) ?_
            repeat (refine WQ.step (fun K hK => ?_); go_simp; first | (refine hK _ ?_; clear hK K) | (apply Exists.intro; refine ⟨fun _ => ?_, hK _ ?_⟩; (fail); clear hK K))
            refine WQ.nil ?_
            intro W2 hq2
            have HB2 := hide (below_via HB.out (BelowOf.of hq2))
            clear hq2 e0 e1 e2 f0 f1 f2
            go_wp2_with fail
            all_goals go_ret
            all_goals exact ⟨by first | (rw [HRF.out]; done) | (rw [HRF.out]; rfl), HB2.out⟩
          have h0 := Classical.not_not.1 h0
          rw [← h0] at f0
          by_cases h1 : ¬ x.text = y.text
          · have HRF := hide (HR.out.symm.trans (sameB_ne (fun e => h1 (by have := key_at e hjx hjy; rw [HXE.out.1, HXE.out.2] at this; exact congrArg Prod.snd this))))
            obtain ⟨g1, g2⟩ := ne_bytes h1
            clear h1
            go_wp2_with fail
            refine wp_region_wq (by kernel_rfl) (by kernel_rfl) ?_
            repeat (refine WQ.step (fun K hK => ?_); go_simp; first | (refine hK _ ?_; clear hK K) | (apply Exists.intro; refine ⟨fun _ => ?_, hK _ ?_⟩; (fail); clear hK K))
            refine WQ.nil ?_
            intro W2 hq2
            have HB2 := hide (below_via HB.out (BelowOf.of hq2))
            clear hq2 e0 e1 e2 f0 f1 f2
            go_wp2_with fail
            all_goals go_ret
            all_goals exact ⟨by first | (rw [HRF.out]; done) | (rw [HRF.out]; rfl), HB2.out⟩
          have h1 := Classical.not_not.1 h1
          rw [← h1] at f1
          have HJ2 := hide (show xs[j].key = ys[j].key by rw [HXE.out.1, HXE.out.2]; unfold TokF.key; rw [h0, h1])
          clear h0 h1
          go_wp2_with fail
          refine wp_region_wq (by kernel_rfl) (by kernel_rfl) ?_
          repeat (refine WQ.step (fun K hK => ?_); go_simp; first | (refine hK _ ?_; clear hK K) | (apply Exists.intro; refine ⟨fun _ => ?_, hK _ ?_⟩; (fail); clear hK K))
          refine WQ.nil ?_
          intro W2 hq2
          have HB2 := hide (below_via HB.out (BelowOf.of hq2))
          clear hq2 e0 e1 e2 f0 f1 f2
          go_wp2_with fail
          go_roundw
          case rel =>
            refine ⟨j + 1, by go_num, by omega, ?_, HB2.out⟩
            show ∀ i (h : i < xs.length) (h' : i < ys.length), i < j + 1 → xs[i].key = ys[i].key
            intro i h h' hij
            by_cases e : i = j
            · subst e; exact HJ2.out
            · exact HJ.out i h h' (by omega)
          case measure => simp [intOf]; omega
        · have hlt2 : ¬ (j : Int) < m := by omega
          obtain rfl : j = m := by omega
          have HRT := hide (HR.out.symm.trans (sameB_eq (List.ext_getElem (by rw [List.length_map, List.length_map]; exact HL.out) fun i h h' => by rw [List.length_map] at h h'; rw [List.getElem_map, List.getElem_map]; exact HJ.out i h h' (by have := hm.out; omega))))
          go_wp2_with fail
          all_goals go_ret
          all_goals exact ⟨by first | (rw [HRT.out]; done) | (rw [HRT.out]; rfl), HB.out⟩
  · have HR := hide (sameB_ne (fun e : xs.map TokF.key = ys.map TokF.key => hl (by have := congrArg List.length e; simpa using this)))
    rw [HR.out]
    clear hrow hrow' HR hlen hlen' hM hM'
    generalize xs.length = m at hl ⊢
    generalize ys.length = m' at hl ⊢
    have hg := ne_int (show ¬ (m : Int) = m' by omega)
    obtain ⟨g1, g2⟩ := hg
    have hne : ¬ m = m' := hl
    clear hl
    go_enter Try.func8, Try.ntmps8
    go_wp2_with fail
    all_goals go_ret
    all_goals exact ⟨rfl, by go_grown⟩

end Go.Proofs.Ytfikgiekigbaoaa
