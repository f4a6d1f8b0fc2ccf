/-
  OrderRow, in the reference and in the program.
-/
import Derived.Test.YtfikgiekigbaoaaFlat
import Derived.Test.YtfikgiekigbaoaaWOrd
namespace Go.Proofs.Ytfikgiekigbaoaa
open Go.RowKit

/-- The order of two values. -/
def ordV (x y : ValF) : Int := ordF x.kind x.num x.text.toList y.kind y.num y.text.toList
/-- The order of two rows. -/
def ordR : List ValF → List ValF → Int
  | [], [] => 0
  | [], _ :: _ => -1
  | _ :: _, [] => 1
  | x :: xs, y :: ys => if ordV x y = 0 then ordR xs ys else ordV x y
theorem ordR_drop (xs ys : List ValF) (j : Nat) (hx : j ≤ xs.length) (hy : j ≤ ys.length) (h : ∀ i (h : i < xs.length) (h' : i < ys.length), i < j → ordV xs[i] ys[i] = 0) : ordR xs ys = ordR (xs.drop j) (ys.drop j) := by
  induction j with
  | zero => rfl
  | succ j ih =>
    rw [ih (by omega) (by omega) (fun i h1 h2 h3 => h i h1 h2 (by omega)), List.drop_eq_getElem_cons (show j < xs.length by omega), List.drop_eq_getElem_cons (show j < ys.length by omega)]
    show (if ordV xs[j] ys[j] = 0 then _ else _) = _
    rw [if_pos (h j (by omega) (by omega) (by omega))]
theorem ordR_at {xs ys : List ValF} {j : Nat} (hx : j < xs.length) (hy : j < ys.length) (h : ∀ i (h : i < xs.length) (h' : i < ys.length), i < j → ordV xs[i] ys[i] = 0) (hne : ordV xs[j] ys[j] ≠ 0) : ordR xs ys = ordV xs[j] ys[j] := by
  rw [ordR_drop xs ys j (by omega) (by omega) h, List.drop_eq_getElem_cons hx, List.drop_eq_getElem_cons hy]
  show (if ordV xs[j] ys[j] = 0 then _ else _) = _
  rw [if_neg hne]
theorem ordR_end {xs ys : List ValF} {j : Nat} (hx : j ≤ xs.length) (hy : j ≤ ys.length) (h : ∀ i (h : i < xs.length) (h' : i < ys.length), i < j → ordV xs[i] ys[i] = 0) (he : j = xs.length ∨ j = ys.length) :
    ordR xs ys = if xs.length < ys.length then -1 else if ys.length < xs.length then 1 else 0 := by
  rw [ordR_drop xs ys j hx hy h]
  rcases he with rfl | rfl
  · rw [List.drop_length]
    by_cases hl : xs.length < ys.length
    · rw [if_pos hl, List.drop_eq_getElem_cons hl]; rfl
    · rw [if_neg hl, if_neg (by omega), List.drop_of_length_le (by omega)]; rfl
  · rw [List.drop_length]
    by_cases hl : ys.length < xs.length
    · rw [if_neg (by omega), if_pos hl, List.drop_eq_getElem_cons hl]; rfl
    · rw [if_neg (by omega), if_neg hl, List.drop_of_length_le (by omega)]; rfl

set_option maxRecDepth 100000 in
set_option maxHeartbeats 1600000 in
theorem specOrderRow {w0 w : World} (h00 : Below w0.heap.size w0 w) {lo lo' M M' : Nat} {xs ys : List ValF} {a a' : Option Addr} (c c' : Nat) (h : RowP w0 lo M 3 (vaC M) xs a) (h' : RowP w0 lo' M' 3 (vaC M') ys a') (hM : M ≤ 1048576) (hM' : M' ≤ 1048576) :
    Calls Try.prog 13 #[.slice a xs.length c, .slice a' ys.length c'] w (fun e w' => e = .returned (.int .i64 (ordR xs ys)) ∧ Below w.heap.size w w') := by
  have l1 := h.1
  have l2 := h'.1
  have H := hide (And.intro h h')
  have H0 := hide h00
  clear h h' h00
  obtain ⟨m, hm⟩ : ∃ m, Hid (xs.length = m) := ⟨_, rfl⟩
  obtain ⟨m', hm'⟩ : ∃ m, Hid (ys.length = m) := ⟨_, rfl⟩
  rw [hm.out] at l1 ⊢
  rw [hm'.out] at l2 ⊢
  have b1 : m ≤ 1048576 := by omega
  have b2 : m' ≤ 1048576 := by omega
  clear l1 l2 hM hM'
  obtain ⟨R, HR⟩ : ∃ R, Hid (ordR xs ys = R) := ⟨_, rfl⟩
  rw [HR.out]
  go_enter Try.func13, Try.ntmps13
  go_wp2_with fail
  go_loopw [5] (fun u wr => ∃ j : Nat, u = .int .i64 j ∧ j ≤ m ∧ j ≤ m' ∧ Hid (∀ i (h : i < xs.length) (h' : i < ys.length), i < j → ordV xs[i] ys[i] = 0) ∧ Hid (Below w.heap.size w wr)) (fun u _ => m - (intOf u).toNat)
  case atStart => exact ⟨0, rfl, by omega, by omega, (fun i _ _ hi => absurd hi (by omega)), (show Below w.heap.size w _ by go_grown)⟩
  case round =>
    obtain ⟨j, rfl, hj, hj', HJ, HB⟩ := hrel
    by_cases hlt : j < m
    · have hlt2 : (j : Int) < m := by omega
      by_cases hlt' : j < m'
      · have hlt3 : (j : Int) < m' := by omega
        have hjx : j < xs.length := by have := hm.out; omega
        have hjy : j < ys.length := by have := hm'.out; omega
        obtain ⟨b, o, rfl, hlo, hb, hel⟩ := H.out.1.2 (by omega)
        obtain ⟨b', o', rfl, hlo', hb', hel'⟩ := H.out.2.2 (by omega)
        obtain ⟨cs, ⟨rfl, _⟩, hat⟩ := hel j hjx
        obtain ⟨cs', ⟨rfl, _⟩, hat'⟩ := hel' j hjy
        have H0B := below_via H0.out HB.out
        obtain ⟨c0, c1, c2⟩ := va_at (hat.same (H0B.block b hb))
        obtain ⟨d0, d1, d2⟩ := va_at (hat'.same (H0B.block b' hb'))
        have hL1 := Nat.lt_of_lt_of_le hb H0B.size
        have hL2 := Nat.lt_of_lt_of_le hb' H0B.size
        clear hat hat' H0B hel hel' hlo hlo' hb hb'
        generalize hxe : xs[j] = x at c0 c1 c2
        generalize hye : ys[j] = y at d0 d1 d2
        have HXE := hide (And.intro hxe hye)
        clear hxe hye
        have e0 := BelowOf.cell c0 hL1
        have e1 := BelowOf.cell c1 hL1
        have e2 := BelowOf.cell c2 hL1
        have f0 := BelowOf.cell d0 hL2
        have f1 := BelowOf.cell d1 hL2
        have f2 := BelowOf.cell d2 hL2
        have hC := fun (W : World) => specOrder x.kind x.num x.text y.kind y.num y.text W
        obtain ⟨r, hr⟩ : ∃ r, Hid (ordV x y = r) := ⟨_, rfl⟩
        change ∀ W : World, Calls _ _ _ W (fun e w' => e = .returned (.int .i64 (ordV x y)) ∧ Below W.heap.size W w') at hC
        rw [hr.out] at hC
        clear c0 c1 c2 d0 d1 d2 hL1 hL2
        go_wp2_with fail
        refine wp_region_wq (by kernel_rfl) (by kernel_rfl) ?_
        repeat (refine WQ.step (fun K hK => ?_); go_simp; first | (refine hK _ ?_; clear hK K) | (apply Exists.intro; refine ⟨fun _ => ?_, hK _ ?_⟩; (exact Calls.below_of (hC _)); clear hK K))
        refine WQ.nil ?_
        intro W2 hq2
        have HB2 := hide (below_via HB.out (BelowOf.of hq2))
        clear hq2 hC e0 e1 e2 f0 f1 f2
        by_cases h0 : r = 0
        · subst h0
          go_wp2_with fail
          go_roundw
          case rel =>
            refine ⟨j + 1, by go_num, by omega, by omega, ?_, HB2.out⟩
            show ∀ i (h : i < xs.length) (h' : i < ys.length), i < j + 1 → ordV xs[i] ys[i] = 0
            intro i h h' hij
            by_cases e : i = j
            · subst e; rw [HXE.out.1, HXE.out.2]; exact hr.out
            · exact HJ.out i h h' (by omega)
          case measure => simp [intOf]; omega
        · have g2 : (r == 0) = false := by simpa using h0
          have HRF := hide (show R = r from HR.out.symm.trans ((ordR_at hjx hjy HJ.out (by rw [HXE.out.1, HXE.out.2, hr.out]; exact h0)).trans (by rw [HXE.out.1, HXE.out.2]; exact hr.out)))
          clear h0
          go_wp2_with fail
          all_goals go_ret
          all_goals exact ⟨by rw [HRF.out]; first | done | rfl, HB2.out⟩
      · have hlt3 : ¬ (j : Int) < m' := by omega
        have hjm : j = m' := by omega
        have HRF := hide (HR.out.symm.trans (ordR_end (by have := hm.out; omega) (by have := hm'.out; omega) HJ.out (.inr (by have := hm'.out; omega))))
        rw [hm.out, hm'.out, if_neg (by omega), if_pos (by omega)] at HRF
        have k1 : ¬ (m : Int) < m' := by omega
        have k2 : (m' : Int) < m := by omega
        have k3 : ¬ m < m' := by omega
        have k4 : m' < m := by omega
        clear hjm
        go_wp2_with fail
        all_goals go_ret
        all_goals exact ⟨by rw [HRF.out]; first | done | rfl, HB.out⟩
    · have hlt2 : ¬ (j : Int) < m := by omega
      have hjm : j = m := by omega
      have HRF := hide (HR.out.symm.trans (ordR_end (by have := hm.out; omega) (by have := hm'.out; omega) HJ.out (.inl (by have := hm.out; omega))))
      rw [hm.out, hm'.out] at HRF
      by_cases hc : m < m'
      · rw [if_pos hc] at HRF
        have k1 : (m : Int) < m' := by omega
        clear hjm
        go_wp2_with fail
        all_goals go_ret
        all_goals exact ⟨by rw [HRF.out]; first | done | rfl, HB.out⟩
      · rw [if_neg hc, if_neg (by omega)] at HRF
        have k1 : ¬ (m : Int) < m' := by omega
        have k2 : ¬ (m' : Int) < m := by omega
        have k3 : ¬ m' < m := by omega
        clear hjm
        go_wp2_with fail
        all_goals go_ret
        all_goals exact ⟨by rw [HRF.out]; first | done | rfl, HB.out⟩

set_option maxRecDepth 100000 in
set_option maxHeartbeats 1600000 in
theorem compareRows {w0 w : World} (h00 : Below w0.heap.size w0 w) {lo lo' M M' : Nat} {xs ys : List ValF} {a a' : Option Addr} (c c' : Nat) (h : RowP w0 lo M 3 (vaC M) xs a) (h' : RowP w0 lo' M' 3 (vaC M') ys a') (hM : M ≤ 1048576) (hM' : M' ≤ 1048576) :
    Calls Try.prog 34 #[.slice a xs.length c, .slice a' ys.length c', .func (.func 35) #[] #[]] w (fun e w' => e = .returned (.int .i64 (ordR xs ys)) ∧ Below w.heap.size w w') := by
  have l1 := h.1
  have l2 := h'.1
  have H := hide (And.intro h h')
  have H0 := hide h00
  clear h h' h00
  obtain ⟨m, hm⟩ : ∃ m, Hid (xs.length = m) := ⟨_, rfl⟩
  obtain ⟨m', hm'⟩ : ∃ m, Hid (ys.length = m) := ⟨_, rfl⟩
  rw [hm.out] at l1 ⊢
  rw [hm'.out] at l2 ⊢
  have b1 : m ≤ 1048576 := by omega
  have b2 : m' ≤ 1048576 := by omega
  clear l1 l2 hM hM'
  obtain ⟨R, HR⟩ : ∃ R, Hid (ordR xs ys = R) := ⟨_, rfl⟩
  rw [HR.out]
  go_enter Try.func34, Try.ntmps34
  go_wp2_with fail
  go_loopw [13] (fun u wr => ∃ j : Nat, u = .int .i64 j ∧ j ≤ m ∧ j ≤ m' ∧ Hid (∀ i (h : i < xs.length) (h' : i < ys.length), i < j → ordV xs[i] ys[i] = 0) ∧ Hid (Below w.heap.size w wr)) (fun u _ => m - (intOf u).toNat)
  case atStart => exact ⟨0, rfl, by omega, by omega, (fun i _ _ hi => absurd hi (by omega)), (show Below w.heap.size w _ by go_grown)⟩
  case round =>
    obtain ⟨j, rfl, hj, hj', HJ, HB⟩ := hrel
    by_cases hlt : j < m
    · have hlt2 : (j : Int) < m := by omega
      have hjx : j < xs.length := by have := hm.out; omega
      obtain ⟨b, o, rfl, hlo, hb, hel⟩ := H.out.1.2 (by omega)
      obtain ⟨cs, ⟨rfl, _⟩, hat⟩ := hel j hjx
      have H0B := below_via H0.out HB.out
      obtain ⟨c0, c1, c2⟩ := va_at (hat.same (H0B.block b hb))
      have hL1 := Nat.lt_of_lt_of_le hb H0B.size
      clear hat hel hlo hb
      generalize hxe : xs[j] = x at c0 c1 c2
      by_cases hlt' : j < m'
      · have hlt3 : (j : Int) < m' := by omega
        have hjy : j < ys.length := by have := hm'.out; omega
        obtain ⟨b', o', rfl, hlo', hb', hel'⟩ := H.out.2.2 (by omega)
        obtain ⟨cs', ⟨rfl, _⟩, hat'⟩ := hel' j hjy
        obtain ⟨d0, d1, d2⟩ := va_at (hat'.same (H0B.block b' hb'))
        have hL2 := Nat.lt_of_lt_of_le hb' H0B.size
        clear hat' H0B hel' hlo' hb'
        generalize hye : ys[j] = y at d0 d1 d2
        have HXE := hide (And.intro hxe hye)
        clear hxe hye
        have hC := fun (W : World) => implOrder x.kind x.num x.text y.kind y.num y.text W
        obtain ⟨r, hr⟩ : ∃ r, Hid (ordV x y = r) := ⟨_, rfl⟩
        change ∀ W : World, Calls _ _ _ W (fun e w' => e = .returned (.int .i64 (ordV x y)) ∧ Below W.heap.size W w') at hC
        rw [hr.out] at hC
        go_wp2_with fail
        refine (hC _).mono ?_
        rintro e w2 ⟨rfl, hb2⟩
        have HB2 := hide (below_via HB.out ((((Below.refl wr.heap.size wr).alloc (Nat.le_refl _) _).alloc (by simp) _).trans (hb2.mono (by simp; omega))))
        clear hb2 hC c0 c1 c2 d0 d1 d2 hL1 hL2
        by_cases h0 : r = 0
        · subst h0
          go_wp2_with fail
          go_roundw
          case rel =>
            refine ⟨j + 1, by go_num, by omega, by omega, ?_, HB2.out⟩
            show ∀ i (h : i < xs.length) (h' : i < ys.length), i < j + 1 → ordV xs[i] ys[i] = 0
            intro i h h' hij
            by_cases e : i = j
            · subst e; rw [HXE.out.1, HXE.out.2]; exact hr.out
            · exact HJ.out i h h' (by omega)
          case measure => simp [intOf]; omega
        · have g2 : (r == 0) = false := by simpa using h0
          have HRF := hide (show R = r from HR.out.symm.trans ((ordR_at hjx hjy HJ.out (by rw [HXE.out.1, HXE.out.2, hr.out]; exact h0)).trans (by rw [HXE.out.1, HXE.out.2]; exact hr.out)))
          clear h0
          go_wp2_with fail
          all_goals go_ret
          all_goals exact ⟨by rw [HRF.out]; first | done | rfl, HB2.out⟩
      · have hlt3 : ¬ (j : Int) < m' := by omega
        have hlt4 : (m' : Int) ≤ j := by omega
        have hjm : j = m' := by omega
        have HRF := hide (HR.out.symm.trans (ordR_end (by have := hm.out; omega) (by have := hm'.out; omega) HJ.out (.inr (by have := hm'.out; omega))))
        rw [hm.out, hm'.out, if_neg (by omega), if_pos (by omega)] at HRF
        clear hjm hxe H0B
        go_wp2_with fail
        all_goals go_ret
        all_goals exact ⟨by rw [HRF.out]; first | done | rfl, HB.out.alloc HB.out.size _⟩
    · have hlt2 : ¬ (j : Int) < m := by omega
      have hjm : j = m := by omega
      have HRF := hide (HR.out.symm.trans (ordR_end (by have := hm.out; omega) (by have := hm'.out; omega) HJ.out (.inl (by have := hm.out; omega))))
      rw [hm.out, hm'.out] at HRF
      by_cases hc : m < m'
      · rw [if_pos hc] at HRF
        have k1 : (m : Int) < m' := by omega
        clear hjm
        go_wp2_with fail
        all_goals go_ret
        all_goals exact ⟨by rw [HRF.out]; first | done | rfl, HB.out⟩
      · rw [if_neg hc, if_neg (by omega)] at HRF
        have k1 : ¬ (m : Int) < m' := by omega
        have k3 : ¬ m < m' := hc
        clear hjm
        go_wp2_with fail
        all_goals go_ret
        all_goals exact ⟨by rw [HRF.out]; first | done | rfl, HB.out⟩

theorem implOrderRow {w0 w : World} (h00 : Below w0.heap.size w0 w) {lo lo' M M' : Nat} {xs ys : List ValF} {a a' : Option Addr} (c c' : Nat) (h : RowP w0 lo M 3 (vaC M) xs a) (h' : RowP w0 lo' M' 3 (vaC M') ys a') (hM : M ≤ 1048576) (hM' : M' ≤ 1048576) :
    Calls Try.prog 15 #[.slice a xs.length c, .slice a' ys.length c'] w (fun e w' => e = .returned (.int .i64 (ordR xs ys)) ∧ Below w.heap.size w w') := by
  have HC := hide (compareRows h00 c c' h h' hM hM')
  clear h h' hM hM' h00
  generalize xs.length = m at HC ⊢
  generalize ys.length = m' at HC ⊢
  go_enter Try.func15, Try.ntmps15
  go_wp2_with fail
  refine HC.out.mono ?_
  rintro e w1 ⟨rfl, hb⟩
  go_wp2_with fail
  go_ret
  exact ⟨rfl, hb⟩
end Go.Proofs.Ytfikgiekigbaoaa
