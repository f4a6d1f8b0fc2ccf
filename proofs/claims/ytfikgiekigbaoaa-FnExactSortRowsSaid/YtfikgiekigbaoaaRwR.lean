/-
  szValueSS, eqValueSS: what they say of rows of rows.
-/
import Derived.Test.YtfikgiekigbaoaaFlSz
import Derived.Test.YtfikgiekigbaoaaFlEq
import Derived.Test.YtfikgiekigbaoaaFlOpn
namespace Go.Proofs.Ytfikgiekigbaoaa
open Go Go.RowKit

theorem rv_at {w : World} {M b o : Nat} {x : List ValF} {cs : List Value} (h : rvC w M x cs) (hat : cellsAt w b o cs) : ∃ a c, w.cell? ⟨b, o, none⟩ = some (.slice a x.length c) ∧ RowP w 0 M 3 (vaC M) x a := by
  obtain ⟨a, c, rfl, hr⟩ := h
  exact ⟨a, c, hat 0 (by simp), hr⟩

set_option maxRecDepth 100000 in
set_option maxHeartbeats 1600000 in
theorem szValueSSC {w0 w : World} (h00 : Below w0.heap.size w0 w) {xss : List (List ValF)} {a : Option Addr} (c : Nat) (left : Int) (h : RowP w0 0 maxLen 1 (rvC w0 maxLen) xss a) (h0 : 0 ≤ left) (h1 : left ≤ 1048576) :
    Calls Try.prog 17 #[.slice a xss.length c, .int .i64 left] w (SzPost w left (RowP w0 0 1048576 1 (rvC w0 1048576) xss a)) := by
  obtain ⟨hlen, hrow⟩ := h
  unfold maxLen at hlen
  obtain ⟨m, hm⟩ : ∃ m, Hid (xss.length = m) := ⟨_, rfl⟩
  rw [hm.out] at hlen ⊢
  have H0 := hide h00
  clear h00
  by_cases hneg : left - (m : Int) < 0
  · have HR := hide hrow
    clear hrow
    go_enter Try.func17, Try.ntmps17
    go_wp2
    all_goals go_ret
    all_goals exact SzPost.no (by go_grown)
  · have hneg2 : (m : Int) ≤ left := by omega
    rcases Nat.eq_zero_or_pos m with rfl | hpos
    · have HR := hide (show RowP w0 0 1048576 1 (rvC w0 1048576) xss a from ⟨by have := hm.out; omega, fun h => absurd hm.out (by omega)⟩)
      clear hrow
      go_enter Try.func17, Try.ntmps17
      go_wp2
      refine wp_loop_rounds 1 ?_
      rw [rounds_succ]
      go_wp2
      go_ret
      exact SzPost.yes (by go_grown) (by omega) (by omega) HR.out
    · obtain ⟨b, o, rfl, hlo, hb, hel⟩ := hrow (by have := hm.out; omega)
      have HE := hide (And.intro hlo (And.intro hb hel))
      clear hrow hlo hb hel
      go_enter Try.func17, Try.ntmps17
      go_wp2
      go_loopw [1, 5] (fun l x wr => ∃ (j : Nat) (r : Int), l = .int .i64 r ∧ x = .int .i64 j ∧ j ≤ m ∧ 0 ≤ r ∧ r ≤ left ∧ Hid (∀ i (h : i < xss.length), i < j → ∃ cs, (rvC w0 1048576) xss[i] cs ∧ cellsAt w0 b (o + i * 1) cs) ∧ Hid (Below w.heap.size w wr)) (fun _ x _ => m - (intOf x).toNat)
      case atStart => exact ⟨0, _, rfl, rfl, by omega, by omega, by omega, (fun i _ hi => absurd hi (by omega)), (show Below w.heap.size w _ by go_grown)⟩
      case round =>
        obtain ⟨j, r, rfl, rfl, hj, hr0, hr1, HJ, HB⟩ := hrel
        by_cases hlt : j < m
        · have hlt2 : (j : Int) < m := by omega
          have hjx : j < xss.length := by have := hm.out; omega
          obtain ⟨cs, ⟨a1, c1, rfl, hr⟩, hat⟩ := HE.out.2.2 j hjx
          have hat2 := (hat.same ((below_via H0.out HB.out).block b HE.out.2.1)) 0 (by simp)
          simp only [List.getElem_cons_zero, Nat.add_zero, Nat.mul_one] at hat2
          have hC := hide (szValueSC (szValueC 0) (below_via H0.out HB.out) c1 r hr hr0 (by omega))
          have HX := hide hat
          clear hr hat
          generalize hxe : xss[j] = x at HX hC hat2
          have HXE := hide hxe
          clear hxe
          generalize x.length = nx at HX hC hat2
          go_wp2_with fail
          refine hC.out.mono ?_
          rintro e w2 ⟨⟨r2, rfl, hr2⟩, hb2⟩
          have HB2 := hide (below_via HB.out hb2)
          clear hb2 hat2 hC
          rcases hr2 with hr2 | ⟨hr20, hr21, hx2⟩
          · go_wp2_with fail
            all_goals go_ret
            all_goals exact SzPost.no HB2.out
          · have HX2 := hide (show ∀ i (h : i < xss.length), i < j + 1 → ∃ cs, (rvC w0 1048576) xss[i] cs ∧ cellsAt w0 b (o + i * 1) cs from fun i hi hij => by
              by_cases hij2 : i = j
              · subst hij2
                obtain ⟨cs, ⟨a2, c2, rfl, hr⟩, hat⟩ := HE.out.2.2 i hi
                have h1 := hat 0 (by simp)
                have h2 := HX.out 0 (by simp)
                rw [h1] at h2
                simp only [List.getElem_cons_zero] at h2
                injection h2 with h2
                injection h2 with h2 _ _
                subst h2
                exact ⟨_, ⟨a2, c2, rfl, by rw [HXE.out]; exact hx2⟩, hat⟩
              · exact HJ.out i hi (by omega))
            clear hx2
            go_wp2_with fail
            go_roundw
            case rel => exact ⟨j + 1, r2, rfl, by go_num, by omega, by omega, by omega, HX2.out, HB2.out⟩
            case measure => simp [intOf]; omega
        · have hlt2 : ¬ (j : Int) < m := by omega
          go_wp2_with fail
          go_ret
          exact SzPost.yes HB.out hr0 hr1 ⟨by have := hm.out; omega, fun _ => ⟨b, o, rfl, HE.out.1, HE.out.2.1, fun i hi => HJ.out i hi (by have := hm.out; omega)⟩⟩

set_option maxRecDepth 100000 in
set_option maxHeartbeats 1600000 in
theorem eqValueSSC {w0 w : World} (h00 : Below w0.heap.size w0 w) {xss : List (List ValF)} {a a' : Option Addr} (c c' : Nat) (h : RowP w0 0 1048576 1 (rvC w0 1048576) xss a) (h' : RowP w0 0 1048576 1 (rvC w0 1048576) xss a') :
    Calls Try.prog 21 #[.slice a xss.length c, .slice a' xss.length c'] w (fun e w' => e = .returned (.bool true) ∧ Below w.heap.size w w') := by
  obtain ⟨hlen, hrow⟩ := h
  obtain ⟨_, hrow'⟩ := h'
  obtain ⟨m, hm⟩ : ∃ m, Hid (xss.length = m) := ⟨_, rfl⟩
  rw [hm.out] at hlen ⊢
  have hlen2 : m ≤ 1048576 := by omega
  have H0 := hide h00
  clear h00 hlen
  rcases Nat.eq_zero_or_pos m with rfl | hpos
  · clear hrow hrow'
    go_enter Try.func21, Try.ntmps21
    go_wp2
    refine wp_loop_rounds 1 ?_
    rw [rounds_succ]
    go_wp2
    go_ret
    exact ⟨rfl, by go_grown⟩
  · obtain ⟨b, o, rfl, hlo, hb, hel⟩ := hrow (by have := hm.out; omega)
    obtain ⟨b', o', rfl, hlo', hb', hel'⟩ := hrow' (by have := hm.out; omega)
    have HE := hide (And.intro hlo (And.intro hb hel))
    have HE' := hide (And.intro hlo' (And.intro hb' hel'))
    clear hrow hlo hb hel hrow' hlo' hb' hel'
    go_enter Try.func21, Try.ntmps21
    go_wp2
    go_loopw [5] (fun x wr => ∃ (j : Nat), x = .int .i64 j ∧ j ≤ m ∧ Hid (Below w.heap.size w wr)) (fun x _ => m - (intOf x).toNat)
    case atStart => exact ⟨0, rfl, by omega, (show Below w.heap.size w _ by go_grown)⟩
    case round =>
      obtain ⟨j, rfl, hj, HB⟩ := hrel
      by_cases hlt : j < m
      · have hlt2 : (j : Int) < m := by omega
        have hjx : j < xss.length := by have := hm.out; omega
        have H0B := below_via H0.out HB.out
        obtain ⟨cs, ⟨a1, c1, rfl, hr⟩, hat⟩ := HE.out.2.2 j hjx
        obtain ⟨cs', ⟨a2, c2, rfl, hr'⟩, hat'⟩ := HE'.out.2.2 j hjx
        have k0 := (hat.same (H0B.block b HE.out.2.1)) 0 (by simp)
        have k1 := (hat'.same (H0B.block b' HE'.out.2.1)) 0 (by simp)
        simp only [List.getElem_cons_zero, Nat.add_zero, Nat.mul_one] at k0 k1
        have HH := hide (And.intro (Nat.lt_of_lt_of_le HE.out.2.1 H0B.size) (Nat.lt_of_lt_of_le HE'.out.2.1 H0B.size))
        have hA := hide (fun p : BelowOf wr => Calls.below_of (p := p) (eqValueSC (n := 0) (n' := 0) (eqValueC 0) (below_via (below_via H0.out HB.out) p.h) c1 c2 hr hr' (by omega)))
        clear hat hat' hr hr' H0B
        generalize xss[j] = x at hA k0 k1
        generalize x.length = nx at hA k0 k1
        have e0 := BelowOf.cell k0 HH.out.1
        have f0 := BelowOf.cell k1 HH.out.2
        clear k0 k1
        go_wp2_with fail
        refine wp_region_wq (by kernel_rfl) (by kernel_rfl) ?_
        repeat (refine WQ.step (fun K hK => ?_); go_simp; first | (refine hK _ ?_; clear hK K) | (apply Exists.intro; refine ⟨fun _ => ?_, hK _ ?_⟩; (exact hA.out _); clear hK K))
        refine WQ.nil ?_
        intro W2 hq2
        have HB2 := hide (below_via HB.out (BelowOf.of hq2))
        clear hq2 e0 f0 hA
        go_wp2_with fail
        go_roundw
        case rel => exact ⟨j + 1, by go_num, by omega, HB2.out⟩
        case measure => simp [intOf]; omega
      · have hlt2 : ¬ (j : Int) < m := by omega
        go_wp2_with fail
        go_ret
        exact ⟨rfl, HB.out⟩
end Go.Proofs.Ytfikgiekigbaoaa
